/- Slices that are made and appended to. -/
import Derived.Test.YtldmgdphelgffaaDoorPS7
namespace Go.PS
open Go.RowKit

theorem flatten_get {z : Nat} : ∀ {es : List (List PV)} {i j : Nat} {e : List PV} {p : PV}, (∀ e ∈ es, e.length = z) → es[i]? = some e → e[j]? = some p → es.flatten[i * z + j]? = some p
  | [], i, j, e, p, _, h1, _ => by simp at h1
  | x :: es, 0, j, e, p, hz, h1, h2 => by
    simp at h1
    subst h1
    have := (List.getElem?_eq_some_iff.1 h2).1
    simp [List.getElem?_append_left this, h2]
  | x :: es, i + 1, j, e, p, hz, h1, h2 => by
    simp at h1
    have hx : x.length = z := hz x (by simp)
    have ih := flatten_get (fun e he => hz e (by simp [he])) h1 h2
    rw [List.flatten_cons, List.getElem?_append_right (by rw [hx, Nat.add_mul]; omega), hx, ← ih]
    congr 1
    rw [Nat.add_mul]; omega

theorem flatten_len {z : Nat} : ∀ {es : List (List PV)}, (∀ e ∈ es, e.length = z) → es.flatten.length = es.length * z
  | [], _ => by simp
  | x :: es, hz => by
    have := flatten_len (es := es) fun e he => hz e (by simp [he])
    rw [List.flatten_cons, List.length_append, this, hz x (by simp), List.length_cons, Nat.add_mul]; omega

theorem elems_fill {z : Nat} : ∀ {ps : List (Nat × PV)} {k : Nat} {es : List (List PV)} {ca : List PV}, elemsP z k ps = some es → ca.length = (k + es.length) * z →
    fillP (fun i => some (i * z, z)) ca ps = some (ca.take (k * z) ++ es.flatten) ∧ ∀ e ∈ es, e.length = z
  | [], k, es, ca, he, hl => by
    simp [elemsP] at he
    subst he
    simp at hl
    simp [fillP, ← hl]
  | (i, v) :: r, k, es, ca, he, hl => by
    simp only [elemsP] at he
    split at he
    · rename_i cs hcs
      split at he
      · rename_i hcond
        obtain ⟨rfl, hcz⟩ := hcond
        split at he
        · rename_i es' hes
          cases he
          simp only [List.length_cons] at hl
          have hbig : (i + (es'.length + 1)) * z = i * z + z + es'.length * z := by rw [Nat.add_mul, Nat.add_mul]; omega
          have hfit : i * z + cs.length ≤ ca.length := by rw [hl, hcz, hbig]; omega
          obtain ⟨h1, h2⟩ := elems_fill (ca := splice ca (i * z) cs) hes (by rw [splice_length hfit, hl]; congr 1; omega)
          refine ⟨?_, fun e he => ?_⟩
          · simp only [fillP, hcs]
            rw [if_pos ⟨hcz, hfit⟩, h1]
            congr 1
            have : (splice ca (i * z) cs).take ((i + 1) * z) = ca.take (i * z) ++ cs := by
              unfold splice
              have h3 : (ca.take (i * z) ++ cs).length = (i + 1) * z := by
                rw [List.length_append, List.length_take, hcz, Nat.add_mul]; omega
              rw [List.take_append_of_le_length (by omega), List.take_of_length_le (by omega)]
            rw [this]
            simp
          · rcases List.mem_cons.1 he with rfl | he
            · exact hcz
            · exact h2 e he
        · cases he
      · cases he
    · cases he

section
variable {P : Program} {w0 w : World} {Sa S : Nat → Prop} {h h' : Hp} {m : Mp} {a : Act} {o : Oper} {T : List PV} {s s' : Scr} {ob : List Prop} {v : PV} {next : Act → World → Prop} {Q : Exit → Act → World → Prop}

theorem stab_rep {p : PV} {u : Value} (hr : Rep w S m p u) (hs : stabCell p = true) : RepS w S p u := by
  cases p <;> simp [stabCell] at hs
  all_goals (cases hr with | st _ _ h => exact h)

/-- A slice's literal: the new row. -/
theorem buildSlice_run {t e : TypeId} {n z : Nat} {parts : Array (Nat × Operand)} {ps : List (Nat × PV)} {es : List (List PV)} (hop : o.op = .buildSlice t n parts)
    (hT : ∀ x ∈ o.op.operands, ∀ p, opnd T x = some p → Rep w S m p (a.eval x)) (hp : partsP T parts.toList = some ps) (hu : P.underlying t = some (.slice e)) (hz : szP P e = some z) (he : elemsP z 0 ps = some es)
    (hn : es.length = n) (hroom : n * z ≤ 16777216) (hzero : (zeroP P e).isSome = true) :
    ∃ c : Array Value, (execOp a.eval o).run P w = .ok (.value (.slice (some ⟨w.heap.size, 0, none⟩) n n)) (w.alloc (.cells c e)) ∧ (∀ e ∈ es, e.length = z) ∧ c.size = n * z ∧
      ∀ (i j : Nat) e p x, es[i]? = some e → e[j]? = some p → c[i * z + j]? = some x → Rep w S m p x := by
  have hpr : PartsRep w S m ps ((parts.map fun (i, x) => (i, a.eval x)).toList) := by
    have := parts_rep (a := a) (w := w) (S := S) (m := m) (l := parts.toList) (fun x hx p hpx => hT x (by rw [hop]; simpa [Op.operands] using hx) p hpx) hp
    simpa using this
  obtain ⟨zv, hzv⟩ := Option.isSome_iff_exists.1 hzero
  have main : ∀ cr0 : Array Value, cr0.size = n * z → ∃ cr : Array Value, Instr.fill (fun i => some (i * z, z)) cr0 ((parts.map fun (i, x) => (i, a.eval x)).toList) = some cr ∧ (∀ e ∈ es, e.length = z) ∧ cr.size = n * z ∧
      ∀ (i j : Nat) e p x, es[i]? = some e → e[j]? = some p → cr[i * z + j]? = some x → Rep w S m p x := by
    intro cr0 h0
    obtain ⟨f1, f2⟩ := elems_fill (ca := cr0.toList.map PV.sc) he (by simp [hn, h0])
    obtain ⟨cr, h1, h2, h3⟩ := fill_sound (cr := cr0) hpr f1 (by simp) (fun i p x q1 q2 => by
      rw [List.getElem?_map] at q1
      have : cr0.toList[i]? = some x := by simpa using q2
      rw [this] at q1
      simp at q1
      subst q1
      exact .st _ _ (.sc x))
    refine ⟨cr, h1, f2, ?_, fun i j e p x q1 q2 q3 => h3 (i * z + j) p x ?_ q3⟩
    · rw [← h2]; simp [flatten_len f2, hn]
    · simpa using flatten_get f2 q1 q2
  have hnot : ¬ (n * z > 2 ^ 24) := by omega
  by_cases h0 : n * z = 0
  · obtain ⟨cr, h1, h2, h3, h4⟩ := main ((Array.range (n * z)).map fun x => (#[] : Array Value)[x % (#[] : Array Value).size]!) (by simp)
    refine ⟨cr, ?_, h2, h3, h4⟩
    simp only [execOp, hop, Instr.buildSlice, Sem.run_bind, run_und hu, run_size hz, Result.andThen_ok, Sem.run_ite, if_neg hnot, if_pos h0, Sem.run_pure, h1, newRow, run_newObj, World.alloc_eq]
  · obtain ⟨cr, h1, h2, h3, h4⟩ := main ((Array.range (n * z)).map fun x => zv.cells[x % zv.cells.size]!) (by simp)
    refine ⟨cr, ?_, h2, h3, h4⟩
    simp only [execOp, hop, Instr.buildSlice, Sem.run_bind, run_und hu, run_size hz, Result.andThen_ok, Sem.run_ite, if_neg hnot, if_neg h0, run_zero hzv, Sem.run_pure, h1, newRow, run_newObj, World.alloc_eq]

/-- New memory that nobody will write. -/
theorem Inv.fresh (hI : Inv w0 Sa h S m w) (c : Array Value) (et : TypeId) : Inv w0 Sa h (fun b => S b ∨ b = w.heap.size) m (w.alloc (.cells c et)) ∧ Go1 w S m (w.alloc (.cells c et)) (fun b => S b ∨ b = w.heap.size) m := by
  have hb : Below w.heap.size w (w.alloc (.cells c et)) := (Below.refl _ _).alloc (Nat.le_refl _) _
  have h1 := hI.grown hb
  refine ⟨h1.widen (fun b hb => .inl hb) ?_ ?_ ?_, fun p v hp => hp.later ⟨fun b hb => .inl hb, fun b hb => heap_alloc_lt (hI.lt b hb), fun b c' et' hc => ⟨c', by rw [heap_alloc_lt (lt_of_block hc)]; exact hc, rfl⟩⟩ fun _ _ h => h⟩
  · rintro b (hb | rfl)
    · exact h1.lt b hb
    · simp
  · rintro b (hb | rfl)
    · exact hI.sub b hb
    · exact .inr hI.bel.size
  · intro id B b o sz q1 q2 q3 qr
    rintro (hb | rfl)
    · exact (hI.live id B b o sz q1 q2 q3 qr).2 hb
    · obtain ⟨c', et', e1, _⟩ := hI.blk id B _ o sz q1 (by omega) q3 qr
      exact absurd (lt_of_block e1) (Nat.lt_irrefl _)

theorem buildSlice_sound (hI : Inv w0 Sa h S m w) {dr : Bool} {t e : TypeId} {n z : Nat} {parts : Array (Nat × Operand)} {ps : List (Nat × PV)} {es : List (List PV)} {q : PV} (hop : o.op = .buildSlice t n parts)
    (hT : ∀ x ∈ o.op.operands, ∀ p, opnd T x = some p → Rep w S m p (a.eval x)) (hp : partsP T parts.toList = some ps) (hu : P.underlying t = some (.slice e)) (hz : szP P e = some z) (he : elemsP z 0 ps = some es)
    (hn0 : es.length = n) (hz0 : 0 < z) (hroom : n * z ≤ 16777216) (hzero : (zeroP P e).isSome = true)
    (hq : (dr = true ∧ es.all (·.all stabCell) = true ∧ q = .ro es ∧ h' = h) ∨ (q = .own h.length 0 n ∧ h' = h ++ [⟨es, 0, [], z, false⟩]))
    (hn : ∀ v' w', Post w0 Sa h' S m w q v' w' → next (a.put o.dst v') w') : o.wp P a w next Q := by
  obtain ⟨c, hrun, f2, f3, f4⟩ := buildSlice_run (P := P) hop hT hp hu hz he hn0 hroom hzero
  rcases hq with ⟨_, hst, rfl, rfl⟩ | ⟨rfl, rfl⟩
  · obtain ⟨hI', hG⟩ := hI.fresh c e
    refine wp_value' hrun (hn _ _ ⟨_, m, hI', hG, .st _ _ ?_⟩)
    by_cases h0 : es = []
    · subst h0
      simp at hn0
      subst hn0
      exact .ro0 _ _
    · have := RepS.ro (w := w.alloc (.cells c e)) (S := fun b => S b ∨ b = w.heap.size) es w.heap.size 0 n z c e (0, 0) (.inr rfl) (heap_alloc_new' _ _) f2 (by rw [f3, hn0]; omega) (by omega)
        (fun i j e' p x q1 q2 q3 => by
          have hs := List.all_eq_true.1 (List.all_eq_true.1 hst e' (List.mem_of_getElem? q1)) p (List.mem_of_getElem? q2)
          exact stab_rep (hG p x (f4 i j e' p x q1 q2 (by simpa using q3))) hs)
      rw [hn0] at this
      exact this
  · obtain ⟨hI', hG⟩ := hI.alloc c e es z f2 (by rw [f3, hn0]; exact Nat.le_refl _) f4 (sm := false) (fun h => by cases h)
    refine wp_value' hrun (hn _ _ ⟨S, _, hI', hG, ?_⟩)
    have := Rep.own (w := w.alloc (.cells c e)) (S := S) (m := m ++ [(w.heap.size, 0, z)]) h.length 0 n n w.heap.size 0 z c e (by rw [← hI.len]; simp) hz0 (heap_alloc_new' _ _) (Nat.le_refl _) (by rw [f3]; simp)
    simpa using this
end
end Go.PS
