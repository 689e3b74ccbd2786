/- Loads, stores, addresses, boxes. -/
import Derived.Test.YtldmgdphelgffaaDoorPS4
namespace Go.PS
open Go.RowKit

section
variable {P : Program} {w0 w : World} {Sa S : Nat → Prop} {h h' : Hp} {m : Mp} {a : Act} {o : Oper} {T : List PV} {s s' : Scr} {ob : List Prop} {v : PV} {next : Act → World → Prop} {Q : Exit → Act → World → Prop}

theorem run_und {t : TypeId} {d : TypeDesc} (hu : P.underlying t = some d) : (underlying t).run P w = .ok d w := by
  simp [underlying, hu]

theorem run_size {t : TypeId} {n : Nat} (hs : szP P t = some n) : (Go.sizeOf t).run P w = .ok n w := by
  unfold szP at hs
  cases hi : P.info? t with
  | none => rw [hi] at hs; cases hs
  | some i => rw [hi] at hs; simp at hs; simp [Go.sizeOf, typeInfo, hi, hs]

theorem run_agg {t : TypeId} {b : Bool} (hs : aggP P t = some b) : (isAgg t).run P w = .ok b w := by
  unfold aggP at hs
  cases hu : P.underlying t with
  | none => rw [hu] at hs; cases hs
  | some d => rw [hu] at hs; simp at hs; cases d <;> simp at hs <;> simp [isAgg, run_und hu, hs]

theorem addr_add (b x n : Nat) : (⟨b, x, none⟩ : Addr).add n = ⟨b, x + n, none⟩ := by
  unfold Addr.add
  split
  · rename_i h0; subst h0; rfl
  · rfl

/-- Cells of the world that stand for a list of cells. -/
def CellsAt (w : World) (S : Nat → Prop) (m : Mp) (b o : Nat) (cs : List PV) : Prop :=
  ∃ c et fz, w.heap[b]? = some (.cells c et fz) ∧ o + cs.length ≤ c.size ∧ ∀ (j : Nat) p v, cs[j]? = some p → c[o + j]? = some v → Rep w S m p v

theorem cell_of {b x : Nat} {c : Array Value} {et : TypeId} {fz : Nat × Nat} (hb : w.heap[b]? = some (.cells c et fz)) : w.cell? ⟨b, x, none⟩ = c[x]? := by
  simp [World.cell?, hb]

theorem part_sound {b o off : Nat} {cs : List PV} {t : TypeId} {q : PV} (hC : CellsAt w S m b o cs) (hp : partP P t cs off = some q) :
    ∃ v', (loadVar t ⟨b, o + off, none⟩).run P w = .ok v' w ∧ Rep w S m q v' := by
  obtain ⟨c, et, fz, hb, hn, hc⟩ := hC
  unfold partP at hp
  split at hp
  · rename_i hag
    split at hp
    · rename_i n hz
      split at hp
      · rename_i hfit
        cases hp
        refine ⟨.agg ((c.toList.drop (o + off)).take n).toArray, ?_, ?_⟩
        · have hlen : ((c.toList.drop (o + off)).take n).length = n := by simp; omega
          have := run_loadCells_list (P := P) w ⟨b, o + off, none⟩ ((c.toList.drop (o + off)).take n) (fun j v hv => by
            rw [addr_add, cell_of hb]
            have hj : j < n := by have := (List.getElem?_eq_some_iff.1 hv).1; omega
            rw [List.getElem?_take_of_lt hj, List.getElem?_drop] at hv
            simpa using hv)
          rw [hlen] at this
          simp [loadVar, run_agg hag, run_size hz, this]
        · refine .agg _ _ (by simp; omega) fun i p v h1 h2 => ?_
          have hi : i < n := by have := (List.getElem?_eq_some_iff.1 h1).1; simp at this; omega
          rw [List.getElem?_take_of_lt hi, List.getElem?_drop] at h1
          rw [List.getElem?_toArray, List.getElem?_take_of_lt hi, List.getElem?_drop] at h2
          exact hc (off + i) p v h1 (by rw [← Nat.add_assoc]; simpa using h2)
      · cases hp
    · cases hp
  · rename_i hag
    have hlt := (List.getElem?_eq_some_iff.1 hp).1
    have hx : o + off < c.size := by omega
    refine ⟨c[o + off], ?_, hc off q c[o + off] hp (by simp [hx])⟩
    have hcell : w.cell? ⟨b, o + off, none⟩ = some c[o + off] := by rw [cell_of hb]; simp [hx]
    simp [loadVar, run_agg hag, hcell]
  · cases hp

theorem cells_of_own (hI : Inv w0 Sa h S m w) {id i b o' sz : Nat} {B : Blk} {e : List PV} (hB : h[id]? = some B) (hst : B.st ≤ 1) (hm : m[id]? = some (b, o', sz)) (he : B.es[i]? = some e) :
    CellsAt w S m b (o' + i * sz) e := by
  obtain ⟨c, et, e1, e2, e3, e4⟩ := hI.blk id B b o' sz hB hst hm (.inl (fun h0 => by rw [h0] at he; cases he))
  have hil : i < B.es.length := (List.getElem?_eq_some_iff.1 he).1
  have hez : e.length = sz := e3 e (List.mem_of_getElem? he)
  have hrow : i * sz + sz ≤ B.es.length * sz := by
    have := Nat.mul_le_mul_right sz (show i + 1 ≤ B.es.length by omega)
    rw [Nat.add_mul] at this; omega
  exact ⟨c, et, (0, 0), e1, by omega, fun j p v h1 h2 => e4 i j e p v he h1 h2⟩

theorem ptr_inv {id i off : Nat} {u : Value} (hr : Rep w S m (.ptr id i off) u) : ∃ b o' sz, m[id]? = some (b, o', sz) ∧ u = .pointer (some ⟨b, o' + i * sz + off, none⟩) := by
  cases hr with
  | st _ _ h => cases h
  | ptr _ _ _ b o sz hm => exact ⟨b, o, sz, hm, rfl⟩

theorem cel_inv {cs : List PV} {off : Nat} {u : Value} (hr : Rep w S m (.cel cs off) u) : ∃ b o', u = .pointer (some ⟨b, o' + off, none⟩) ∧ CellsAt w S m b o' cs ∧
    ∃ c et fz, S b ∧ w.heap[b]? = some (.cells c et fz) ∧ o' + cs.length ≤ c.size ∧ ∀ (j : Nat) p v, cs[j]? = some p → c[o' + j]? = some v → RepS w S p v := by
  cases hr with
  | st _ _ h => cases h
  | cel _ _ b o c et fz hS hb hn hc => exact ⟨b, o, rfl, ⟨c, et, fz, hb, hn, fun j p v q1 q2 => .st _ _ (hc j p v q1 q2)⟩, c, et, fz, hS, hb, hn, hc⟩

theorem load_sound (hI : Inv w0 Sa h S m w) {t : TypeId} {x : Operand} {p q : PV} (hop : o.op = .load t x) (hr : Rep w S m p (a.eval x)) (hl : loadP P h t p = some q)
    (hn : ∀ v' w', Post w0 Sa h S m w q v' w' → next (a.put o.dst v') w') : o.wp P a w next Q := by
  unfold loadP at hl
  split at hl
  · rename_i id i off
    split at hl
    · rename_i B hB
      split at hl
      · rename_i hst
        split at hl
        · rename_i e he
          obtain ⟨b, o', sz, hm, hu⟩ := ptr_inv hr
          obtain ⟨v', hrun, hrep⟩ := part_sound (cells_of_own hI hB hst hm he) hl
          refine wp_value (v' := v') ?_ (hn v' w (post_same hI hrep))
          simp [execOp, hop, Instr.loadAt, Instr.sureAddr, hu, hrun]
        · cases hl
      · cases hl
    · cases hl
  · obtain ⟨b, o', hu, hC, _⟩ := cel_inv hr
    obtain ⟨v', hrun, hrep⟩ := part_sound hC hl
    refine wp_value (v' := v') ?_ (hn v' w (post_same hI hrep))
    simp [execOp, hop, Instr.loadAt, Instr.sureAddr, hu, hrun]
  · cases hl

theorem ro_oneCell {es : List (List PV)} {u : Value} (h : RepS w S (.ro es) u) : u.oneCell' = true := by cases h <;> rfl

theorem rep_cells {p : PV} {u : Value} {cs : List PV} (hr : Rep w S m p u) (hc : cellsP p = some cs) : u.cells.size = cs.length ∧ ∀ (i : Nat) q x, cs[i]? = some q → u.cells[i]? = some x → Rep w S m q x := by
  have one : ∀ {p : PV} {u : Value}, Rep w S m p u → u.oneCell' = true → u.cells.size = [p].length ∧ ∀ (i : Nat) q x, [p][i]? = some q → u.cells[i]? = some x → Rep w S m q x := by
    intro p u hr h1
    have e : u.cells = #[u] := by cases u <;> simp_all [Value.cells, Value.oneCell']
    rw [e]
    refine ⟨rfl, fun i q x q1 q2 => ?_⟩
    cases i with
    | zero => simp at q1 q2; subst q1; subst q2; exact hr
    | succ i => simp at q1
  cases p with
  | agg ds =>
    simp [cellsP] at hc
    subst hc
    cases hr with
    | st _ _ h => cases h with
      | agg _ vs hl hcc => exact ⟨hl.symm, fun i q x q1 q2 => .st _ _ (hcc i q x q1 q2)⟩
    | agg _ vs hl hcc => exact ⟨hl.symm, hcc⟩
  | tup ds => simp [cellsP] at hc
  | sc y =>
    simp only [cellsP] at hc
    split at hc
    · rename_i h1
      cases hc
      have : u = y := by cases hr with | st _ _ h => cases h; rfl
      subst this
      exact one hr h1
    · cases hc
  | bit b =>
    cases hc
    exact one hr (by cases hr with | st _ _ h => cases h; rfl)
  | nul =>
    cases hc
    exact one hr (by cases hr with | st _ _ h => cases h; rfl)
  | ro es =>
    cases hc
    exact one hr (by cases hr with | st _ _ h => cases h <;> rfl)
  | rf n f =>
    cases hc
    exact one hr (by cases hr with | st _ _ h => cases h with | rf _ _ _ h => exact ro_oneCell h)
  | any => simp [cellsP] at hc
  | mux => simp [cellsP] at hc
  | own id off len =>
    cases hc
    exact one hr (by cases hr with | st _ _ h => cases h | own => rfl | own0 => rfl)
  | who id len =>
    cases hc
    exact one hr (by cases hr with | st _ _ h => cases h | who _ _ _ h => cases h with | st _ _ h => cases h | own => rfl | own0 => rfl)
  | ptr id i off =>
    cases hc
    exact one hr (by obtain ⟨_, _, _, _, rfl⟩ := ptr_inv hr; rfl)
  | cel ds off =>
    cases hc
    exact one hr (by obtain ⟨_, _, rfl, _⟩ := cel_inv hr; rfl)

theorem rep_oneCell {p : PV} {u : Value} (hr : Rep w S m p u) (hc : isCell p = true) : u.oneCell' = true := by
  cases p with
  | agg ds => cases hc
  | tup ds => cases hc
  | sc y =>
    have : u = y := by cases hr with | st _ _ h => cases h; rfl
    subst this
    exact hc
  | bit b => cases hr with | st _ _ h => cases h; rfl
  | nul => cases hr with | st _ _ h => cases h; rfl
  | ro es => cases hr with | st _ _ h => cases h <;> rfl
  | rf n f => cases hr with | st _ _ h => cases h with | rf _ _ _ h => exact ro_oneCell h
  | any => cases hc
  | mux => cases hc
  | own id off len => cases hr with | st _ _ h => cases h | own => rfl | own0 => rfl
  | who id len => cases hr with | st _ _ h => cases h | who _ _ _ h => cases h with | st _ _ h => cases h | own => rfl | own0 => rfl
  | ptr id i off => obtain ⟨_, _, _, _, rfl⟩ := ptr_inv hr; rfl
  | cel ds off => obtain ⟨_, _, rfl, _⟩ := cel_inv hr; rfl

theorem store_sound (hI : Inv w0 Sa h S m w) {t : TypeId} {x y : Operand} {p q : PV} (hop : o.op = .store t x y) (hr : Rep w S m p (a.eval x)) (hq : Rep w S m q (a.eval y)) (hs : storeP P h t p q = some h')
    (hn : ∀ v' w', Post w0 Sa h' S m w (.sc Go.undef) v' w' → next (a.put o.dst v') w') : o.wp P a w next Q := by
  unfold storeP at hs
  split at hs
  · rename_i id i off cs n hcs hz
    split at hs
    · rename_i B hB
      split at hs
      · rename_i e he
        split at hs
        · rename_i hcond
          obtain ⟨hst, hlen, hfit, hall, hsy⟩ := hcond
          cases hs
          obtain ⟨b, o', sz, hm, hu⟩ := ptr_inv hr
          obtain ⟨c, et, e1, e2, e3, e4⟩ := hI.blk id B b o' sz hB (by omega) hm (.inl (fun h0 => by rw [h0] at he; cases he))
          obtain ⟨hsz, hrep⟩ := rep_cells hq hcs
          have hvl : (a.eval y).cells.toList.length = cs.length := by simpa using hsz
          have hrep' : ∀ (j : Nat) p v, cs[j]? = some p → (a.eval y).cells.toList[j]? = some v → Rep w S m p v := fun j p v q1 q2 => hrep j p v q1 (by simpa using q2)
          obtain ⟨hroom, hI', hG⟩ := hI.store (off := off) hB hst hm he (by omega) hvl hrep' e1 hsy
          have hone : ∀ v ∈ (a.eval y).cells.toList, v.oneCell' = true := by
            intro v hv
            obtain ⟨j, hj⟩ := List.getElem?_of_mem hv
            have hjl : j < cs.length := by have := (List.getElem?_eq_some_iff.1 hj).1; omega
            have hcj : cs[j]? = some cs[j] := by simp [hjl]
            exact rep_oneCell (hrep' j cs[j] v hcj hj) (List.all_eq_true.1 hall _ (List.mem_of_getElem? hcj))
          have hrun := run_storeCells_at (P := P) b (o' + i * sz + off) et (a.eval y).cells.toList 0 c w e1 (by omega) hone
          simp only [Nat.add_zero] at hrun
          refine (show o.wp P a w next Q from ?_)
          unfold Oper.wp
          have hx : (execOp a.eval o).run P w = .ok .skip (w.setRow b (c.toList.take (o' + i * sz + off) ++ (a.eval y).cells.toList ++ c.toList.drop (o' + i * sz + off + (a.eval y).cells.toList.length)).toArray) := by
            have hsz' : (a.eval y).cells.size = n := by omega
            simp [execOp, hop, Instr.storeAt, Instr.sureAddr, hu, storeVar, run_size hz, hsz', hrun]
          rw [hx]
          exact hn _ _ ⟨S, m, hI', hG, .st _ _ (.sc _)⟩
        · cases hs
      · cases hs
    · cases hs
  · cases hs

theorem box_sound (hI : Inv w0 Sa h S m w) {cs : List PV} {u : Value} {t : TypeId} (hrun : (execOp a.eval o).run P w = .ok (.value (.pointer (some ⟨w.heap.size, 0, none⟩))) (w.alloc (.cells u.cells t)))
    (hsz : u.cells.size = cs.length) (hrep : ∀ (i : Nat) q x, cs[i]? = some q → u.cells[i]? = some x → Rep w S m q x)
    (hn : ∀ v' w', Post w0 Sa (boxP h cs).2 S m w (boxP h cs).1 v' w' → next (a.put o.dst v') w') : o.wp P a w next Q := by
  obtain ⟨hI', hG⟩ := hI.alloc u.cells t [cs] cs.length (by simp) (by simp; omega) (fun i j e p v q1 q2 q3 => by
    cases i with
    | zero => simp at q1 q3; subst q1; exact hrep j p v q2 q3
    | succ i => simp at q1) (sm := false) (fun h => by cases h)
  refine wp_value' hrun (hn _ _ ⟨S, _, hI', hG, ?_⟩)
  have := Rep.ptr (w := w.alloc (.cells u.cells t)) (S := S) (m := m ++ [(w.heap.size, 0, cs.length)]) h.length 0 0 w.heap.size 0 cs.length (by rw [← hI.len]; simp)
  simpa [boxP] using this
end
end Go.PS
