/- Parts of values, literals, and the small operations. -/
import Derived.Test.YtldmgdphelgffaaDoorPS6
import Derived.Laws.StructEq
import Derived.ChangeKeysEq
namespace Go.PS
open Go.RowKit

section
variable {P : Program} {w0 w : World} {Sa S : Nat → Prop} {h h' : Hp} {m : Mp} {a : Act} {o : Oper} {T : List PV} {s s' : Scr} {ob : List Prop} {v : PV} {next : Act → World → Prop} {Q : Exit → Act → World → Prop}

theorem agg_inv {cs : List PV} {u : Value} (hr : Rep w S m (.agg cs) u) : ∃ vs, u = .agg vs ∧ cs.length = vs.size ∧ ∀ (i : Nat) c v, cs[i]? = some c → vs[i]? = some v → Rep w S m c v := by
  cases hr with
  | st _ _ h => cases h with
    | agg _ vs hl hc => exact ⟨vs, rfl, hl, fun i c v q1 q2 => .st _ _ (hc i c v q1 q2)⟩
  | agg _ vs hl hc => exact ⟨vs, rfl, hl, hc⟩

theorem tup_inv {cs : List PV} {u : Value} (hr : Rep w S m (.tup cs) u) : ∃ vs, u = .tuple vs ∧ cs.length = vs.size ∧ ∀ (i : Nat) c v, cs[i]? = some c → vs[i]? = some v → Rep w S m c v := by
  cases hr with
  | st _ _ h => cases h with
    | tup _ vs hl hc => exact ⟨vs, rfl, hl, fun i c v q1 q2 => .st _ _ (hc i c v q1 q2)⟩
  | tup _ vs hl hc => exact ⟨vs, rfl, hl, hc⟩

theorem bit_inv {b : Bool} {u : Value} (hr : Rep w S m (.bit b) u) : u = .bool b := by
  cases hr with
  | st _ _ h => cases h; rfl

theorem field_sound (hI : Inv w0 Sa h S m w) {t : TypeId} {x : Operand} {f : Nat} {cs : List PV} {fs : Array Field} {fd : Field} {q : PV} (hop : o.op = .field t x f) (hu : P.underlying t = some (.struct fs)) (hf : fs[f]? = some fd)
    (hr : Rep w S m (.agg cs) (a.eval x)) (hp : partP P fd.type cs fd.offset = some q) (hn : ∀ v' w', Post w0 Sa h S m w q v' w' → next (a.put o.dst v') w') : o.wp P a w next Q := by
  obtain ⟨vs, hx, hl, hc⟩ := agg_inv hr
  unfold partP at hp
  split at hp
  · rename_i hag
    split at hp
    · rename_i n hz
      split at hp
      · rename_i hfit
        cases hp
        refine wp_value (v' := .agg (vs.extract fd.offset (fd.offset + n))) ?_ (hn _ _ (post_same hI ?_))
        · simp [execOp, hop, Instr.field, run_und hu, hf, hx, asAgg, part, run_agg hag, run_size hz]
        · refine .agg _ _ (by simp; omega) fun i c v q1 q2 => ?_
          have hi : i < n := by have := (List.getElem?_eq_some_iff.1 q1).1; simp at this; omega
          rw [List.getElem?_take_of_lt hi, List.getElem?_drop] at q1
          refine hc (fd.offset + i) c v q1 ?_
          rw [Array.getElem?_extract] at q2
          split at q2
          · exact q2
          · cases q2
      · cases hp
    · cases hp
  · rename_i hag
    have hlt := (List.getElem?_eq_some_iff.1 hp).1
    have hx2 : fd.offset < vs.size := by omega
    refine wp_value (v' := vs[fd.offset]) ?_ (hn _ _ (post_same hI (hc fd.offset q _ hp (by simp [hx2]))))
    simp [execOp, hop, Instr.field, run_und hu, hf, hx, asAgg, part, run_agg hag, hx2]
  · cases hp

theorem extract_sound (hI : Inv w0 Sa h S m w) {x : Operand} {i : Nat} {cs : List PV} {q : PV} (hop : o.op = .extract x i) (hr : Rep w S m (.tup cs) (a.eval x)) (hp : cs[i]? = some q)
    (hn : ∀ v' w', Post w0 Sa h S m w q v' w' → next (a.put o.dst v') w') : o.wp P a w next Q := by
  obtain ⟨vs, hx, hl, hc⟩ := tup_inv hr
  have hlt := (List.getElem?_eq_some_iff.1 hp).1
  have hx2 : i < vs.size := by omega
  refine wp_value (v' := vs[i]) ?_ (hn _ _ (post_same hI (hc i q _ hp (by simp [hx2]))))
  simp [execOp, hop, Instr.extract, hx, hx2]

theorem index_sound (hI : Inv w0 Sa h S m w) {t : TypeId} {x y : Operand} {b : ByteArray} {k : IntKind} {n : Int} (hop : o.op = .index t x y) (hu : P.underlying t = some .string) (hx : a.eval x = .string b) (hy : a.eval y = .int k n)
    (h1 : 0 ≤ n) (h2 : n < b.size) (hn : ∀ v' w', Post w0 Sa h S m w (.sc (.int .u8 (b.data.toList.getD n.toNat 0).toNat)) v' w' → next (a.put o.dst v') w') : o.wp P a w next Q := by
  obtain ⟨k', rfl⟩ := Int.eq_ofNat_of_zero_le h1
  have hk : k' < b.size := by omega
  refine wp_value (v' := .int .u8 (b.data.toList.getD (k' : Int).toNat 0).toNat) ?_ (hn _ _ (post_same hI (.st _ _ (.sc _))))
  have e : b.data.toList.getD (k' : Int).toNat 0 = b[k'] := by
    have : k' < b.data.toList.length := by simpa using hk
    simp only [Int.toNat_natCast]
    rw [List.getD_eq_getElem?_getD, List.getElem?_eq_getElem this]
    rfl
  rw [e]
  have e2 : b[k']? = some b[k'] := getElem?_pos b k' hk
  simp [execOp, hop, Instr.index, hy, asIntOf, run_und hu, hx, e2]

theorem concat_sound (hI : Inv w0 Sa h S m w) {t t' : TypeId} {x y : Operand} {b c : ByteArray} (hop : o.op = .binOp .add t x y t') (hx : a.eval x = .string b) (hy : a.eval y = .string c) (h1 : b.size + c.size ≤ 9223372036854775807)
    (hn : ∀ v' w', Post w0 Sa h S m w (.sc (.string (b ++ c))) v' w' → next (a.put o.dst v') w') : o.wp P a w next Q := by
  refine wp_value (v' := .string (b ++ c)) ?_ (hn _ _ (post_same hI (.st _ _ (.sc _))))
  have : ¬ (((b.size + c.size : Nat) : Int) > IntKind.i64.max) := by
    have : IntKind.i64.max = 9223372036854775807 := by rfl
    rw [this]; omega
  simp only [execOp, hop, hx, hy, eqGuard, binOp, Op.stringOp]
  rw [if_neg this]
  rfl

theorem eqS_eq (a b : ByteArray) : (a.toList == b.toList) = eqS a b := by
  rw [ByteArray.toList_eq, ByteArray.toList_eq]
  unfold eqS
  rw [Bool.eq_iff_iff]
  simp

theorem partV_run {t : TypeId} {vs : Array Value} {off : Nat} {v : Value} (hp : partV P t vs off = some v) : (part t vs off).run P w = .ok v w := by
  unfold partV at hp
  split at hp
  · rename_i hag
    split at hp
    · rename_i n hz
      cases hp
      simp [part, run_agg hag, run_size hz]
    · cases hp
  · rename_i hag
    simp [part, run_agg hag, hp]
  · cases hp

theorem eqFs_run {f : TypeId → Value → Value → Option Bool} {d : Nat} (hf : ∀ t x y b, f t x y = some b → (Op.equalIn d t x y).run P w = .ok b w) {xs ys : Array Value} : ∀ {fs : List Field} {b : Bool}, eqFs P f xs ys fs = some b → (Op.eqFields d xs ys fs).run P w = .ok b w
  | [], b, h => by simp [eqFs] at h; subst h; simp [Op.eqFields]
  | g :: r, b, h => by
    simp only [eqFs] at h
    by_cases hg : g.name = "_"
    · rw [if_pos hg] at h
      simp only [Op.eqFields, hg]
      simpa using eqFs_run hf h
    · rw [if_neg hg] at h
      split at h
      · rename_i x y hx hy
        split at h
        · rename_i p q hp hq
          cases h
          have ih := eqFs_run hf hq
          simp only [Op.eqFields, hg, ne_eq, not_false_eq_true, if_true, Sem.run_bind, partV_run hx, partV_run hy, hf _ _ _ _ hp, Result.andThen_ok]
          cases p
          · simp
          · simpa using ih
        · cases h
      · cases h

theorem eqIs_run {f : TypeId → Value → Value → Option Bool} {d : Nat} (hf : ∀ t x y b, f t x y = some b → (Op.equalIn d t x y).run P w = .ok b w) {e : TypeId} {c : Nat} {xs ys : Array Value} : ∀ {is : List Nat} {b : Bool}, eqIs P f e c xs ys is = some b → (Op.eqItems d e c xs ys is).run P w = .ok b w
  | [], b, h => by simp [eqIs] at h; subst h; simp [Op.eqItems]
  | i :: r, b, h => by
    simp only [eqIs] at h
    split at h
    · rename_i x y hx hy
      split at h
      · rename_i p q hp hq
        cases h
        have ih := eqIs_run hf hq
        simp only [Op.eqItems, Sem.run_bind, partV_run hx, partV_run hy, hf _ _ _ _ hp, Result.andThen_ok]
        cases p
        · simp
        · simpa using ih
      · cases h
    · cases h

theorem eqV_run : ∀ {n : Nat} {t : TypeId} {x y : Value} {b : Bool} (d : Nat), eqV P n t x y = some b → (Op.equalIn (d + n) t x y).run P w = .ok b w
  | 0, _, _, _, _, _, h => by simp [eqV] at h
  | n + 1, t, x, y, b, d, h => by
    unfold eqV at h
    split at h
    · rename_i hu
      split at h
      · cases h; exact run_equalIn_bool' w _ t _ _ hu
      · cases h
    · rename_i hu
      split at h
      · split at h
        · rename_i hk
          cases h
          subst hk
          exact run_equalIn_int w _ t _ _ _ _ hu
        · cases h
      · cases h
    · rename_i hu
      split at h
      · cases h
        rw [← eqS_eq]
        exact run_equalIn_string w _ t _ _ hu
      · cases h
    · rename_i fs hu
      split at h
      · split at h
        · cases h
        · rename_i hst
          have hfs : P.fieldsOf t = fs := by simp [Program.fieldsOf, hu]
          rw [show d + (n + 1) = (d + n) + 1 from rfl, run_equalIn_struct w (d + n) t _ _ (by rw [hfs]; exact hu) (by simpa using hst), hfs]
          exact eqFs_run (fun t x y b hb => eqV_run d hb) h
      · cases h
    · rename_i len e hu
      split at h
      · split at h
        · rename_i i hi
          rw [show d + (n + 1) = (d + n) + 1 from rfl, run_equalIn_array w (d + n) _ _ hu hi, show P.cellsOf e = i.size by simp [Program.cellsOf, hi]]
          exact eqIs_run (fun t x y b hb => eqV_run d hb) h
        · cases h
      · cases h
    · cases h

theorem rep_vs {cs : List PV} {us : List Value} {u : Value} (hr : Rep w S m (.agg cs) u) (hc : cellVs cs = some us) : u = .agg ⟨us⟩ :=
  rep_toV hr (by simp [toV, hc])

theorem bin_sound (hI : Inv w0 Sa h S m w) {k : BinOp} {t t' : TypeId} {x y : Operand} (hop : o.op = .binOp k t x y t') (hx : ∀ p, opnd T x = some p → Rep w S m p (a.eval x)) (hy : ∀ p, opnd T y = some p → Rep w S m p (a.eval y))
    (hb : binP P k t (opnd T x) (opnd T y) = some (v, ob)) (hob : ∀ X ∈ ob, X) (hn : ∀ v' w', Post w0 Sa h S m w v v' w' → next (a.put o.dst v') w') : o.wp P a w next Q := by
  have str : ∀ {x : Operand} {b : ByteArray}, (∀ p, opnd T x = some p → Rep w S m p (a.eval x)) → opnd T x = some (.sc (.string b)) → a.eval x = .string b := fun h1 h2 => sc_inv (h1 _ h2)
  have agg : ∀ {xs ys : List PV} {b : Bool}, opnd T x = some (.agg xs) → opnd T y = some (.agg ys) → eqAgg P t xs ys = some b → ∃ us vs, a.eval x = .agg us ∧ a.eval y = .agg vs ∧ P.eqGuardType P.depth t = false ∧ (Op.equalIn 10000 t (.agg us) (.agg vs)).run P w = .ok b w := by
    intro xs ys b h1 h2 h3
    unfold eqAgg at h3
    split at h3
    · rename_i us vs e1 e2
      split at h3
      · cases h3
      · rename_i hg
        exact ⟨⟨us⟩, ⟨vs⟩, rep_vs (hx _ h1) e1, rep_vs (hy _ h2) e2, by simpa using hg, eqV_run 9988 h3⟩
    · cases h3
  unfold binP at hb
  split at hb
  · split at hb
    · rename_i b1 b2 h1 h2
      cases hb
      exact concat_sound hI hop (str hx h1) (str hy h2) (hob _ (by simp)) hn
    · cases hb
  · split at hb
    · rename_i b1 b2 h1 h2
      cases hb
      refine wp_value (v' := .bool (eqS b1 b2)) ?_ (hn _ _ (post_same hI (.st _ _ (.sc _))))
      simp [execOp, hop, str hx h1, str hy h2, eqGuard, binOp, Op.stringOp, eqS_eq]
    · rename_i xs ys h1 h2
      split at hb
      · rename_i b hb'
        cases hb
        obtain ⟨us, vs, e1, e2, e3, e4⟩ := agg h1 h2 hb'
        refine wp_value (v' := .bool b) ?_ (hn _ _ (post_same hI (.st _ _ (.sc _))))
        simp [execOp, hop, e1, e2, run_eqGuard_agg, e3, run_eql_struct, e4]
      · cases hb
    · cases hb
  · split at hb
    · rename_i b1 b2 h1 h2
      cases hb
      refine wp_value (v' := .bool (!eqS b1 b2)) ?_ (hn _ _ (post_same hI (.st _ _ (.sc _))))
      simp [execOp, hop, str hx h1, str hy h2, eqGuard, binOp, Op.stringOp, eqS_eq]
    · rename_i xs ys h1 h2
      split at hb
      · rename_i b hb'
        cases hb
        obtain ⟨us, vs, e1, e2, e3, e4⟩ := agg h1 h2 hb'
        refine wp_value (v' := .bool (!b)) ?_ (hn _ _ (post_same hI (.st _ _ (.sc _))))
        simp [execOp, hop, e1, e2, run_eqGuard_agg, e3, run_neq_struct, e4]
      · cases hb
    · cases hb
  · cases hb

theorem len_sound (hI : Inv w0 Sa h S m w) {t e : TypeId} {x : Operand} {p : PV} {n : Nat} (hop : o.op = .call ⟨.builtin .len, #[x], #[t]⟩) (hu : P.underlying t = some (.slice e)) (hr : Rep w S m p (a.eval x)) (hl : lenP p = some n)
    (hn : ∀ v' w', Post w0 Sa h S m w (.sc (.int .i64 n)) v' w' → next (a.put o.dst v') w') : o.wp P a w next Q := by
  have hx : ∃ ad cap, a.eval x = .slice ad n cap := by
    unfold lenP at hl
    split at hl
    · cases hl; obtain ⟨ad, h⟩ := nul_inv hr; exact ⟨ad, 0, h⟩
    · cases hl
      rcases ro_inv hr with ⟨rfl, ad, cap, h⟩ | ⟨b, o', cap, _, _, _, _, h, _⟩
      · exact ⟨ad, cap, h⟩
      · exact ⟨_, cap, h⟩
    · cases hl
      rcases ro_inv (rf_inv hr) with ⟨hnil, ad, cap, h⟩ | ⟨b, o', cap, _, _, _, _, h, _⟩
      · have : n = 0 := by have := congrArg List.length hnil; simpa using this
        subst this
        exact ⟨ad, cap, h⟩
      · simp only [List.length_map, List.length_range] at h
        exact ⟨_, cap, h⟩
    · cases hl
      rcases own_inv hr with ⟨rfl, ad, h⟩ | ⟨b, o', sz, cap, _, _, h, _⟩
      · exact ⟨ad, 0, h⟩
      · exact ⟨_, cap, h⟩
    · cases hl
      rcases own_inv (who_inv hr) with ⟨rfl, ad, h⟩ | ⟨b, o', sz, cap, _, _, h, _⟩
      · exact ⟨ad, 0, h⟩
      · exact ⟨_, cap, h⟩
    · cases hl
  obtain ⟨ad, cap, hx⟩ := hx
  refine wp_value (v' := .int .i64 n) ?_ (hn _ _ (post_same hI (.st _ _ (.sc _))))
  simp [execOp, hop, resolve, invoke, builtin, Builtin.len_, run_und hu, hx, goInt]

/-! Literals. -/
theorem fill_get (l : List Value) : ∀ (k off : Nat) (cells : Array Value), off + k + l.length ≤ cells.size →
    ((l.zipIdx k).foldl (fun cs (x : Value × Nat) => cs.setIfInBounds (off + x.2) x.1) cells).size = cells.size ∧
    ∀ j, ((l.zipIdx k).foldl (fun cs (x : Value × Nat) => cs.setIfInBounds (off + x.2) x.1) cells)[j]? = if j < off + k then cells[j]? else if j < off + k + l.length then l[j - (off + k)]? else cells[j]? := by
  induction l with
  | nil =>
    intro k off cells _
    refine ⟨rfl, fun j => ?_⟩
    by_cases ha : j < off + k
    · rw [if_pos ha]; rfl
    · rw [if_neg ha, if_neg (by simpa using ha)]; rfl
  | cons x l ih =>
    intro k off cells hfit
    simp only [List.zipIdx_cons, List.foldl_cons]
    simp only [List.length_cons] at hfit
    obtain ⟨h1, h2⟩ := ih (k + 1) off (cells.setIfInBounds (off + k) x) (by simp; omega)
    refine ⟨by rw [h1]; simp, fun j => ?_⟩
    rw [h2]
    simp only [Array.getElem?_setIfInBounds, List.length_cons]
    by_cases ha : j < off + k
    · rw [if_pos (by omega), if_pos ha, if_neg (by omega)]
    · rw [if_neg ha]
      by_cases hb : j = off + k
      · subst hb
        rw [if_pos (by omega), if_pos rfl, if_pos (by omega), if_pos (by omega)]
        simp
      · rw [if_neg (by omega)]
        by_cases hc : j < off + (k + 1) + l.length
        · rw [if_pos hc, if_pos (by omega)]
          rw [show j - (off + k) = (j - (off + (k + 1))) + 1 by omega]
          simp
        · rw [if_neg hc, if_neg (by omega), if_neg (by omega)]

/-- Two lists of parts, number by number. -/
def PartsRep (w : World) (S : Nat → Prop) (m : Mp) : List (Nat × PV) → List (Nat × Value) → Prop
  | [], [] => True
  | (i, p) :: r, (j, u) :: q => i = j ∧ Rep w S m p u ∧ PartsRep w S m r q
  | _, _ => False

theorem fill_sound {place : Nat → Option (Nat × Nat)} : ∀ {ps : List (Nat × PV)} {us : List (Nat × Value)} {ca ca' : List PV} {cr : Array Value}, PartsRep w S m ps us → fillP place ca ps = some ca' → ca.length = cr.size →
    (∀ (i : Nat) p x, ca[i]? = some p → cr[i]? = some x → Rep w S m p x) →
    ∃ cr', Instr.fill place cr us = some cr' ∧ ca'.length = cr'.size ∧ ∀ (i : Nat) p x, ca'[i]? = some p → cr'[i]? = some x → Rep w S m p x
  | [], [], ca, ca', cr, _, hf, hl, hc => by simp [fillP] at hf; subst hf; exact ⟨cr, rfl, hl, hc⟩
  | [], _ :: _, _, _, _, hp, _, _, _ => by simp [PartsRep] at hp
  | _ :: _, [], _, _, _, hp, _, _, _ => by simp [PartsRep] at hp
  | (i, p) :: r, (j, u) :: q, ca, ca', cr, hp, hf, hl, hc => by
    obtain ⟨rfl, hpu, hrest⟩ := hp
    simp only [fillP] at hf
    split at hf
    · rename_i off size cs hpl hcs
      split at hf
      · rename_i hcond
        obtain ⟨hsz, hrep⟩ := rep_cells hpu hcs
        have hus : u.cells.toList.length = cs.length := by simpa using hsz
        have hfg := fill_get u.cells.toList 0 off cr (by rw [hus]; omega)
        simp only [Nat.add_zero] at hfg
        have hfold : u.cells.zipIdx.foldl (fun cs (x : Value × Nat) => cs.setIfInBounds (off + x.2) x.1) cr = (u.cells.toList.zipIdx 0).foldl (fun cs (x : Value × Nat) => cs.setIfInBounds (off + x.2) x.1) cr := by
          rw [← Array.foldl_toList]; simp
        obtain ⟨cr', h1, h2, h3⟩ := fill_sound (cr := u.cells.zipIdx.foldl (fun cs (x : Value × Nat) => cs.setIfInBounds (off + x.2) x.1) cr) hrest hf
          (by rw [hfold, hfg.1, splice_length (by omega)]; exact hl)
          (by
            intro k p' x' q1 q2
            rw [hfold, hfg.2] at q2
            rw [splice, splice_get _ _ _ _ (by omega)] at q1
            by_cases ha : k < off
            · rw [if_pos ha] at q1 q2; exact hc k p' x' q1 q2
            · rw [if_neg ha] at q1 q2
              by_cases hb : k < off + cs.length
              · rw [if_pos hb] at q1
                rw [if_pos (by omega)] at q2
                exact hrep (k - off) p' x' q1 (by simpa using q2)
              · rw [if_neg hb] at q1
                rw [if_neg (by omega)] at q2
                exact hc k p' x' q1 q2)
        refine ⟨cr', ?_, h2, h3⟩
        simp only [Instr.fill, hpl]
        rw [if_neg (by simp; omega)]
        exact h1
      · cases hf
    · cases hf

theorem parts_rep : ∀ {l : List (Nat × Operand)} {ps : List (Nat × PV)}, (∀ x ∈ l.map (·.2), ∀ p, opnd T x = some p → Rep w S m p (a.eval x)) → partsP T l = some ps → PartsRep w S m ps (l.map fun (i, x) => (i, a.eval x))
  | [], ps, _, hp => by simp [partsP] at hp; subst hp; trivial
  | (i, x) :: r, ps, hT, hp => by
    simp only [partsP] at hp
    split at hp
    · rename_i v hv
      split at hp
      · rename_i vs hvs
        cases hp
        exact ⟨rfl, hT x (by simp) v hv, parts_rep (fun y hy => hT y (by simp at hy ⊢; exact .inr hy)) hvs⟩
      · cases hp
    · cases hp

theorem places_run : ∀ {fs : List Field} {l : List (Nat × Nat)}, placesP P fs = some l → (fs.mapM (m := Sem) fun f => do pure (f.offset, ← Go.sizeOf f.type)).run P w = .ok l w
  | [], l, hp => by simp [placesP] at hp; subst hp; rfl
  | f :: fs, l, hp => by
    simp only [placesP] at hp
    split at hp
    · rename_i n hn
      split at hp
      · rename_i l' hl
        cases hp
        have ih := places_run hl
        simp only [List.mapM_cons, Sem.run_bind, run_size hn, Result.andThen_ok, Sem.run_pure, ih]
      · cases hp
    · cases hp

theorem run_zero {t : TypeId} {z : Value} (hz : zeroP P t = some z) : (zeroValue t).run P w = .ok z w := by
  unfold zeroP at hz
  cases hi : P.info? t with
  | none => rw [hi] at hz; cases hz
  | some i => rw [hi] at hz; simp at hz; simp [zeroValue, typeInfo, hi, hz]

theorem zero_rep (z : Value) : ∀ (i : Nat) p x, (z.cells.toList.map cellOf)[i]? = some p → z.cells[i]? = some x → Rep w S m p x := by
  intro i p x h1 h2
  rw [List.getElem?_map] at h1
  have : z.cells.toList[i]? = some x := by simpa using h2
  rw [this] at h1
  simp at h1
  subst h1
  exact .st _ _ (repS_cellOf w S x)

theorem build_sound (hI : Inv w0 Sa h S m w) {t : TypeId} {parts : Array (Nat × Operand)} {ps : List (Nat × PV)} {q : PV} (hop : o.op = .build t parts)
    (hT : ∀ x ∈ o.op.operands, ∀ p, opnd T x = some p → Rep w S m p (a.eval x)) (hp : partsP T parts.toList = some ps) (hb : buildP P t ps = some q)
    (hn : ∀ v' w', Post w0 Sa h S m w q v' w' → next (a.put o.dst v') w') : o.wp P a w next Q := by
  have hpr : PartsRep w S m ps ((parts.map fun (i, x) => (i, a.eval x)).toList) := by
    have := parts_rep (a := a) (w := w) (S := S) (m := m) (l := parts.toList) (fun x hx p hpx => hT x (by rw [hop]; simpa [Op.operands] using hx) p hpx) hp
    simpa using this
  unfold buildP at hb
  split at hb
  · rename_i z fields hz hu
    split at hb
    · rename_i places hpl
      cases hf : fillP (places[·]?) (z.cells.toList.map cellOf) ps with
      | none => rw [hf] at hb; cases hb
      | some ca =>
        rw [hf] at hb
        cases hb
        obtain ⟨cr, h1, h2, h3⟩ := fill_sound hpr hf (by simp) (zero_rep z)
        have hmap : (fields.mapM (m := Sem) fun f => do pure (f.offset, ← Go.sizeOf f.type)).run P w = .ok places.toArray w := by
          rw [Array.mapM_eq_mapM_toList]
          simp only [Sem.run_map, places_run hpl, Result.andThen_ok]
        refine wp_value (v' := .agg cr) ?_ (hn _ _ (post_same hI (.agg _ _ h2 h3)))
        have h1' : Instr.fill (fun x => places.toArray[x]?) z.cells ((parts.map fun (i, x) => (i, a.eval x)).toList) = some cr := by
          have : (fun x : Nat => places.toArray[x]?) = (fun x : Nat => places[x]?) := by funext x; simp
          rw [this]; exact h1
        simp only [execOp, hop, Instr.build, Sem.run_bind, run_zero hz, Result.andThen_ok, run_und hu, hmap, h1', Sem.run_pure]
    · cases hb
  · rename_i z n elem hz hu
    split at hb
    · rename_i k hk
      cases hf : fillP (fun i => some (i * k, k)) (z.cells.toList.map cellOf) ps with
      | none => rw [hf] at hb; cases hb
      | some ca =>
        rw [hf] at hb
        cases hb
        obtain ⟨cr, h1, h2, h3⟩ := fill_sound hpr hf (by simp) (zero_rep z)
        refine wp_value (v' := .agg cr) ?_ (hn _ _ (post_same hI (.agg _ _ h2 h3)))
        simp only [execOp, hop, Instr.build, Sem.run_bind, run_zero hz, Result.andThen_ok, run_und hu, run_size hk, h1, Sem.run_pure]
    · cases hb
  · cases hb
end
end Go.PS
