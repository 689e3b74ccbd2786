/- Regions that draw their order, second part. -/
import Derived.Test.YtldmgdphelgffaaDoorPS14
namespace Go.PS
open Go.RowKit

section
variable {P : Program} {w0 w : World} {Sa S : Nat → Prop} {h h' : Hp} {m : Mp} {a : Act} {o : Oper} {T T' : List PV} {s s' : Scr} {ob : List Prop} {v : PV} {ops : Array Oper} {Q : Exit → Act → World → Prop} {E : Env}

theorem dr_store (hs : isStore o = true) (he : evalOp P E true T h o s = some (v, h', ob, s')) : ∃ id, (useOp T o).2 = [id] ∧ ∀ q, q ≠ id → h'[q]? = h[q]? := by
  obtain ⟨t, x, y, hop⟩ : ∃ t x y, o.op = .store t x y := by
    unfold isStore at hs
    split at hs
    · rename_i t x y hop; exact ⟨t, x, y, hop⟩
    · cases hs
  simp only [evalOp, hop] at he
  split at he
  · rename_i p q hp hq
    split at he
    · cases he
    · rename_i hpar
      split at he
      · rename_i h2 hst
        cases he
        unfold storeP at hst
        split at hst
        · rename_i id i off cs n hcs hz
          split at hst
          · rename_i B hB
            split at hst
            · rename_i e hee
              split at hst
              · cases hst
                have hnil : B.par = [] := by simpa [parNil, hB] using hpar
                rw [hnil, kill_nil]
                refine ⟨id, by simp [useOp, hop, hp], fun q hq => ?_⟩
                rw [List.getElem?_set, if_neg (fun e => hq e.symm)]
              · cases hst
            · cases hst
          · cases hst
        · cases hst
      · cases he
  · cases he

theorem snoc_at {α : Type} (l : List α) (x : α) {q : Nat} (hq : q ≠ l.length) : (l ++ [x])[q]? = l[q]? := by
  rcases Nat.lt_or_ge q l.length with h | h
  · rw [List.getElem?_append_left h]
  · rw [List.getElem?_eq_none (by simp; omega), List.getElem?_eq_none (by omega)]

theorem append_other {t : TypeId} {x y r : PV} (ha : appendP P h t x y = some (r, h', ob)) {q : Nat} (h0 : q ≠ h.length) (hid : ∀ id off len, unwho x = .own id off len → q ≠ id ∧ ∀ B, h[id]? = some B → q ∉ B.par) : h'[q]? = h[q]? := by
  unfold appendP at ha
  split at ha
  · split at ha
    · split at ha
      · split at ha
        · split at ha
          · cases ha; exact snoc_at _ _ h0
          · split at ha
            · cases ha; rfl
            · cases ha; exact snoc_at _ _ h0
        · rename_i id len
          obtain ⟨hq, hp⟩ := hid id 0 len rfl
          split at ha
          · split at ha
            · cases ha
              rw [snoc_at _ _ (by simpa using h0), List.getElem?_set, if_neg (fun e => hq e.symm)]
            · cases ha
          · cases ha
        · rename_i id off len
          obtain ⟨hq, hp⟩ := hid id off len rfl
          split at ha
          · rename_i B hB
            split at ha
            · split at ha
              · cases ha
                rw [snoc_at _ _ (by simpa using h0), List.getElem?_set, if_neg (fun e => hq e.symm)]
              · cases ha
                rw [snoc_at _ _ (by rw [kill_length]; simpa using h0), kill_get, List.getElem?_set, if_neg (fun e => hq e.symm)]
                have := hp B hB
                cases h[q]? with
                | none => rfl
                | some X => simp [this]
            · cases ha
          · cases ha
        · cases ha
      · cases ha
    · cases ha
  · cases ha

/-- What an operation that makes memory leaves as it was. -/
theorem alloc_other (hal : allocs o = true) (he : evalOp P E false T h o s = some (v, h', ob, s')) : ∀ q, q ∉ wrOp T h o → h'[q]? = h[q]? := by
  intro q hq
  have fresh : ∀ {X : Blk}, q ∉ [h.length] → (h ++ [X])[q]? = h[q]? := fun hq => snoc_at _ _ (by simpa using hq)
  unfold allocs at hal
  split at hal
  · rename_i t hop
    simp only [evalOp, hop, Bool.false_eq_true, if_false] at he
    simp only [wrOp, hop] at hq
    split at he
    · cases he; exact fresh hq
    · cases he
  · rename_i t x hop
    simp only [evalOp, hop, Bool.false_eq_true, if_false] at he
    simp only [wrOp, hop] at hq
    split at he
    · split at he
      · cases he; exact fresh hq
      · cases he
    · cases he
  · rename_i t n parts hop
    simp only [evalOp, hop, Bool.false_eq_true, if_false] at he
    simp only [wrOp, hop] at hq
    split at he
    · split at he
      · split at he
        · split at he
          · cases he; exact fresh hq
          · cases he
        · cases he
      · cases he
    · cases he
  · rename_i t l c hop
    simp only [evalOp, hop, Bool.false_eq_true, if_false] at he
    simp only [wrOp, hop] at hq
    split at he
    · split at he
      · rename_i r h2 ob2 hm
        cases he
        unfold makeP at hm
        split at hm
        · split at hm
          · split at hm
            · cases hm; exact fresh hq
            · cases hm
          · cases hm
        · cases hm
      · cases he
    · cases he
  · rename_i args ats hop
    unfold evalOp at he
    split at he <;> rename_i hop2 <;> rw [hop] at hop2 <;> try (cases hop2; done)
    · cases hop2
      simp only [Bool.false_eq_true, if_false] at he
      split at he
      · rename_i p q' z hp hq' hz
        split at he
        · rename_i r h2 ob2 ha
          cases he
          refine append_other ha (fun e => ?_) (fun id off len hid => ⟨fun e => ?_, fun B hB hp2 => ?_⟩)
          · refine hq ?_
            simp only [wrOp, hop]
            split <;> simp [e]
          · refine hq ?_
            simp only [wrOp, hop, hp, Option.map_some, hid]
            simp [e]
          · refine hq ?_
            simp only [wrOp, hop, hp, Option.map_some, hid, hB, Option.getD_some]
            simp [hp2]
        · cases he
      · cases he
    · exact (plain_heap he).1 ▸ rfl
  · cases hal

/-- What the text's order does at one operation. -/
structure Rc (E : Env) (P : Program) (ops : Array Oper) (o : Oper) (Ta Tb Tc : List PV) (ha hc : Hp) (v : PV) (wn : Bool) (u : Option (List Nat) × List Nat) : Prop where
  decs : Decs Ta Tb
  want : ∀ {w : World} {S : Nat → Prop} {m : Mp} {a : Act}, (∀ t ∈ o.looksAt ops, ∀ p, Tb[t]? = some p → t < a.tmps.size ∧ Rep w S m p (a.tmps.getD t Go.undef)) → Region.wanted o (yielded ops a.tmps) = wn
  yes : wn = true → ∃ dr s s' ob, evalOp P E dr Tb ha o s = some (v, hc, ob, s') ∧ (∀ X ∈ ob, X) ∧ (u.2 = [] → hc = ha ∧ ∀ h2, Reads u.1 ha h2 → evalOp P E dr Tb h2 o s = some (v, h2, ob, s')) ∧ ∀ q, q ∉ u.2 → hc[q]? = ha[q]?
  no : wn = false → v = .sc Go.undef ∧ hc = ha ∧ u = (some [], [])
  next : Tc = put Tb o.dst v

theorem evalD_spec {u : Option (List Nat) × List Nat} (he : evalD P E T h o s = some ((v, h', ob, s'), u)) (hob : ∀ X ∈ ob, X) :
    ∃ dr s s' ob, evalOp P E dr T h o s = some (v, h', ob, s') ∧ (∀ X ∈ ob, X) ∧ (u.2 = [] → h' = h ∧ ∀ h2, Reads u.1 h h2 → evalOp P E dr T h2 o s = some (v, h2, ob, s')) ∧ ∀ q, q ∉ u.2 → h'[q]? = h[q]? := by
  unfold evalD at he
  split at he
  · rename_i r hr
    cases he
    refine ⟨true, s, s', ob, hr, hob, fun hu => ?_, fun q hq => ?_⟩
    · cases hs : isStore o with
      | false => exact dr_same hs hr
      | true =>
        obtain ⟨id, i1, _⟩ := dr_store hs hr
        rw [i1] at hu
        cases hu
    · cases hs : isStore o with
      | false => rw [(dr_same hs hr).1]
      | true =>
        obtain ⟨id, i1, i2⟩ := dr_store hs hr
        exact i2 q fun e => hq (by rw [i1]; simp [e])
  · split at he
    · rename_i hal
      split at he
      · rename_i r hr
        cases he
        refine ⟨false, s, s', ob, hr, hob, fun hu => ?_, alloc_other hal hr⟩
        exfalso
        unfold wrOp at hu
        split at hu
        · split at hu <;> cases hu
        · cases hu
      · cases he
    · cases he

theorem runD_recs : ∀ {os : List Oper} {T T' : List PV} {h h' : Hp} {s s' : Scr} {ob : List Ob} {us : List (Option (List Nat) × List Nat)}, runD P E ops os T h s = some (T', h', ob, s', us) → (∀ X ∈ ob, X.holds) →
    ∃ (Ts Tb : Nat → List PV) (H : Nat → Hp) (V : Nat → PV) (W : Nat → Bool), Ts 0 = T ∧ H 0 = h ∧ Ts os.length = T' ∧ H os.length = h' ∧ us.length = os.length ∧
      ∀ (k : Nat) o u, os[k]? = some o → us[k]? = some u → Rc E P ops o (Ts k) (Tb k) (Ts (k + 1)) (H k) (H (k + 1)) (V k) (W k) u
  | [], T, T', h, h', s, s', ob, us, hr, _ => by
    simp [runD] at hr
    obtain ⟨rfl, rfl, _, _, rfl⟩ := hr
    exact ⟨fun _ => T, fun _ => T, fun _ => h, fun _ => .nul, fun _ => true, rfl, rfl, rfl, rfl, rfl, fun k o u q => by simp at q⟩
  | o :: os, T, T', h, h', s, s', ob, us, hr, hob => by
    have glue : ∀ {Tb1 Tc1 : List PV} {hc1 : Hp} {v1 : PV} {wn1 : Bool} {u1 : Option (List Nat) × List Nat} {us1 : List (Option (List Nat) × List Nat)}, Rc E P ops o T Tb1 Tc1 h hc1 v1 wn1 u1 →
        (∃ (Ts Tb : Nat → List PV) (H : Nat → Hp) (V : Nat → PV) (W : Nat → Bool), Ts 0 = Tc1 ∧ H 0 = hc1 ∧ Ts os.length = T' ∧ H os.length = h' ∧ us1.length = os.length ∧
          ∀ (k : Nat) o u, os[k]? = some o → us1[k]? = some u → Rc E P ops o (Ts k) (Tb k) (Ts (k + 1)) (H k) (H (k + 1)) (V k) (W k) u) →
        ∃ (Ts Tb : Nat → List PV) (H : Nat → Hp) (V : Nat → PV) (W : Nat → Bool), Ts 0 = T ∧ H 0 = h ∧ Ts (o :: os).length = T' ∧ H (o :: os).length = h' ∧ (u1 :: us1).length = (o :: os).length ∧
          ∀ (k : Nat) o' u, (o :: os)[k]? = some o' → (u1 :: us1)[k]? = some u → Rc E P ops o' (Ts k) (Tb k) (Ts (k + 1)) (H k) (H (k + 1)) (V k) (W k) u := by
      intro Tb1 Tc1 hc1 v1 wn1 u1 us1 hrc ⟨Ts, Tb, H, V, W, e1, e2, e3, e4, e5, e6⟩
      refine ⟨fun k => match k with | 0 => T | k + 1 => Ts k, fun k => match k with | 0 => Tb1 | k + 1 => Tb k, fun k => match k with | 0 => h | k + 1 => H k, fun k => match k with | 0 => v1 | k + 1 => V k, fun k => match k with | 0 => wn1 | k + 1 => W k,
        rfl, rfl, e3, e4, by simp [e5], fun k o' u q1 q2 => ?_⟩
      cases k with
      | zero =>
        simp at q1 q2
        subst q1; subst q2
        show Rc E P ops o T Tb1 (Ts 0) h (H 0) v1 wn1 u1
        rw [e1, e2]; exact hrc
      | succ k =>
        simp at q1 q2
        exact e6 k o' u q1 q2
    simp only [runD] at hr
    split at hr
    · rename_i T1 ob1 s1 hw
      split at hr
      · rename_i T2 ob2 s2 hp
        split at hr
        · rename_i v1 h1 ob3 s3 u1 he
          split at hr
          · rename_i T3 h3 ob4 s4 us4 hr4
            cases hr
            obtain ⟨d1, d2⟩ := want_sound hw (fun X hX => hob X (by simp [hX]))
            have d3 := pick_sound hp (fun X hX => hob X (by simp [hX]))
            refine glue (Tb1 := T2) (v1 := v1) (wn1 := true) ⟨d1.trans d3, fun {w S m a} hT => d2 (w := w) (S := S) (m := m) fun t ht p hpt => ?_, fun _ => evalD_spec he fun X hX => hob (.owe X) (List.mem_append_left _ (List.mem_append_right _ (List.mem_map.2 ⟨X, hX, rfl⟩))), (fun h => by cases h), rfl⟩
              (runD_recs hr4 fun X hX => hob X (by simp [hX]))
            have hl := (List.getElem?_eq_some_iff.1 hpt).1
            have hl2 : t < T2.length := by rw [d3.1]; exact hl
            obtain ⟨q, q1, q2⟩ := d3.2 t T2[t] (by simp [hl2])
            rw [hpt] at q1
            cases q1
            obtain ⟨r1, r2⟩ := hT t ht T2[t] (by simp [hl2])
            exact ⟨r1, q2.back r2⟩
          · cases hr
        · cases hr
      · cases hr
    · rename_i T1 ob1 s1 hw
      split at hr
      · rename_i T3 h3 ob4 s4 us4 hr4
        cases hr
        obtain ⟨d1, d2⟩ := want_sound hw (fun X hX => hob X (by simp [hX]))
        exact glue (Tb1 := T1) (v1 := .sc Go.undef) (wn1 := false) ⟨d1, d2, (fun h => by cases h), fun _ => ⟨rfl, rfl, rfl⟩, rfl⟩ (runD_recs hr4 fun X hX => hob X (by simp [hX]))
      · cases hr
    · cases hr

/-- What the check of a region's edges gives. -/
structure DrawOk (ops : Array Oper) : Prop where
  back : ∀ (i : Nat) o, ops[i]? = some o → ∀ e ∈ o.after, Region.binds .any e = true → e.on < i
  look : ∀ (i j : Nat) o q d, ops[i]? = some o → ops[j]? = some q → i ≠ j → q.dst = some d → d ∈ o.looksAt ops → (j < i → hasEdge ops i j = true) ∧ (i < j → hasEdge ops j i = true)
  dsts : ∀ (i j : Nat) o q d, ops[i]? = some o → ops[j]? = some q → o.dst = some d → q.dst = some d → i = j

theorem drawOk_spec (hd : drawOk ops = true) : DrawOk ops := by
  unfold drawOk at hd
  have lt : ∀ {i : Nat} {o : Oper}, ops[i]? = some o → i < ops.size := fun hi => by
    rcases Nat.lt_or_ge _ _ with h | h
    · exact h
    · rw [Array.getElem?_eq_none h] at hi; cases hi
  have key : ∀ {i : Nat} {o : Oper}, ops[i]? = some o → (o.after.all fun e => !Region.binds .any e || decide (e.on < i)) = true ∧ ∀ {j : Nat} {q : Oper}, ops[j]? = some q → i ≠ j →
      dstOk ops i j o q = true := by
    intro i o hi
    have h1 := List.all_eq_true.1 hd i (by simp [lt hi])
    simp only [hi, Bool.and_eq_true] at h1
    refine ⟨h1.1, fun {j q} hj hne => ?_⟩
    have h2 := List.all_eq_true.1 h1.2 j (by simp [lt hj])
    simp only [hj] at h2
    rw [Bool.or_eq_true] at h2
    rcases h2 with h2 | h2
    · exact absurd (by simpa using h2) hne
    · exact h2
  refine ⟨fun i o hi e he hb => ?_, fun i j o q d hi hj hne hd hl => ?_, fun i j o q d hi hj h1 h2 => ?_⟩
  · have := (key hi).1
    rw [Array.all_eq_true_iff_forall_mem] at this
    have := this e he
    simpa [hb] using this
  · have := (key hi).2 hj hne
    simp only [dstOk, hd, Bool.and_eq_true, Bool.or_eq_true, Bool.not_eq_true', edgeB] at this
    rcases this.1 with h3 | h3
    · have : (o.looksAt ops).contains d = true := by simpa using hl
      rw [this] at h3; cases h3
    · exact ⟨fun hlt => by rwa [if_pos hlt] at h3, fun hlt => by rwa [if_neg (by omega)] at h3⟩
  · by_cases hne : i = j
    · exact hne
    · have := (key hi).2 hj hne
      simp [dstOk, h2, h1] at this

/-- What stands in front in every order. -/
inductive Rch (ops : Array Oper) : Nat → Nat → Prop where
  | edge {i j : Nat} (h : hasEdge ops i j = true) : Rch ops i j
  | step {i j k : Nat} (h : hasEdge ops i j = true) (r : Rch ops j k) : Rch ops i k

theorem addNew_mem : ∀ {r l : List Nat} {x : Nat}, x ∈ addNew l r → x ∈ l ∨ x ∈ r
  | [], _, _, h => .inl h
  | y :: r, l, x, h => by
    unfold addNew at h
    split at h
    · rcases addNew_mem h with h1 | h1
      · exact .inl h1
      · exact .inr (List.mem_cons_of_mem _ h1)
    · rcases addNew_mem h with h1 | h1
      · rcases List.mem_append.1 h1 with h2 | h2
        · exact .inl h2
        · exact .inr (by simp at h2; simp [h2])
      · exact .inr (List.mem_cons_of_mem _ h1)

theorem ancs_ok : ∀ (os : List Oper) (k : Nat) (acc : List (List Nat)), ops.toList.drop k = os → acc.length = k → (∀ i, ∀ j ∈ acc.getD i [], Rch ops i j) → ∀ i, ∀ j ∈ (ancs os acc).getD i [], Rch ops i j
  | [], k, acc, _, _, hA => hA
  | o :: r, k, acc, hd, hlk, hA => by
    have hl := hlk
    have ho : ops[k]? = some o := by
      have : (ops.toList.drop k)[0]? = some o := by rw [hd]; rfl
      rw [List.getElem?_drop] at this
      simpa using this
    refine ancs_ok r (k + 1) _ (by rw [← List.drop_drop, hd]; rfl) (by simp [hl]) fun i j hj => ?_
    rcases Nat.lt_trichotomy i k with h | h | h
    · rw [List.getD_eq_getElem?_getD, List.getElem?_append_left (by omega), ← List.getD_eq_getElem?_getD] at hj
      exact hA i j hj
    · subst h
      rw [List.getD_eq_getElem?_getD, ← hl, snoc_new] at hj
      simp only [Option.getD_some] at hj
      have key : ∀ (es : List _) (l : List Nat), (∀ e ∈ es, e ∈ o.after.toList) → (∀ x ∈ l, Rch ops acc.length x) → ∀ x ∈ es.foldl (fun l e => if Region.binds .any e then addNew l (e.on :: acc.getD e.on []) else l) l, Rch ops acc.length x := by
        intro es
        induction es with
        | nil => intro l _ hl x hx; exact hl x hx
        | cons e es ih =>
          intro l hes hl x hx
          refine ih _ (fun e' he' => hes e' (List.mem_cons_of_mem _ he')) ?_ x hx
          intro y hy
          dsimp only at hy
          split at hy
          · rename_i hb
            have hedge : hasEdge ops acc.length e.on = true := by
              unfold hasEdge
              rw [hlk, ho]
              simp only [Array.any_eq_true']
              exact ⟨e, by simpa using hes e List.mem_cons_self, by simp [hb]⟩
            rcases addNew_mem hy with h1 | h1
            · exact hl y h1
            · rcases List.mem_cons.1 h1 with rfl | h1
              · exact .edge hedge
              · exact .step hedge (hA _ y h1)
          · exact hl y hy
      have := key o.after.toList [] (fun _ h => h) (fun _ h => by cases h) j hj
      rwa [hl] at this
    · rw [List.getD_eq_getElem?_getD, List.getElem?_eq_none (by simp; omega)] at hj
      cases hj

theorem ordB_spec {i j : Nat} (h : ordB ops i j = true) : (j < i → Rch ops i j) ∧ (i < j → Rch ops j i) := by
  have hA := ancs_ok (ops := ops) ops.toList 0 [] rfl rfl (fun i j hj => by simp at hj)
  unfold ordB edgeB at h
  rw [Bool.or_eq_true] at h
  refine ⟨fun hlt => ?_, fun hlt => ?_⟩
  · rw [if_pos hlt, if_pos hlt] at h
    rcases h with h | h
    · exact .edge h
    · exact hA i j (by simpa using h)
  · rw [if_neg (by omega), if_neg (by omega)] at h
    rcases h with h | h
    · exact .edge h
    · exact hA j i (by simpa using h)

end
end Go.PS
