/- Regions that draw their order, second part. -/
import Derived.Test.YtnkmcmflfedmkaaPS14
namespace Go.PS
open Go.RowKit

section
variable {P : Program} {w0 w : World} {Sa S : Nat → Prop} {h h' : Hp} {m : Mp} {a : Act} {o : Oper} {T T' : List PV} {s s' : Scr} {ob : List Prop} {v : PV} {ops : Array Oper} {Q : Exit → Act → World → Prop} {E : Env}

theorem dr_store (hs : isStore o = true) (he : evalOp P E true T h o s = some (v, h', ob, s')) : ∃ id, (useOp T o).2 = [id] ∧ ∀ q, q ≠ id → h'[q]? = h[q]? := by
  obtain ⟨t, x, y, hop⟩ : ∃ t x y, o.op = .store t x y := by
    unfold isStore at hs
    split at hs
    · rename_i t x y hop; exact ⟨t, x, y, hop⟩
    · cases hs
  simp only [evalOp, hop] at he
  split at he
  · rename_i p q hp hq
    split at he
    · cases he
    · rename_i hpar
      split at he
      · rename_i h2 hst
        cases he
        unfold storeP at hst
        split at hst
        · rename_i id i off cs n hcs hz
          split at hst
          · rename_i B hB
            split at hst
            · rename_i e hee
              split at hst
              · cases hst
                have hnil : B.par = [] := by simpa [parNil, hB] using hpar
                rw [hnil, kill_nil]
                refine ⟨id, by simp [useOp, hop, hp], fun q hq => ?_⟩
                rw [List.getElem?_set, if_neg (fun e => hq e.symm)]
              · cases hst
            · cases hst
          · cases hst
        · cases hst
      · cases he
  · cases he

/-- What the text's order does at one operation. -/
structure Rc (E : Env) (P : Program) (ops : Array Oper) (o : Oper) (Ta Tb Tc : List PV) (ha hc : Hp) (v : PV) (wn : Bool) (u : Option (List Nat) × List Nat) : Prop where
  decs : Decs Ta Tb
  want : ∀ {w : World} {S : Nat → Prop} {m : Mp} {a : Act}, (∀ t ∈ o.looksAt ops, ∀ p, Tb[t]? = some p → t < a.tmps.size ∧ Rep w S m p (a.tmps.getD t Go.undef)) → Region.wanted o (yielded ops a.tmps) = wn
  yes : wn = true → u = useOp Tb o ∧ ∃ s s' ob, evalOp P E true Tb ha o s = some (v, hc, ob, s') ∧ ∀ X ∈ ob, X
  no : wn = false → v = .sc Go.undef ∧ hc = ha ∧ u = (some [], [])
  next : Tc = put Tb o.dst v

theorem runD_recs : ∀ {os : List Oper} {T T' : List PV} {h h' : Hp} {s s' : Scr} {ob : List Ob} {us : List (Option (List Nat) × List Nat)}, runD P E ops os T h s = some (T', h', ob, s', us) → (∀ X ∈ ob, X.holds) →
    ∃ (Ts Tb : Nat → List PV) (H : Nat → Hp) (V : Nat → PV) (W : Nat → Bool), Ts 0 = T ∧ H 0 = h ∧ Ts os.length = T' ∧ H os.length = h' ∧ us.length = os.length ∧
      ∀ (k : Nat) o u, os[k]? = some o → us[k]? = some u → Rc E P ops o (Ts k) (Tb k) (Ts (k + 1)) (H k) (H (k + 1)) (V k) (W k) u
  | [], T, T', h, h', s, s', ob, us, hr, _ => by
    simp [runD] at hr
    obtain ⟨rfl, rfl, _, _, rfl⟩ := hr
    exact ⟨fun _ => T, fun _ => T, fun _ => h, fun _ => .nul, fun _ => true, rfl, rfl, rfl, rfl, rfl, fun k o u q => by simp at q⟩
  | o :: os, T, T', h, h', s, s', ob, us, hr, hob => by
    have glue : ∀ {Tb1 Tc1 : List PV} {hc1 : Hp} {v1 : PV} {wn1 : Bool} {u1 : Option (List Nat) × List Nat} {us1 : List (Option (List Nat) × List Nat)}, Rc E P ops o T Tb1 Tc1 h hc1 v1 wn1 u1 →
        (∃ (Ts Tb : Nat → List PV) (H : Nat → Hp) (V : Nat → PV) (W : Nat → Bool), Ts 0 = Tc1 ∧ H 0 = hc1 ∧ Ts os.length = T' ∧ H os.length = h' ∧ us1.length = os.length ∧
          ∀ (k : Nat) o u, os[k]? = some o → us1[k]? = some u → Rc E P ops o (Ts k) (Tb k) (Ts (k + 1)) (H k) (H (k + 1)) (V k) (W k) u) →
        ∃ (Ts Tb : Nat → List PV) (H : Nat → Hp) (V : Nat → PV) (W : Nat → Bool), Ts 0 = T ∧ H 0 = h ∧ Ts (o :: os).length = T' ∧ H (o :: os).length = h' ∧ (u1 :: us1).length = (o :: os).length ∧
          ∀ (k : Nat) o' u, (o :: os)[k]? = some o' → (u1 :: us1)[k]? = some u → Rc E P ops o' (Ts k) (Tb k) (Ts (k + 1)) (H k) (H (k + 1)) (V k) (W k) u := by
      intro Tb1 Tc1 hc1 v1 wn1 u1 us1 hrc ⟨Ts, Tb, H, V, W, e1, e2, e3, e4, e5, e6⟩
      refine ⟨fun k => match k with | 0 => T | k + 1 => Ts k, fun k => match k with | 0 => Tb1 | k + 1 => Tb k, fun k => match k with | 0 => h | k + 1 => H k, fun k => match k with | 0 => v1 | k + 1 => V k, fun k => match k with | 0 => wn1 | k + 1 => W k,
        rfl, rfl, e3, e4, by simp [e5], fun k o' u q1 q2 => ?_⟩
      cases k with
      | zero =>
        simp at q1 q2
        subst q1; subst q2
        show Rc E P ops o T Tb1 (Ts 0) h (H 0) v1 wn1 u1
        rw [e1, e2]; exact hrc
      | succ k =>
        simp at q1 q2
        exact e6 k o' u q1 q2
    simp only [runD] at hr
    split at hr
    · rename_i T1 ob1 s1 hw
      split at hr
      · rename_i T2 ob2 s2 hp
        split at hr
        · rename_i v1 h1 ob3 s3 he
          split at hr
          · rename_i T3 h3 ob4 s4 us4 hr4
            cases hr
            obtain ⟨d1, d2⟩ := want_sound hw (fun X hX => hob X (by simp [hX]))
            have d3 := pick_sound hp (fun X hX => hob X (by simp [hX]))
            refine glue (Tb1 := T2) (v1 := v1) (wn1 := true) ⟨d1.trans d3, fun {w S m a} hT => d2 (w := w) (S := S) (m := m) fun t ht p hpt => ?_, fun _ => ⟨rfl, s2, s3, ob3, he, fun X hX => hob (.owe X) (List.mem_append_left _ (List.mem_append_right _ (List.mem_map.2 ⟨X, hX, rfl⟩)))⟩, (fun h => by cases h), rfl⟩
              (runD_recs hr4 fun X hX => hob X (by simp [hX]))
            have hl := (List.getElem?_eq_some_iff.1 hpt).1
            have hl2 : t < T2.length := by rw [d3.1]; exact hl
            obtain ⟨q, q1, q2⟩ := d3.2 t T2[t] (by simp [hl2])
            rw [hpt] at q1
            cases q1
            obtain ⟨r1, r2⟩ := hT t ht T2[t] (by simp [hl2])
            exact ⟨r1, q2.back r2⟩
          · cases hr
        · cases hr
      · cases hr
    · rename_i T1 ob1 s1 hw
      split at hr
      · rename_i T3 h3 ob4 s4 us4 hr4
        cases hr
        obtain ⟨d1, d2⟩ := want_sound hw (fun X hX => hob X (by simp [hX]))
        exact glue (Tb1 := T1) (v1 := .sc Go.undef) (wn1 := false) ⟨d1, d2, (fun h => by cases h), fun _ => ⟨rfl, rfl, rfl⟩, rfl⟩ (runD_recs hr4 fun X hX => hob X (by simp [hX]))
      · cases hr
    · cases hr

/-- What the check of a region's edges gives. -/
structure DrawOk (ops : Array Oper) : Prop where
  back : ∀ (i : Nat) o, ops[i]? = some o → ∀ e ∈ o.after, Region.binds .any e = true → e.on < i
  look : ∀ (i j : Nat) o q d, ops[i]? = some o → ops[j]? = some q → i ≠ j → q.dst = some d → d ∈ o.looksAt ops → (j < i → hasEdge ops i j = true) ∧ (i < j → hasEdge ops j i = true)
  dsts : ∀ (i j : Nat) o q d, ops[i]? = some o → ops[j]? = some q → o.dst = some d → q.dst = some d → i = j
  stores : ∀ (i j : Nat) o q, ops[i]? = some o → ops[j]? = some q → isStore o = true → isStore q = true → j < i → hasEdge ops i j = true

theorem drawOk_spec (hd : drawOk ops = true) : DrawOk ops := by
  unfold drawOk at hd
  have lt : ∀ {i : Nat} {o : Oper}, ops[i]? = some o → i < ops.size := fun hi => by
    rcases Nat.lt_or_ge _ _ with h | h
    · exact h
    · rw [Array.getElem?_eq_none h] at hi; cases hi
  have key : ∀ {i : Nat} {o : Oper}, ops[i]? = some o → (o.after.all fun e => !Region.binds .any e || decide (e.on < i)) = true ∧ ∀ {j : Nat} {q : Oper}, ops[j]? = some q → i ≠ j →
      dstOk ops i j o q = true ∧ (!(isStore o && isStore q) || edgeB ops i j) = true := by
    intro i o hi
    have h1 := List.all_eq_true.1 hd i (by simp [lt hi])
    simp only [hi, Bool.and_eq_true] at h1
    refine ⟨h1.1, fun {j q} hj hne => ?_⟩
    have h2 := List.all_eq_true.1 h1.2 j (by simp [lt hj])
    simp only [hj] at h2
    rw [Bool.or_eq_true] at h2
    rcases h2 with h2 | h2
    · exact absurd (by simpa using h2) hne
    · rw [Bool.and_eq_true] at h2; exact h2
  refine ⟨fun i o hi e he hb => ?_, fun i j o q d hi hj hne hd hl => ?_, fun i j o q d hi hj h1 h2 => ?_, fun i j o q hi hj h1 h2 hlt => ?_⟩
  · have := (key hi).1
    rw [Array.all_eq_true_iff_forall_mem] at this
    have := this e he
    simpa [hb] using this
  · have := ((key hi).2 hj hne).1
    simp only [dstOk, hd, Bool.and_eq_true, Bool.or_eq_true, Bool.not_eq_true', edgeB] at this
    rcases this.1 with h3 | h3
    · have : (o.looksAt ops).contains d = true := by simpa using hl
      rw [this] at h3; cases h3
    · exact ⟨fun hlt => by rwa [if_pos hlt] at h3, fun hlt => by rwa [if_neg (by omega)] at h3⟩
  · by_cases hne : i = j
    · exact hne
    · have := ((key hi).2 hj hne).1
      simp [dstOk, h2, h1] at this
  · have := ((key hi).2 hj (by omega)).2
    simp [h1, h2, hlt, edgeB] at this
    exact this
end
end Go.PS
