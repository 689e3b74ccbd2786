/- Regions that draw their order, third part: every order. -/
import Derived.Test.YtldmgdphelgffaaDoorPS15
namespace Go.PS
open Go.RowKit

section
variable {E : Env} {P : Program} {w0 w : World} {Sa S : Nat → Prop} {h h' : Hp} {m : Mp} {a : Act} {o : Oper} {T T' : List PV} {s s' : Scr} {ob : List Ob} {v : PV} {ops : Array Oper} {Q : Exit → Act → World → Prop}
variable {Ts Tb : Nat → List PV} {H : Nat → Hp} {V : Nat → PV} {W : Nat → Bool} {us : List (Option (List Nat) × List Nat)}

/-- Where a slot's abstract value comes from. -/
theorem slot_src (hR : ∀ (k : Nat) o u, ops[k]? = some o → us[k]? = some u → Rc E P ops o (Ts k) (Tb k) (Ts (k + 1)) (H k) (H (k + 1)) (V k) (W k) u) (hus : us.length = ops.size) :
    ∀ k, k ≤ ops.size → ∀ (t : Nat) p, (Ts k)[t]? = some p → (∃ j, j < k ∧ ∃ o, ops[j]? = some o ∧ o.dst = some t ∧ Deci (V j) p) ∨
      ((∀ j, j < k → ∀ o, ops[j]? = some o → o.dst ≠ some t) ∧ ∃ q, (Ts 0)[t]? = some q ∧ Deci q p) := by
  intro k
  induction k with
  | zero => intro _ t p hp; exact .inr ⟨fun j hj => absurd hj (Nat.not_lt_zero _), p, hp, .refl p⟩
  | succ k ih =>
    intro hk t p hp
    have hk' : k < ops.size := by omega
    have ho : ops[k]? = some ops[k] := by simp [hk']
    have hu : us[k]? = some (us[k]'(by omega)) := by simp [hus, hk']
    have rc := hR k ops[k] _ ho hu
    have old : ops[k].dst ≠ some t → (Tb k)[t]? = some p → (∃ j, j < k + 1 ∧ ∃ o, ops[j]? = some o ∧ o.dst = some t ∧ Deci (V j) p) ∨ ((∀ j, j < k + 1 → ∀ o, ops[j]? = some o → o.dst ≠ some t) ∧ ∃ q, (Ts 0)[t]? = some q ∧ Deci q p) := by
      intro hne hb
      obtain ⟨q, q1, q2⟩ := rc.decs.2 t p hb
      rcases ih (by omega) t q q1 with ⟨j, j1, o, j2, j3, j4⟩ | ⟨j1, r, r1, r2⟩
      · exact .inl ⟨j, by omega, o, j2, j3, j4.trans q2⟩
      · refine .inr ⟨fun j hj o ho' => ?_, r, r1, r2.trans q2⟩
        by_cases hjk : j = k
        · subst hjk; rw [ho] at ho'; cases ho'; exact hne
        · exact j1 j (by omega) o ho'
    rw [rc.next] at hp
    cases hd : ops[k].dst with
    | none => rw [hd] at hp; exact old (by rw [hd]; simp) hp
    | some d =>
      rw [hd] at hp
      simp only [PS.put, List.getElem?_set] at hp
      by_cases hdt : d = t
      · subst hdt
        by_cases hl : d < (Tb k).length
        · simp [hl] at hp
          subst hp
          exact .inl ⟨k, by omega, ops[k], ho, hd, .refl _⟩
        · simp [hl] at hp
      · rw [if_neg hdt] at hp
        exact old (by rw [hd]; simpa using hdt) hp

/-- What an operation that writes nothing leaves. -/
theorem rc_same {o : Oper} {Ta Tb Tc : List PV} {ha hc : Hp} {v : PV} {wn : Bool} {u : Option (List Nat) × List Nat} (rc : Rc E P ops o Ta Tb Tc ha hc v wn u) (hu : u.2 = []) : hc = ha := by
  cases hw : wn with
  | false => exact (rc.no hw).2.1
  | true =>
    obtain ⟨_, _, _, _, _, _, h1, _⟩ := rc.yes hw
    exact (h1 hu).1
theorem rc_other {o : Oper} {Ta Tb Tc : List PV} {ha hc : Hp} {v : PV} {wn : Bool} {u : Option (List Nat) × List Nat} (rc : Rc E P ops o Ta Tb Tc ha hc v wn u) {q : Nat} (hq : q ∉ u.2) : hc[q]? = ha[q]? := by
  cases hw : wn with
  | false => rw [(rc.no hw).2.1]
  | true =>
    obtain ⟨_, _, _, _, _, _, _, h2⟩ := rc.yes hw
    exact h2 q hq

/-- Nothing is written between: the heap is one. -/
theorem heap_const (hR : ∀ (k : Nat) o u, ops[k]? = some o → us[k]? = some u → Rc E P ops o (Ts k) (Tb k) (Ts (k + 1)) (H k) (H (k + 1)) (V k) (W k) u) (hus : us.length = ops.size) {x y : Nat} (hxy : x ≤ y) (hy : y ≤ ops.size)
    (hno : ∀ j, x ≤ j → j < y → ∀ u, us[j]? = some u → u.2 = []) : H x = H y := by
  obtain ⟨d, rfl⟩ : ∃ d, y = x + d := ⟨y - x, by omega⟩
  clear hxy
  induction d with
  | zero => rfl
  | succ d ih =>
    rw [ih (by omega) fun j h1 h2 => hno j h1 (by omega)]
    have hk' : x + d < ops.size := by omega
    have ho : ops[x + d]? = some ops[x + d] := by simp [hk']
    have hu : us[x + d]? = some (us[x + d]'(by omega)) := by simp [hus, hk']
    exact (rc_same (hR (x + d) ops[x + d] _ ho hu) (hno (x + d) (by omega) (by omega) _ hu)).symm

/-- A block that is not written between. -/
theorem block_const (hR : ∀ (k : Nat) o u, ops[k]? = some o → us[k]? = some u → Rc E P ops o (Ts k) (Tb k) (Ts (k + 1)) (H k) (H (k + 1)) (V k) (W k) u) (hus : us.length = ops.size) {q x y : Nat} (hxy : x ≤ y) (hy : y ≤ ops.size)
    (hq : ∀ j, x ≤ j → j < y → ∀ u, us[j]? = some u → q ∉ u.2) : (H x)[q]? = (H y)[q]? := by
  obtain ⟨d, rfl⟩ : ∃ d, y = x + d := ⟨y - x, by omega⟩
  clear hxy
  induction d with
  | zero => rfl
  | succ d ih =>
    rw [ih (by omega) fun j h1 h2 => hq j h1 (by omega)]
    have hk' : x + d < ops.size := by omega
    have ho : ops[x + d]? = some ops[x + d] := by simp [hk']
    have hu : us[x + d]? = some (us[x + d]'(by omega)) := by simp [hus, hk']
    exact (rc_other (hR (x + d) ops[x + d] _ ho hu) (hq (x + d) (by omega) (by omega) _ hu)).symm

/-- Which operations have been carried out. -/
def Lst (l : Array Bool) (i : Nat) : Prop := l[i]? = some true

/-- What holds when some of a region's operations have been carried out. -/
structure Mid (w0 : World) (Sa : Nat → Prop) (ops : Array Oper) (us : List (Option (List Nat) × List Nat)) (Ts : Nat → List PV) (H : Nat → Hp) (V : Nat → PV) (l : Array Bool) (a : Act) (w : World) : Prop where
  size : l.size = ops.size
  closed : ∀ i j, Lst l i → hasEdge ops i j = true → Lst l j
  defers : a.defers = []
  tmps : (Ts 0).length = a.tmps.size
  mem : ∃ S m c, c ≤ ops.size ∧ Inv w0 Sa (H c) S m w ∧ (∀ (j : Nat) u, us[j]? = some u → u.2 ≠ [] → (Lst l j ↔ j < c)) ∧
    (∀ (t j : Nat) o, ops[j]? = some o → o.dst = some t → Lst l j → Rep w S m (V j) (a.tmps.getD t Go.undef) ∨ a.tmps.size ≤ t) ∧
    (∀ t : Nat, (∀ (j : Nat) o, ops[j]? = some o → o.dst = some t → ¬ Lst l j) → ∀ p, (Ts 0)[t]? = some p → Rep w S m p (a.tmps.getD t Go.undef))

theorem getD_put_same {a : Act} {t : Nat} {u : Value} (h : t < a.tmps.size) : (a.put (some t) u).tmps.getD t Go.undef = u := by
  simp [Act.put, Array.getD_eq_getD_getElem?, h]
theorem getD_put_other {a : Act} {d : Option Tmp} {t : Nat} {u : Value} (h : d ≠ some t) : (a.put d u).tmps.getD t Go.undef = a.tmps.getD t Go.undef := by
  cases d with
  | none => rfl
  | some d =>
    have : d ≠ t := fun e => h (by rw [e])
    simp [Act.put, Array.getD_eq_getD_getElem?, this]
theorem size_put (a : Act) (d : Option Tmp) (u : Value) : (a.put d u).tmps.size = a.tmps.size := by cases d <;> simp [Act.put]

theorem lst_set {l : Array Bool} {i j : Nat} (hi : i < l.size) : Lst (l.setIfInBounds i true) j ↔ Lst l j ∨ j = i := by
  unfold Lst
  rw [Array.getElem?_setIfInBounds]
  by_cases h : i = j
  · subst h; simp [hi]
  · rw [if_neg h]
    constructor
    · exact .inl
    · rintro (h1 | h1)
      · exact h1
      · exact absurd h1.symm h

theorem ready_spec {l : Array Bool} {i : Nat} (hi : i ∈ Region.ready .any ops l) : ∃ o, ops[i]? = some o ∧ ¬ Lst l i ∧ ∀ j, hasEdge ops i j = true → Lst l j := by
  unfold Region.ready at hi
  rw [List.mem_filter] at hi
  obtain ⟨h1, h2⟩ := hi
  have hlt : i < ops.size := by simpa using h1
  have ho : ops[i]? = some ops[i] := by simp [hlt]
  rw [Bool.and_eq_true] at h2
  refine ⟨ops[i], ho, fun hL => ?_, fun j hj => ?_⟩
  · have := h2.1
    unfold Lst at hL
    rw [Array.getD_eq_getD_getElem?, hL] at this
    simp at this
  · have := h2.2
    rw [ho] at this
    simp only [Option.map_some, Option.getD_some] at this
    unfold hasEdge at hj
    rw [ho] at hj
    simp only [Array.any_eq_true'] at hj
    obtain ⟨e, e1, e2⟩ := hj
    rw [Bool.and_eq_true] at e2
    rw [Array.all_eq_true_iff_forall_mem] at this
    have := this e e1
    simp only [e2.2, Bool.not_true, Bool.false_or] at this
    have hej : e.on = j := by simpa using e2.1
    rw [hej] at this
    unfold Lst
    rw [Array.getD_eq_getD_getElem?] at this
    cases hl : l[j]? with
    | none => rw [hl] at this; simp at this
    | some b => rw [hl] at this; simp at this; rw [this]

theorem usesOk_spec (hu : usesOk ops us = true) : ∀ (i j : Nat) u v, us[i]? = some u → us[j]? = some v → i ≠ j → v.2 ≠ [] → (u.2 ≠ [] ∨ u.1 = none ∨ ∃ l q, u.1 = some l ∧ q ∈ l ∧ q ∈ v.2) →
    (j < i → Rch ops i j) ∧ (i < j → Rch ops j i) := by
  intro i j u v hi hj hne hv hc
  unfold usesOk at hu
  rw [Bool.or_eq_true] at hu
  rcases hu with hu | hu
  · have := List.all_eq_true.1 hu v (List.mem_of_getElem? hj)
    exact absurd (by simpa using this) hv
  · have h1 := List.all_eq_true.1 hu j (by simpa using (List.getElem?_eq_some_iff.1 hj).1)
    simp only [hj, Bool.or_eq_true] at h1
    rcases h1 with h1 | h1
    · exact absurd (by simpa using h1) hv
    · have h2 := List.all_eq_true.1 h1 i (by simpa using (List.getElem?_eq_some_iff.1 hi).1)
      simp only [hi, Bool.or_eq_true] at h2
      rcases h2 with (h2 | h2) | h2
      · exact absurd (by simpa using h2) hne
      · exfalso
        unfold freeU at h2
        rw [Bool.or_eq_true, Bool.and_eq_true] at h2
        rcases h2 with h2 | ⟨h2, h3⟩
        · exact hv (by simpa using h2)
        · rcases hc with hc | hc | ⟨l, q, hc, q1, q2⟩
          · exact hc (by simpa using h2)
          · rw [hc] at h3; cases h3
          · rw [hc] at h3
            have := List.all_eq_true.1 h3 q q1
            simp [q2] at this
      · exact ordB_spec h2

theorem Mid.closed' {l : Array Bool} (hM : Mid w0 Sa ops us Ts H V l a w) {i j : Nat} (hr : Rch ops i j) : Lst l i → Lst l j := by
  induction hr with
  | edge h => intro hi; exact hM.closed _ _ hi h
  | step h _ ih => intro hi; exact ih (hM.closed _ _ hi h)

/-- One operation, whenever its turn comes. -/
theorem mid_step (hE : EnvOk P E) (hGI : GI P w0) (hD : DrawOk ops) (hR : ∀ (k : Nat) o u, ops[k]? = some o → us[k]? = some u → Rc E P ops o (Ts k) (Tb k) (Ts (k + 1)) (H k) (H (k + 1)) (V k) (W k) u) (hus : us.length = ops.size) (hU : usesOk ops us = true)
    {l : Array Bool} {i : Nat} {K : Act → World → Prop} (hM : Mid w0 Sa ops us Ts H V l a w) (hi : i ∈ Region.ready .any ops l) (hK : ∀ a' w', Mid w0 Sa ops us Ts H V (l.setIfInBounds i true) a' w' → K a' w') : wpOp P ops Q i K a w := by
  obtain ⟨o, ho, hnl, hedge⟩ := ready_spec hi
  have hlt : i < ops.size := by
    rcases Nat.lt_or_ge i ops.size with h | h
    · exact h
    · rw [Array.getElem?_eq_none h] at ho; cases ho
  have hil : i < l.size := by rw [hM.size]; exact hlt
  have hu : us[i]? = some (us[i]'(by omega)) := by simp [hus, hlt]
  have rc := hR i o _ ho hu
  obtain ⟨S, m, c, hc, hI, hst, hw1, hw2⟩ := hM.mem
  have later : ∀ {j : Nat}, hasEdge ops j i = true → ¬ Lst l j := fun he hL => hnl (hM.closed _ _ hL he)
  have laterR : ∀ {j : Nat}, Rch ops j i → ¬ Lst l j := fun he hL => hnl (hM.closed' he hL)
  have hedgeR : ∀ {j : Nat}, Rch ops i j → Lst l j := by
    intro j hr
    cases hr with
    | edge h => exact hedge _ h
    | step h r => exact hM.closed' r (hedge _ h)
  -- the slots that it looks at
  have hlook : ∀ t ∈ o.looksAt ops, ∀ p, (Tb i)[t]? = some p → t < a.tmps.size ∧ Rep w S m p (a.tmps.getD t Go.undef) := by
    intro t ht p hp
    obtain ⟨q, q1, q2⟩ := rc.decs.2 t p hp
    have hlen : ∀ k, k ≤ ops.size → (Ts k).length = (Ts 0).length := by
      intro k
      induction k with
      | zero => intro _; rfl
      | succ k ih =>
        intro hk
        have hk' : k < ops.size := by omega
        have rk := hR k ops[k] (us[k]'(by omega)) (by simp [hk']) (by simp [hus, hk'])
        rw [rk.next]
        have : (PS.put (Tb k) ops[k].dst (V k)).length = (Tb k).length := by cases ops[k].dst <;> simp [PS.put]
        rw [this, rk.decs.1]; exact ih (by omega)
    have hts : t < a.tmps.size := by
      rw [← hM.tmps, ← hlen i (by omega)]
      exact (List.getElem?_eq_some_iff.1 q1).1
    refine ⟨hts, q2.rep ?_⟩
    rcases slot_src hR hus i (by omega) t q q1 with ⟨j, j1, oj, j2, j3, j4⟩ | ⟨j1, r, r1, r2⟩
    · have hj := (hD.look i j o oj t ho j2 (by omega) j3 ht).1 j1
      rcases hw1 t j oj j2 j3 (hedge j hj) with h1 | h1
      · exact j4.rep h1
      · exact absurd h1 (Nat.not_le.2 hts)
    · refine r2.rep (hw2 t (fun j oj j2 j3 => ?_) r r1)
      rcases Nat.lt_trichotomy j i with h | h | h
      · exact absurd j3 (j1 j h oj j2)
      · subst h; exact hnl
      · exact later ((hD.look i j o oj t ho j2 (by omega) j3 ht).2 h)
  have hopT : ∀ x ∈ o.op.operands, ∀ p, opnd (Tb i) x = some p → Rep w S m p (a.eval x) := by
    intro x hx p hp
    cases x with
    | tmp t =>
      refine (hlook t ?_ p hp).2
      exact List.mem_append_left _ (List.mem_filterMap.2 ⟨.tmp t, by simpa using hx, rfl⟩)
    | const c => simp [opnd] at hp; subst hp; exact .st _ _ (repS_ofV w S c)
    | global g => simp [opnd] at hp; subst hp; exact .st _ _ (.sc _)
    | func f => simp [opnd] at hp; subst hp; exact .st _ _ (.sc _)
  -- what is left to show when it has been carried out
  have done : ∀ {u : Value} {w' : World} {S' : Nat → Prop} {m' : Mp} {c' : Nat}, c' ≤ ops.size → Inv w0 Sa (H c') S' m' w' → Go1 w S m w' S' m' → Rep w' S' m' (V i) u → (∀ (j : Nat) uj, us[j]? = some uj → uj.2 ≠ [] → (Lst l j ∨ j = i ↔ j < c')) →
      Mid w0 Sa ops us Ts H V (l.setIfInBounds i true) (a.put o.dst u) w' := by
    intro u w' S' m' c' hc' hI' hG hr hst'
    refine ⟨by simp [hM.size], fun x y hx he => ?_, by rw [put_defers]; exact hM.defers, by rw [size_put]; exact hM.tmps, S', m', c', hc', hI', fun j oj j1 j2 => ?_, fun t j oj j1 j2 j3 => ?_, fun t hno p hp => ?_⟩
    · rw [lst_set hil] at hx ⊢
      rcases hx with hx | rfl
      · exact .inl (hM.closed x y hx he)
      · exact .inl (hedge y he)
    · rw [lst_set hil]; exact hst' j oj j1 j2
    · rw [lst_set hil] at j3
      by_cases hd : o.dst = some t
      · have : i = j := hD.dsts i j o oj t ho j1 hd j2
        subst this
        rw [hd, size_put]
        by_cases hts : t < a.tmps.size
        · rw [getD_put_same hts]; exact .inl hr
        · exact .inr (by omega)
      · rw [getD_put_other hd, size_put]
        rcases j3 with j3 | rfl
        · rcases hw1 t j oj j1 j2 j3 with h1 | h1
          · exact .inl (hG _ _ h1)
          · exact .inr h1
        · rw [ho] at j1; cases j1; exact absurd j2 hd
    · have hd : o.dst ≠ some t := fun hd => hno i o ho hd ((lst_set hil).2 (.inr rfl))
      rw [getD_put_other hd]
      exact hG _ _ (hw2 t (fun j oj j1 j2 j3 => hno j oj j1 j2 ((lst_set hil).2 (.inl j3))) p hp)
  -- what has been written is what stands in front
  have front : (us[i]'(by omega)).2 ≠ [] ∨ (us[i]'(by omega)).1 = none → (∀ (j : Nat) uj, us[j]? = some uj → uj.2 ≠ [] → j ≠ i → (Lst l j ↔ j < i)) := by
    intro hc j uj j1 j2 hne
    obtain ⟨q1, q2⟩ := usesOk_spec hU i j _ uj hu j1 (fun e => hne e.symm) j2 (hc.imp_right .inl)
    rcases Nat.lt_trichotomy j i with h | h | h
    · exact ⟨fun _ => h, fun _ => hedgeR (q1 h)⟩
    · exact absurd h hne
    · exact ⟨fun hL => absurd hL (laterR (q2 h)), fun h' => by omega⟩
  have same : (∀ (j : Nat) uj, us[j]? = some uj → uj.2 ≠ [] → j ≠ i → (Lst l j ↔ j < i)) → H i = H c := by
    intro hf
    rcases Nat.le_total i c with hic | hic
    · refine heap_const hR hus hic hc fun j h1 h2 uj j1 => Classical.byContradiction fun j2 => ?_
      have h3 := (hst j uj j1 j2).2 h2
      by_cases hji : j = i
      · subst hji; exact hnl h3
      · rw [hf j uj j1 j2 hji] at h3
        omega
    · refine (heap_const hR hus hic (by omega) fun j h1 h2 uj j1 => Classical.byContradiction fun j2 => ?_).symm
      have h3 := (hf j uj j1 j2 (by omega)).2 h2
      rw [hst j uj j1 j2] at h3
      omega
  have hwant := rc.want hlook
  unfold wpOp
  simp only [ho]
  -- an operation that writes nothing
  have stay : (us[i]'(by omega)).2 = [] → ∀ (j : Nat) uj, us[j]? = some uj → uj.2 ≠ [] → (Lst l j ∨ j = i ↔ j < c) := by
    intro hu0 j uj j1 j2
    rw [← hst j uj j1 j2]
    constructor
    · rintro (h | rfl)
      · exact h
      · rw [hu] at j1; cases j1; exact absurd hu0 j2
    · exact .inl
  have goes : (us[i]'(by omega)).2 ≠ [] → ∀ (j : Nat) uj, us[j]? = some uj → uj.2 ≠ [] → (Lst l j ∨ j = i ↔ j < i + 1) := by
    intro hu0 j uj j1 j2
    by_cases hji : j = i
    · subst hji; exact ⟨fun _ => Nat.lt_succ_self _, fun _ => .inr rfl⟩
    · rw [front (.inl hu0) j uj j1 j2 hji]; omega
  cases hw : W i with
  | false =>
    rw [hw] at hwant
    rw [if_neg (by rw [hwant]; simp)]
    obtain ⟨hv, hH, hu0⟩ := rc.no hw
    refine hK _ _ ?_
    exact done hc hI (Go1.refl _ _ _) (by rw [hv]; exact .st _ _ (.sc _)) (stay (by rw [hu0]))
  | true =>
    rw [hw] at hwant
    rw [if_pos hwant]
    obtain ⟨dr, s1, s2, ob1, he, hob, hro, _⟩ := rc.yes hw
    refine .inl ?_
    by_cases hu0 : (us[i]'(by omega)).2 = []
    · obtain ⟨_, hsame⟩ := hro hu0
      have hreads : Reads (us[i]'(by omega)).1 (H i) (H c) := by
        cases hu1 : (us[i]'(by omega)).1 with
        | none => exact same (front (.inr hu1))
        | some lr =>
          intro q hq
          have hqw : ∀ (j : Nat) uj, us[j]? = some uj → q ∈ uj.2 → (Lst l j ↔ j < i) := by
            intro j uj j1 j2
            have hne : uj.2 ≠ [] := fun h => by rw [h] at j2; cases j2
            have hji : i ≠ j := fun h => by subst h; rw [hu] at j1; cases j1; exact hne hu0
            obtain ⟨q1, q2⟩ := usesOk_spec hU i j _ uj hu j1 hji hne (.inr (.inr ⟨lr, q, hu1, hq, j2⟩))
            rcases Nat.lt_trichotomy j i with h | h | h
            · exact ⟨fun _ => h, fun _ => hedgeR (q1 h)⟩
            · exact absurd h.symm hji
            · exact ⟨fun hL => absurd hL (laterR (q2 h)), fun h' => by omega⟩
          rcases Nat.le_total i c with hic | hic
          · refine block_const hR hus hic hc fun j h1 h2 uj j1 j2 => ?_
            have h3 := (hst j uj j1 (fun h => by rw [h] at j2; cases j2)).2 h2
            rw [hqw j uj j1 j2] at h3
            omega
          · refine (block_const hR hus hic (by omega) fun j h1 h2 uj j1 j2 => ?_).symm
            have h3 := (hqw j uj j1 j2).2 h2
            rw [hst j uj j1 (fun h => by rw [h] at j2; cases j2)] at h3
            omega
      refine evalOp_sound hI hopT hE hGI (hsame (H c) hreads) hob ?_
      rintro u w' ⟨S', m', hI', hG, hr⟩
      exact hK _ _ (done hc hI' hG hr (stay hu0))
    · rw [same (front (.inl hu0))] at he
      refine evalOp_sound hI hopT hE hGI he hob ?_
      rintro u w' ⟨S', m', hI', hG, hr⟩
      exact hK _ _ (done (c' := i + 1) (by omega) hI' hG hr (goes hu0))

/-- When all have been carried out. -/
theorem mid_end (hR : ∀ (k : Nat) o u, ops[k]? = some o → us[k]? = some u → Rc E P ops o (Ts k) (Tb k) (Ts (k + 1)) (H k) (H (k + 1)) (V k) (W k) u) (hus : us.length = ops.size) {l : Array Bool}
    (hM : Mid w0 Sa ops us Ts H V l a w) (hall : ∀ i, i < ops.size → Lst l i) : St w0 Sa (Ts ops.size) (H ops.size) a w := by
  obtain ⟨S, m, c, hc, hI, hst, hw1, hw2⟩ := hM.mem
  have lt : ∀ {j : Nat} {oj : Oper}, ops[j]? = some oj → j < ops.size := by
    intro j oj hj
    rcases Nat.lt_or_ge j ops.size with h | h
    · exact h
    · rw [Array.getElem?_eq_none h] at hj; cases hj
  have hH : H c = H ops.size := heap_const hR hus hc (Nat.le_refl _) fun j h1 h2 uj j1 => Classical.byContradiction fun j2 => by
    have := (hst j uj j1 j2).1 (hall j h2)
    omega
  have hlen : ∀ k, k ≤ ops.size → (Ts k).length = (Ts 0).length := by
    intro k
    induction k with
    | zero => intro _; rfl
    | succ k ih =>
      intro hk
      have hk' : k < ops.size := by omega
      have rk := hR k ops[k] (us[k]'(by omega)) (by simp [hk']) (by simp [hus, hk'])
      rw [rk.next]
      have : (PS.put (Tb k) ops[k].dst (V k)).length = (Tb k).length := by cases ops[k].dst <;> simp [PS.put]
      rw [this, rk.decs.1]; exact ih (by omega)
  refine ⟨S, m, by rw [← hH]; exact hI, ⟨by rw [hlen _ (Nat.le_refl _)]; exact hM.tmps, fun t p hp => ?_⟩, hM.defers⟩
  have hts : t < a.tmps.size := by
    rw [← hM.tmps, ← hlen _ (Nat.le_refl _)]
    exact (List.getElem?_eq_some_iff.1 hp).1
  rcases slot_src hR hus ops.size (Nat.le_refl _) t p hp with ⟨j, j1, oj, j2, j3, j4⟩ | ⟨j1, r, r1, r2⟩
  · rcases hw1 t j oj j2 j3 (hall j j1) with h1 | h1
    · exact j4.rep h1
    · omega
  · exact r2.rep (hw2 t (fun j oj j2 j3 => absurd j3 (j1 j (lt j2) oj j2)) r r1)

/-- Where nothing is left that may come next, all is done. -/
theorem ready_nil (hD : DrawOk ops) {l : Array Bool} (hl : l.size = ops.size) (hr : Region.ready .any ops l = []) : ∀ i, i < ops.size → Lst l i := by
  intro i
  induction i using Nat.strongRecOn with
  | _ i ih =>
    intro hi
    refine Classical.byContradiction fun hn => ?_
    have : i ∈ Region.ready .any ops l := by
      unfold Region.ready
      rw [List.mem_filter]
      refine ⟨by simp [hi], ?_⟩
      have ho : ops[i]? = some ops[i] := by simp [hi]
      rw [Bool.and_eq_true]
      constructor
      · have hil : i < l.size := by omega
        unfold Lst at hn
        rw [Array.getElem?_eq_getElem hil] at hn
        rw [Array.getD_eq_getD_getElem?, Array.getElem?_eq_getElem hil]
        simpa using hn
      · rw [ho]
        simp only [Option.map_some, Option.getD_some]
        rw [Array.all_eq_true_iff_forall_mem]
        intro e he
        cases hb : Region.binds .any e with
        | false => rfl
        | true =>
          have hlt := hD.back i ops[i] ho e he hb
          have := ih e.on hlt (by omega)
          unfold Lst at this
          rw [Array.getD_eq_getD_getElem?, this]
          rfl
    rw [hr] at this
    cases this

theorem any_sound (hE : EnvOk P E) (hGI : GI P w0) (hD : DrawOk ops) (hR : ∀ (k : Nat) o u, ops[k]? = some o → us[k]? = some u → Rc E P ops o (Ts k) (Tb k) (Ts (k + 1)) (H k) (H (k + 1)) (V k) (W k) u) (hus : us.length = ops.size) (hU : usesOk ops us = true)
    (hQ : ∀ a' w', St w0 Sa (Ts ops.size) (H ops.size) a' w' → Q .normal a' w') :
    ∀ (fuel : Nat) (l : Array Bool) (a : Act) (w : World), Mid w0 Sa ops us Ts H V l a w → ((List.range ops.size).filter fun i => !(l.getD i true)).length ≤ fuel → wpAny P .any ops Q fuel l a w
  | 0, l, a, w, hM, hf => by
    have hall : ∀ i, i < ops.size → Lst l i := by
      intro i hi
      have hnil : ((List.range ops.size).filter fun i => !(l.getD i true)) = [] := List.eq_nil_of_length_eq_zero (by omega)
      have := List.filter_eq_nil_iff.1 hnil i (by simp [hi])
      have hil : i < l.size := by rw [hM.size]; exact hi
      unfold Lst
      rw [Array.getD_eq_getD_getElem?] at this
      rw [Array.getElem?_eq_getElem hil] at this ⊢
      simpa using this
    refine ⟨?_, hQ a w (mid_end hR hus hM hall)⟩
    unfold Region.ready
    rw [List.filter_eq_nil_iff]
    intro i hi
    have := hall i (by simpa using hi)
    unfold Lst at this
    rw [Array.getD_eq_getD_getElem?, this]
    simp
  | fuel + 1, l, a, w, hM, hf => by
    refine ⟨fun hr => hQ a w (mid_end hR hus hM (ready_nil hD hM.size hr)), fun i hi => ?_⟩
    obtain ⟨o, ho, hnl, _⟩ := ready_spec hi
    refine mid_step hE hGI hD hR hus hU hM hi fun a' w' hM' => any_sound hE hGI hD hR hus hU hQ fuel _ a' w' hM' ?_
    have hlt : i < ops.size := by
      rcases Nat.lt_or_ge i ops.size with h | h
      · exact h
      · rw [Array.getElem?_eq_none h] at ho; cases ho
    have hil : i < l.size := by rw [hM.size]; exact hlt
    -- one fewer is left
    have hsub : ((List.range ops.size).filter fun j => !((l.setIfInBounds i true).getD j true)) = ((List.range ops.size).filter fun j => !(l.getD j true)).filter (fun j => j != i) := by
      rw [List.filter_filter]
      apply List.filter_congr
      intro j _
      rw [Array.getD_eq_getD_getElem?, Array.getD_eq_getD_getElem?, Array.getElem?_setIfInBounds]
      by_cases h : i = j
      · subst h; simp [hil]
      · rw [if_neg h]
        have : (j != i) = true := by simpa using fun e => h e.symm
        rw [this]; simp
    rw [hsub]
    have hmem : i ∈ (List.range ops.size).filter fun j => !(l.getD j true) := by
      rw [List.mem_filter]
      refine ⟨by simp [hlt], ?_⟩
      unfold Lst at hnl
      rw [Array.getElem?_eq_getElem hil] at hnl
      rw [Array.getD_eq_getD_getElem?, Array.getElem?_eq_getElem hil]
      simpa using hnl
    have : (((List.range ops.size).filter fun j => !(l.getD j true)).filter (fun j => j != i)).length < ((List.range ops.size).filter fun j => !(l.getD j true)).length := by
      refine Nat.lt_of_le_of_ne (List.length_filter_le _ _) fun he => ?_
      have := List.length_filter_eq_length_iff.1 he i hmem
      simp at this
    omega

/-- A region that draws its order. -/
theorem draw_sound {id : Nat} (hE : EnvOk P E) (hGI : GI P w0) (hmix : P.follows .mixedOrders = true) (hdr : drawOk ops = true) (hr : runD P E ops ops.toList T h s = some (T', h', ob, s', us)) (hob : ∀ X ∈ ob, X.holds) (hU : usesOk ops us = true) (hSt : St w0 Sa T h a w)
    (hQ : ∀ a' w', St w0 Sa T' h' a' w' → Q .normal a' w') : (Code.region id ops true).wp P Q a w := by
  obtain ⟨Ts, Tb, H, V, W, e1, e2, e3, e4, e5, e6⟩ := runD_recs hr hob
  have hus : us.length = ops.size := by simpa using e5
  have hR : ∀ (k : Nat) o u, ops[k]? = some o → us[k]? = some u → Rc E P ops o (Ts k) (Tb k) (Ts (k + 1)) (H k) (H (k + 1)) (V k) (W k) u := fun k o u q1 q2 => e6 k o u (by simpa using q1) q2
  have hn : ops.toList.length = ops.size := by simp
  rw [hn] at e3 e4
  subst e3; subst e4
  obtain ⟨S, m, hI, hT, hd⟩ := hSt
  refine wp_region_any hmix ?_
  obtain ⟨hI', hG⟩ := drew_inv hI
  refine any_sound hE hGI (drawOk_spec hdr) hR hus hU hQ ops.size _ a w.drew ⟨by simp, fun i j hi => ?_, hd, by rw [e1]; exact hT.1, S, m, 0, Nat.zero_le _, by rw [e2]; exact hI', fun j o _ _ => ?_, fun t j o _ _ hj => ?_, fun t _ p hp => ?_⟩ ?_
  · unfold Lst at hi; rw [Array.getElem?_replicate] at hi; split at hi <;> cases hi
  · constructor
    · intro hj; unfold Lst at hj; rw [Array.getElem?_replicate] at hj; split at hj <;> cases hj
    · intro hj; exact absurd hj (Nat.not_lt_zero _)
  · unfold Lst at hj; rw [Array.getElem?_replicate] at hj; split at hj <;> cases hj
  · rw [e1] at hp; exact hG _ _ (hT.2 t p hp)
  · exact Nat.le_trans (List.length_filter_le _ _) (by simp)
end
end Go.PS
