/- Slots, decisions, and regions in the order of the text. -/
import Derived.Test.YtldmgdphelgffaaDoorPS12a
namespace Go.PS
open Go.RowKit

section
variable {E : Env} {P : Program} {w0 w : World} {Sa S : Nat → Prop} {h h' : Hp} {m : Mp} {a : Act} {o : Oper} {T T' : List PV} {s s' : Scr} {ob : List Ob} {v : PV} {ops : Array Oper} {Q : Exit → Act → World → Prop}

/-- The slots hold what the list says. -/
def TOk (w : World) (S : Nat → Prop) (m : Mp) (T : List PV) (a : Act) : Prop := T.length = a.tmps.size ∧ ∀ (t : Nat) p, T[t]? = some p → Rep w S m p (a.tmps.getD t Go.undef)

theorem opnd_rep (hT : TOk w S m T a) {x : Operand} {p : PV} (hx : opnd T x = some p) : Rep w S m p (a.eval x) := by
  cases x with
  | tmp t => exact hT.2 t p hx
  | const c => simp [opnd] at hx; subst hx; exact .st _ _ (repS_ofV w S c)
  | global g => simp [opnd] at hx; subst hx; exact .st _ _ (.sc _)
  | func f => simp [opnd] at hx; subst hx; exact .st _ _ (.sc _)

theorem TOk.put (hT : TOk w S m T a) {d : Option Tmp} {u : Value} (hr : Rep w S m v u) : TOk w S m (PS.put T d v) (a.put d u) := by
  cases d with
  | none => exact hT
  | some d =>
    refine ⟨by simp [PS.put, Act.put, hT.1], fun t p ht => ?_⟩
    simp only [PS.put, List.getElem?_set] at ht
    simp only [Act.put, Array.getD_eq_getD_getElem?, Array.getElem?_setIfInBounds]
    by_cases hdt : d = t
    · subst hdt
      by_cases hl : d < T.length
      · simp [hl] at ht
        subst ht
        have : d < a.tmps.size := by rw [← hT.1]; exact hl
        simp [this]
        exact hr
      · simp [hl] at ht
    · rw [if_neg hdt] at ht
      rw [if_neg hdt]
      have := hT.2 t p ht
      rwa [Array.getD_eq_getD_getElem?] at this

theorem TOk.go (hT : TOk w S m T a) {w' : World} {S' : Nat → Prop} {m' : Mp} (hG : Go1 w S m w' S' m') : TOk w' S' m' T a := ⟨hT.1, fun t p ht => hG _ _ (hT.2 t p ht)⟩

/-- A slot that holds a bool may be held as decided. -/
inductive Deci : PV → PV → Prop where
  | refl (p : PV) : Deci p p
  | bit (c : Bool) : Deci (.sc (.bool c)) (.bit c)

theorem Deci.trans {p q r : PV} (h1 : Deci p q) (h2 : Deci q r) : Deci p r := by
  cases h1 with
  | refl => exact h2
  | bit c => cases h2 with
    | refl => exact .bit c

theorem Deci.rep {p q : PV} (hd : Deci p q) {u : Value} (hr : Rep w S m p u) : Rep w S m q u := by
  cases hd with
  | refl => exact hr
  | bit c => rw [sc_inv hr]; exact .st _ _ (.bit c)

/-- T' is T but for decided bools. -/
def Decs (T T' : List PV) : Prop := T'.length = T.length ∧ ∀ (t : Nat) p', T'[t]? = some p' → ∃ p, T[t]? = some p ∧ Deci p p'

theorem Decs.refl (T : List PV) : Decs T T := ⟨rfl, fun _ p h => ⟨p, h, .refl p⟩⟩
theorem Decs.trans {A B C : List PV} (h1 : Decs A B) (h2 : Decs B C) : Decs A C :=
  ⟨h2.1.trans h1.1, fun t p h => let ⟨q, q1, q2⟩ := h2.2 t p h; let ⟨r, r1, r2⟩ := h1.2 t q q1; ⟨r, r1, r2.trans q2⟩⟩
theorem TOk.decs (hT : TOk w S m T a) (hd : Decs T T') : TOk w S m T' a :=
  ⟨hd.1.trans hT.1, fun t p h => let ⟨q, q1, q2⟩ := hd.2 t p h; q2.rep (hT.2 t q q1)⟩

theorem dec_sound {t : Nat} {b : Bool} (hd : dec T t s = some (b, T', ob, s')) (hob : ∀ X ∈ ob, X.holds) : Decs T T' ∧ T'[t]? = some (.bit b) := by
  have key : ∀ {c : Bool}, T[t]? = some (.sc (.bool c)) → Decs T (T.set t (.bit c)) ∧ (T.set t (.bit c))[t]? = some (.bit c) := by
    intro c hc
    have hl := (List.getElem?_eq_some_iff.1 hc).1
    refine ⟨⟨by simp, fun t' p' h' => ?_⟩, by simp [hl]⟩
    rw [List.getElem?_set] at h'
    by_cases htt : t = t'
    · subst htt
      simp [hl] at h'
      subst h'
      exact ⟨_, hc, .bit c⟩
    · rw [if_neg htt] at h'; exact ⟨p', h', .refl _⟩
  unfold dec at hd
  split at hd
  · rename_i c hc
    cases hd
    exact ⟨Decs.refl _, hc⟩
  · rename_i c hc
    split at hd
    · rename_i b' s2
      cases hd
      have : c = b := hob (.dec c b) (by simp)
      subst this
      exact key hc
    · split at hd
      · cases hd; exact key hc
      · cases hd; exact key hc
    · cases hd
      have : c = true := hob (.dec c true) (by simp)
      subst this
      exact key hc
    · cases hd
  · cases hd

theorem want_sound {b : Bool} (hw : wantP ops T o s = some (b, T', ob, s')) (hob : ∀ X ∈ ob, X.holds) : Decs T T' ∧ ∀ {w : World} {S : Nat → Prop} {m : Mp} {a : Act}, (∀ t ∈ o.looksAt ops, ∀ p, T'[t]? = some p → t < a.tmps.size ∧ Rep w S m p (a.tmps.getD t Go.undef)) → Region.wanted o (yielded ops a.tmps) = b := by
  unfold wantP at hw
  split at hw
  · rename_i hg
    cases hw
    exact ⟨Decs.refl _, fun _ => by simp [Region.wanted, hg]⟩
  · rename_i j want hg
    split at hw
    · rename_i t ht
      have hlook : t ∈ o.looksAt ops := by simp [Oper.looksAt, hg, ht]
      have getb : ∀ {a : Act} {x : Value}, t < a.tmps.size → a.tmps.getD t Go.undef = x → a.tmps[t]? = some x := by
        intro a x hl hx
        rw [Array.getD_eq_getD_getElem?] at hx
        rw [Array.getElem?_eq_getElem hl] at hx ⊢
        simpa using hx
      have isbool : ∀ {b0 : Bool} {T0 : List PV}, (dec T t s = some (b0, T', ob, s')) → b = (b0 == want) → Decs T T' ∧ ∀ {w : World} {S : Nat → Prop} {m : Mp} {a : Act}, (∀ t ∈ o.looksAt ops, ∀ p, T'[t]? = some p → t < a.tmps.size ∧ Rep w S m p (a.tmps.getD t Go.undef)) → Region.wanted o (yielded ops a.tmps) = b := by
        intro b0 T0 hd hbb
        obtain ⟨q1, q2⟩ := dec_sound hd hob
        refine ⟨q1, fun {w S m a} hT => ?_⟩
        obtain ⟨hl, hr⟩ := hT t hlook _ q2
        have := getb hl (bit_inv hr)
        simp only [Region.wanted, hg, yielded, ht, Option.bind_some, this, hbb]
        cases b0 <;> cases want <;> rfl
      split at hw
      · split at hw
        · rename_i b0 T1 ob1 s1 hd
          cases hw
          exact isbool (T0 := T) hd rfl
        · cases hw
      · split at hw
        · rename_i b0 T1 ob1 s1 hd
          cases hw
          exact isbool (T0 := T) hd rfl
        · cases hw
      · rename_i x hx hp
        cases hw
        refine ⟨Decs.refl _, fun {w S m a} hT => ?_⟩
        obtain ⟨hl, hr⟩ := hT t hlook _ hp
        have := getb hl (sc_inv hr)
        simp only [Region.wanted, hg, yielded, ht, Option.bind_some, this]
        split
        · rename_i bb hbb
          cases hbb
          exact absurd rfl (hx bb)
        · cases want <;> rfl
      · cases hw
    · cases hw

theorem pick_sound (hp : pickP T o s = some (T', ob, s')) (hob : ∀ X ∈ ob, X.holds) : Decs T T' := by
  unfold pickP at hp
  split at hp
  · split at hp
    · rename_i b T1 ob1 s1 hd
      cases hp
      exact (dec_sound hd hob).1
    · cases hp
  · cases hp
    exact Decs.refl _

/-- What holds between the statements of a body. -/
def St (w0 : World) (Sa : Nat → Prop) (T : List PV) (h : Hp) (a : Act) (w : World) : Prop := ∃ S m, Inv w0 Sa h S m w ∧ TOk w S m T a ∧ a.defers = []

theorem put_defers (a : Act) (d : Option Tmp) (u : Value) : (a.put d u).defers = a.defers := by cases d <;> rfl

theorem unmux_ok (hT : TOk w S m T a) {t : Nat} {want c : Bool} (hc : c = want) (ho : ∀ x ∈ unOwe t want c T, x.1 = x.2) : TOk w S m (unmux t want T) a := by
  refine ⟨by simp [unmux, hT.1], fun k p hk => ?_⟩
  unfold unmux at hk
  rw [List.getElem?_map] at hk
  cases hq : T[k]? with
  | none => rw [hq] at hk; cases hk
  | some q =>
    rw [hq] at hk
    simp only [Option.map_some, Option.some.injEq] at hk
    have hr := hT.2 k q hq
    have mem : ∀ {T : List PV} {k t' : Nat} {w' c' : Bool} {p' : PV}, T[k]? = some (.mux t' w' c' p') → t' = t ∧ w' = want → (c', c) ∈ unOwe t want c T := by
      intro T
      induction T with
      | nil => intro k t' w' c' p' h; simp at h
      | cons x r ih =>
        intro k t' w' c' p' h hw
        cases k with
        | zero =>
          simp at h
          subst h
          simp only [unOwe, if_pos hw]
          exact List.mem_cons_self
        | succ k =>
          simp at h
          have := ih h hw
          cases x with
          | mux t2 w2 c2 p2 =>
            simp only [unOwe]
            split
            · exact List.mem_cons_of_mem _ this
            · exact this
          | _ => exact this
    cases q with
    | mux t' w' c' p' =>
      simp only at hk
      by_cases hw : t' = t ∧ w' = want
      · rw [if_pos hw] at hk
        subst hk
        have e : c' = c := ho _ (mem hq hw)
        cases hr with
        | st _ _ h => cases h
        | mux _ _ _ _ _ h => exact h (by rw [e, hc, hw.2])
      · rw [if_neg hw] at hk
        subst hk
        exact hr
    | _ => simp only at hk; subst hk; exact hr

theorem merge_rep {c : Bool} {va vb v : PV} {x y : Value} (hm : mergeP c va vb = some v) (ha : c = true → Rep w S m va x) (hb : c = false → Rep w S m vb y) : Rep w S m v (if c = true then x else y) := by
  have key : ∀ {va vb : PV} {X Y : Value}, (c = true → Rep w S m va x) → (c = false → Rep w S m vb y) → (∀ u, Rep w S m va u → u = X) → (∀ u, Rep w S m vb u → u = Y) → Rep w S m (.sc (bif c then X else Y)) (if c = true then x else y) := by
    intro va vb X Y h1 h2 h3 h4
    cases c with
    | true => rw [if_pos rfl, h3 _ (h1 rfl)]; exact .st _ _ (.sc _)
    | false => rw [if_neg (by simp), h4 _ (h2 rfl)]; exact .st _ _ (.sc _)
  have cb : ∀ (x y : Bool), (bif c then Value.bool x else Value.bool y) = Value.bool (bif c then x else y) := by intro x y; cases c <;> rfl
  unfold mergeP at hm
  split at hm
  · cases hm; rw [← cb]; exact key ha hb (fun u h => sc_inv h) (fun u h => sc_inv h)
  · cases hm; rw [← cb]; exact key ha hb (fun u h => sc_inv h) (fun u h => bit_inv h)
  · cases hm; rw [← cb]; exact key ha hb (fun u h => bit_inv h) (fun u h => sc_inv h)
  · cases hm; rw [← cb]; exact key ha hb (fun u h => bit_inv h) (fun u h => bit_inv h)
  · split at hm
    · rename_i k x1 k' y1 hk
      cases hm
      subst hk
      have e : (bif c then Value.int k x1 else Value.int k y1) = Value.int k (bif c then x1 else y1) := by cases c <;> rfl
      rw [← e]; exact key ha hb (fun u h => sc_inv h) (fun u h => sc_inv h)
    · cases hm
  · rename_i x1 y1
    cases hm
    have e : (bif c then Value.string x1 else Value.string y1) = Value.string (bif c then x1 else y1) := by cases c <;> rfl
    rw [← e]; exact key ha hb (fun u h => sc_inv h) (fun u h => sc_inv h)
  · cases hm

theorem spec_sound {i : Nat} {K : Act → World → Prop} (hi : ops[i]? = some o) (hE : EnvOk P E) (hGI : GI P w0) (hs : specP P E ops T h o s = some (T', h', ob, s')) (hob : ∀ X ∈ ob, X.holds) (hSt : St w0 Sa T h a w) (hK : ∀ a' w', St w0 Sa T' h' a' w' → K a' w') :
    wpOp P ops Q i K a w := by
  obtain ⟨S, m, hI, hT, hd⟩ := hSt
  have slot : ∀ {t : Nat} {c : Bool}, T[t]? = some (.sc (.bool c)) → a.tmps[t]? = some (.bool c) := by
    intro t c ht
    have hl : t < a.tmps.size := by rw [← hT.1]; exact (List.getElem?_eq_some_iff.1 ht).1
    have := sc_inv (hT.2 t _ ht)
    rw [Array.getD_eq_getD_getElem?, Array.getElem?_eq_getElem hl] at this
    rw [Array.getElem?_eq_getElem hl]
    simpa using this
  unfold wpOp
  simp only [hi]
  unfold specP at hs
  split at hs
  · split at hs
    · rename_i j want hg
      split at hs
      · rename_i t ht
        split at hs
        · rename_i c hc
          split at hs
          · cases hs
          · rename_i hst
            split at hs
            · rename_i v h1 ob1 s1 he
              cases hs
              have hbool := slot hc
              have hwant : Region.wanted o (yielded ops a.tmps) = (c == want) := by
                simp only [Region.wanted, hg, yielded, ht, Option.bind_some, hbool]
                cases c <;> cases want <;> rfl
              have owed : ∀ X, X ∈ ob1 → c = want → X := fun X hX hcw => (hob (.owe (c = want → X)) (List.mem_append_right _ (List.mem_map.2 ⟨X, hX, rfl⟩)) : c = want → X) hcw
              by_cases hcw : c = want
              · rw [if_pos (by rw [hwant, hcw]; simp)]
                have hT2 := unmux_ok hT hcw (fun x hx => hob (.same x.1 x.2) (List.mem_append_left _ (List.mem_map.2 ⟨x, hx, rfl⟩)))
                have hns : isStore o = false := by simpa using hst
                obtain ⟨rfl, _⟩ := dr_same hns he
                refine .inl (evalOp_sound hI (fun x _ p hx => opnd_rep hT2 hx) hE hGI he (fun X hX => owed X hX hcw) ?_)
                rintro v' w' ⟨S', m', hI', hG, hr⟩
                exact hK _ _ ⟨S', m', hI', (hT.go hG).put (.mux t want c v v' fun _ => hr), by rw [put_defers]; exact hd⟩
              · rw [if_neg (by rw [hwant]; simpa using hcw)]
                exact hK _ _ ⟨S, m, hI, hT.put (.mux t want c v _ fun h => absurd h hcw), by rw [put_defers]; exact hd⟩
            · cases hs
        · cases hs
      · cases hs
    · rename_i hg
      split at hs
      · rename_i t x y hop
        split at hs
        · rename_i c hc
          split at hs
          · rename_i va vb hva hvb
            split at hs
            · rename_i v hv
              cases hs
              have hwant : Region.wanted o (yielded ops a.tmps) = true := by simp [Region.wanted, hg]
              rw [if_pos hwant]
              have hcv : a.eval (.tmp t) = .bool c := sc_inv (hT.2 t _ hc)
              have h1 : c = true → Rep w S m va (a.eval x) := fun e => opnd_rep (unmux_ok hT e (fun x hx => hob (.same x.1 x.2) (List.mem_map.2 ⟨x, List.mem_append_left _ hx, rfl⟩))) hva
              have h2 : c = false → Rep w S m vb (a.eval y) := fun e => opnd_rep (unmux_ok hT e (fun x hx => hob (.same x.1 x.2) (List.mem_map.2 ⟨x, List.mem_append_right _ hx, rfl⟩))) hvb
              have hr := merge_rep hv h1 h2
              refine .inl (wp_value (v' := if c = true then a.eval x else a.eval y) ?_ (hK _ _ ⟨S, m, hI, hT.put hr, by rw [put_defers]; exact hd⟩))
              cases c <;> simp [execOp, hop, hcv, asBool]
            · cases hs
          · cases hs
        · cases hs
      · cases hs
  · cases hs

theorem step_sound {dr : Bool} {i : Nat} {K : Act → World → Prop} (hi : ops[i]? = some o) (hE : EnvOk P E) (hGI : GI P w0) (hs : stepOp P E dr ops T h o s = some (T', h', ob, s')) (hob : ∀ X ∈ ob, X.holds) (hSt : St w0 Sa T h a w) (hK : ∀ a' w', St w0 Sa T' h' a' w' → K a' w') :
    wpOp P ops Q i K a w := by
  unfold stepOp at hs
  split at hs
  · rename_i r hsp
    cases hs
    exact spec_sound hi hE hGI hsp hob hSt hK
  obtain ⟨S, m, hI, hT, hd⟩ := hSt
  unfold wpOp
  simp only [hi]
  split at hs
  · rename_i T1 ob1 s1 hw
    split at hs
    · rename_i T2 ob2 s2 hp
      split at hs
      · rename_i v h2 ob3 s3 he
        cases hs
        obtain ⟨d1, d2⟩ := want_sound hw (fun X hX => hob X (by simp [hX]))
        have d3 := pick_sound hp (fun X hX => hob X (by simp [hX]))
        have hT1 := hT.decs d1
        have hT2 := hT1.decs d3
        have hwant : Region.wanted o (yielded ops a.tmps) = true := d2 (w := w) (S := S) (m := m) (fun t _ p hp => ⟨by rw [← hT1.1]; exact (List.getElem?_eq_some_iff.1 hp).1, hT1.2 t p hp⟩)
        rw [if_pos hwant]
        refine .inl (evalOp_sound hI (fun x _ p hx => opnd_rep hT2 hx) hE hGI he (fun X hX => hob (.owe X) (List.mem_append_right _ (List.mem_map.2 ⟨X, hX, rfl⟩))) ?_)
        rintro v' w' ⟨S', m', hI', hG, hr⟩
        exact hK _ _ ⟨S', m', hI', (hT2.go hG).put hr, by rw [put_defers]; exact hd⟩
      · cases hs
    · cases hs
  · rename_i T1 ob1 s1 hw
    cases hs
    obtain ⟨d1, d2⟩ := want_sound hw hob
    have hT1 := hT.decs d1
    have hwant : Region.wanted o (yielded ops a.tmps) = false := d2 (w := w) (S := S) (m := m) (fun t _ p hp => ⟨by rw [← hT1.1]; exact (List.getElem?_eq_some_iff.1 hp).1, hT1.2 t p hp⟩)
    rw [if_neg (by rw [hwant]; simp)]
    exact hK _ _ ⟨S, m, hI, hT1.put (.st _ _ (.sc _)), by rw [put_defers]; exact hd⟩
  · cases hs

theorem runOps_sound (hE : EnvOk P E) (hGI : GI P w0) {dr : Bool} : ∀ {os : List Oper} {i : Nat} {T T' : List PV} {h h' : Hp} {s s' : Scr} {ob : List Ob} {a : Act} {w : World}, ops.toList.drop i = os → runOps P E dr ops os T h s = some (T', h', ob, s') → (∀ X ∈ ob, X.holds) →
    St w0 Sa T h a w → (∀ a' w', St w0 Sa T' h' a' w' → Q .normal a' w') → wpOps P ops Q (List.range' i os.length) a w
  | [], i, T, T', h, h', s, s', ob, a, w, _, hr, _, hSt, hQ => by
    simp [runOps] at hr
    obtain ⟨rfl, rfl, _⟩ := hr
    exact hQ a w hSt
  | o :: os, i, T, T', h, h', s, s', ob, a, w, hos, hr, hob, hSt, hQ => by
    simp only [runOps] at hr
    split at hr
    · rename_i T1 h1 ob1 s1 hs
      split at hr
      · rename_i T2 h2 ob2 s2 hr2
        cases hr
        have hi : ops[i]? = some o := by
          have : (ops.toList.drop i)[0]? = some o := by rw [hos]; rfl
          rw [List.getElem?_drop] at this
          simpa using this
        have hos' : ops.toList.drop (i + 1) = os := by
          have : (ops.toList.drop i).drop 1 = os := by rw [hos]; rfl
          rw [List.drop_drop] at this
          exact this
        rw [List.length_cons, List.range'_succ, wpOps_cons]
        refine step_sound hi hE hGI hs (fun X hX => hob X (by simp [hX])) hSt fun a' w' hSt' => ?_
        exact runOps_sound hE hGI hos' hr2 (fun X hX => hob X (by simp [hX])) hSt' hQ
      · cases hr
    · cases hr

/-- A region that does not draw its order. -/
theorem region_sound {id : Nat} (hE : EnvOk P E) (hGI : GI P w0) (hr : runOps P E false ops ops.toList T h s = some (T', h', ob, s')) (hob : ∀ X ∈ ob, X.holds) (hSt : St w0 Sa T h a w) (hQ : ∀ a' w', St w0 Sa T' h' a' w' → Q .normal a' w') :
    (Code.region id ops false).wp P Q a w := by
  refine wp_region ?_
  have := runOps_sound hE hGI (Q := Q) (i := 0) (by simp) hr hob hSt hQ
  rw [List.range_eq_range']
  simpa using this
end
end Go.PS
