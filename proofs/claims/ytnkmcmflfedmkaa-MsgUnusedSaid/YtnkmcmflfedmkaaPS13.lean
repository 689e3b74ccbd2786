/- Slots, decisions, and regions in the order of the text. -/
import Derived.Test.YtnkmcmflfedmkaaPS12
namespace Go.PS
open Go.RowKit

section
variable {E : Env} {P : Program} {w0 w : World} {Sa S : Nat → Prop} {h h' : Hp} {m : Mp} {a : Act} {o : Oper} {T T' : List PV} {s s' : Scr} {ob : List Ob} {v : PV} {ops : Array Oper} {Q : Exit → Act → World → Prop}

/-- The slots hold what the list says. -/
def TOk (w : World) (S : Nat → Prop) (m : Mp) (T : List PV) (a : Act) : Prop := T.length = a.tmps.size ∧ ∀ (t : Nat) p, T[t]? = some p → Rep w S m p (a.tmps.getD t Go.undef)

theorem opnd_rep (hT : TOk w S m T a) {x : Operand} {p : PV} (hx : opnd T x = some p) : Rep w S m p (a.eval x) := by
  cases x with
  | tmp t => exact hT.2 t p hx
  | const c => simp [opnd] at hx; subst hx; exact .st _ _ (repS_ofV w S c)
  | global g => simp [opnd] at hx; subst hx; exact .st _ _ (.sc _)
  | func f => simp [opnd] at hx; subst hx; exact .st _ _ (.sc _)

theorem TOk.put (hT : TOk w S m T a) {d : Option Tmp} {u : Value} (hr : Rep w S m v u) : TOk w S m (PS.put T d v) (a.put d u) := by
  cases d with
  | none => exact hT
  | some d =>
    refine ⟨by simp [PS.put, Act.put, hT.1], fun t p ht => ?_⟩
    simp only [PS.put, List.getElem?_set] at ht
    simp only [Act.put, Array.getD_eq_getD_getElem?, Array.getElem?_setIfInBounds]
    by_cases hdt : d = t
    · subst hdt
      by_cases hl : d < T.length
      · simp [hl] at ht
        subst ht
        have : d < a.tmps.size := by rw [← hT.1]; exact hl
        simp [this]
        exact hr
      · simp [hl] at ht
    · rw [if_neg hdt] at ht
      rw [if_neg hdt]
      have := hT.2 t p ht
      rwa [Array.getD_eq_getD_getElem?] at this

theorem TOk.go (hT : TOk w S m T a) {w' : World} {S' : Nat → Prop} {m' : Mp} (hG : Go1 w S m w' S' m') : TOk w' S' m' T a := ⟨hT.1, fun t p ht => hG _ _ (hT.2 t p ht)⟩

/-- A slot that holds a bool may be held as decided. -/
inductive Deci : PV → PV → Prop where
  | refl (p : PV) : Deci p p
  | bit (c : Bool) : Deci (.sc (.bool c)) (.bit c)

theorem Deci.trans {p q r : PV} (h1 : Deci p q) (h2 : Deci q r) : Deci p r := by
  cases h1 with
  | refl => exact h2
  | bit c => cases h2 with
    | refl => exact .bit c

theorem Deci.rep {p q : PV} (hd : Deci p q) {u : Value} (hr : Rep w S m p u) : Rep w S m q u := by
  cases hd with
  | refl => exact hr
  | bit c => rw [sc_inv hr]; exact .st _ _ (.bit c)

/-- T' is T but for decided bools. -/
def Decs (T T' : List PV) : Prop := T'.length = T.length ∧ ∀ (t : Nat) p', T'[t]? = some p' → ∃ p, T[t]? = some p ∧ Deci p p'

theorem Decs.refl (T : List PV) : Decs T T := ⟨rfl, fun _ p h => ⟨p, h, .refl p⟩⟩
theorem Decs.trans {A B C : List PV} (h1 : Decs A B) (h2 : Decs B C) : Decs A C :=
  ⟨h2.1.trans h1.1, fun t p h => let ⟨q, q1, q2⟩ := h2.2 t p h; let ⟨r, r1, r2⟩ := h1.2 t q q1; ⟨r, r1, r2.trans q2⟩⟩
theorem TOk.decs (hT : TOk w S m T a) (hd : Decs T T') : TOk w S m T' a :=
  ⟨hd.1.trans hT.1, fun t p h => let ⟨q, q1, q2⟩ := hd.2 t p h; q2.rep (hT.2 t q q1)⟩

theorem dec_sound {t : Nat} {b : Bool} (hd : dec T t s = some (b, T', ob, s')) (hob : ∀ X ∈ ob, X.holds) : Decs T T' ∧ T'[t]? = some (.bit b) := by
  have key : ∀ {c : Bool}, T[t]? = some (.sc (.bool c)) → Decs T (T.set t (.bit c)) ∧ (T.set t (.bit c))[t]? = some (.bit c) := by
    intro c hc
    have hl := (List.getElem?_eq_some_iff.1 hc).1
    refine ⟨⟨by simp, fun t' p' h' => ?_⟩, by simp [hl]⟩
    rw [List.getElem?_set] at h'
    by_cases htt : t = t'
    · subst htt
      simp [hl] at h'
      subst h'
      exact ⟨_, hc, .bit c⟩
    · rw [if_neg htt] at h'; exact ⟨p', h', .refl _⟩
  unfold dec at hd
  split at hd
  · rename_i c hc
    cases hd
    exact ⟨Decs.refl _, hc⟩
  · rename_i c hc
    split at hd
    · rename_i b' s2
      cases hd
      have : c = b := hob (.dec c b) (by simp)
      subst this
      exact key hc
    · split at hd
      · cases hd; exact key hc
      · cases hd; exact key hc
    · cases hd
      have : c = true := hob (.dec c true) (by simp)
      subst this
      exact key hc
    · cases hd
  · cases hd

theorem want_sound {b : Bool} (hw : wantP ops T o s = some (b, T', ob, s')) (hob : ∀ X ∈ ob, X.holds) : Decs T T' ∧ ∀ {w : World} {S : Nat → Prop} {m : Mp} {a : Act}, (∀ t ∈ o.looksAt ops, ∀ p, T'[t]? = some p → t < a.tmps.size ∧ Rep w S m p (a.tmps.getD t Go.undef)) → Region.wanted o (yielded ops a.tmps) = b := by
  unfold wantP at hw
  split at hw
  · rename_i hg
    cases hw
    exact ⟨Decs.refl _, fun _ => by simp [Region.wanted, hg]⟩
  · rename_i j want hg
    split at hw
    · rename_i t ht
      have hlook : t ∈ o.looksAt ops := by simp [Oper.looksAt, hg, ht]
      have getb : ∀ {a : Act} {x : Value}, t < a.tmps.size → a.tmps.getD t Go.undef = x → a.tmps[t]? = some x := by
        intro a x hl hx
        rw [Array.getD_eq_getD_getElem?] at hx
        rw [Array.getElem?_eq_getElem hl] at hx ⊢
        simpa using hx
      have isbool : ∀ {b0 : Bool} {T0 : List PV}, (dec T t s = some (b0, T', ob, s')) → b = (b0 == want) → Decs T T' ∧ ∀ {w : World} {S : Nat → Prop} {m : Mp} {a : Act}, (∀ t ∈ o.looksAt ops, ∀ p, T'[t]? = some p → t < a.tmps.size ∧ Rep w S m p (a.tmps.getD t Go.undef)) → Region.wanted o (yielded ops a.tmps) = b := by
        intro b0 T0 hd hbb
        obtain ⟨q1, q2⟩ := dec_sound hd hob
        refine ⟨q1, fun {w S m a} hT => ?_⟩
        obtain ⟨hl, hr⟩ := hT t hlook _ q2
        have := getb hl (bit_inv hr)
        simp only [Region.wanted, hg, yielded, ht, Option.bind_some, this, hbb]
        cases b0 <;> cases want <;> rfl
      split at hw
      · split at hw
        · rename_i b0 T1 ob1 s1 hd
          cases hw
          exact isbool (T0 := T) hd rfl
        · cases hw
      · split at hw
        · rename_i b0 T1 ob1 s1 hd
          cases hw
          exact isbool (T0 := T) hd rfl
        · cases hw
      · rename_i x hx hp
        cases hw
        refine ⟨Decs.refl _, fun {w S m a} hT => ?_⟩
        obtain ⟨hl, hr⟩ := hT t hlook _ hp
        have := getb hl (sc_inv hr)
        simp only [Region.wanted, hg, yielded, ht, Option.bind_some, this]
        split
        · rename_i bb hbb
          cases hbb
          exact absurd rfl (hx bb)
        · cases want <;> rfl
      · cases hw
    · cases hw

theorem pick_sound (hp : pickP T o s = some (T', ob, s')) (hob : ∀ X ∈ ob, X.holds) : Decs T T' := by
  unfold pickP at hp
  split at hp
  · split at hp
    · rename_i b T1 ob1 s1 hd
      cases hp
      exact (dec_sound hd hob).1
    · cases hp
  · cases hp
    exact Decs.refl _

/-- What holds between the statements of a body. -/
def St (w0 : World) (Sa : Nat → Prop) (T : List PV) (h : Hp) (a : Act) (w : World) : Prop := ∃ S m, Inv w0 Sa h S m w ∧ TOk w S m T a ∧ a.defers = []

theorem put_defers (a : Act) (d : Option Tmp) (u : Value) : (a.put d u).defers = a.defers := by cases d <;> rfl

theorem step_sound {dr : Bool} {i : Nat} {K : Act → World → Prop} (hi : ops[i]? = some o) (hE : EnvOk P E) (hs : stepOp P E dr ops T h o s = some (T', h', ob, s')) (hob : ∀ X ∈ ob, X.holds) (hSt : St w0 Sa T h a w) (hK : ∀ a' w', St w0 Sa T' h' a' w' → K a' w') :
    wpOp P ops Q i K a w := by
  obtain ⟨S, m, hI, hT, hd⟩ := hSt
  unfold stepOp at hs
  unfold wpOp
  simp only [hi]
  split at hs
  · rename_i T1 ob1 s1 hw
    split at hs
    · rename_i T2 ob2 s2 hp
      split at hs
      · rename_i v h2 ob3 s3 he
        cases hs
        obtain ⟨d1, d2⟩ := want_sound hw (fun X hX => hob X (by simp [hX]))
        have d3 := pick_sound hp (fun X hX => hob X (by simp [hX]))
        have hT1 := hT.decs d1
        have hT2 := hT1.decs d3
        have hwant : Region.wanted o (yielded ops a.tmps) = true := d2 (w := w) (S := S) (m := m) (fun t _ p hp => ⟨by rw [← hT1.1]; exact (List.getElem?_eq_some_iff.1 hp).1, hT1.2 t p hp⟩)
        rw [if_pos hwant]
        refine .inl (evalOp_sound hI (fun x _ p hx => opnd_rep hT2 hx) hE he (fun X hX => hob (.owe X) (List.mem_append_right _ (List.mem_map.2 ⟨X, hX, rfl⟩))) ?_)
        rintro v' w' ⟨S', m', hI', hG, hr⟩
        exact hK _ _ ⟨S', m', hI', (hT2.go hG).put hr, by rw [put_defers]; exact hd⟩
      · cases hs
    · cases hs
  · rename_i T1 ob1 s1 hw
    cases hs
    obtain ⟨d1, d2⟩ := want_sound hw hob
    have hT1 := hT.decs d1
    have hwant : Region.wanted o (yielded ops a.tmps) = false := d2 (w := w) (S := S) (m := m) (fun t _ p hp => ⟨by rw [← hT1.1]; exact (List.getElem?_eq_some_iff.1 hp).1, hT1.2 t p hp⟩)
    rw [if_neg (by rw [hwant]; simp)]
    exact hK _ _ ⟨S, m, hI, hT1.put (.st _ _ (.sc _)), by rw [put_defers]; exact hd⟩
  · cases hs

theorem runOps_sound (hE : EnvOk P E) {dr : Bool} : ∀ {os : List Oper} {i : Nat} {T T' : List PV} {h h' : Hp} {s s' : Scr} {ob : List Ob} {a : Act} {w : World}, ops.toList.drop i = os → runOps P E dr ops os T h s = some (T', h', ob, s') → (∀ X ∈ ob, X.holds) →
    St w0 Sa T h a w → (∀ a' w', St w0 Sa T' h' a' w' → Q .normal a' w') → wpOps P ops Q (List.range' i os.length) a w
  | [], i, T, T', h, h', s, s', ob, a, w, _, hr, _, hSt, hQ => by
    simp [runOps] at hr
    obtain ⟨rfl, rfl, _⟩ := hr
    exact hQ a w hSt
  | o :: os, i, T, T', h, h', s, s', ob, a, w, hos, hr, hob, hSt, hQ => by
    simp only [runOps] at hr
    split at hr
    · rename_i T1 h1 ob1 s1 hs
      split at hr
      · rename_i T2 h2 ob2 s2 hr2
        cases hr
        have hi : ops[i]? = some o := by
          have : (ops.toList.drop i)[0]? = some o := by rw [hos]; rfl
          rw [List.getElem?_drop] at this
          simpa using this
        have hos' : ops.toList.drop (i + 1) = os := by
          have : (ops.toList.drop i).drop 1 = os := by rw [hos]; rfl
          rw [List.drop_drop] at this
          exact this
        rw [List.length_cons, List.range'_succ, wpOps_cons]
        refine step_sound hi hE hs (fun X hX => hob X (by simp [hX])) hSt fun a' w' hSt' => ?_
        exact runOps_sound hE hos' hr2 (fun X hX => hob X (by simp [hX])) hSt' hQ
      · cases hr
    · cases hr

/-- A region that does not draw its order. -/
theorem region_sound {id : Nat} (hE : EnvOk P E) (hr : runOps P E false ops ops.toList T h s = some (T', h', ob, s')) (hob : ∀ X ∈ ob, X.holds) (hSt : St w0 Sa T h a w) (hQ : ∀ a' w', St w0 Sa T' h' a' w' → Q .normal a' w') :
    (Code.region id ops false).wp P Q a w := by
  refine wp_region ?_
  have := runOps_sound hE (Q := Q) (i := 0) (by simp) hr hob hSt hQ
  rw [List.range_eq_range']
  simpa using this
end
end Go.PS
