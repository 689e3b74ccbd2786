/- An operation that leaves the heap gives the same over every heap that is one with it where the operation reads. -/
import Derived.Test.YtldmgdphelgffaaDoorPS12
namespace Go.PS
open Go.RowKit

section
variable {P : Program} {w0 w : World} {Sa S : Nat → Prop} {h h' : Hp} {m : Mp} {a : Act} {o : Oper} {T T' : List PV} {s s' : Scr} {ob : List Prop} {v : PV} {ops : Array Oper} {Q : Exit → Act → World → Prop} {E : Env}

theorem kill_nil (h : Hp) : kill h [] = h := by
  apply List.ext_getElem?
  intro i
  rw [kill_get]
  cases h[i]? <;> simp

/-- What is read of the heap. -/
def Reads (u : Option (List Nat)) (h1 h2 : Hp) : Prop :=
  match u with
  | none => h1 = h2
  | some l => ∀ id ∈ l, h1[id]? = h2[id]?

theorem exp_stab {h1 h2 : Hp} {n : Nat} {p : PV} (hs : stabV p = true) : exp h1 n p = exp h2 n p := by
  have cell : ∀ {n : Nat} {p : PV}, stabCell p = true → exp h1 n p = exp h2 n p := by
    intro n p hs
    cases n with
    | zero => rfl
    | succ n => cases p <;> first | rfl | cases hs
  cases n with
  | zero => rfl
  | succ n =>
    cases p with
    | agg cs =>
      have : ∀ {cs : List PV}, cs.all stabCell = true → expL (exp h1 n) cs = expL (exp h2 n) cs := by
        intro cs
        induction cs with
        | nil => intro _; rfl
        | cons c cs ih =>
          intro hc
          simp only [List.all_cons, Bool.and_eq_true] at hc
          simp only [expL]
          rw [cell hc.1, ih hc.2]
      simp only [exp, this hs]
    | _ => first | rfl | cases hs

theorem expL_stab {h1 h2 : Hp} {n : Nat} : ∀ {cs : List PV}, (∀ c ∈ cs, stabV c = true) → expL (exp h1 n) cs = expL (exp h2 n) cs
  | [], _ => rfl
  | c :: cs, hc => by
    simp only [expL]
    rw [exp_stab (h2 := h2) (hc c (by simp)), expL_stab fun c' h' => hc c' (by simp [h'])]

theorem flatMap_congr {α β : Type} {f g : α → List β} : ∀ {l : List α}, (∀ x ∈ l, f x = g x) → l.flatMap f = l.flatMap g
  | [], _ => rfl
  | x :: l, h => by simp only [List.flatMap_cons]; rw [h x (by simp), flatMap_congr fun y hy => h y (by simp [hy])]

theorem expO_stab {h1 h2 : Hp} {n : Nat} {p : PV} (hs : stabV p = true) : expO h1 n p = expO h2 n p := by
  have cell : ∀ {n : Nat} {p : PV}, stabCell p = true → expO h1 n p = expO h2 n p := by
    intro n p hs
    cases n with
    | zero => rfl
    | succ n => cases p <;> first | rfl | cases hs
  cases n with
  | zero => rfl
  | succ n =>
    cases p with
    | agg cs => exact flatMap_congr fun c hc => cell (List.all_eq_true.1 hs c hc)
    | _ => first | rfl | cases hs

theorem plain_heap (he : plainP P T h o s = some (v, h', ob, s')) : h' = h ∧ ∀ h2, plainP P T h2 o s = some (v, h2, ob, s') := by
  unfold plainP at he
  split at he
  · cases he
  · rename_i hsel
    split at he
    · rename_i hall
      split at he
      · rename_i v1 hp
        cases he
        refine ⟨rfl, fun h2 => ?_⟩
        unfold plainP
        split
        · rename_i cs b hop; exact absurd hop (hsel cs b)
        · rw [if_pos hall, hp]
      · cases he
    · cases he

set_option maxHeartbeats 1000000 in
/-- An operation of such a region, but a store, leaves the heap; and gives the same over every heap that is one with it where the operation reads. -/
theorem dr_same (hs : isStore o = false) (he : evalOp P E true T h o s = some (v, h', ob, s')) : h' = h ∧ ∀ h2, Reads (useOp T o).1 h h2 → evalOp P E true T h2 o s = some (v, h2, ob, s') := by
  unfold evalOp at he
  split at he
  case h_9 t x y hop => simp [isStore, hop] at hs
  case h_8 t x hop =>
    split at he
    · rename_i p hp
      have blk : ∀ {h2 : Hp}, Reads (useOp T o).1 h h2 → ∀ {id i off : Nat}, p = .ptr id i off → h[id]? = h2[id]? := by
        intro h2 hr id i off hpp
        subst hpp
        simp only [useOp, hop, hp, Reads] at hr
        exact hr id (by simp)
      have ldp : ∀ {h2 : Hp}, Reads (useOp T o).1 h h2 → loadP P h2 t p = loadP P h t p := by
        intro h2 hr
        cases p with
        | ptr id i off => simp only [loadP]; rw [blk hr rfl]
        | _ => rfl
      have lde : ∀ {h2 : Hp}, Reads (useOp T o).1 h h2 → ∀ e, loadE P h2 t e p = loadE P h t e p := by
        intro h2 hr e
        cases p with
        | ptr id i off => simp only [loadE]; rw [blk hr rfl]
        | _ => rfl
      split at he
      · rename_i e s2
        split at he
        · rename_i q X hq
          cases he
          exact ⟨rfl, fun h2 hr => by simp only [evalOp, hop, hp, lde hr, hq]⟩
        · cases he
      · split at he
        · rename_i q hq
          cases he
          exact ⟨rfl, fun h2 hr => by simp only [evalOp, hop, hp, ldp hr, hq]⟩
        · cases he
      · split at he
        · rename_i q X hq
          cases he
          refine ⟨rfl, fun h2 hr => ?_⟩
          have : loadT P h2 t p = loadT P h t p := by
            cases p with
            | ptr id i off => cases off <;> simp only [loadT]; rw [blk hr rfl]
            | _ => rfl
          simp only [evalOp, hop, hp, this, hq]
        · cases he
      · rename_i hn1 hn2 hn3
        split at he
        · rename_i q hq
          cases he
          refine ⟨rfl, fun h2 hr => ?_⟩
          simp only [evalOp, hop, hp, ldp hr, hq]
        · cases he
    · cases he
  case h_12 t x i hop =>
    split at he
    · rename_i p n hp hi
      split at he
      · rename_i q ob' hq
        cases he
        refine ⟨rfl, fun h2 hr => ?_⟩
        have : addrP P h2 t n (unwho p) = some (v, ob) := by
          cases p with
          | own id off len =>
            have : h[id]? = h2[id]? := by simp only [useOp, hop, hp, Reads, Option.map_some, unwho] at hr; exact hr id (by simp)
            simp only [addrP, unwho] at hq ⊢
            rw [← this]; exact hq
          | who id len =>
            have : h[id]? = h2[id]? := by simp only [useOp, hop, hp, Reads, Option.map_some, unwho] at hr; exact hr id (by simp)
            simp only [addrP, unwho] at hq ⊢
            rw [← this]; exact hq
          | _ => exact hq
        simp only [evalOp, hop, hp, hi, this]
      · cases he
    · cases he
  case h_13 t x lo hi mx hop =>
    split at he
    · rename_i p hp
      split at he
      · rename_i q ob' hq
        cases he
        refine ⟨rfl, fun h2 hr => ?_⟩
        have : sliceP P T h2 t (unwho p) lo hi mx = some (v, ob) := by
          cases p with
          | own id off len =>
            have : h[id]? = h2[id]? := by simp only [useOp, hop, hp, Reads, Option.map_some, unwho] at hr; exact hr id (by simp)
            simp only [sliceP, unwho] at hq ⊢
            rw [← this]; exact hq
          | who id len =>
            have : h[id]? = h2[id]? := by simp only [useOp, hop, hp, Reads, Option.map_some, unwho] at hr; exact hr id (by simp)
            simp only [sliceP, unwho] at hq ⊢
            rw [← this]; exact hq
          | sc y => cases y <;> first | exact hq | cases hq
          | _ => exact hq
        simp only [evalOp, hop, hp, this]
      · cases he
    · cases he
  case h_18 t l c hop => cases he
  case h_19 src dst x hop =>
    have hel : ∀ {h2 : Hp}, Reads (useOp T o).1 h h2 → convP P h2 src dst (opnd T x) = convP P h src dst (opnd T x) := by
      intro h2 hr
      cases hx : opnd T x with
      | none => simp [convP]
      | some q =>
        have : elemsW h2 q = elemsW h q := by
          cases q with
          | own id off len =>
            have : h[id]? = h2[id]? := by simp only [useOp, hop, hx, Reads, Option.map_some, unwho] at hr; exact hr id (by simp)
            simp only [elemsW, elemsOf, this]
          | who id len =>
            have : h[id]? = h2[id]? := by simp only [useOp, hop, hx, Reads, Option.map_some, unwho] at hr; exact hr id (by simp)
            simp only [elemsW, this]
          | _ => rfl
        unfold convP
        split
        · split
          · rename_i q' hq; cases hq; rw [this]
          · rfl
        · rfl
    split at he
    · rename_i v1 ob1 hc
      cases he
      refine ⟨rfl, fun h2 hr => ?_⟩
      rw [← hel hr] at hc
      simp only [evalOp, hop, hc]
    · rename_i hc
      obtain ⟨q1, q2⟩ := plain_heap he
      refine ⟨q1, fun h2 hr => ?_⟩
      rw [← hel hr] at hc
      simp only [evalOp, hop, hc]
      exact q2 h2
  case h_20 f args ats hop =>
    have hc := he
    unfold callP at hc
    split at hc
    · rename_i g ps hf hps
      split at hc
      · rename_i as vis hex
        split at hc
        all_goals first | (cases hc; done) | skip
        rename_i r1 ob1 hEg
        split at hc
        · rename_i hcond
          cases hc
          refine ⟨rfl, fun h2 hr => ?_⟩
          have hexp : expL (exp h2 expFuel) ps = some (as, vis) := by
            by_cases hst : args.toList.all (fun x => ((opnd T x).map stabV).getD true) = true
            · rw [← hex]
              refine expL_stab fun c hc => ?_
              obtain ⟨k, hk⟩ := List.getElem?_of_mem hc
              obtain ⟨x, x1, x2⟩ := (args_get hps).2 k c hk
              have := List.all_eq_true.1 hst x (List.mem_of_getElem? x1)
              rw [x2] at this
              simpa using this
            · have : h = h2 := by simp only [useOp, hop, if_neg hst, Reads] at hr; exact hr
              rw [← this]; exact hex
          have hO : ps.flatMap (expO h2 expFuel) = ps.flatMap (expO h expFuel) := by
            by_cases hst : args.toList.all (fun x => ((opnd T x).map stabV).getD true) = true
            · refine flatMap_congr fun c hc => ?_
              obtain ⟨k, hk⟩ := List.getElem?_of_mem hc
              obtain ⟨x, x1, x2⟩ := (args_get hps).2 k c hk
              have := List.all_eq_true.1 hst x (List.mem_of_getElem? x1)
              rw [x2] at this
              exact expO_stab (by simpa using this)
            · have : h = h2 := by simp only [useOp, hop, if_neg hst, Reads] at hr; exact hr
              rw [← this]
          simp only [evalOp, hop, callP, hf, hps, hexp, hEg, hO]
          rw [if_pos hcond]
        · cases hc
      · cases hc
    · cases hc
  case h_10 x hop =>
    split at he
    · rename_i id i off hp
      cases he
      exact ⟨rfl, fun h2 _ => by simp only [evalOp, hop, hp]⟩
    · rename_i cs off hp
      cases he
      exact ⟨rfl, fun h2 _ => by simp only [evalOp, hop, hp]⟩
    · rename_i hp1 hp2
      obtain ⟨q1, q2⟩ := plain_heap he
      refine ⟨q1, fun h2 _ => ?_⟩
      simp only [evalOp, hop]
      exact q2 h2
  case h_17 k t x y t' hop =>
    split at he
    · rename_i v1 ob1 hb
      cases he
      exact ⟨rfl, fun h2 _ => by simp only [evalOp, hop, hb]⟩
    · rename_i hp1
      obtain ⟨q1, q2⟩ := plain_heap he
      refine ⟨q1, fun h2 _ => ?_⟩
      simp only [evalOp, hop, hp1]
      exact q2 h2
  case h_21 x t hop =>
    split at he
    · rename_i p z hp hz
      split at he
      · rename_i n hl
        cases he
        exact ⟨rfl, fun h2 _ => by simp only [evalOp, hop, hp, hz, hl]⟩
      · cases he
    · rename_i hp1
      obtain ⟨q1, q2⟩ := plain_heap he
      refine ⟨q1, fun h2 _ => ?_⟩
      simp only [evalOp, hop]
      exact q2 h2
  case h_23 h1 h2 h3 h4 h5 h6 h7 h8 h9 h10 h11 h12 h13 h14 h15 h16 h17 h18 h19 h20 h21 h22 =>
    obtain ⟨q1, q2⟩ := plain_heap he
    refine ⟨q1, fun g2 _ => ?_⟩
    unfold evalOp
    split
    all_goals first
      | exact q2 g2
      | (rename_i hop; first | exact (h1 _ hop).elim | exact (h2 _ hop).elim | exact (h3 _ _ _ hop).elim | exact (h4 _ hop).elim | exact (h5 _ _ hop).elim | exact (h6 _ _ hop).elim | exact (h7 _ _ _ hop).elim | exact (h8 _ _ hop).elim | exact (h9 _ _ _ hop).elim | exact (h10 _ hop).elim | exact (h11 _ _ _ hop).elim | exact (h12 _ _ _ hop).elim | exact (h13 _ _ _ _ _ hop).elim | exact (h14 _ _ _ hop).elim | exact (h15 _ _ _ hop).elim | exact (h16 _ _ hop).elim | exact (h17 _ _ _ _ _ hop).elim | exact (h18 _ _ _ hop).elim | exact (h19 _ _ _ hop).elim | exact (h20 _ _ _ hop).elim | exact (h21 _ _ hop).elim | exact (h22 _ _ _ _ hop).elim)
  all_goals
    rename_i hop
    (repeat' (split at he)) <;> first
      | (cases he; done)
      | exact absurd rfl ‹¬true = true›
      | (cases he; exact ⟨rfl, fun h2 _ => by simp [evalOp, *]⟩)
end
end Go.PS
