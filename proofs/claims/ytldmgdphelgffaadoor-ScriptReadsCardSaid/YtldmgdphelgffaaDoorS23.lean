/- The law ScriptReads. -/
import Derived.Test.YtldmgdphelgffaaDoorS22
namespace Go.Proofs.YtldmgdphelgffaaDoor
open Go.PS

def d14 : List PV → Option (PV × List Prop)
  | [.sc (.string s)] => some (readV s, [s.size ≤ 70000])
  | _ => none
def El : Env := addE 14 d14 (addE 15 d14 Ek)
theorem El_ok : EnvOk P El :=
  addE_ok (addE_ok Ek_ok
    (fun l r ob h ho => by unfold d14 at h; split at h <;> cases h; exact rread_ok _ (ho _ (by simp))))
    (fun l r ob h ho => by unfold d14 at h; split at h <;> cases h; exact read_ok _ (ho _ (by simp)))

def st6 (es : List Ev) (i : Int) : List PV := [Z, Z, .bit false, evsE es, Z, Z, evsE es, Z, Z, Z, Z, Z, Z, Z, Z, Z, Z, Z, Z, Z, Z, Z, Z, Z, Z, Z, Z, Z, Z, Z, Z, Z, Z, Z, Z, Z, Z, Z, Z, Z, Z, Z, I es.length, I i, Z, Z, Z, Z, Z, Z, Z, Z, Z, Z, Z, Z, Z]
def lt6 : LT := .out (.ext 0) (([Z, Z, .bit false] ++ List.replicate 54 Z)) []
theorem lp6 (es : List Ev) (hes : es.length ≤ 70001) : ∀ n i : Nat, i + n = es.length → LoopT P (loopAt Tryd.f6 8) (st6 es i) [] lt6 := by
  intro n
  induction n with
  | zero =>
    intro i h0
    refine loop_tr El_ok L0 [2, 3, 6, 42, 43] [2, 10002] ((.node (decide ((↑i : Int) < (↑es.length : Int))) (
     .node (!((es.getD (↑i : Int).toNat zEv).kind == (es.getD (↑i : Int).toNat zEv).kind && ((es.getD (↑i : Int).toNat zEv).a == (es.getD (↑i : Int).toNat zEv).a && ((es.getD (↑i : Int).toNat zEv).b == (es.getD (↑i : Int).toNat zEv).b && (eqS (es.getD (↑i : Int).toNat zEv).text (es.getD (↑i : Int).toNat zEv).text && true))))) (
      .leaf ((Out.ret, ([Z, Z, PV.bit false] ++ List.replicate 54 Z), [])) [(0 : Int) ≤ (↑i : Int), (↑i : Int) < (↑es.length : Int), (0 : Int) ≤ (↑i : Int), (↑i : Int) < (↑es.length : Int)]) (
      .leaf ((Out.norm, [Z, Z, PV.bit false, PV.rf es.length fun i => [I (es.getD i zEv).kind, I (es.getD i zEv).a, I (es.getD i zEv).b, S (es.getD i zEv).text], Z, Z, PV.rf es.length fun i => [I (es.getD i zEv).kind, I (es.getD i zEv).a, I (es.getD i zEv).b, S (es.getD i zEv).text], Z, Z, Z, Z, Z, Z, Z, Z, Z, Z, Z, Z, Z, Z, Z, Z, Z, Z, Z, Z, Z, Z, Z, Z, Z, Z, Z, Z, Z, Z, Z, Z, Z, Z, Z, I (↑es.length : Int), I (IntKind.i64.wrap ((↑i : Int) + 1)), Z, Z, Z, Z, Z, Z, Z, Z, Z, Z, Z, Z, Z], [])) [(0 : Int) ≤ (↑i : Int), (↑i : Int) < (↑es.length : Int), (0 : Int) ≤ (↑i : Int), (↑i : Int) < (↑es.length : Int)])) (
     .leaf ((Out.ext 0, ([Z, Z, PV.bit false] ++ List.replicate 54 Z), [])) []))) (by kernel_rfl) ?_
    simp only [Tr.All, AllP, Rnd, decide_eq_true_eq, decide_eq_false_iff_not, Bool.not_eq_true', Bool.not_eq_false', eqS_decide]
    repeat' with_reducible first | intro _ | refine And.intro ?_ ?_
    all_goals first | trivial | omega | (exact rfl)
  | succ n ih =>
    intro i h0
    refine loop_tr El_ok L0 [2, 3, 6, 42, 43] [2, 10002] ((.node (decide ((↑i : Int) < (↑es.length : Int))) (
     .node (!((es.getD (↑i : Int).toNat zEv).kind == (es.getD (↑i : Int).toNat zEv).kind && ((es.getD (↑i : Int).toNat zEv).a == (es.getD (↑i : Int).toNat zEv).a && ((es.getD (↑i : Int).toNat zEv).b == (es.getD (↑i : Int).toNat zEv).b && (eqS (es.getD (↑i : Int).toNat zEv).text (es.getD (↑i : Int).toNat zEv).text && true))))) (
      .leaf ((Out.ret, ([Z, Z, PV.bit false] ++ List.replicate 54 Z), [])) [(0 : Int) ≤ (↑i : Int), (↑i : Int) < (↑es.length : Int), (0 : Int) ≤ (↑i : Int), (↑i : Int) < (↑es.length : Int)]) (
      .leaf ((Out.norm, [Z, Z, PV.bit false, PV.rf es.length fun i => [I (es.getD i zEv).kind, I (es.getD i zEv).a, I (es.getD i zEv).b, S (es.getD i zEv).text], Z, Z, PV.rf es.length fun i => [I (es.getD i zEv).kind, I (es.getD i zEv).a, I (es.getD i zEv).b, S (es.getD i zEv).text], Z, Z, Z, Z, Z, Z, Z, Z, Z, Z, Z, Z, Z, Z, Z, Z, Z, Z, Z, Z, Z, Z, Z, Z, Z, Z, Z, Z, Z, Z, Z, Z, Z, Z, Z, I (↑es.length : Int), I (IntKind.i64.wrap ((↑i : Int) + 1)), Z, Z, Z, Z, Z, Z, Z, Z, Z, Z, Z, Z, Z], [])) [(0 : Int) ≤ (↑i : Int), (↑i : Int) < (↑es.length : Int), (0 : Int) ≤ (↑i : Int), (↑i : Int) < (↑es.length : Int)])) (
     .leaf ((Out.ext 0, ([Z, Z, PV.bit false] ++ List.replicate 54 Z), [])) []))) (by kernel_rfl) ?_
    rw [wrap64 (x := (i : Int) + 1) (by omega) (by omega)]
    have ih0 := ih (i + 1) (by omega)
    simp only [Tr.All, AllP, Rnd, decide_eq_true_eq, decide_eq_false_iff_not, Bool.not_eq_true', Bool.not_eq_false', eqS_decide]
    repeat' with_reducible first | intro _ | refine And.intro ?_ ?_
    all_goals first | trivial | omega | exact ih0 | simp_all

theorem evL_le : ∀ (l : List (List UInt8)) (i : Nat) (es : List Ev), (evL l i es).1.length ≤ es.length + l.length
  | [], _, _ => Nat.le_refl _
  | x :: r, i, es => by
    rw [evL]
    split
    · exact Nat.le_trans (evL_le r _ _) (by rw [List.length_cons]; omega)
    · split
      · exact Nat.le_trans (evL_le r _ _) (by rw [List.length_cons, List.length_append, List.length_singleton]; omega)
      · exact Nat.zero_le _
theorem readX_le (s : ByteArray) (hs : s.size ≤ 70000) : (readX s).1.length ≤ 70001 := by
  unfold readX
  split
  · exact Nat.zero_le _
  · exact Nat.le_trans (evL_le _ _ _) (by rw [List.length_nil, Nat.zero_add]; exact (linesE_len s hs).1)

def L6 : LEnv := fun _ => ([2, 3, 6, 42, 43], [], fun _ _ => lt6)
theorem reads6_ok (s : ByteArray) (hs : s.size ≤ 9223372036854775807) : Ok P 6 [S s] (Bo true) := by
  refine fn_tr El_ok L6 Tryd.func6 ((.node (decide ((↑s.size : Int) > 70000)) (
     .leaf (Bo true) []) (
     .node (((↑(readX s).snd.fst : Int) : Int) != (↑(readX s).snd.fst : Int)) (
      .leaf (Bo false) [s.size ≤ 70000, s.size ≤ 70000]) (
      .node (((readX s).snd.snd : Int) != (readX s).snd.snd) (
       .leaf (Bo false) [s.size ≤ 70000, s.size ≤ 70000]) (
       .node (((↑(readX s).fst.length : Int) : Int) != (↑(readX s).fst.length : Int)) (
        .leaf (Bo false) [s.size ≤ 70000, s.size ≤ 70000]) (
        .leaf (Bo true) [s.size ≤ 70000, s.size ≤ 70000, LoopSem P (loopAt Tryd.f6 8) ([Z, Z, PV.bit false, PV.rf (readX s).fst.length fun i => [I ((readX s).fst.getD i zEv).kind, I ((readX s).fst.getD i zEv).a, I ((readX s).fst.getD i zEv).b, S ((readX s).fst.getD i zEv).text], Z, Z, PV.rf (readX s).fst.length fun i => [I ((readX s).fst.getD i zEv).kind, I ((readX s).fst.getD i zEv).a, I ((readX s).fst.getD i zEv).b, S ((readX s).fst.getD i zEv).text], Z, Z, Z, Z, Z, Z, Z, Z, Z, Z, Z, Z, Z, Z, Z, Z, Z, Z, Z, Z, Z, Z, Z, Z, Z, Z, Z, Z, Z, Z, Z, Z, Z, Z, Z, I (↑(readX s).fst.length : Int), I 0, Z, Z, Z, Z, Z, Z, Z, Z, Z, Z, Z, Z, Z]) ([]) (Out.ext 0) (([Z, Z, PV.bit false] ++ List.replicate 54 Z)) ([])])))))) (by kernel_rfl) ?_
  have h0 : s.size ≤ 70000 → LoopT P (loopAt Tryd.f6 8) (st6 (readX s).1 ((0 : Nat) : Int)) [] lt6 := fun h => lp6 (readX s).1 (readX_le s h) (readX s).1.length 0 (by omega)
  simp only [Tr.All, AllP, decide_eq_true_eq, decide_eq_false_iff_not, bne_iff_ne, bne_eq_false_iff_eq]
  repeat' with_reducible first | intro _ | refine And.intro ?_ ?_
  all_goals first | trivial | omega | rfl | assumption | exact (h0 (by omega)).one | simp_all

theorem law_ScriptReads (ps0 : List PV) (s0 : Sh P 6 9 ps0) : Ok P 6 [argPV P 9 ps0] (Bo true) := by
  obtain ⟨s, rfl, hs⟩ := sh_string (show P.underlying 9 = some .string from Tryd.underlying9) s0
  rw [arg_one (t := 9) (by rw [show P.underlying 9 = some .string from Tryd.underlying9]; intro fs h; cases h)]
  exact reads6_ok s (Nat.le_trans hs maxLen_le)
end Go.Proofs.YtldmgdphelgffaaDoor
