/- Contracts of chapter 53: guess. -/
import Derived.Test.YtldmgdphelgffaaDoorS11
namespace Go.Proofs.YtldmgdphelgffaaDoor
open Go.PS

def numPart (r : List UInt8) : Int := (parse10 (B (cutL 32 r).1)).getD 0
def rest1 (r : List UInt8) : List UInt8 := (cutL 32 r).2.1
theorem cutL_le (c : UInt8) : ∀ l : List UInt8, (cutL c l).1.length ≤ l.length ∧ (cutL c l).2.1.length ≤ l.length
  | [] => ⟨Nat.le_refl _, Nat.le_refl _⟩
  | b :: l => by
    have := cutL_le c l
    rw [cutL_cons]
    split
    · simp
    · simp; omega

def h9 (k a b : Int) : Hp := [⟨[[I 0, I 0, I 0, S ⟨#[]⟩]], 0, [], 4, false⟩, ⟨[[S (wordS k), I (numS k), Bo (plainK k), Bo (bytesK k)]], 0, [], 4, false⟩, ⟨[[I k, I a, I b, S ⟨#[]⟩]], 0, [], 4, false⟩]
def st9 (k : Int) (r : List UInt8) (i : Int) : List PV := ([Z, Z, .ptr 0 0 0, Z, S (B r), Z, Z, .ptr 1 0 0, .ptr 2 0 0, Z, Z, Z, Z, Z, Z, Z, Z, Z, Z, Z, Z, Z, Z, Z, Z, Z, Z, Z, Z, Z, Z, Z, Z, Z, Z, Z, Z, I (numS k), I i] ++ List.replicate 34 Z)
def end9 (k a b : Int) (r : List UInt8) : LT := .out (.ext 2) (([Z, Z, .ptr 0 0 0, Z, S (B r), Z, Z, .ptr 1 0 0, .ptr 2 0 0] ++ List.replicate 64 Z)) (h9 k a b)

theorem lp92 (k a b : Int) (r : List UInt8) : LoopT P (loopAt Tryd.f24 9) (st9 k r 2) (h9 k a b) (end9 k a b r) := by
  refine loop_tr Ee_ok L0 [2, 4, 7, 8, 37, 38] [2, 4, 7, 8] ((.node (decide (2 < numS k)) (
     .say .conc (
     .leaf ((Out.norm, ([Z, Z, PV.ptr 0 0 0, Z, S (B (cutL 32 (B r).data.toList).snd.fst), Z, Z, PV.ptr 1 0 0, PV.ptr 2 0 0, Z, Z, Z, Z, Z, Z, Z, Z, Z, Z, Z, Z, Z, Z, Z, Z, Z, Z, Z, Z, Z, Z, Z, Z, Z, Z, Z, Z, I (numS k), I 3] ++ List.replicate 34 Z), [{ es := [[I 0, I 0, I 0, S (⟨#[]⟩ : ByteArray)]], st := 0, par := [], sz := 4, sym := false }, { es := [[S (wordS k), I (numS k), Bo (plainK k), Bo (bytesK k)]], st := 0, par := [], sz := 4, sym := false }, { es := [[I k, I a, I ((parse10 (B (cutL 32 (B r).data.toList).fst)).getD 0), S (⟨#[]⟩ : ByteArray)]], st := 0, par := [], sz := 4, sym := false }])) [(B r).size < 4294967281, (B (cutL 32 (B r).data.toList).fst).size ≤ 9223372036854775807])) (
     .leaf ((Out.ext 2, ([Z, Z, PV.ptr 0 0 0, Z, S (B r), Z, Z, PV.ptr 1 0 0, PV.ptr 2 0 0] ++ List.replicate 64 Z), [{ es := [[I 0, I 0, I 0, S (⟨#[]⟩ : ByteArray)]], st := 0, par := [], sz := 4, sym := false }, { es := [[S (wordS k), I (numS k), Bo (plainK k), Bo (bytesK k)]], st := 0, par := [], sz := 4, sym := false }, { es := [[I k, I a, I b, S (⟨#[]⟩ : ByteArray)]], st := 0, par := [], sz := 4, sym := false }])) []))) (by kernel_rfl) ?_
  have := nums k
  simp only [Tr.All, AllP, Rnd, decide_eq_true_eq, decide_eq_false_iff_not]
  repeat' with_reducible first | intro _ | refine And.intro ?_ ?_
  all_goals first | trivial | omega | rfl

def bN (k : Int) (r : List UInt8) : Int := if 2 ≤ numS k then numPart r else 0
def rN (k j : Int) (r : List UInt8) : List UInt8 := if j ≤ numS k then rest1 r else r
def lt91 (k a : Int) (r : List UInt8) : LT := end9 k a (bN k r) (rN k 2 r)
theorem lp91 (k a : Int) (r : List UInt8) (hr : r.length ≤ 70000) : LoopT P (loopAt Tryd.f24 9) (st9 k r 1) (h9 k a 0) (lt91 k a r) := by
  refine loop_tr Ee_ok L0 [2, 4, 7, 8, 37, 38] [2, 4, 7, 8] ((.node (decide (1 < numS k)) (
     .say .conc (
     .leaf ((Out.norm, ([Z, Z, PV.ptr 0 0 0, Z, S (B (cutL 32 (B r).data.toList).snd.fst), Z, Z, PV.ptr 1 0 0, PV.ptr 2 0 0, Z, Z, Z, Z, Z, Z, Z, Z, Z, Z, Z, Z, Z, Z, Z, Z, Z, Z, Z, Z, Z, Z, Z, Z, Z, Z, Z, Z, I (numS k), I 2] ++ List.replicate 34 Z), [{ es := [[I 0, I 0, I 0, S (⟨#[]⟩ : ByteArray)]], st := 0, par := [], sz := 4, sym := false }, { es := [[S (wordS k), I (numS k), Bo (plainK k), Bo (bytesK k)]], st := 0, par := [], sz := 4, sym := false }, { es := [[I k, I a, I ((parse10 (B (cutL 32 (B r).data.toList).fst)).getD 0), S (⟨#[]⟩ : ByteArray)]], st := 0, par := [], sz := 4, sym := false }])) [(B r).size < 4294967281, (B (cutL 32 (B r).data.toList).fst).size ≤ 9223372036854775807])) (
     .leaf ((Out.ext 2, ([Z, Z, PV.ptr 0 0 0, Z, S (B r), Z, Z, PV.ptr 1 0 0, PV.ptr 2 0 0] ++ List.replicate 64 Z), [{ es := [[I 0, I 0, I 0, S (⟨#[]⟩ : ByteArray)]], st := 0, par := [], sz := 4, sym := false }, { es := [[S (wordS k), I (numS k), Bo (plainK k), Bo (bytesK k)]], st := 0, par := [], sz := 4, sym := false }, { es := [[I k, I a, I 0, S (⟨#[]⟩ : ByteArray)]], st := 0, par := [], sz := 4, sym := false }])) []))) (by kernel_rfl) ?_
  have hl := cutL_le 32 r
  simp only [B_list, B_size]
  have hgo : 1 < numS k → LoopT P (loopAt Tryd.f24 9) (st9 k (rest1 r) 2) (h9 k a (numPart r)) (lt91 k a r) := fun h => by
    unfold lt91 bN rN
    rw [if_pos (by omega), if_pos (by omega)]
    exact lp92 _ _ _ _
  have hend : ¬ 1 < numS k → lt91 k a r = end9 k a 0 r := fun h => by
    unfold lt91 bN rN
    rw [if_neg (by omega), if_neg (by omega)]
  simp only [Tr.All, AllP, Rnd, decide_eq_true_eq, decide_eq_false_iff_not]
  repeat' with_reducible first | intro _ | refine And.intro ?_ ?_
  all_goals first | trivial | omega | exact hgo (by assumption) | (rw [hend (by assumption)]; rfl)

def aN (k : Int) (r : List UInt8) : Int := if 1 ≤ numS k then numPart r else 0
def lt90 (k : Int) (r : List UInt8) : LT := end9 k (aN k r) (bN k (rN k 1 r)) (rN k 2 (rN k 1 r))
theorem lp90 (k : Int) (r : List UInt8) (hr : r.length ≤ 70000) : LoopT P (loopAt Tryd.f24 9) (st9 k r 0) (h9 k 0 0) (lt90 k r) := by
  refine loop_tr Ee_ok L0 [2, 4, 7, 8, 37, 38] [2, 4, 7, 8] ((.node (decide (0 < numS k)) (
     .say .conc (
     .leaf ((Out.norm, ([Z, Z, PV.ptr 0 0 0, Z, S (B (cutL 32 (B r).data.toList).snd.fst), Z, Z, PV.ptr 1 0 0, PV.ptr 2 0 0, Z, Z, Z, Z, Z, Z, Z, Z, Z, Z, Z, Z, Z, Z, Z, Z, Z, Z, Z, Z, Z, Z, Z, Z, Z, Z, Z, Z, I (numS k), I 1] ++ List.replicate 34 Z), [{ es := [[I 0, I 0, I 0, S (⟨#[]⟩ : ByteArray)]], st := 0, par := [], sz := 4, sym := false }, { es := [[S (wordS k), I (numS k), Bo (plainK k), Bo (bytesK k)]], st := 0, par := [], sz := 4, sym := false }, { es := [[I k, I ((parse10 (B (cutL 32 (B r).data.toList).fst)).getD 0), I 0, S (⟨#[]⟩ : ByteArray)]], st := 0, par := [], sz := 4, sym := false }])) [(B r).size < 4294967281, (B (cutL 32 (B r).data.toList).fst).size ≤ 9223372036854775807])) (
     .leaf ((Out.ext 2, ([Z, Z, PV.ptr 0 0 0, Z, S (B r), Z, Z, PV.ptr 1 0 0, PV.ptr 2 0 0] ++ List.replicate 64 Z), [{ es := [[I 0, I 0, I 0, S (⟨#[]⟩ : ByteArray)]], st := 0, par := [], sz := 4, sym := false }, { es := [[S (wordS k), I (numS k), Bo (plainK k), Bo (bytesK k)]], st := 0, par := [], sz := 4, sym := false }, { es := [[I k, I 0, I 0, S (⟨#[]⟩ : ByteArray)]], st := 0, par := [], sz := 4, sym := false }])) []))) (by kernel_rfl) ?_
  have hl := cutL_le 32 r
  simp only [B_list, B_size]
  have hgo : 0 < numS k → LoopT P (loopAt Tryd.f24 9) (st9 k (rest1 r) 1) (h9 k (numPart r) 0) (lt90 k r) := fun h => by
    have := lp91 k (numPart r) (rest1 r) (by unfold rest1; omega)
    unfold lt90
    unfold lt91 at this
    have e1 : aN k r = numPart r := if_pos (by omega)
    have e2 : rN k 1 r = rest1 r := if_pos (by omega)
    rw [e1, e2]
    exact this
  have hend : ¬ 0 < numS k → lt90 k r = end9 k 0 0 r := fun h => by
    unfold lt90
    have e1 : aN k r = 0 := if_neg (by omega)
    have e2 : rN k 1 r = r := if_neg (by omega)
    have e3 : rN k 2 r = r := if_neg (by omega)
    have e4 : bN k r = 0 := if_neg (by omega)
    rw [e1, e2, e3, e4]
  simp only [Tr.All, AllP, Rnd, decide_eq_true_eq, decide_eq_false_iff_not]
  repeat' with_reducible first | intro _ | refine And.intro ?_ ?_
  all_goals first | trivial | omega | exact hgo (by assumption) | (rw [hend (by assumption)]; rfl)

def evP (k : Int) (r : List UInt8) : Ev := ⟨k, aN k r, bN k (rN k 1 r), if plainK k then B (rN k 2 (rN k 1 r)) else if bytesK k then B ((unhexL (rN k 2 (rN k 1 r))).getD []) else ⟨#[]⟩⟩
def findK (w : List UInt8) (k : Int) : Option Nat := ((List.range 12).drop k.toNat).find? fun j => decide (wordL j = w)
theorem find_step (w : List UInt8) (k : Int) (h0 : 1 ≤ k) (h1 : k ≤ 11) : findK w k = if wordL k = w then some k.toNat else findK w (k + 1) := by
  obtain ⟨n, rfl⟩ := Int.eq_ofNat_of_zero_le (show 0 ≤ k by omega)
  unfold findK
  have hn : n < (List.range 12).length := by simp; omega
  rw [show ((n : Int) + 1).toNat = n + 1 by omega, Int.toNat_natCast, List.drop_eq_getElem_cons hn, List.find?_cons]
  simp only [List.getElem_range]
  by_cases h : wordL (n : Int) = w
  · simp [h]
  · simp [h]
theorem find_end (w : List UInt8) (k : Int) (h1 : 12 ≤ k) : findK w k = none := by
  unfold findK
  rw [List.drop_eq_nil_of_le (by simp; omega)]
  rfl

theorem word_ne (k : Int) (h0 : 1 ≤ k) (h1 : k ≤ 11) : ¬ wordS k = ⟨#[]⟩ := by
  unfold wordS
  rw [if_pos (by omega)]
  have key : ∀ j : Fin 12, 1 ≤ j.val → wordTab.getD j.val default ≠ ⟨#[]⟩ := by decide
  exact key ⟨k.toNat, by omega⟩ (by show 1 ≤ k.toNat; omega)

def zero4 : Hp := [⟨[[I 0, I 0, I 0, S ⟨#[]⟩]], 0, [], 4, false⟩]
def st3 (w r : List UInt8) (k : Int) : List PV := ([Z, Z, .ptr 0 0 0, S (B w), S (B r), Z, I k] ++ List.replicate 66 Z)
def lt3 (w r : List UInt8) (k : Int) : LT := .ite (findK w k).isSome (.out .ret (([Z, Z, .ptr 0 0 0] ++ List.replicate 70 Z)) [⟨[(evP ((findK w k).getD 0 : Nat) r).cells], 0, [], 4, false⟩]) (.out (.ext 0) (([Z, Z, .ptr 0 0 0] ++ List.replicate 70 Z)) zero4)
def L9 (k : Int) (r : List UInt8) : LEnv := fun _ => ([2, 4, 7, 8, 37, 38], [], fun _ _ => lt90 k r)

set_option maxHeartbeats 0 in
theorem lp3 (w r : List UInt8) (hr : r.length ≤ 70000) : ∀ k : Int, 0 ≤ k → k ≤ 11 → LoopT P (loopAt Tryd.f24 3) (st3 w r (k + 1)) zero4 (lt3 w r (k + 1)) := by
  apply upto
  intro k h0 h1 ih
  refine loop_tr Ee_ok (L9 (k + 1) r) [2, 3, 4, 6] [2] ((.node (decide (k + 1 ≤ 11)) (
     .node (eqS (wordS (k + 1)) (⟨#[]⟩ : ByteArray)) (
      .leaf ((Out.norm, ([Z, Z, PV.ptr 0 0 0, S (B w), S (B r), Z, I (IntKind.i64.wrap (k + 1 + 1))] ++ List.replicate 66 Z), [{ es := [[I 0, I 0, I 0, S (⟨#[]⟩ : ByteArray)]], st := 0, par := [], sz := 4, sym := false }])) []) (
      .node (!eqS (wordS (k + 1)) (B w)) (
       .leaf ((Out.norm, ([Z, Z, PV.ptr 0 0 0, S (B w), S (B r), Z, I (IntKind.i64.wrap (k + 1 + 1))] ++ List.replicate 66 Z), [{ es := [[I 0, I 0, I 0, S (⟨#[]⟩ : ByteArray)]], st := 0, par := [], sz := 4, sym := false }])) []) (
       .node (plainK (k + 1)) (
        .node (bytesK (k + 1)) (
         .leaf ((Out.ret, ([Z, Z, PV.ptr 0 0 0] ++ List.replicate 70 Z), [{ es := [[I (k + 1), I (aN (k + 1) r), I (bN (k + 1) (rN (k + 1) 1 r)), S (B ((unhexL (B (rN (k + 1) 2 (rN (k + 1) 1 r))).data.toList).getD []))]], st := 0, par := [], sz := 4, sym := false }])) [LoopSem P (loopAt Tryd.f24 9) (([Z, Z, PV.ptr 0 0 0, Z, S (B r), Z, Z, PV.ptr 1 0 0, PV.ptr 2 0 0, Z, Z, Z, Z, Z, Z, Z, Z, Z, Z, Z, Z, Z, Z, Z, Z, Z, Z, Z, Z, Z, Z, Z, Z, Z, Z, Z, Z, I (numS (k + 1)), I 0] ++ List.replicate 34 Z)) ([{ es := [[I 0, I 0, I 0, S (⟨#[]⟩ : ByteArray)]], st := 0, par := [], sz := 4, sym := false }, { es := [[S (wordS (k + 1)), I (numS (k + 1)), Bo (plainK (k + 1)), Bo (bytesK (k + 1))]], st := 0, par := [], sz := 4, sym := false }, { es := [[I (k + 1), I 0, I 0, S (⟨#[]⟩ : ByteArray)]], st := 0, par := [], sz := 4, sym := false }]) (Out.ext 2) (([Z, Z, PV.ptr 0 0 0, Z, S (B (rN (k + 1) 2 (rN (k + 1) 1 r))), Z, Z, PV.ptr 1 0 0, PV.ptr 2 0 0] ++ List.replicate 64 Z)) ([{ es := [[I 0, I 0, I 0, S (⟨#[]⟩ : ByteArray)]], st := 0, par := [], sz := 4, sym := false }, { es := [[S (wordS (k + 1)), I (numS (k + 1)), Bo (plainK (k + 1)), Bo (bytesK (k + 1))]], st := 0, par := [], sz := 4, sym := false }, { es := [[I (k + 1), I (aN (k + 1) r), I (bN (k + 1) (rN (k + 1) 1 r)), S (⟨#[]⟩ : ByteArray)]], st := 0, par := [], sz := 4, sym := false }]), (B (rN (k + 1) 2 (rN (k + 1) 1 r))).size ≤ 4294967296]) (
         .leaf ((Out.ret, ([Z, Z, PV.ptr 0 0 0] ++ List.replicate 70 Z), [{ es := [[I (k + 1), I (aN (k + 1) r), I (bN (k + 1) (rN (k + 1) 1 r)), S (B (rN (k + 1) 2 (rN (k + 1) 1 r)))]], st := 0, par := [], sz := 4, sym := false }])) [LoopSem P (loopAt Tryd.f24 9) (([Z, Z, PV.ptr 0 0 0, Z, S (B r), Z, Z, PV.ptr 1 0 0, PV.ptr 2 0 0, Z, Z, Z, Z, Z, Z, Z, Z, Z, Z, Z, Z, Z, Z, Z, Z, Z, Z, Z, Z, Z, Z, Z, Z, Z, Z, Z, Z, I (numS (k + 1)), I 0] ++ List.replicate 34 Z)) ([{ es := [[I 0, I 0, I 0, S (⟨#[]⟩ : ByteArray)]], st := 0, par := [], sz := 4, sym := false }, { es := [[S (wordS (k + 1)), I (numS (k + 1)), Bo (plainK (k + 1)), Bo (bytesK (k + 1))]], st := 0, par := [], sz := 4, sym := false }, { es := [[I (k + 1), I 0, I 0, S (⟨#[]⟩ : ByteArray)]], st := 0, par := [], sz := 4, sym := false }]) (Out.ext 2) (([Z, Z, PV.ptr 0 0 0, Z, S (B (rN (k + 1) 2 (rN (k + 1) 1 r))), Z, Z, PV.ptr 1 0 0, PV.ptr 2 0 0] ++ List.replicate 64 Z)) ([{ es := [[I 0, I 0, I 0, S (⟨#[]⟩ : ByteArray)]], st := 0, par := [], sz := 4, sym := false }, { es := [[S (wordS (k + 1)), I (numS (k + 1)), Bo (plainK (k + 1)), Bo (bytesK (k + 1))]], st := 0, par := [], sz := 4, sym := false }, { es := [[I (k + 1), I (aN (k + 1) r), I (bN (k + 1) (rN (k + 1) 1 r)), S (⟨#[]⟩ : ByteArray)]], st := 0, par := [], sz := 4, sym := false }])])) (
        .node (bytesK (k + 1)) (
         .leaf ((Out.ret, ([Z, Z, PV.ptr 0 0 0] ++ List.replicate 70 Z), [{ es := [[I (k + 1), I (aN (k + 1) r), I (bN (k + 1) (rN (k + 1) 1 r)), S (B ((unhexL (B (rN (k + 1) 2 (rN (k + 1) 1 r))).data.toList).getD []))]], st := 0, par := [], sz := 4, sym := false }])) [LoopSem P (loopAt Tryd.f24 9) (([Z, Z, PV.ptr 0 0 0, Z, S (B r), Z, Z, PV.ptr 1 0 0, PV.ptr 2 0 0, Z, Z, Z, Z, Z, Z, Z, Z, Z, Z, Z, Z, Z, Z, Z, Z, Z, Z, Z, Z, Z, Z, Z, Z, Z, Z, Z, Z, I (numS (k + 1)), I 0] ++ List.replicate 34 Z)) ([{ es := [[I 0, I 0, I 0, S (⟨#[]⟩ : ByteArray)]], st := 0, par := [], sz := 4, sym := false }, { es := [[S (wordS (k + 1)), I (numS (k + 1)), Bo (plainK (k + 1)), Bo (bytesK (k + 1))]], st := 0, par := [], sz := 4, sym := false }, { es := [[I (k + 1), I 0, I 0, S (⟨#[]⟩ : ByteArray)]], st := 0, par := [], sz := 4, sym := false }]) (Out.ext 2) (([Z, Z, PV.ptr 0 0 0, Z, S (B (rN (k + 1) 2 (rN (k + 1) 1 r))), Z, Z, PV.ptr 1 0 0, PV.ptr 2 0 0] ++ List.replicate 64 Z)) ([{ es := [[I 0, I 0, I 0, S (⟨#[]⟩ : ByteArray)]], st := 0, par := [], sz := 4, sym := false }, { es := [[S (wordS (k + 1)), I (numS (k + 1)), Bo (plainK (k + 1)), Bo (bytesK (k + 1))]], st := 0, par := [], sz := 4, sym := false }, { es := [[I (k + 1), I (aN (k + 1) r), I (bN (k + 1) (rN (k + 1) 1 r)), S (⟨#[]⟩ : ByteArray)]], st := 0, par := [], sz := 4, sym := false }]), (B (rN (k + 1) 2 (rN (k + 1) 1 r))).size ≤ 4294967296]) (
         .leaf ((Out.ret, ([Z, Z, PV.ptr 0 0 0] ++ List.replicate 70 Z), [{ es := [[I (k + 1), I (aN (k + 1) r), I (bN (k + 1) (rN (k + 1) 1 r)), S (⟨#[]⟩ : ByteArray)]], st := 0, par := [], sz := 4, sym := false }])) [LoopSem P (loopAt Tryd.f24 9) (([Z, Z, PV.ptr 0 0 0, Z, S (B r), Z, Z, PV.ptr 1 0 0, PV.ptr 2 0 0, Z, Z, Z, Z, Z, Z, Z, Z, Z, Z, Z, Z, Z, Z, Z, Z, Z, Z, Z, Z, Z, Z, Z, Z, Z, Z, Z, Z, I (numS (k + 1)), I 0] ++ List.replicate 34 Z)) ([{ es := [[I 0, I 0, I 0, S (⟨#[]⟩ : ByteArray)]], st := 0, par := [], sz := 4, sym := false }, { es := [[S (wordS (k + 1)), I (numS (k + 1)), Bo (plainK (k + 1)), Bo (bytesK (k + 1))]], st := 0, par := [], sz := 4, sym := false }, { es := [[I (k + 1), I 0, I 0, S (⟨#[]⟩ : ByteArray)]], st := 0, par := [], sz := 4, sym := false }]) (Out.ext 2) (([Z, Z, PV.ptr 0 0 0, Z, S (B (rN (k + 1) 2 (rN (k + 1) 1 r))), Z, Z, PV.ptr 1 0 0, PV.ptr 2 0 0] ++ List.replicate 64 Z)) ([{ es := [[I 0, I 0, I 0, S (⟨#[]⟩ : ByteArray)]], st := 0, par := [], sz := 4, sym := false }, { es := [[S (wordS (k + 1)), I (numS (k + 1)), Bo (plainK (k + 1)), Bo (bytesK (k + 1))]], st := 0, par := [], sz := 4, sym := false }, { es := [[I (k + 1), I (aN (k + 1) r), I (bN (k + 1) (rN (k + 1) 1 r)), S (⟨#[]⟩ : ByteArray)]], st := 0, par := [], sz := 4, sym := false }])]))))) (
     .leaf ((Out.ext 0, ([Z, Z, PV.ptr 0 0 0] ++ List.replicate 70 Z), [{ es := [[I 0, I 0, I 0, S (⟨#[]⟩ : ByteArray)]], st := 0, par := [], sz := 4, sym := false }])) []))) (by kernel_rfl) ?_
  have hne : k + 1 ≤ 11 → ¬ wordS (k + 1) = ⟨#[]⟩ := fun h => word_ne (k + 1) (by omega) h
  have c1 := lp90 (k + 1) r hr
  have hpq : plainK (k + 1) = true → bytesK (k + 1) = false := by unfold plainK bytesK; grind
  have hf := find_step w (k + 1) (by omega)
  have hwl : wordS (k + 1) = B w ↔ wordL (k + 1) = w := by
    rw [show wordS (k + 1) = B (wordL (k + 1)) from rfl, B_inj]
  have hgo : k + 1 ≤ 11 → ¬ wordS (k + 1) = B w → LoopT P (loopAt Tryd.f24 3) (([Z, Z, .ptr 0 0 0, S (B w), S (B r), Z, I (IntKind.i64.wrap (k + 1 + 1))] ++ List.replicate 66 Z)) zero4 (lt3 w r (k + 1)) := fun h1 h2 => by
    have := ih (by omega)
    rw [wrap64 (by omega) (by omega)]
    unfold lt3 at this ⊢
    rw [hf h1, if_neg (fun h => h2 (hwl.2 h))]
    exact this
  have hhit : k + 1 ≤ 11 → wordS (k + 1) = B w → ∀ x, x = (evP (k + 1) r).text → (lt3 w r (k + 1)).ends (.ret, ([Z, Z, .ptr 0 0 0] ++ List.replicate 70 Z), [⟨[[I (k + 1), I (aN (k + 1) r), I (bN (k + 1) (rN (k + 1) 1 r)), S x]], 0, [], 4, false⟩]) := fun h1 h2 x hx => by
    have e : findK w (k + 1) = some (k + 1).toNat := by rw [hf h1, if_pos (hwl.1 h2)]
    refine ends_t (by rw [e]; rfl) ?_
    rw [e, hx, Option.getD_some, Int.toNat_of_nonneg (by omega)]
    rfl
  have hrn : ∀ (j : Int) (x : List UInt8), (rN (k + 1) j x).length ≤ x.length := fun j x => by
    unfold rN
    split
    · exact (cutL_le 32 x).2
    · exact Nat.le_refl _
  have h1 := hrn 1 r
  have h2 := hrn 2 (rN (k + 1) 1 r)
  have x1 : plainK (k + 1) = true → B (rN (k + 1) 2 (rN (k + 1) 1 r)) = (evP (k + 1) r).text := fun h => by unfold evP; simp only [h, if_true]
  have x2 : plainK (k + 1) = false → bytesK (k + 1) = true → B ((unhexL (rN (k + 1) 2 (rN (k + 1) 1 r))).getD []) = (evP (k + 1) r).text := fun h h' => by unfold evP; simp only [h, h', if_true]; rfl
  have x3 : plainK (k + 1) = false → bytesK (k + 1) = false → (⟨#[]⟩ : ByteArray) = (evP (k + 1) r).text := fun h h' => by unfold evP; simp only [h, h']; rfl
  have hend : ¬ k + 1 ≤ 11 → findK w (k + 1) = none := fun h => find_end w (k + 1) (by omega)
  simp only [B_list, B_size]
  simp only [Tr.All, AllP, Rnd, decide_eq_true_eq, decide_eq_false_iff_not, Bool.not_eq_true', Bool.not_eq_false', eqS_decide]
  repeat' with_reducible first | intro _ | refine And.intro ?_ ?_
  all_goals first | trivial | omega | exact absurd (by assumption) (hne (by assumption)) | exact hgo (by assumption) (by assumption) | exact c1.one | (have := hpq (by assumption); simp_all; done) | exact hhit (by assumption) (by assumption) _ (x1 (by assumption)) | exact hhit (by assumption) (by assumption) _ (x2 (by assumption) (by assumption)) | exact hhit (by assumption) (by assumption) _ (x3 (by assumption) (by assumption)) | (exact ends_f (by rw [hend (by assumption)]; rfl) rfl)

def guessE (s : ByteArray) : Ev := match findK (cutL 32 s.data.toList).1 1 with
  | some k => evP k (cutL 32 s.data.toList).2.1
  | none => ⟨0, 0, 0, ⟨#[]⟩⟩
def L3 (w r : List UInt8) : LEnv := fun _ => ([2, 3, 4, 6], [], fun _ _ => lt3 w r 1)
theorem guess_ok (s : ByteArray) (hs : s.size ≤ 70000) : Ok P 24 [S s] (.agg (guessE s).cells) := by
  refine fn_tr Ee_ok (L3 (cutL 32 s.data.toList).1 (cutL 32 s.data.toList).2.1) Tryd.func24 ((.node ((findK (cutL 32 s.data.toList).fst 1).isSome) (
     .leaf (PV.agg [I (evP (↑((findK (cutL 32 s.data.toList).fst 1).getD 0) : Int) (cutL 32 s.data.toList).snd.fst).kind, I (evP (↑((findK (cutL 32 s.data.toList).fst 1).getD 0) : Int) (cutL 32 s.data.toList).snd.fst).a, I (evP (↑((findK (cutL 32 s.data.toList).fst 1).getD 0) : Int) (cutL 32 s.data.toList).snd.fst).b, S (evP (↑((findK (cutL 32 s.data.toList).fst 1).getD 0) : Int) (cutL 32 s.data.toList).snd.fst).text]) [s.size < 4294967281, LoopSem P (loopAt Tryd.f24 3) (([Z, Z, PV.ptr 0 0 0, S (B (cutL 32 s.data.toList).fst), S (B (cutL 32 s.data.toList).snd.fst), Z, I 1] ++ List.replicate 66 Z)) ([{ es := [[I 0, I 0, I 0, S (⟨#[]⟩ : ByteArray)]], st := 0, par := [], sz := 4, sym := false }]) (Out.ret) (([Z, Z, PV.ptr 0 0 0] ++ List.replicate 70 Z)) ([{ es := [[I (evP (↑((findK (cutL 32 s.data.toList).fst 1).getD 0) : Int) (cutL 32 s.data.toList).snd.fst).kind, I (evP (↑((findK (cutL 32 s.data.toList).fst 1).getD 0) : Int) (cutL 32 s.data.toList).snd.fst).a, I (evP (↑((findK (cutL 32 s.data.toList).fst 1).getD 0) : Int) (cutL 32 s.data.toList).snd.fst).b, S (evP (↑((findK (cutL 32 s.data.toList).fst 1).getD 0) : Int) (cutL 32 s.data.toList).snd.fst).text]], st := 0, par := [], sz := 4, sym := false }])]) (
     .leaf (PV.agg [I 0, I 0, I 0, S (⟨#[]⟩ : ByteArray)]) [s.size < 4294967281, LoopSem P (loopAt Tryd.f24 3) (([Z, Z, PV.ptr 0 0 0, S (B (cutL 32 s.data.toList).fst), S (B (cutL 32 s.data.toList).snd.fst), Z, I 1] ++ List.replicate 66 Z)) ([{ es := [[I 0, I 0, I 0, S (⟨#[]⟩ : ByteArray)]], st := 0, par := [], sz := 4, sym := false }]) (Out.ext 0) (([Z, Z, PV.ptr 0 0 0] ++ List.replicate 70 Z)) ([{ es := [[I 0, I 0, I 0, S (⟨#[]⟩ : ByteArray)]], st := 0, par := [], sz := 4, sym := false }])]))) (by kernel_rfl) ?_
  have hl := (cutL_le 32 s.data.toList).2
  rw [← Lib.size_eq] at hl
  have c1 := lp3 (cutL 32 s.data.toList).1 (cutL 32 s.data.toList).2.1 (by omega) 0 (by omega) (by omega)
  unfold guessE
  simp only [Tr.All, AllP]
  repeat' with_reducible first | intro _ | refine And.intro ?_ ?_
  all_goals first | trivial | omega | exact (c1.t (by assumption)).one | exact (c1.f (by assumption)).one | (cases hf : findK (cutL 32 s.data.toList).1 1 <;> simp_all <;> rfl)
end Go.Proofs.YtldmgdphelgffaaDoor
