/- Contracts of chapter 8: messages as arguments; what a kind uses. -/
import Derived.Test.YtnkmcmflfedmkaaM8
namespace Go.Proofs.Ytnkmcmflfedmkaa
open Go.PS

/-- The message in a list of cells. -/
def msgOf : List PV → Option (Msg × List Prop)
  | .sc (.int .i64 x0) :: .sc (.int .i64 x1) :: .sc (.int .i64 x2) :: .sc (.int .i64 x3) :: .sc (.int .i64 x4) :: .sc (.int .i64 x5) :: .sc (.int .i64 x6) :: .sc (.string x7) :: .sc (.string x8) :: .sc (.string x9) :: .rf n f :: .rf n2 f2 :: .sc (.int .i64 x12) :: .sc (.int .i64 x13) :: .sc (.int .i64 x14) :: .sc (.int .i64 x15) :: .sc (.int .i64 x16) :: .sc (.int .i64 x17) :: .sc (.string x18) :: .sc (.int .i64 x19) :: .sc (.int .i64 x20) :: .sc (.string x21) :: .sc (.int .i64 x22) :: .sc (.int .i64 x23) :: .sc (.int .i64 x24) :: .sc (.int .i64 x25) :: .sc (.int .i64 x26) :: .sc (.int .i64 x27) :: .sc (.int .i64 x28) :: .sc (.int .i64 x29) :: .sc (.int .i64 x30) :: .sc (.string x31) :: .sc (.string x32) :: .sc (.string x33) :: .sc (.string x34) :: .sc (.int .i64 x35) :: .sc (.int .i64 x36) :: .sc (.int .i64 x37) :: .sc (.string x38) :: [] =>
    some (⟨x0, x1, x2, x3, x4, x5, x6, x7, x8, x9, ⟨n, fun i => strOf (f i)⟩, ⟨n2, fun i => qidOf (f2 i)⟩, ⟨x12, x13, x14⟩, x15, x16, x17, x18, x19, x20, x21, ⟨x22, x23, ⟨x24, x25, x26⟩, x27, x28, x29, x30, x31, x32, x33, x34⟩, x35, x36, x37, x38⟩, [allN n fun i => isStr (f i), allN n2 fun i => isQid (f2 i)])
  | _ => none

theorem agg_set {w : World} {Sx : Nat → Prop} {cs : List PV} {k : Nat} {p q : PV} {v : Value} (hk : cs[k]? = some p) (hc : ∀ v, RepS w Sx p v → RepS w Sx q v) (hr : RepS w Sx (.agg cs) v) : RepS w Sx (.agg (cs.set k q)) v := by
  refine agg_conv (by simp) (fun i c d v h1 h2 hrep => ?_) hr
  rw [List.getElem?_set] at h2
  by_cases hik : k = i
  · subst hik
    rw [hk] at h1
    cases h1
    have : k < cs.length := (List.getElem?_eq_some_iff.1 hk).1
    simp [this] at h2
    subst h2
    exact hc v hrep
  · rw [if_neg hik, h1] at h2
    cases h2
    exact hrep

theorem msgOf_rep {cs : List PV} {m : Msg} {ob : List Prop} (h : msgOf cs = some (m, ob)) (hob : ∀ X ∈ ob, X) (w : World) (Sx : Nat → Prop) (v : Value) (hr : RepS w Sx (.agg cs) v) : RepS w Sx (.agg m.cells) v := by
  unfold msgOf at h
  split at h
  · rename_i n f n2 f2 _ _ _ _ _ _ _ _ _ _ _ _ _ _ _ _ _ _ _ _ _ _ _ _ _ _ _
    cases h
    exact agg_set (k := 11) rfl (fun v hv => qidF_of (hob _ (by simp)) w Sx v hv) (agg_set (k := 10) rfl (fun v hv => strF_of (hob _ (by simp)) w Sx v hv) hr)
  · cases h
end Go.Proofs.Ytnkmcmflfedmkaa
