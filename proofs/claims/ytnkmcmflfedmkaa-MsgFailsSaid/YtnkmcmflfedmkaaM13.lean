/- Contracts of chapter 8: the reference's Same. -/
import Derived.Test.YtnkmcmflfedmkaaM12
namespace Go.Proofs.Ytnkmcmflfedmkaa
open Go.PS

def h25 (a b : Msg) : Hp := [⟨[a.cells], 0, [], 39⟩, ⟨[b.cells], 0, [], 39⟩]
def diffN (a b : Msg) (i : Nat) : Bool := !decide (a.names.f i = b.names.f i)
def diffQ (a b : Msg) (i : Nat) : Bool := !decide (a.qids.f i = b.qids.f i)
def anyI (p : Nat → Bool) (n : Nat) (i : Int) : Bool := anyFrom p (List.range n) i

theorem anyJ_step {p : Nat → Bool} {n : Nat} {i : Int} (h0 : 0 ≤ i) (h1 : i < n) : anyI p n i = (p i.toNat || anyI p n (i + 1)) := by
  unfold anyI
  rw [anyFrom_step 0 h0 (by simpa using h1)]
  congr 2
  have : i.toNat < n := by omega
  simp [List.getD, this]
theorem anyI_end {p : Nat → Bool} {n : Nat} {i : Int} (h1 : (n : Int) ≤ i) : anyI p n i = false := anyFrom_end (by simpa using h1)

def st25 (a : Msg) (i : Int) : List PV := ([Z, Z, .ptr 0 0 0, .ptr 1 0 0, Z, Z, Z, Z, Z, Z, Z, Z, Z, Z, Z, Z, Z, Z, Z, Z, Z, Z, Z, Z, Z, Z, Z, I a.names.n, I i] ++ List.replicate 193 Z)
def lt25 (a b : Msg) (i : Int) : LT := .ite (anyI (diffN a b) a.names.n i) (.out .ret (([Z, Z, .ptr 0 0 0, .ptr 1 0 0, .bit false] ++ List.replicate 217 Z)) (h25 a b)) (.out (.ext 0) (([Z, Z, .ptr 0 0 0, .ptr 1 0 0] ++ List.replicate 218 Z)) (h25 a b))

theorem lp25 (a b : Msg) (hs : a.names.n ≤ 9223372036854775807) (hab : a.names.n = b.names.n) : ∀ i : Int, 0 ≤ i → i ≤ a.names.n → LoopT P (loopAt Try.f25 4) (st25 a i) (h25 a b) (lt25 a b i) := by
  apply upto
  intro i h0 h1 ih
  refine loop_tr Ei_ok L0 [2, 3, 27, 28] [2, 3, 4] ((.node (decide (i < (↑a.names.n : Int))) (
     .node (!eqS (a.names.f i.toNat) (b.names.f i.toNat)) (
      .leaf ((Out.ret, ([Z, Z, PV.ptr 0 0 0, PV.ptr 1 0 0, PV.bit false] ++ List.replicate 217 Z), [{ es := [a.cells], st := 0, par := [], sz := 39 }, { es := [b.cells], st := 0, par := [], sz := 39 }])) [0 ≤ i, i < (↑a.names.n : Int), 0 ≤ i, i < (↑b.names.n : Int)]) (
      .leaf ((Out.norm, ([Z, Z, PV.ptr 0 0 0, PV.ptr 1 0 0, Z, Z, Z, Z, Z, Z, Z, Z, Z, Z, Z, Z, Z, Z, Z, Z, Z, Z, Z, Z, Z, Z, Z, I (↑a.names.n : Int), I (IntKind.i64.wrap (i + 1))] ++ List.replicate 193 Z), [{ es := [a.cells], st := 0, par := [], sz := 39 }, { es := [b.cells], st := 0, par := [], sz := 39 }])) [0 ≤ i, i < (↑a.names.n : Int), 0 ≤ i, i < (↑b.names.n : Int)])) (
     .leaf ((Out.ext 0, ([Z, Z, PV.ptr 0 0 0, PV.ptr 1 0 0] ++ List.replicate 218 Z), [{ es := [a.cells], st := 0, par := [], sz := 39 }, { es := [b.cells], st := 0, par := [], sz := 39 }])) []))) (by kernel_rfl) ?_
  have hst : i < a.names.n → anyI (diffN a b) a.names.n i = (diffN a b i.toNat || anyI (diffN a b) a.names.n (i + 1)) := fun hi => anyJ_step h0 hi
  have hgo : i < a.names.n ∧ diffN a b i.toNat = false → LoopT P (loopAt Try.f25 4) (st25 a (IntKind.i64.wrap (i + 1))) (h25 a b) (lt25 a b i) := by
    rintro ⟨hi, hb⟩
    rw [wrap64 (by omega) (by omega), show lt25 a b i = lt25 a b (i + 1) by simp only [lt25, hst hi, hb, Bool.false_or]]
    exact ih hi
  have hhit : i < a.names.n ∧ diffN a b i.toNat = true → anyI (diffN a b) a.names.n i = true := by
    rintro ⟨hi, hb⟩
    rw [hst hi, hb]; rfl
  have hend : ¬ i < a.names.n → anyI (diffN a b) a.names.n i = false := fun hi => anyI_end (by omega)
  simp only [Tr.All, AllP, Rnd, decide_eq_true_eq, decide_eq_false_iff_not, Bool.not_eq_true', Bool.not_eq_false', eqS_decide]
  repeat' with_reducible first | intro _ | refine And.intro ?_ ?_
  all_goals first | trivial | omega | exact hgo (by grind [diffN]) | exact ends_t (hhit (by grind [diffN])) rfl | exact ends_f (hend (by grind)) rfl

def st25q (a : Msg) (i : Int) : List PV := ([Z, Z, .ptr 0 0 0, .ptr 1 0 0, Z, Z, Z, Z, Z, Z, Z, Z, Z, Z, Z, Z, Z, Z, Z, Z, Z, Z, Z, Z, Z, Z, Z, Z, Z, Z, Z, Z, Z, Z, Z, Z, Z, Z, Z, Z, Z, Z, Z, Z, Z, I a.qids.n, I i] ++ List.replicate 175 Z)
def lt25q (a b : Msg) (i : Int) : LT := .ite (anyI (diffQ a b) a.qids.n i) (.out .ret (([Z, Z, .ptr 0 0 0, .ptr 1 0 0, .bit false] ++ List.replicate 217 Z)) (h25 a b)) (.out (.ext 2) (([Z, Z, .ptr 0 0 0, .ptr 1 0 0] ++ List.replicate 218 Z)) (h25 a b))

theorem lp25q (a b : Msg) (hs : a.qids.n ≤ 9223372036854775807) (hab : a.qids.n = b.qids.n) : ∀ i : Int, 0 ≤ i → i ≤ a.qids.n → LoopT P (loopAt Try.f25 10) (st25q a i) (h25 a b) (lt25q a b i) := by
  apply upto
  intro i h0 h1 ih
  refine loop_tr Ei_ok L0 [2, 3, 45, 46] [2, 3, 4] ((.node (decide (i < (↑a.qids.n : Int))) (
     .node (!((a.qids.f i.toNat).ty == (b.qids.f i.toNat).ty && ((a.qids.f i.toNat).vers == (b.qids.f i.toNat).vers && ((a.qids.f i.toNat).path == (b.qids.f i.toNat).path && true)))) (
      .leaf ((Out.ret, ([Z, Z, PV.ptr 0 0 0, PV.ptr 1 0 0, PV.bit false] ++ List.replicate 217 Z), [{ es := [a.cells], st := 0, par := [], sz := 39 }, { es := [b.cells], st := 0, par := [], sz := 39 }])) [0 ≤ i, i < (↑a.qids.n : Int), 0 ≤ i, i < (↑b.qids.n : Int)]) (
      .leaf ((Out.norm, ([Z, Z, PV.ptr 0 0 0, PV.ptr 1 0 0, Z, Z, Z, Z, Z, Z, Z, Z, Z, Z, Z, Z, Z, Z, Z, Z, Z, Z, Z, Z, Z, Z, Z, Z, Z, Z, Z, Z, Z, Z, Z, Z, Z, Z, Z, Z, Z, Z, Z, Z, Z, I (↑a.qids.n : Int), I (IntKind.i64.wrap (i + 1))] ++ List.replicate 175 Z), [{ es := [a.cells], st := 0, par := [], sz := 39 }, { es := [b.cells], st := 0, par := [], sz := 39 }])) [0 ≤ i, i < (↑a.qids.n : Int), 0 ≤ i, i < (↑b.qids.n : Int)])) (
     .leaf ((Out.ext 2, ([Z, Z, PV.ptr 0 0 0, PV.ptr 1 0 0] ++ List.replicate 218 Z), [{ es := [a.cells], st := 0, par := [], sz := 39 }, { es := [b.cells], st := 0, par := [], sz := 39 }])) []))) (by kernel_rfl) ?_
  have hst : i < a.qids.n → anyI (diffQ a b) a.qids.n i = (diffQ a b i.toNat || anyI (diffQ a b) a.qids.n (i + 1)) := fun hi => anyJ_step h0 hi
  have hgo : i < a.qids.n ∧ diffQ a b i.toNat = false → LoopT P (loopAt Try.f25 10) (st25q a (IntKind.i64.wrap (i + 1))) (h25 a b) (lt25q a b i) := by
    rintro ⟨hi, hb⟩
    rw [wrap64 (by omega) (by omega), show lt25q a b i = lt25q a b (i + 1) by simp only [lt25q, hst hi, hb, Bool.false_or]]
    exact ih hi
  have hhit : i < a.qids.n ∧ diffQ a b i.toNat = true → anyI (diffQ a b) a.qids.n i = true := by
    rintro ⟨hi, hb⟩
    rw [hst hi, hb]; rfl
  have hend : ¬ i < a.qids.n → anyI (diffQ a b) a.qids.n i = false := fun hi => anyI_end (by omega)
  have hd : diffQ a b i.toNat = !((a.qids.f i.toNat).ty == (b.qids.f i.toNat).ty && ((a.qids.f i.toNat).vers == (b.qids.f i.toNat).vers && ((a.qids.f i.toNat).path == (b.qids.f i.toNat).path && true))) := by
    simp only [diffQ, qid_eq, Bool.and_true]
    rw [Bool.eq_iff_iff]
    simp
  simp only [Tr.All, AllP, Rnd, decide_eq_true_eq, decide_eq_false_iff_not, Bool.not_eq_true', Bool.not_eq_false']
  repeat' with_reducible first | intro _ | refine And.intro ?_ ?_
  all_goals first | trivial | omega | exact hgo (by grind) | exact ends_t (hhit (by grind)) rfl | exact ends_f (hend (by grind)) rfl
end Go.Proofs.Ytnkmcmflfedmkaa
