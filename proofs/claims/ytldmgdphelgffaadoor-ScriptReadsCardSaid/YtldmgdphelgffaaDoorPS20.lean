/- An argument of a law, as an abstract value. -/
import Derived.Test.YtldmgdphelgffaaDoorPS19
import Derived.WideShapes
namespace Go.PS
open Go.RowKit

/-- The abstract value of an argument of type t whose cells are ps. -/
def argPV (P : Program) (t : TypeId) (ps : List PV) : PV :=
  match P.underlying t with
  | some (.struct _) => .agg ps
  | _ => ps.headD .nul

theorem arg_rep {H : Type} {enc : TypeId × Value → H} {P : Program} {W : World} {base base' : Nat} {sp : Nat → Bool} {held : Bool} {t : TypeId} {v : Value} {d : DataW H} {p : List MemPlace} {r : Reach} (n : Nat)
    (hok : okTy P n t = true) (hv : Value.okWide P W r base' t v) (ht : DataW.Trod enc P W base sp held t v d p) :
    ∃ ps, Sh P n t ps ∧ RepS W (fun b => b < W.heap.size) (argPV P t ps) v := by
  obtain ⟨fuel, hf⟩ := ht
  obtain ⟨ps, p1, p2, p3⟩ := trod_rep n hok hf
  refine ⟨ps, p2, ?_⟩
  cases n with
  | zero => simp [okTy] at hok
  | succ n =>
    unfold argPV
    unfold okTy at hok
    split at hok
    case h_5 fs hu =>
      obtain ⟨cs, rfl, _⟩ := Go.WideShapes.okWide_struct hu hv
      rw [hu]
      exact .agg ps cs (by simpa [Value.cells] using p1.1) fun i c x q1 q2 => p1.2 i c x q1 (by simpa [Value.cells] using q2)
    case h_6 => cases hok
    all_goals
      rename_i hu
      have hone : P.cellsOf t = 1 := by simp at hok; first | exact hok | exact hok.1.1
      rw [hone] at p3
      have hl : ps.length = 1 := by rw [p1.1, p3]
      obtain ⟨q, rfl⟩ := List.length_eq_one_iff.1 hl
      obtain ⟨c, hc⟩ := List.length_eq_one_iff.1 p3
      have hcv : c = v := by
        first
        | (obtain ⟨b, rfl⟩ := Go.WideShapes.okWide_bool hu hv; simpa [Value.cells] using hc.symm)
        | (obtain ⟨b, rfl⟩ := Go.WideShapes.okWide_int hu hv; simpa [Value.cells] using hc.symm)
        | (obtain ⟨b, rfl⟩ := Go.WideShapes.okWide_string hu hv; simpa [Value.cells] using hc.symm)
        | (obtain ⟨a, l, k, rfl⟩ := Go.WideShapes.okWide_slice hu hv; simpa [Value.cells] using hc.symm)
      subst hcv
      rw [hu]
      exact p1.2 0 q c rfl (by rw [hc]; rfl)
end Go.PS
