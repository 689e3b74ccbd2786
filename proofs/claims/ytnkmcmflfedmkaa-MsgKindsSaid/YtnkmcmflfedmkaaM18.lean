/- The contracts of the laws of kinds and names, by the shape of their arguments. -/
import Derived.Test.YtnkmcmflfedmkaaM17
import Derived.Test.YtnkmcmflfedmkaaU2
namespace Go.Proofs.Ytnkmcmflfedmkaa
open Go.PS

theorem no_struct3 : ∀ fs, P.underlying 3 ≠ some (.struct fs) := by rw [show P.underlying 3 = some (.int .i64) from Try.underlying3]; intro fs h; cases h

theorem law_MsgKinds (ps0 : List PV) (s0 : Sh P 6 3 ps0) : Ok P 3 [argPV P 3 ps0] (Bo true) := by
  obtain ⟨i, rfl, _⟩ := sh_int Try.underlying3 s0
  rw [arg_one no_struct3]
  exact kinds_ok i

theorem law_MsgNames (ps0 : List PV) (s0 : Sh P 6 3 ps0) (ps1 : List PV) (s1 : Sh P 6 3 ps1) : Ok P 4 [argPV P 3 ps0, argPV P 3 ps1] (Bo true) := by
  obtain ⟨i, rfl, _⟩ := sh_int Try.underlying3 s0
  obtain ⟨j, rfl, _⟩ := sh_int Try.underlying3 s1
  rw [arg_one no_struct3, arg_one no_struct3]
  exact names4_ok i j
end Go.Proofs.Ytnkmcmflfedmkaa
