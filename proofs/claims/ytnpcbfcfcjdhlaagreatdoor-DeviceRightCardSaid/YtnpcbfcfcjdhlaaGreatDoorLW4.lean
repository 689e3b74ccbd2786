/- LW4. -/
import Derived.Test.YtnpcbfcfcjdhlaaGreatDoorJFZ
import Derived.Test.YtnpcbfcfcjdhlaaGreatDoorLW3
namespace Go.Proofs.YtnpcbfcfcjdhlaaGreatDoor.deviceRight
section
open Go.ChangeShapes Go.WideShapes Go.ChangeAt Go.RowKit Go.PS
theorem rowNamed:Tryz.pinned.checked.prog.funcNamed Rows.deviceRightRow.func=some 3:=by kernel_rfl
theorem bs7:Tryz.f3.isInstance Tryz.pinned.checked.prog Rows.deviceRightRow.origin Rows.deviceRightRow.targs:=of_decide_eq_true (by kernel_rfl)
theorem over:Rows.deviceRightRow.holds Tryz.pinned (OpenSpec.ofChange Rows.deviceRightSpec):=
 OpenClaim.holds_of_wide 3 Tryz.f3 rfl rfl rfl rfl rfl rfl rfl ⟨rfl,rfl,rfl,rfl,rfl⟩ rfl rfl rfl rfl rfl rowNamed Tryz.func3 as0
  bs7 (by unfold Func.isWrapper;first|(rw[if_pos (by decide+kernel)];kernel_rfl)|(rw[if_neg (by decide+kernel)];exact⟨rfl,rfl⟩))
  (fun os started H au _=>lifted os started H au)
