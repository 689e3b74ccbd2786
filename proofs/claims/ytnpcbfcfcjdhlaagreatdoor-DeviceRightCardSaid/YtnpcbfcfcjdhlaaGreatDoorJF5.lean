/- JF5. -/
import Derived.Test.YtnpcbfcfcjdhlaaGreatDoorRows
import Derived.JoinedOf
namespace Go.Proofs.YtnpcbfcfcjdhlaaGreatDoor
section
open Go
theorem ar9:((Rows.deviceRightRow.inPlace==Tryz.pinned.checked.prog.inPlace 3))=true:=by kernel_rfl
