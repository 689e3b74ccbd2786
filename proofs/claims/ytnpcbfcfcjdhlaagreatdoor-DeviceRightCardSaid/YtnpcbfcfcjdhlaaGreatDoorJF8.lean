/- JF8. -/
import Derived.Test.YtnpcbfcfcjdhlaaGreatDoorRows
import Derived.JoinedOf
namespace Go.Proofs.YtnpcbfcfcjdhlaaGreatDoor
section
open Go
theorem Y9:((Rows.deviceRightRow.named==Tryz.pinned.checked.prog.varsNamed 3))=true:=by kernel_rfl
