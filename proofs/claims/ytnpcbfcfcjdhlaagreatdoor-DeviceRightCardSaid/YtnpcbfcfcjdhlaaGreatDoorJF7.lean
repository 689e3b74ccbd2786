/- JF7. -/
import Derived.Test.YtnpcbfcfcjdhlaaGreatDoorRows
import Derived.JoinedOf
namespace Go.Proofs.YtnpcbfcfcjdhlaaGreatDoor
section
open Go
theorem Y8:((Rows.deviceRightRow.recurses==Tryz.pinned.checked.prog.recurses 3))=true:=by kernel_rfl
