/- JF12. -/
import Derived.Test.YtnpcbfcfcjdhlaaGreatDoorRows
import Derived.JoinedOf
namespace Go.Proofs.YtnpcbfcfcjdhlaaGreatDoor
section
open Go
theorem Zd:((Rows.deviceRightRow.lifted==Tryz.pinned.checked.prog.liftsFinal))=true:=by kernel_rfl
