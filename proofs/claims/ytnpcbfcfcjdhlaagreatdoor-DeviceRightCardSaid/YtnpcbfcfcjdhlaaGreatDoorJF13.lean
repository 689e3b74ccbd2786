/- JF13. -/
import Derived.Test.YtnpcbfcfcjdhlaaGreatDoorRows
import Derived.JoinedOf
namespace Go.Proofs.YtnpcbfcfcjdhlaaGreatDoor
section
open Go
theorem Ze:((Tryz.pinned.checked.prog.make==some Rows.deviceRightRow.make))=true:=by kernel_rfl
