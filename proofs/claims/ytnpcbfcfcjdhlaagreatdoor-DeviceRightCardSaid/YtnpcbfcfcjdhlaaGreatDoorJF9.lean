/- JF9. -/
import Derived.Test.YtnpcbfcfcjdhlaaGreatDoorRows
import Derived.JoinedOf
namespace Go.Proofs.YtnpcbfcfcjdhlaaGreatDoor
section
open Go
theorem Za:((Rows.deviceRightRow.plainKeys==Tryz.pinned.checked.prog.plainKeys))=true:=by kernel_rfl
