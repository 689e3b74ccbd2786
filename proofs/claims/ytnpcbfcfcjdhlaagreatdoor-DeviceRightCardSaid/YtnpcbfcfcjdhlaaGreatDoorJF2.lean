/- JF2. -/
import Derived.Test.YtnpcbfcfcjdhlaaGreatDoorRows
import Derived.JoinedOf
namespace Go.Proofs.YtnpcbfcfcjdhlaaGreatDoor
section
open Go
theorem ar6:(mapsRowed Tryz.pinned.checked.prog)=true:=by kernel_rfl
