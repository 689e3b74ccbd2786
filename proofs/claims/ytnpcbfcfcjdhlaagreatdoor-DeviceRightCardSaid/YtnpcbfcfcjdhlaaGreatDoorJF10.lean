/- JF10. -/
import Derived.Test.YtnpcbfcfcjdhlaaGreatDoorRows
import Derived.JoinedOf
namespace Go.Proofs.YtnpcbfcfcjdhlaaGreatDoor
section
open Go
theorem Zb:(Tryz.pinned.checked.prog.stopsHeard)=true:=by kernel_rfl
