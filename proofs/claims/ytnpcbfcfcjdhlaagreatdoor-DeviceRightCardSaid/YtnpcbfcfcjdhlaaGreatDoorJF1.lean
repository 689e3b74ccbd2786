/- JF1. -/
import Derived.Test.YtnpcbfcfcjdhlaaGreatDoorRows
import Derived.JoinedOf
namespace Go.Proofs.YtnpcbfcfcjdhlaaGreatDoor
section
open Go
theorem ar5:(laidOutB Tryz.pinned.checked.prog)=true:=by kernel_rfl
