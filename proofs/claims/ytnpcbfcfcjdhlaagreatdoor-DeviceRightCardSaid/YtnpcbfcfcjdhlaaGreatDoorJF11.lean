/- JF11. -/
import Derived.Test.YtnpcbfcfcjdhlaaGreatDoorRows
import Derived.JoinedOf
namespace Go.Proofs.YtnpcbfcfcjdhlaaGreatDoor
section
open Go
theorem Zc:(Tryz.pinned.checked.prog.mayEnter)=true:=by kernel_rfl
