/- JF4. -/
import Derived.Test.YtnpcbfcfcjdhlaaGreatDoorRows
import Derived.JoinedOf
namespace Go.Proofs.YtnpcbfcfcjdhlaaGreatDoor
section
open Go
theorem ar8:((Tryz.pinned.checked.prog.stopKnobs==[]))=true:=by kernel_rfl
