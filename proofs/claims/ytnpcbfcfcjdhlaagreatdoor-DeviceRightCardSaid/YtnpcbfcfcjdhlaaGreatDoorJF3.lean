/- JF3. -/
import Derived.Test.YtnpcbfcfcjdhlaaGreatDoorRows
import Derived.JoinedOf
namespace Go.Proofs.YtnpcbfcfcjdhlaaGreatDoor
section
open Go
theorem ar7:((Tryz.pinned.checked.prog.stops==[]))=true:=by kernel_rfl
