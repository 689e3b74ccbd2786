/- KF2. -/
import Derived.Test.YtnpcbfcfcjdhlaaGreatDoorCards
import Derived.SevenTiedAt
namespace Go.Proofs.YtnpcbfcfcjdhlaaGreatDoor.deviceRight
section
open Go
theorem aq3:false=Tryz.pinned.checked.prog.looks []:=by kernel_rfl
