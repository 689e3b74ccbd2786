/- KF3. -/
import Derived.Test.YtnpcbfcfcjdhlaaGreatDoorCards
import Derived.SevenTiedAt
namespace Go.Proofs.YtnpcbfcfcjdhlaaGreatDoor.deviceRight
section
open Go
theorem aq4:Tryz.pinned.checked.prog.wantsStandIn 32=false:=by kernel_rfl
