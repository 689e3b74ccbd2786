/- KF0. -/
import Derived.Test.YtnpcbfcfcjdhlaaGreatDoorCards
import Derived.SevenTiedAt
namespace Go.Proofs.YtnpcbfcfcjdhlaaGreatDoor.deviceRight
section
open Go
theorem bS6:Rows.deviceRightRow.wfByText (OpenSpec.ofChange Rows.deviceRightSpec)=true:=by kernel_rfl
