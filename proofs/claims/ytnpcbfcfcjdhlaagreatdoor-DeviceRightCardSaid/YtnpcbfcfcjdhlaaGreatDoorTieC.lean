/- TieC. -/
import Derived.Test.YtnpcbfcfcjdhlaaGreatDoorRows
import Derived.LaidByTextLater
import Derived.SevenTiedAt
namespace Go.Proofs.YtnpcbfcfcjdhlaaGreatDoor
section
open Go
theorem ba9:Tryz.prog.worded rootWordLater=true:=by kernel_rfl
