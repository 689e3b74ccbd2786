/- TieB. -/
import Derived.Test.YtnpcbfcfcjdhlaaGreatDoorRows
import Derived.LaidByTextLater
import Derived.SevenTiedAt
namespace Go.Proofs.YtnpcbfcfcjdhlaaGreatDoor
section
open Go
theorem aq6:Tryz.prog.worded (varsWordLater !true)=false:=by kernel_rfl
