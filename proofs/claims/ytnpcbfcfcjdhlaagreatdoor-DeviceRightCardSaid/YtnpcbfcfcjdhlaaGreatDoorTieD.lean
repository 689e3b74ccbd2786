/- TieD. -/
import Derived.Test.YtnpcbfcfcjdhlaaGreatDoorRows
import Derived.LaidByTextLater
import Derived.SevenTiedAt
namespace Go.Proofs.YtnpcbfcfcjdhlaaGreatDoor
section
open Go
theorem bb0:Tryz.prog.funcNamed "gosem.cut.vars"=some 638:=by kernel_rfl
