/- KF1. -/
import Derived.Test.YtnpcbfcfcjdhlaaGreatDoorCards
import Derived.SevenTiedAt
namespace Go.Proofs.YtnpcbfcfcjdhlaaGreatDoor.deviceRight
section
open Go
theorem ba5:Tryz.pinned.checked.prog.mainIs=some ((true, "68e5fb59171ff5471f5762f51717ffbd936f45516d1231be6c7b001360e184ca").1,(true, "68e5fb59171ff5471f5762f51717ffbd936f45516d1231be6c7b001360e184ca").2.toList):=by kernel_rfl
