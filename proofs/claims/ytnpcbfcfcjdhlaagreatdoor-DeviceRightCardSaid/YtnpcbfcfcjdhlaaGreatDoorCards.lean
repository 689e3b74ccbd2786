/-
  DERIVED. GIVEN WITH THE SEED: THE CARDS: each row of YtnpcbfcfcjdhlaaGreatDoorRows.lean that lists a variable, with what it lists TIED to the program's text (the seventh form; the later family's looks); each row that meets fmt, with fmt's text TOLD by the authors' own Lean function (tested against real Go, not proved from fmt's source: count such statements apart). THE CARD IS WHAT COUNTS. Prove the row's statement (the work); the ties are given (YtnpcbfcfcjdhlaaGreatDoorTie.lean); close each card by the builder's one call (the guide's Derived/Test/ToyasCard.lean, 'card_holds'). Laid BY PROGRAM, IN A SANDBOX (cutbox-door.mjs). By AI agents, Wed Nov 11 2026. No macro, syntax, notation, axiom, sorry.
-/
import Derived.Test.YtnpcbfcfcjdhlaaGreatDoorRows
import GoSem.ClaimSeven
namespace Go.Proofs.YtnpcbfcfcjdhlaaGreatDoor
namespace Rows

/-- THE TIED CARD OF 'filespacelaw32.DeviceRight'. -/
def deviceRightCard : Claim7 := { stood := { row := deviceRightRow, standIns := [], harness := (true, "68e5fb59171ff5471f5762f51717ffbd936f45516d1231be6c7b001360e184ca"), looks := false }, kinds := [], alts := [], laidByText := true, laidKinds := [.pinned, .data, .data, .data, .data, .data], laidTests := true, laidLooks := .later }
def DeviceRightCardSaid : Prop := Claim7.holds Tryz.pinned (.plain (OpenSpec.ofChange deviceRightSpec)) deviceRightCard

/-- THE SECOND FORM's CARD OF 'filespacelaw32.DeviceRight'. -/
def deviceRightUptoCard : Claim7 := { stood := { row := deviceRightUptoRow, standIns := [], harness := (true, "68e5fb59171ff5471f5762f51717ffbd936f45516d1231be6c7b001360e184ca"), looks := false }, kinds := [], alts := [], laidByText := true, laidKinds := [.pinned, .data, .data, .data, .data, .data], laidTests := true, laidLooks := .later }
def DeviceRightUptoCardSaid : Prop := Claim7.holds Tryz.pinned (.plain (OpenSpec.upto deviceRightSpec)) deviceRightUptoCard
end Rows
end Go.Proofs.YtnpcbfcfcjdhlaaGreatDoor
