/-
  No cell of these rows narrows 'for every input' (looked for: loops, veiled, ifaces, maps, wideKeys, modest, calm, conditions, laid).
  DERIVED. THE GIVEN ROWS OF THIS SEAT. 7 by the template 'for every input the law returns true; each argument reads behind the call as it read before'; 0 by the template 'total and deterministic' (their statements: YtnkmcmflfedmkaaTotals.lean).
  GIVEN WITH THE SEED: the statements are not yours to turn. If you find one false, say at which input.
  Laid BY PROGRAM, IN A SANDBOX (cutbox-rows.mjs): the forced cells as the released guide's own fill.sh prints them over the translation 92ffd24fa458b5f9… (all of the seat's roots in one cut). By AI agents, Wed Nov 11 2026. No macro, syntax, notation, axiom, sorry.
-/
import Derived.Test.YtnkmcmflfedmkaaChecked
import GoSem.Claim
import GoSem.ClaimJoined
import GoSem.ClaimMapViews
import Derived.JoinedTies
import Derived.KernelRfl
namespace Go.Proofs.Ytnkmcmflfedmkaa
/- THE CELL 'sum', in the pinned program and in every row, IS THE sha256 OF THE DUMP (.gsa) THAT YtnkmcmflfedmkaaProg.lean LOADS. Nothing in Lean hashes anything: it is a label: what it is worth is what the hold of that sum in a sandbox is worth. -/
noncomputable def Try.pinned : Pinned := { name := "ytnkmcmflfedmkaa", sum := "92ffd24fa458b5f9ccc6243304bf2ec5a21385c76db50f36615989a016b56fc8", checked := Try.checked }
namespace Rows
def none {H : Type} : Left H := { results := [], args := [] }

/-- 'filespacelaw08.MsgKinds': WHATEVER THE INPUT: true; the input reads as it did. -/
def msgKindsSpec : ChangeSpec := { name := "msgKinds", fn := fun _ => fun
  | [d] => { results := [.lit (.bool true)], args := [d] }
  | _ => none }
def msgKindsRow : OpenClaim := { program := "ytnkmcmflfedmkaa", sum := "92ffd24fa458b5f9ccc6243304bf2ec5a21385c76db50f36615989a016b56fc8", func := "filespace/filespacelaw08.MsgKinds", spec := "msgKinds", unfollowed := true, recurses := true, apart := false }
def MsgKindsSaid : Prop := msgKindsRow.holds Try.pinned (OpenSpec.ofChange msgKindsSpec)

/-- ITS FALSE NEIGHBOUR: 'it returns false'. Refute it at one input. -/
def msgKindsWrong : ChangeSpec := { name := "msgKinds", fn := fun _ => fun
  | [d] => { results := [.lit (.bool false)], args := [d] }
  | _ => none }
def MsgKindsWrongFalsely : Prop := msgKindsRow.holds Try.pinned (OpenSpec.ofChange msgKindsWrong)

/-- 'filespacelaw08.MsgNames': WHATEVER THE INPUT: true; the input reads as it did. -/
def msgNamesSpec : ChangeSpec := { name := "msgNames", fn := fun _ => fun
  | [d1, d2] => { results := [.lit (.bool true)], args := [d1, d2] }
  | _ => none }
def msgNamesRow : OpenClaim := { program := "ytnkmcmflfedmkaa", sum := "92ffd24fa458b5f9ccc6243304bf2ec5a21385c76db50f36615989a016b56fc8", func := "filespace/filespacelaw08.MsgNames", spec := "msgNames", unfollowed := true, recurses := true, apart := false }
def MsgNamesSaid : Prop := msgNamesRow.holds Try.pinned (OpenSpec.ofChange msgNamesSpec)

/-- ITS FALSE NEIGHBOUR: 'it returns false'. Refute it at one input. -/
def msgNamesWrong : ChangeSpec := { name := "msgNames", fn := fun _ => fun
  | [d1, d2] => { results := [.lit (.bool false)], args := [d1, d2] }
  | _ => none }
def MsgNamesWrongFalsely : Prop := msgNamesRow.holds Try.pinned (OpenSpec.ofChange msgNamesWrong)

/-- 'filespacelaw08.MsgChecks': WHATEVER THE INPUT: true; the input reads as it did. -/
def msgChecksSpec : ChangeSpec := { name := "msgChecks", fn := fun _ => fun
  | [d] => { results := [.lit (.bool true)], args := [d] }
  | _ => none }
def msgChecksRow : OpenClaim := { program := "ytnkmcmflfedmkaa", sum := "92ffd24fa458b5f9ccc6243304bf2ec5a21385c76db50f36615989a016b56fc8", func := "filespace/filespacelaw08.MsgChecks", spec := "msgChecks", unfollowed := true, recurses := true, apart := false }
def MsgChecksSaid : Prop := msgChecksRow.holds Try.pinned (OpenSpec.ofChange msgChecksSpec)

/-- ITS FALSE NEIGHBOUR: 'it returns false'. Refute it at one input. -/
def msgChecksWrong : ChangeSpec := { name := "msgChecks", fn := fun _ => fun
  | [d] => { results := [.lit (.bool false)], args := [d] }
  | _ => none }
def MsgChecksWrongFalsely : Prop := msgChecksRow.holds Try.pinned (OpenSpec.ofChange msgChecksWrong)

/-- 'filespacelaw08.MsgUnused': WHATEVER THE INPUT: true; the input reads as it did. -/
def msgUnusedSpec : ChangeSpec := { name := "msgUnused", fn := fun _ => fun
  | [d1, d2] => { results := [.lit (.bool true)], args := [d1, d2] }
  | _ => none }
def msgUnusedRow : OpenClaim := { program := "ytnkmcmflfedmkaa", sum := "92ffd24fa458b5f9ccc6243304bf2ec5a21385c76db50f36615989a016b56fc8", func := "filespace/filespacelaw08.MsgUnused", spec := "msgUnused", unfollowed := true, recurses := true, apart := false }
def MsgUnusedSaid : Prop := msgUnusedRow.holds Try.pinned (OpenSpec.ofChange msgUnusedSpec)

/-- ITS FALSE NEIGHBOUR: 'it returns false'. Refute it at one input. -/
def msgUnusedWrong : ChangeSpec := { name := "msgUnused", fn := fun _ => fun
  | [d1, d2] => { results := [.lit (.bool false)], args := [d1, d2] }
  | _ => none }
def MsgUnusedWrongFalsely : Prop := msgUnusedRow.holds Try.pinned (OpenSpec.ofChange msgUnusedWrong)

/-- 'filespacelaw08.MsgAnswers': WHATEVER THE INPUT: true; the input reads as it did. -/
def msgAnswersSpec : ChangeSpec := { name := "msgAnswers", fn := fun _ => fun
  | [d1, d2] => { results := [.lit (.bool true)], args := [d1, d2] }
  | _ => none }
def msgAnswersRow : OpenClaim := { program := "ytnkmcmflfedmkaa", sum := "92ffd24fa458b5f9ccc6243304bf2ec5a21385c76db50f36615989a016b56fc8", func := "filespace/filespacelaw08.MsgAnswers", spec := "msgAnswers", unfollowed := true, recurses := true, apart := false }
def MsgAnswersSaid : Prop := msgAnswersRow.holds Try.pinned (OpenSpec.ofChange msgAnswersSpec)

/-- ITS FALSE NEIGHBOUR: 'it returns false'. Refute it at one input. -/
def msgAnswersWrong : ChangeSpec := { name := "msgAnswers", fn := fun _ => fun
  | [d1, d2] => { results := [.lit (.bool false)], args := [d1, d2] }
  | _ => none }
def MsgAnswersWrongFalsely : Prop := msgAnswersRow.holds Try.pinned (OpenSpec.ofChange msgAnswersWrong)

/-- 'filespacelaw08.MsgFails': WHATEVER THE INPUT: true; the input reads as it did. -/
def msgFailsSpec : ChangeSpec := { name := "msgFails", fn := fun _ => fun
  | [d1, d2] => { results := [.lit (.bool true)], args := [d1, d2] }
  | _ => none }
def msgFailsRow : OpenClaim := { program := "ytnkmcmflfedmkaa", sum := "92ffd24fa458b5f9ccc6243304bf2ec5a21385c76db50f36615989a016b56fc8", func := "filespace/filespacelaw08.MsgFails", spec := "msgFails", unfollowed := true, recurses := true, apart := false }
def MsgFailsSaid : Prop := msgFailsRow.holds Try.pinned (OpenSpec.ofChange msgFailsSpec)

/-- ITS FALSE NEIGHBOUR: 'it returns false'. Refute it at one input. -/
def msgFailsWrong : ChangeSpec := { name := "msgFails", fn := fun _ => fun
  | [d1, d2] => { results := [.lit (.bool false)], args := [d1, d2] }
  | _ => none }
def MsgFailsWrongFalsely : Prop := msgFailsRow.holds Try.pinned (OpenSpec.ofChange msgFailsWrong)

/-- 'filespacelaw08.MsgSame': WHATEVER THE INPUT: true; the input reads as it did. -/
def msgSameSpec : ChangeSpec := { name := "msgSame", fn := fun _ => fun
  | [d1, d2] => { results := [.lit (.bool true)], args := [d1, d2] }
  | _ => none }
def msgSameRow : OpenClaim := { program := "ytnkmcmflfedmkaa", sum := "92ffd24fa458b5f9ccc6243304bf2ec5a21385c76db50f36615989a016b56fc8", func := "filespace/filespacelaw08.MsgSame", spec := "msgSame", unfollowed := true, recurses := true, apart := false }
def MsgSameSaid : Prop := msgSameRow.holds Try.pinned (OpenSpec.ofChange msgSameSpec)

/-- ITS FALSE NEIGHBOUR: 'it returns false'. Refute it at one input. -/
def msgSameWrong : ChangeSpec := { name := "msgSame", fn := fun _ => fun
  | [d1, d2] => { results := [.lit (.bool false)], args := [d1, d2] }
  | _ => none }
def MsgSameWrongFalsely : Prop := msgSameRow.holds Try.pinned (OpenSpec.ofChange msgSameWrong)

/- THE SECOND FORM. 'bulk': how many values and letters a reading holds, each counted each time it is reached (what is shared counts as often as it is met; a slice's spare places count too). A statement '..UptoSaid' is the law's where the arguments, and the package variables that the reading takes, are together of bulk at most 1048576: NARROWER than '..Said'. Prove '..Said' where nothing that the law and all that it calls make is longer than what came in: it says more and counts as full. Else prove '..UptoSaid'. A law counts once. -/
mutual
def uptoBulk {H : Type} : DataW H → Nat
  | .lit (.string bytes) => bytes.length + 1
  | .lit _ => 1
  | .nil => 1
  | .ptr d => uptoBulk d + 1
  | .slice elems spare => uptoBulkAll elems + uptoBulkAll spare + 1
  | .agg parts => uptoBulkAll parts + 1
  | .iface _ d => uptoBulk d + 1
  | .map entries => uptoBulkEntries entries + 1
  | .held _ => 1
def uptoBulkAll {H : Type} : List (DataW H) → Nat
  | [] => 0
  | d :: r => uptoBulk d + uptoBulkAll r
def uptoBulkEntries {H : Type} : List (Lit × DataW H) → Nat
  | [] => 0
  | x :: r => uptoBulkEntry x + uptoBulkEntries r
def uptoBulkEntry {H : Type} : Lit × DataW H → Nat
  | (.string bytes, d) => bytes.length + uptoBulk d + 1
  | (_, d) => uptoBulk d + 1
 end
def uptoSmall : (H : Type) → List (DataW H) → Bool := fun _ ds => decide (uptoBulkAll ds ≤ 1048576)
def OpenSpec.upto (s : _root_.Go.ChangeSpec) : _root_.Go.OpenSpec := { _root_.Go.OpenSpec.ofChange s with cond := some uptoSmall }

/-- 'filespacelaw08.MsgKinds', WHERE WHAT IT READS IS OF BULK AT MOST 1048576: true; the input reads as it did. -/
def msgKindsUptoRow : OpenClaim := { program := "ytnkmcmflfedmkaa", sum := "92ffd24fa458b5f9ccc6243304bf2ec5a21385c76db50f36615989a016b56fc8", func := "filespace/filespacelaw08.MsgKinds", spec := "msgKinds", unfollowed := true, recurses := true, apart := false, narrowed := true }
def MsgKindsUptoSaid : Prop := msgKindsUptoRow.holds Try.pinned (OpenSpec.upto msgKindsSpec)

/-- 'filespacelaw08.MsgNames', WHERE WHAT IT READS IS OF BULK AT MOST 1048576: true; the input reads as it did. -/
def msgNamesUptoRow : OpenClaim := { program := "ytnkmcmflfedmkaa", sum := "92ffd24fa458b5f9ccc6243304bf2ec5a21385c76db50f36615989a016b56fc8", func := "filespace/filespacelaw08.MsgNames", spec := "msgNames", unfollowed := true, recurses := true, apart := false, narrowed := true }
def MsgNamesUptoSaid : Prop := msgNamesUptoRow.holds Try.pinned (OpenSpec.upto msgNamesSpec)

/-- 'filespacelaw08.MsgChecks', WHERE WHAT IT READS IS OF BULK AT MOST 1048576: true; the input reads as it did. -/
def msgChecksUptoRow : OpenClaim := { program := "ytnkmcmflfedmkaa", sum := "92ffd24fa458b5f9ccc6243304bf2ec5a21385c76db50f36615989a016b56fc8", func := "filespace/filespacelaw08.MsgChecks", spec := "msgChecks", unfollowed := true, recurses := true, apart := false, narrowed := true }
def MsgChecksUptoSaid : Prop := msgChecksUptoRow.holds Try.pinned (OpenSpec.upto msgChecksSpec)

/-- 'filespacelaw08.MsgUnused', WHERE WHAT IT READS IS OF BULK AT MOST 1048576: true; the input reads as it did. -/
def msgUnusedUptoRow : OpenClaim := { program := "ytnkmcmflfedmkaa", sum := "92ffd24fa458b5f9ccc6243304bf2ec5a21385c76db50f36615989a016b56fc8", func := "filespace/filespacelaw08.MsgUnused", spec := "msgUnused", unfollowed := true, recurses := true, apart := false, narrowed := true }
def MsgUnusedUptoSaid : Prop := msgUnusedUptoRow.holds Try.pinned (OpenSpec.upto msgUnusedSpec)

/-- 'filespacelaw08.MsgAnswers', WHERE WHAT IT READS IS OF BULK AT MOST 1048576: true; the input reads as it did. -/
def msgAnswersUptoRow : OpenClaim := { program := "ytnkmcmflfedmkaa", sum := "92ffd24fa458b5f9ccc6243304bf2ec5a21385c76db50f36615989a016b56fc8", func := "filespace/filespacelaw08.MsgAnswers", spec := "msgAnswers", unfollowed := true, recurses := true, apart := false, narrowed := true }
def MsgAnswersUptoSaid : Prop := msgAnswersUptoRow.holds Try.pinned (OpenSpec.upto msgAnswersSpec)

/-- 'filespacelaw08.MsgFails', WHERE WHAT IT READS IS OF BULK AT MOST 1048576: true; the input reads as it did. -/
def msgFailsUptoRow : OpenClaim := { program := "ytnkmcmflfedmkaa", sum := "92ffd24fa458b5f9ccc6243304bf2ec5a21385c76db50f36615989a016b56fc8", func := "filespace/filespacelaw08.MsgFails", spec := "msgFails", unfollowed := true, recurses := true, apart := false, narrowed := true }
def MsgFailsUptoSaid : Prop := msgFailsUptoRow.holds Try.pinned (OpenSpec.upto msgFailsSpec)

/-- 'filespacelaw08.MsgSame', WHERE WHAT IT READS IS OF BULK AT MOST 1048576: true; the input reads as it did. -/
def msgSameUptoRow : OpenClaim := { program := "ytnkmcmflfedmkaa", sum := "92ffd24fa458b5f9ccc6243304bf2ec5a21385c76db50f36615989a016b56fc8", func := "filespace/filespacelaw08.MsgSame", spec := "msgSame", unfollowed := true, recurses := true, apart := false, narrowed := true }
def MsgSameUptoSaid : Prop := msgSameUptoRow.holds Try.pinned (OpenSpec.upto msgSameSpec)

end Rows
end Go.Proofs.Ytnkmcmflfedmkaa
