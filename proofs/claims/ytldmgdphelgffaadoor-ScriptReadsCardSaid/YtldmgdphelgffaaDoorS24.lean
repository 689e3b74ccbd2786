/- The tables of the law ScriptReads at a start that fits. -/
import Derived.Test.YtldmgdphelgffaaDoorS17
namespace Go.Proofs.YtldmgdphelgffaaDoor
def laid5 : List (String × DataW Unit) := Rows.scriptReadsRow.laid
theorem laid5_met (os : Os) (args : Array Value) : laidMet Tryd.prog laid5 ((laidWorld laid5 os).forCall (fun _ _ => 0) ⟨#[], args, []⟩).memory :=
  laidMet_of_run' 8 (by kernel_rfl) (by kernel_rfl)
end Go.Proofs.YtldmgdphelgffaaDoor
