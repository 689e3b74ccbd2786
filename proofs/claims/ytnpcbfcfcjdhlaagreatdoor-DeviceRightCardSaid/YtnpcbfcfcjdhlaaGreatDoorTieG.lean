/- TieG. -/
import Derived.Test.YtnpcbfcfcjdhlaaGreatDoorTieA
import Derived.Test.YtnpcbfcfcjdhlaaGreatDoorTieB
import Derived.Test.YtnpcbfcfcjdhlaaGreatDoorTieC
import Derived.Test.YtnpcbfcfcjdhlaaGreatDoorTieD
import Derived.Test.YtnpcbfcfcjdhlaaGreatDoorTieE
import Derived.Test.YtnpcbfcfcjdhlaaGreatDoorTieF
namespace Go.Proofs.YtnpcbfcfcjdhlaaGreatDoor
section
open Go
theorem bz2:Tryz.prog.laidByTextLater aq7 [.data,.data,.data,.data,.data] true:=
 Program.laidByTextLater_of_run 638 400 8 ba8 aq6 ba9 aq8 bb0 aq9 bb2 bb3 b51
theorem F5:Rows.deviceRightRow.laidByTextAt .later Tryz.pinned [.pinned,.data,.data,.data,.data,.data] true:=
 OpenClaim.laidByTextAt_pinned rfl rfl bz2 rfl rfl rfl rfl (fun y hy _e=>by
  simp only[Rows.deviceRightRow,List.zip_cons_cons,List.zip_nil_right,List.mem_cons,List.mem_nil_iff,or_false]at hy;rcases hy with rfl|rfl|rfl|rfl|rfl|rfl
  ·exact⟨ot,by kernel_rfl⟩
  ·cases _e
  ·cases _e
  ·cases _e
  ·cases _e
  ·cases _e) bb1
