/- JF0. -/
import Derived.Test.YtnpcbfcfcjdhlaaGreatDoorRows
import Derived.JoinedOf
namespace Go.Proofs.YtnpcbfcfcjdhlaaGreatDoor
section
open Go
theorem ar0:(Rows.deviceRightRow.wf (OpenSpec.ofChange Rows.deviceRightSpec))=true:=by kernel_rfl
theorem ar1:(Tryz.f3.params.all (Tryz.pinned.checked.prog.readableRec ·))=true:=by kernel_rfl
theorem ar2:(namedTie Tryz.pinned.checked.prog Rows.deviceRightRow.named Rows.deviceRightSpec.vars)=true:=by kernel_rfl
theorem ar3:((Rows.deviceRightRow.stops==[]))=true:=by kernel_rfl
theorem ar4:((Rows.deviceRightRow.knobs==[]))=true:=by kernel_rfl
theorem YS:((Rows.deviceRightRow.maps==(Tryz.f3.params.toList++Rows.deviceRightSpec.plain.varTypes Tryz.pinned.checked.prog).any (Tryz.pinned.checked.prog.mapsRec ·)))=true:=by kernel_rfl
theorem YT:((Rows.deviceRightRow.ifaces==(Tryz.f3.params.toList++Rows.deviceRightSpec.plain.varTypes Tryz.pinned.checked.prog).any (Tryz.pinned.checked.prog.ifacesRec ·)))=true:=by kernel_rfl
theorem YU:((Rows.deviceRightRow.mapsOut==Tryz.pinned.checked.prog.mapsAmong Tryz.f3.resultTypes.toList))=true:=by kernel_rfl
theorem YV:((Rows.deviceRightRow.loops==(Tryz.f3.params.toList++Rows.deviceRightSpec.plain.varTypes Tryz.pinned.checked.prog).any (Tryz.pinned.checked.prog.loopsFrom ·)))=true:=by kernel_rfl
theorem YW:((Rows.deviceRightRow.wideKeys==(Tryz.f3.params.toList++Rows.deviceRightSpec.plain.varTypes Tryz.pinned.checked.prog++Tryz.f3.resultTypes.toList).any (Tryz.pinned.checked.prog.wideKeysFrom ·)))=true:=by kernel_rfl
theorem YX:(Rows.deviceRightSpec.vars.all (Tryz.pinned.checked.prog.varReadable ·))=true:=by kernel_rfl
theorem YY:(Tryz.f3.resultTypes.all (fun t=>Tryz.pinned.checked.prog.readableRec t&&decide (t<Tryz.pinned.checked.prog.types.size)))=true:=by kernel_rfl
theorem YZ:((Rows.deviceRightRow.ifacesOut==Tryz.f3.resultTypes.toList.any (Tryz.pinned.checked.prog.ifacesRec ·)))=true:=by kernel_rfl
theorem Y1:((Rows.deviceRightRow.loopsOut==Tryz.f3.resultTypes.toList.any (Tryz.pinned.checked.prog.loopsFrom ·)))=true:=by kernel_rfl
theorem Y2:(Rows.deviceRightRow.shortTexts.isNone)=true:=by kernel_rfl
theorem Y3:((Rows.deviceRightRow.kinds==(if Rows.deviceRightRow.domain.isEmpty then []else Tryz.f3.params.toList.map fun t=>match Tryz.pinned.checked.prog.underlying t with|some (.int k)=>some k|_=>none)))=true:=by kernel_rfl
theorem Y4:((Rows.deviceRightRow.pinned==Rows.deviceRightRow.pinnedBy))=true:=by kernel_rfl
theorem Y5:((Rows.deviceRightRow.veiled==(Tryz.f3.params.toList++Rows.deviceRightSpec.plain.varTypes Tryz.pinned.checked.prog++Tryz.f3.resultTypes.toList).any (Tryz.pinned.checked.prog.veiledRec ·)))=true:=by kernel_rfl
theorem Y6:(Rows.deviceRightRow.veiledFits Tryz.pinned.checked.prog Tryz.f3.params.toList (Tryz.f3.params.toList++Rows.deviceRightSpec.plain.varTypes Tryz.pinned.checked.prog++Tryz.f3.resultTypes.toList))=true:=by kernel_rfl
