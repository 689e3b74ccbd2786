/- KF4. -/
import Derived.Test.YtnpcbfcfcjdhlaaGreatDoorLW4
namespace Go.Proofs.YtnpcbfcfcjdhlaaGreatDoor.deviceRight
section
open Go
theorem VV {c:OpenClaim} {P:Program} {f:Nat}(hs:c.start= .entering)(hn:P.funcNamed c.func=some f)(hg:P.goes f=false):false=c.goesBy P:=by
 unfold OpenClaim.goesBy Program.goesAt Program.goesFrom;rw[hn,hs];simp [hg]
theorem ba6:Tryz.pinned.checked.prog.funcs.toList.all (fun fn=> !fn.goes)=true:=by kernel_rfl
theorem ba7:false=Rows.deviceRightRow.goesBy Tryz.pinned.checked.prog:=by
 have jM:∀g:Nat,(Tryz.pinned.checked.prog.funcs[g]?).any Func.goes=false:=fun g=>by
  cases h:Tryz.pinned.checked.prog.funcs[g]? with
  |none=>rfl
  |some fn=>
   have h2:=List.all_eq_true.1 ba6 fn (Array.mem_toList_iff.2 (Array.mem_of_getElem? h));simpa using h2
 have h3:Tryz.pinned.checked.prog.goes 3=false:=by
  unfold Program.goes;rw[Bool.or_eq_false_iff];refine⟨?_,?_⟩
  ·rw[List.any_eq_false];intro g _;rw[jM g];exact Bool.false_ne_true
  ·have h4:Tryz.pinned.checked.prog.funcs.any Func.goes=false:=by
    rw[Array.any_eq_false'];intro fn hfn;have h2:=List.all_eq_true.1 ba6 fn (Array.mem_toList_iff.2 hfn);simpa using h2
   rw[h4,Bool.and_false]
 exact VV rfl rowNamed h3
