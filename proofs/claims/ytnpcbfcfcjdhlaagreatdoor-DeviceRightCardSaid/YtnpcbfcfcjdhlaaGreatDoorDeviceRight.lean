/- Right of the devices agrees with the reference for every world with short lists, and awake holds; no condition but the row's own. -/
import Derived.Test.YtnpcbfcfcjdhlaaGreatDoorTieG
import Derived.Test.YtnpcbfcfcjdhlaaGreatDoorKF0
import Derived.Test.YtnpcbfcfcjdhlaaGreatDoorKF1
import Derived.Test.YtnpcbfcfcjdhlaaGreatDoorKF2
import Derived.Test.YtnpcbfcfcjdhlaaGreatDoorKF3
import Derived.Test.YtnpcbfcfcjdhlaaGreatDoorKF4
namespace Go.Proofs.YtnpcbfcfcjdhlaaGreatDoor.deviceRight
section
open Go.ChangeShapes Go.WideShapes Go.ChangeAt Go.RowKit Go.PS
theorem proved:Rows.DeviceRightCardSaid:=
 Claim7.holds_tied_plain_at .later [] [.pinned,.data,.data,.data,.data,.data] true (true, "68e5fb59171ff5471f5762f51717ffbd936f45516d1231be6c7b001360e184ca") false
  over (fun _ h=>by cases h) bS6 (fun _ h=>by cases h) F5 rfl ⟨rfl,rfl⟩ ba5 rfl
  (fun f fn hf hfn=>by
   obtain rfl:f=3:=Option.some.inj (rowNamed.symm.trans hf)|>.symm;obtain rfl:fn=Tryz.f3:=(Option.some.inj (Tryz.func3.symm.trans hfn)).symm;exact⟨aq3,fun j t ht=>by
    rw[Tryz.params3]at ht;have h3:t=32:=by
     rcases j with _|j
     ·simpa using ht.symm
     ·simp at ht
    subst h3;exact aq4⟩)
  ba7
