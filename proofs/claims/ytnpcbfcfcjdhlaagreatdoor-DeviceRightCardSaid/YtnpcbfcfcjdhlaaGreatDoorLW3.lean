/- LW3. -/
import Derived.Test.YtnpcbfcfcjdhlaaGreatDoorLW2
import Derived.SevenTiedAt
import Derived.ShutString
import Derived.ChangeOld
import Derived.Below
import Derived.Carry
import Derived.JoinedOf
import Derived.Handed
namespace Go.Proofs.YtnpcbfcfcjdhlaaGreatDoor.deviceRight
section
open Go.ChangeShapes Go.WideShapes Go.ChangeAt Go.RowKit Go.PS
theorem own:ownKnob Tryz.prog.godebug=none:=by kernel_rfl
theorem laidOut:laidOutB Tryz.prog=true:=by kernel_rfl
def b49:Value:= .agg #[.int .i64 0,.slice none 0 0,.slice none 0 0,.int .i64 0,.slice none 0 0,.int .i64 0,.int .i64 0,.slice none 0 0,.slice none 0 0]
set_option maxRecDepth 100000 in
theorem lifted(os:Os)(started:os.Started)(H:Type)(au:TypeId×Value→H):
  ReturnsInHanded {} Tryz.checked os 3 .any (fun w args=>(Rows.deviceRightSpec.pre au Tryz.prog Tryz.f3 Rows.deviceRightRow.domain false w args∧laidMet Tryz.prog Rows.deviceRightRow.laid w)∧sizedMet au Tryz.prog Tryz.f3 (OpenSpec.ofChange Rows.deviceRightSpec) false w args) (Rows.deviceRightSpec.post au Tryz.prog Tryz.f3 false true false false):=by
 refine aq1 (C:=Tryz.checked) (X:=fun w _=>laidMet Tryz.prog Rows.deviceRightRow.laid w) (fun _ _ _ hh h=>h.of_heap hh) own started (by kernel_rfl) Tryz.func3
  (ChangeSpec.witness_at (enc:=au) (C:=Tryz.checked) (os:=os) (X:=fun w _=>laidMet Tryz.prog Rows.deviceRightRow.laid w) false (Ly YP os) #[b49] 8 rfl (by kernel_rfl) (by kernel_rfl) (by kernel_rfl) (by kernel_rfl) (by kernel_rfl) (aq2 os _)) ?_
 intro cj2 base args ds gs before b50 hW hZ Ew hL;have qg:GI P cj2:=b47 Ew hL;have A2:∀(j:Nat) t v,Tryz.f3.params[j]?=some t→args[j]?=some v→Value.okWide Tryz.prog cj2 .any base t v:=b50;have hW':=hW;obtain⟨p,q,hA0,hV,rfl,hfz,Ou⟩:=hW;obtain⟨dz,gz,bz,⟨pz,qz,mE,hzV,rfl,_,_⟩,kZ⟩:=hZ;have hA:DataW.TrodAll au Tryz.prog cj2 0 (fun _=>true) true Tryz.f3.params.toList args.toList ds p:=hA0;have hz:DataW.TrodAll au Tryz.prog cj2 0 (fun _=>true) true Tryz.f3.params.toList args.toList dz pz:=mE;rw[Tryz.params3]at hA A2 hz;obtain⟨v0,vs0,d0,ds0,p0,q0,vU,rfl,rfl,h0,r0⟩:=trodAll_cons hA;obtain⟨rfl,rfl,rfl⟩:=trodAll_nil r0;obtain rfl:args= #[v0]:=by cases args;simp_all
 obtain⟨rfl,rfl⟩:=trodVars_none hV;obtain⟨v1,vs1,d1,ds1,p1,q1,bS5,rfl,rfl,O,r1⟩:=trodAll_cons hz;obtain⟨rfl,rfl,rfl⟩:=trodAll_nil r1;obtain rfl:v0=v1:=by simpa using bS5
 have lt0:∀x∈p0,x.block<cj2.heap.size:=by obtain⟨m,hm⟩:=h0;exact DataW.trod_lt m _ _ _ hm
 have hwt:∀y∈d1.weights Tryz.prog 32,y≤reachBytes:=fun y hy=>kZ y (by
  rw[Tryz.params3];exact List.mem_append_left _ hy)
 obtain⟨ps0,s0,rp0⟩:=ax0 12 Tryz.underlying32 (by kernel_rfl) (A2 0 32 v0 rfl rfl) O hwt;refine(ZI (vs:=[v0]) (EI 12 ps0 s0) qg rfl (bU4 rp0)).mono fun e W' ⟨F,qf⟩=> ?_;subst F;exact⟨_,rfl,_,_,_,[],_,[],hW',trodAll_mk1 (shut_bool Tryz.underlying4 _),(trodAll_cons_mk (Below.trod laidOut (by kernel_rfl) (of_decide_eq_true (by kernel_rfl)) h0 qf lt0) trodAll_mk0),rfl,qf.frame _,fun h=>by cases h⟩
