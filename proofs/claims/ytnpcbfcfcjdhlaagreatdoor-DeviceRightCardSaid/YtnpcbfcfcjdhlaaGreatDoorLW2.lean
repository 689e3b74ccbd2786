/- LW2. -/
import Derived.Test.YtnpcbfcfcjdhlaaGreatDoorZ6
import Derived.Test.YtnpcbfcfcjdhlaaGreatDoorRows
import Derived.HandedShaped
import Derived.LaidLaws
import Derived.ProofKit
namespace Go.Proofs.YtnpcbfcfcjdhlaaGreatDoor
section
open Go.ChangeShapes Go.WideShapes Go.ChangeAt Go.RowKit Go.PS
theorem aq1 {H:Type} {au:TypeId×Value→H} {a:Assume} {C:Checked} {os:Os} {f:FuncId} {fn:Func} {s:ChangeSpec} {conds:List PathCond} {apart fresh handsOn again:Bool} {X:World→Array Value→Prop}
  (hX:∀(w w':World) (args:Array Value),w.heap=w'.heap→X w args→X w' args)
  (own:ownKnob C.prog.godebug=none) (started:os.Started) (bS4:C.prog.inits.idxOf? f=none) (hfn:C.prog.funcs[f]?=some fn)
  (witness:∃(w:World) (tape:Tape) (i:Input),w.os=os∧(w.forCall tape i).Shaped C.prog∧i.vars=[]∧Input.okWide C.prog (w.forCall tape i) .any w.heap.size f i∧
   ((s.pre au C.prog fn conds apart (w.forCall tape i).memory i.args∧X (w.forCall tape i).memory i.args)∧sizedMet au C.prog fn (OpenSpec.ofChange s) apart (w.forCall tape i).memory i.args)∧a.holds C.prog (lone (Frame.enter C.prog f i.args .normal) [] (w.forCall tape i)))
  (ba4:∀(cj2:World) (base:Nat) (args:Array Value) (ds gs:List (DataW H)) (before:List MemPlace),
   (∀(j:Nat) t v,fn.params[j]?=some t→args[j]?=some v→Value.okWide C.prog cj2 .any base t v)→
   DataW.Whole au C.prog fn.params.toList s.vars apart cj2 args.toList ds gs before→
   (∃(ds gs:List (DataW H)) (before:List MemPlace),DataW.Whole au C.prog fn.params.toList s.vars apart cj2 args.toList ds gs before∧∀y∈DataW.weightsEach C.prog (fn.params.toList++(OpenSpec.ofChange s).bare.plain.varTypes C.prog) (ds++gs),y≤reachBytes)→
   cj2.ShapedOpen C.prog→X cj2 args→
   Calls C.prog f args cj2 fun e W'=>∃v,e= .returned v∧s.post au C.prog fn apart fresh handsOn again cj2 args v W'):
  ReturnsInHanded a C os f .any (fun w args=>(s.pre au C.prog fn conds apart w args∧X w args)∧sizedMet au C.prog fn (OpenSpec.ofChange s) apart w args) (s.post au C.prog fn apart fresh handsOn again):=by
 refine returnsInHanded_of_calls own started bS4 witness ?_;intro w tape i _ Ew _ DK Qn _;obtain⟨_,_,_,fn',cf6,_,_,_,_,A2⟩:=DK;have e:fn'=fn:=Option.some.inj (cf6.symm.trans hfn);subst e;obtain⟨⟨⟨ds,gs,before,hw,_⟩,hx⟩,_,ds2,gs2,bs6,GR,kZ⟩:=Qn;have hw':=DataW.Whole.of_heap (w':=w.forCall tape i) (by rfl) hw;have cf7:=DataW.Whole.of_heap (w':=w.forCall tape i) (by rfl) GR;refine(ba4 (w.forCall tape i) w.heap.size i.args ds gs before A2 hw' ⟨ds2,gs2,bs6,cf7,fun y hy=>of_decide_eq_true (List.all_eq_true.1 kZ y hy)⟩ Ew (hX _ _ _ (by rfl) hx)).mono fun e W' ⟨v,F,hp⟩=> ?_;subst F;exact ChangeSpec.post_blind hp
def cellsD(d:DataW Unit):List Value:=match d with
 | .agg l=>l.flatMap fun x=>match x with
  | .lit (.int k z)=> [.int k z]
  | .agg l2=>l2.map fun y=>match y with
   | .lit (.int k z)=> .int k z
   |_=>Go.undef
  |_=> []
 |_=> []
noncomputable def Ly(L:List (String×DataW Unit))(os:Os):World:=
 let w0:=World.holding Tryz.prog os ⟨#[],#[],[]⟩
 {w0 with heap:=L.foldl (fun h x=>match Tryz.prog.globalNamed x.1 with
   |some g=>h.modify g fun
    | .cells _ t frozen=> .cells (cellsD x.2).toArray t frozen
    |o=>o
   |none=>h) w0.heap}
def YP:List (String×DataW Unit):=Rows.deviceRightRow.laid
theorem aq2(os:Os)(args:Array Value):laidMet Tryz.prog YP ((Ly YP os).forCall (fun _ _=>0) ⟨#[],args,[]⟩).memory:=
 laidMet_of_run' 8 (by kernel_rfl) (by kernel_rfl)
theorem LA {cj2:World} {n:String} {g:Nat} {cs:Array Value}(hn:Tryz.prog.globalNamed n=some g)(h:cj2.var? Tryz.prog n=some cs):∃et fz,cj2.heap[g]?=some (.cells cs et fz):=by
 unfold World.var? at h;rw[hn]at h;simp only[Option.bind_some]at h;split at h
 ·rename_i c et fz hw;obtain rfl:=Option.some.inj h;exact⟨et,fz,hw⟩
 ·cases h
theorem b47 {cj2:World}(Ew:cj2.ShapedOpen Tryz.prog)(hL:laidMet Tryz.prog YP cj2):GI P cj2:=by
 obtain⟨ps,h,_⟩:=hL;obtain⟨_,_,_,_,_,_,_,_,_,_,h,_⟩:=h;obtain⟨_,_,_,_,_,_,_,_,_,_,h,_⟩:=h;obtain⟨g,t,cs,fuel,p,q,hg,ht,cf8,hd,h,_⟩:=h;obtain⟨g2,t2,cs2,ch0,p2,q2,hg2,ht2,b48,hd2,_,_⟩:=h;have n4:Tryz.prog.globalNamed "filespace/hash.rounds"=some 4:=by kernel_rfl
 have n3:Tryz.prog.globalNamed "internal/strconv.uint64pow10"=some 3:=by kernel_rfl
 obtain rfl:=Option.some.inj (n4.symm.trans hg);obtain rfl:=Option.some.inj (n3.symm.trans hg2);obtain rfl:=Option.some.inj ((show(Tryz.prog.globals[4]?).map (·.type)=some 440 by kernel_rfl).symm.trans ht);obtain rfl:=Option.some.inj ((show(Tryz.prog.globals[3]?).map (·.type)=some 436 by kernel_rfl).symm.trans ht2);have Y:cs.toList=gU.map fun z=>Value.int .u32 z:=Lib.cells_of_tab (zs:=gU) Tryz.underlying440 (by kernel_rfl) (by kernel_rfl) (by kernel_rfl) hd;have hc2:cs2.toList=Lib.pow10Tab.map fun z=>Value.int .u64 z:=Lib.cells_of_tab (zs:=Lib.pow10Tab) Tryz.underlying436 (by kernel_rfl) (by kernel_rfl) (by kernel_rfl) hd2;obtain⟨et,fz,hw⟩:=LA n4 cf8;obtain⟨et2,fz2,GR⟩:=LA n3 b48;refine⟨ay3.s1_3 cj2 Ew,⟨et2,fz2,by rw[GR,←hc2]⟩,fun g k l hg=> ?_⟩;unfold VX at hg;split at hg
 ·cases hg;exact⟨et,fz,by rw[hw,←Y]⟩
 ·cases hg
