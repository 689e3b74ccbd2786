/- Z4. -/
import Derived.Test.YtnpcbfcfcjdhlaaGreatDoorZ3
import Derived.Laws.CopyRow
import Derived.Laws.Externs
import Derived.Lib.Overlaps
import Derived.Shelf.Spec.SlicesInsert
import Derived.Lib.AppendZerosOnto
set_option linter.all false
set_option linter.defProp false
set_option maxHeartbeats 9999999
open Go.Proofs.Tryz
noncomputable section
namespace Go.Proofs.YtnpcbfcfcjdhlaaGreatDoor
section
open Go.PS Wf
def p5(s:y_)(q:Pt):mL×Pt:=mK<|o9 s q
def xb(s:y_)(q:Pt):p5 s q=o9 s q:=ni _
def aL9(s:y_):l_ J->Hp->Option (J×Hp×l_ Prop):=λaa h=>match Hy aa,BA h with
 |true,some (s',z,b)=>some (.bg [(af aV).au (p5 s (z.toNat,b)).1.aN,(af jl).au (p5 s (z.toNat,b)).1.bW],[dB s (p5 s (z.toNat,b)).2 true],[s'=s,z=(z.toNat:Int),z.toNat<=s.size])
 |_,_=>none
def aM0 {E:Env}(s:y_)(hs:s.size<=aq)(hE:an P E):an P (cF 181 (aL9 s) E):=fC hE λaa h r h' ob O h2=>by
 unfold aL9 at O;split at O
 .rename_i s' z b e1 e2;cases O;have k:=Kx s (z.toNat,b) hs<|h2 (z.toNat<=s.size) sS;have es:s'=s:=h2 _ sS;have ez:z=(z.toNat:Int):=h2 _ sS;subst es;rw[wX e1,r7 e2,xb];dsimp only[dB]at k⊢;rw[<-ez]at k;exact k
 .cases O
def oa(x:ay)(kd:Int)(r:jl):RR:=mK<|cW x kd r
def CU(x:ay)(kd:Int)(r:jl):oa x kd r=cW x kd r:=ni _
def CV(x:ay)(g m:Nat)(e:mL):LR:=mK<|kI x g m e
def FO(x:ay)(g m:Nat)(e:mL):CV x g m e=kI x g m e:=ni _
def iT(l:l_ aV):bh aV:=⟨l.length,λi=>l.getD i default⟩
def BN(x:ay)(g:Nat):Prop:=∀(m:Nat) (e:mL),m<=g->m<=1024->Ok P 182 [(af ay).au x,(af aV).au e.aN,(af jl).au e.bW,I m] (.bg [(ak aV).au<|iT (kI x g m e).2,I (kI x g m e).1])
def aM1(x:ay)(q:ay×Int×jl):Prop:=q.1=x/\(q.2.1=1\/q.2.1=3)
def bw5(x:ay)(g:Nat)(q:ay×aV×jl×Int):Prop:=q.1=x/\0<=q.2.2.2/\q.2.2.2.toNat<=g/\q.2.2.2<=1024
def bG6(x:ay)(g:Nat):Env:=aF 182 (bN (a4 (af ay) (af aV) (af jl) bx) (λq=> .bg [(ak aV).au<|iT (CV x g q.2.2.2.toNat ⟨q.2.1,q.2.2.1⟩).2,I (CV x g q.2.2.2.toNat ⟨q.2.1,q.2.2.1⟩).1])<|bw5 x g)<|aF 243 (bN (a3 (af ay) bx<|af jl) (λq=> .bg [S (oa x q.2.1 q.2.2).1,I (oa x q.2.1 q.2.2).2])<|aM1 x)<|aF 242 (bN (a1<|af jl) λr=>Bo (iY r))<|aF 175 (bN (a1 bx) λm=>Bo (pW m)) EN
def Nj(x:ay)(g:Nat)(hx:fc x:=by assumption)(hg:BN x g:=by assumption):an P (bG6 x g):=ah (ah (ah (ah aw λm _=>CG m) λr _=>Qj r) λq h=>by
  rw[CU,<-h.1];refine aJ5 q.1 q.2.1 q.2.2 (h.1▸hx) ?_;rcases h.2 with e|e<;>rw[e]<;>exact⟨dD,dD⟩) λq h=>by
  obtain⟨O,h2,h3,h4⟩:=h;have k:=hg q.2.2.2.toNat ⟨q.2.1,q.2.2.1⟩ h3 U;rw[FO,<-O];rw[rM h2,<-O]at k;exact k
def EGn(x:ay)(g:Nat)(d:y_):Env:=cF 181 (aL9 d)<|bG6 x g
def bG7(x:ay)(g:Nat)(d:y_)(hd:d.size<=aq:=by assumption)(hx:fc x:=by assumption)(hg:BN x g:=by assumption):an P (EGn x g d):=aM0 d hd<|Nj x g
def stK(x:ay):dW:=⟨[[I x.cap,(ak eF).au x.aU]],0,[],2,false,false⟩
def ndK(n:aV):dW:=⟨[aY.cells n],0,[],11,false,false⟩
def Oy(L:l_ (l_ J)):dW:=⟨L,0,[],11,true,false⟩
def rtK(L:l_ (l_ J)):dW:=⟨L,0,[],3,true,false⟩
def gnE(x:ay)(n:aV)(z:Int)(ci9:Nat)(bad:Nat->Bool)(nl rl:Nat->l_ (l_ J)):gD:=tI [3,4,5,12,14,15,16] [(14,11),(15,3)] ci9 bad (λ_=>(M 120 [(8,.dF),(9,I 2)])) (M 120 [(3,I z),(4,.ptr 0 0 0),(5,.ptr 1 0 0),(14,.bf 2 ci9),(15,.bf 3 ci9)]) (.ext 0) (λ_=> []) [stK x,ndK n,Oy<|nl ci9,rtK<|rl ci9]
def bi4 (x:ay) (g:Nat) (n:aV) (d:y_) (z:Int) (hx:fc x) (hg:BN x g) (hd:d.size<=1073741824) (ci9:Nat) (hN:ci9<=1073741825) (ps:Nat->Pt) (bad:Nat->Bool) (nl rl:Nat->l_ (l_ J)) (gZ:∀i,bad i=true↔((p5 d<|ps i).2.2=true\/(p5 d<|ps i).1.aN.bo≠n.id))
  (wD:∀i,bad i=false->ps (i+1)=(p5 d<|ps i).2) (ue:∀i,bad i=false->nl (i+1)=nl i++ [aY.cells (p5 d<|ps i).1.aN]) (Fy:∀i,bad i=false->rl (i+1)=rl i++ [aY.cells (p5 d<|ps i).1.bW]) (DJ:∀i,(nl i).length=i) (R8:∀i,(rl i).length=i) (hle:∀i,(ps i).1<=d.size)
  (O:∀i,i<ci9->(ps i).1<d.size) (h2: ¬(ps ci9).1<d.size):aO P (aD f182 13) (M 120 [(3,I z),(4,.ptr 0 0 0),(5,.ptr 1 0 0),(12,S d),(14,.bf 2 0),(15,.bf 3 0),(16,.ptr 4 0 0)]) [stK x,ndK n,Oy<|nl 0,rtK<|rl 0,dB d (ps 0) false]
  (.ite (ar ci9 bad) (.out .ret (M 120 [(8,.dF),(9,I 2)]) [])<|.out (.ext 0) (M 120 [(3,I z),(4,.ptr 0 0 0),(5,.ptr 1 0 0),(14,.bf 2 ci9),(15,.bf 3 ci9)]) [stK x,ndK n,Oy<|nl ci9,rtK<|rl ci9]):=by
 have WY:ci9<=aq:=by unfold aq;omega
 have hds:d.size<=aq:=by unfold aq;omega
 have lp:=qp f182 13 ci9 bad (λi=>(M 120 [(3,I z),(4,aT),(5,.ptr 1 0 0),(12,S d),(14,.bf 2 i),(15,.bf 3 i),(16,.ptr 4 0 0)])) (λi=> [stK x,ndK n,Oy<|nl i,rtK<|rl i,dB d (ps i) false]) (eR<|M 120 [(8,.dF),(9,I 2)]) (.ext 0,(M 120 [(3,I z),(4,aT),(5,.ptr 1 0 0),(14,.bf 2 ci9),(15,.bf 3 ci9)]),[stK x,ndK n,Oy<|nl ci9,rtK<|rl ci9]) λi hi lt aW az aR=>by
  have hb:=gZ i;have hln:=DJ i;have hlr:=R8 i;have qV:=hle i;have iH:(ps i).1<d.size->i<ci9:=λa=>by
   rcases fA i ci9 with q|q
   .exact q
   .have e:i=ci9:=U;subst e;exact absurd a h2
  have hen: ¬(ps i).1<d.size->i=ci9:=λa=>by
   rcases fA i ci9 with q|q
   .exact absurd (O i q) a
   .omega
  refine ao (bG7 x g d) L0 [3,4,5,12,14,15,16] [8,9,10003,10004,10005,10014,10015] (let Z:=p5 d (ps i);(.d ((↑(ps i).fst:Int)<(d.size:Int)) (.r d<|.r (↑(ps i).fst:Int)<|.o [(ps i).fst<=d.size]<|.n (Z.snd.snd) (eH az)<|.u (Z.fst.aN.bo) n.id (eH az)<|.o [i=(nl i).length,(i+1)*128<=140737488355328]<|.r true<|.r true<|.o [i=(rl i).length,(i+1)*32<=140737488355328]<|.r true<|.r true<|bR (M 120 [(3,I z),(4,aT),(5,dK 1),(12,S d),(14,J.bf 2<|i+1),(15,J.bf 3<|i+1),(16,dK 4)]) [cM [(aY.cells x)] 2,cM [(aY.cells n)] 11,dn (nl i++ [(aY.cells Z.fst.aN)]) 11,dn (rl i++ [(aY.cells Z.fst.bW)]) 3,cM [[S d,I Z.snd.fst,Bo Z.snd.snd]] 3])<|fv 0 (M 120 [(3,I z),(4,aT),(5,dK 1),(14,J.bf 2 i),(15,J.bf 3 i)]) [cM [(aY.cells x)] 2,cM [(aY.cells n)] 11,dn (nl i) 11,dn (rl i) 3])) ?_;have Y:=hb;simp only[av]
  (repeat' with_reducible first|intro _|apply aNd_)<;>first|exact aM|(have k1:(p5 d<|ps i).2.2=false:=W;have k2:(p5 d<|ps i).1.aN.bo=n.id:=W;have hf:bad i=false:=(jY.2 λq=>(hb.1 q).elim (λq=>by rw[k1]at q;cases q) (λq=>q k2));have gg:=aW (iH U) hf;rw[wD i hf,ue i hf,Fy i hf]at gg;exact gg)|(have e:=hen U;subst e;exact aR rfl)
 exact lp
def b94(x:ay)(g:Nat)(c:Nat->mL):Env:=vV (λid i _=>match id with
 |1=>some (.elem (aY.cells (c i).aN))
 |2=>some (.elem (aY.cells (c i).bW))
 |_=>none) (bG6 x g)
def bi5(x:ay)(g:Nat)(c:Nat->mL)(hx:fc x:=by assumption)(hg:BN x g:=by assumption):an P (b94 x g c):=j7<|Nj x g
def ad6(l:bh aV):k8 11 ((List.range l.n).map λi=>aY.cells (l.f i))=true:=cU.2 λe F=>by obtain⟨i,_,rfl⟩:=jB.1 F;rfl
def ad7(l:bh aV):nc ((List.range l.n).map λi=>aY.cells (l.f i))=true:=cU.2 λe F=>by obtain⟨i,_,rfl⟩:=jB.1 F;rfl
def aM2 (x:ay) (g m0:Nat) (z:Int) (hz:z=(m0:Nat)) (hm:m0<=1024) (hmg:m0<=g+1) (hx:fc x) (hg:BN x g) (ci9:Nat) (hN:ci9<=1073741825) (c:Nat->mL) (nl rl:l_ (l_ J)) (ue:∀i,i<ci9->nl[i]?=some (aY.cells (c i).aN)) (Fy:∀i,i<ci9->rl[i]?=some (aY.cells (c i).bW)) (ol:Nat->l_ (l_ J)) (er:Nat->Int)
  (Jw:∀i,er i=(CV x g (z-((ol i).length:Nat)).toNat<|c i).1) (hol:∀i,er i=0->ol (i+1)=ol i++(List.range (iT (CV x g (z-((ol i).length:Nat)).toNat<|c i).2).n).map λk=>aY.cells ((iT (CV x g (z-((ol i).length:Nat)).toNat<|c i).2).f k)) (hl:∀i,1<=(ol i).length/\(ol i).length<=m0) (hgl:∀i,(CV x g (z-((ol i).length:Nat)).toNat<|c i).2.length<=m0) (Gm:nl.length=ci9) (Zl:rl.length=ci9):
  aO P (aD f182 21) (M 120 [(3,I z),(4,.ptr 0 0 0),(14,.bf 1 ci9),(15,.bf 2 ci9),(19,.bf 3 (ol 0).length),(20,I 0)]) [stK x,Oy nl,rtK rl,Oy<|ol 0]
  (.ite (ar ci9 λi=>decide (er i≠0)) (.out .ret (M 120 [(8,.dF),(9,I<|er<|aE ci9 λi=>decide (er i≠0))]) [])<|.out (.ext 2) (M 120 [(19,.bf 0 (ol ci9).length)]) [Oy<|ol ci9]):=by
 have WY:ci9<=aq:=by unfold aq;omega
 have lp:=qp f182 21 ci9 (λi=>decide (er i≠0)) (λi=>(M 120 [(3,I z),(4,aT),(14,.bf 1 ci9),(15,.bf 2 ci9),(19,.bf 3 (ol i).length),(20,I i)])) (λi=> [stK x,Oy nl,rtK rl,Oy<|ol i]) (λi=>(.ret,(M 120 [(8,.dF),(9,I<|er i)]),[])) (.ext 2,(M 120 [(19,.bf 0 (ol ci9).length)]),[Oy<|ol ci9]) λi hi lt aW az aR=>by
  have Ww:=hl i;have hgi:=hgl i;have hei:=Jw i;have hni:=ue i;have hri:=Fy i;have e1:oU (z-((ol i).length:Nat))=z-((ol i).length:Nat):=wrap64 U U;refine ao (bi5 x g c) L0 [3,4,14,15,19,20] [8,9,10019] (let bn:=z-(↑(ol i).length:Int);let Z:=CV x g (oU bn).toNat (c<|0+i);let aG:=(x,(c<|0+i).aN,(c<|0+i).bW,oU bn);let aS:=iT Z.snd;let V:=List.range aS.n;(.d ((i:Int)<ci9) (.g i ci9<|.o [nl[0+i]?=some (aY.cells (c<|0+i).aN)]<|.g i ci9<|.o [rl[0+i]?=some (aY.cells (c<|0+i).bW)]<|.k (a4 (af ay) (af aV) (af jl) bx) aG (bw5 x g aG)<|.u (Z.fst) 0 (kG (M 120 [(8,J.dF),(9,I Z.fst)]) [])<|.r ((ol i).length)<|.o [((ol i).length+(List.map (λuU=>aY.cells (aS.f uU)) V).length)*128<=140737488355328,k8 11 (List.map (λuU=>aY.cells (aS.f uU)) V)=true,nc (List.map (λuU=>aY.cells (aS.f uU)) V)=true]<|bR (M 120 [(3,I z),(4,aT),(14,J.bf 1 ci9),(15,J.bf 2 ci9),(19,J.bf 3<|(ol i).length+(List.map (λuU=>aY.cells (aS.f uU)) V).length),(20,I<|oU<|(i:Int)+1)]) [cM [(aY.cells x)] 2,dn nl 11,dn rl 3,dn (ol i++List.map (λuU=>aY.cells (aS.f uU)) V) 11])<|fv 2 (M 120 [(19,J.bf 0 (ol i).length)]) [dn (ol i) 11])) ?_;have Y:=@decide_eq_true_iff (er i≠0) _
  (try simp only[eP,e1];clear e1)
  simp only[av]
  (repeat' with_reducible first|intro _|apply aNd_)<;>first|exact aM|exact hni U|exact hri U|exact ad6 _|exact ad7 _|(have q1:=Ww.1;have q2:=Ww.2;exact⟨rfl,by show(0:Int)<=z-_;omega,by show(z-_).toNat<=g;omega,by show z-_<=(1024:Int);omega⟩)|(rw[gS,uX];show((ol i).length+(CV x g _<|c i).2.length)*128<=_;omega)|(have k:er i≠0:=(by rw[hei];assumption);have h:=az U (cd k);rw[hei]at h;exact h)|(have k:er i=0:=(by rw[hei];assumption);have h:=aW U (fq<|cI k);rw[hol i k,br]at h;rw[bZ (n:=ci9) U WY];exact h)|(have e:i=ci9:=U;subst e;exact aR rfl)
 exact lp
def b95(ci9:Nat)(er:Nat->Int)(ol:Nat->l_ (l_ J)):gD:=tI [3,4,14,15,19,20] [(14,11),(15,3),(19,11)] ci9 (λi=>decide (er i≠0)) (λi=>(M 120 [(8,.dF),(9,I<|er i)])) (M 120 [(19,.bf 0 (ol ci9).length)]) (.ext 2) (λ_=> []) [Oy<|ol ci9]
def uD(e:Int):J:= .bg [.rf 0 λ_=> [],I e]
def ad8 (x:ay) (g m0:Nat) (n:aV) (rt:jl) (z:Int) (hz:z=(m0:Nat)) (hm:m0<=1024) (hmg:m0<=g+1) (hx:fc x) (hg:BN x g) (d:y_) (hdr:(oa x 3 rt).1=d) (hd:d.size<=1073741824) (ci9:Nat) (hN:ci9<=1073741825) (ps:Nat->Pt) (bad:Nat->Bool) (c:Nat->mL) (nl rl:Nat->l_ (l_ J)) (gZ:∀i,bad i=true↔((p5 d<|ps i).2.2=true\/(p5 d<|ps i).1.aN.bo≠n.id))
  (wD:∀i,bad i=false->ps (i+1)=(p5 d<|ps i).2) (ue:∀i,bad i=false->nl (i+1)=nl i++ [aY.cells (p5 d<|ps i).1.aN]) (Fy:∀i,bad i=false->rl (i+1)=rl i++ [aY.cells (p5 d<|ps i).1.bW]) (DJ:∀i,(nl i).length=i) (R8:∀i,(rl i).length=i) (hle:∀i,(ps i).1<=d.size)
  (O:∀i,i<ci9->(ps i).1<d.size) (h2: ¬(ps ci9).1<d.size) (hp0:ps 0=(0,false)) (Gm:nl 0=[]) (Zl:rl 0=[]) (hnc:∀i,i<ci9->(nl ci9)[i]?=some (aY.cells (c i).aN)) (hrc:∀i,i<ci9->(rl ci9)[i]?=some (aY.cells (c i).bW)) (ol:Nat->l_ (l_ J)) (er:Nat->Int)
  (Jw:∀i,er i=(CV x g (z-((ol i).length:Nat)).toNat<|c i).1) (hol:∀i,er i=0->ol (i+1)=ol i++(List.range (iT (CV x g (z-((ol i).length:Nat)).toNat<|c i).2).n).map λk=>aY.cells ((iT (CV x g (z-((ol i).length:Nat)).toNat<|c i).2).f k)) (hl:1<=m0->∀i,1<=(ol i).length/\(ol i).length<=m0) (hgl:∀i,(CV x g (z-((ol i).length:Nat)).toNat<|c i).2.length<=m0) (b96:ol 0=[aY.cells n]) (r:J)
  (q1:(m0<1\/iY rt=false)->r=uD 2) (q2: ¬m0<1->iY rt=true->pW n.mode=false->r= .bg [.rf 1 λi=> [aY.cells<|Qv n (oa x 1 rt).1].getD i [],I (oa x 1 rt).2])
  (q3: ¬m0<1->iY rt=true->pW n.mode=true->(oa x 3 rt).2≠0->r=uD (oa x 3 rt).2) (q4: ¬m0<1->iY rt=true->pW n.mode=true->(oa x 3 rt).2=0->ar ci9 bad=true->r=uD 2)
  (q5: ¬m0<1->iY rt=true->pW n.mode=true->(oa x 3 rt).2=0->ar ci9 bad=false->ar ci9 (λi=>decide (er i≠0))=true->r=uD (er<|aE ci9 λi=>decide (er i≠0))) (q6: ¬m0<1->iY rt=true->pW n.mode=true->(oa x 3 rt).2=0->ar ci9 bad=false->ar ci9 (λi=>decide (er i≠0))=false->r= .bg [.rf (ol ci9).length λi=>(ol ci9).getD i [],I 0]):Ok P 182 [(af ay).au x,(af aV).au n,(af jl).au rt,I z] r:=by
 have lp1:=bi4 x g n d z hx hg hd ci9 hN ps bad nl rl gZ wD ue Fy DJ R8 hle O h2;rw[hp0,Gm,Zl]at lp1;have bX9:=aO.norm (h:=[stK x,ndK n,Oy [],rtK [],⟨[[S d,I 0,.bit false]],0,[],3,false,false⟩]) rfl rfl lp1;have xZ:=λh=>aM2 x g m0 z hz hm hmg hx hg ci9 hN c (nl ci9) (rl ci9) hnc hrc ol er Jw hol (hl h) hgl (DJ ci9)<|R8 ci9;rw[b96]at xZ;refine al (Nj x g) (LOr 13 (gnE x n z ci9 bad nl rl) 21<|b95 ci9 er ol) (let aG:=(M 120 [(3,I z),(4,aT),(14,J.bf 1 ci9),(15,J.bf 2 ci9),(19,J.bf 3 1),(20,I 0)]);let bn:=oa x 3 rt;let Z:=(M 120 [(3,I z),(4,aT),(5,dK 1),(12,S bn.fst),(14,J.bf 2 0),(15,J.bf 3 0),(16,dK 4)]);let bH:=cM [(aY.cells x)] 2;let cp:=a3 (af ay) bx (af jl);let cu:=[(aY.cells n)];let V:=[bH,cM cu 11,dn [] 11,dn [] 3,cM [[S bn.fst,I 0,aP]] 3];let aS:=[bH,dn (nl ci9) 11,dn (rl ci9) 3,dn cu 11];let dk:=aD f182 13;let bu:=aD f182 21;(.d (z<1) (.e<|J.bg [J.rf 0 λi=> [],I 2])<|.v (a1<|af jl) rt<|.m (iY rt) (.e<|J.bg [J.rf 0 λi=> [],I 2])<|.v (a1 bx) n.mode<|.m (pW n.mode) (.k cp (x,1,rt) (aM1 x (x,1,rt))<|.e<|J.bg [J.rf 1 λi=> [[I n.id,I n.bo,I n.vr,S n.name,I n.mode,S n.Sg,S n.Sf,S n.wR,I n.nz,I n.nA,S (oa x 1 rt).fst]].getD i [],I (oa x 1 rt).snd])<|.k cp (x,3,rt) (aM1 x (x,3,rt))<|.u (bn.snd) 0 (.e<|J.bg [J.rf 0 λi=> [],I bn.snd])<|.n (ar ci9 bad) (.o [ax P dk Z V (Out.ret) (M 120 [(8,J.dF),(9,I 2)]) []]<|.e<|J.bg [J.rf 0 λi=> [],I 2])<|.o [ax P dk Z V (Out.ext 0) (M 120 [(3,I z),(4,aT),(5,dK 1),(14,J.bf 2 ci9),(15,J.bf 3 ci9)]) [bH,cM cu 11,dn (nl ci9) 11,dn (rl ci9) 3]]<|.n (ar ci9 λi=>decide (er i≠0)) (.o [ax P bu aG aS (Out.ret) (M 120 [(8,J.dF),(9,I<|er<|aE ci9 λi=>decide (er i≠0))]) []]<|.e<|J.bg [J.rf 0 λi=> [],I<|er<|aE ci9 λi=>decide (er i≠0)])<|.o [ax P bu aG aS (Out.ext 2) (M 120 [(19,J.bf 0 (ol ci9).length)]) [dn (ol ci9) 11]]<|.r ((ol ci9).length)<|.e<|J.bg [J.rf (ol ci9).length λi=>(ol ci9).getD i [],I 0])) ?_;try dsimp only
 rw[hdr];simp only[av,bK,bO,rL,sN,gl,nM]
 (repeat' with_reducible first|intro _|apply aNd_)<;>first|exact aM|exact⟨rfl,.inl rfl⟩|exact⟨rfl,.inr rfl⟩|exact(bX9.t W).one|exact(bX9.f W).one|exact((xZ U).t W).one|exact((xZ U).f W).one|exact(q1<|.inl U).symm|exact(q1<|.inr W).symm|exact(q2 U W W).symm|exact(q3 U W W W).symm|exact(q4 U W W W W).symm|exact(q5 U W W W W W).symm|exact(q6 U W W W W W).symm
def HK(l:l_ aV)(i:Nat)(hi:i<l.length):(ib l).getD i []=aY.cells ((iT l).f i):=by unfold ib iT;rw[cc,b9,bX hi];show aY.cells _=aY.cells (l.getD i default);rw[cc,bX hi];rfl
def ad9(l:l_ aV):(List.range (iT l).n).map (λk=>aY.cells ((iT l).f k))=ib l:=by
 apply k6;intro i;rw[b9];unfold ib;rw[b9];rcases fA i l.length with h|h
 .rw[qh (show i<(iT l).n from h),bX h];show some (aY.cells<|l.getD i default)=_;rw[cc,bX h];rfl
 .rw[gx (by rw[uX];exact h),gx h];rfl
def range_map_get {α:Type}(f:Nat->α)(n i:Nat)(h:i<n):((List.range n).map f)[i]?=some (f i):=by rw[b9,qh h];rfl
def uE {w:World} {S:Nat->Prop} {e:Int} {v:Value}(N:cf w S (uD e) v):cf w S (.bg [(ak aV).au<|iT [],I e]) v:=rz (λ_ h=>fS (λ_ hi=>absurd hi (jC _)) h) N
def ae0 {f:Nat->l_ aV->LR} {a0:l_ aV} {j:Nat}(h:JB f a0 j=0):pc f a0 (j+1)=pc f a0 j++(f j<|pc f a0 j).2:=by
 conv=>lhs;unfold pc
 unfold JB at h;rw[if_neg<|cI h]
def ae1(x:ay)(g:Nat)(hx:fc x)(hg:BN x g):BN x (g+1):=by
 intro m0 e hmg hm;obtain⟨n,rt⟩:=e;have Aj:(cW x 3 rt).1.size<=1048576:=by rw[<-(yc x 3 rt []).1];exact CM x 3 rt []
 have hc3:=CU x 3 rt;have hc1:=CU x 1 rt;have b93:=bi2 (cW x 3 rt).1 n.id;have key:∀r:J,(∀w Sx v,cf w Sx r v->cf w Sx (.bg [(ak aV).au<|iT (kI x (g+1) m0 ⟨n,rt⟩).2,I (kI x (g+1) m0 ⟨n,rt⟩).1]) v)->(Ok P 182 [(af ay).au x,(af aV).au n,(af jl).au rt,I m0] r)->Ok P 182 [(af ay).au x,(af aV).au n,(af jl).au rt,I m0] (.bg [(ak aV).au<|iT (kI x (g+1) m0 ⟨n,rt⟩).2,I (kI x (g+1) m0 ⟨n,rt⟩).1]):=λr O h2=>h2.res O;have walk:=λr=>ad8 x g m0 n rt (m0:Nat) rfl hm hmg hx hg (cW x 3 rt).1 (by rw[hc3]) U (uC (cW x 3 rt).1 n.id) U (yD (cW x 3 rt).1 n.id) (λi=>BK (cW x 3 rt).1 n.id (yD (cW x 3 rt).1 n.id i)) (JA (cW x 3 rt).1 n.id)
  (λi=>(List.range i).map λj=>aY.cells (JA (cW x 3 rt).1 n.id j).aN) (λi=>(List.range i).map λj=>aY.cells (JA (cW x 3 rt).1 n.id j).bW)
  (λ_=>by rw[xb];exact bp) (λi h=>by rw[xb];exact T8 h) (λi _=>by rw[xb,qi,mr];rfl) (λi _=>by rw[xb,qi,mr];rfl)
  (λi=>sS) (λi=>sS) (λi=>(CR _ _ i).2.1) (λi h=>Nh h) (Nat.not_lt.2<|Xu _ _) rfl rfl rfl (λi h=>range_map_get _ _ _ h) (λi h=>range_map_get _ _ _ h)
  (λi=>ib (pc (λj a=>kI x g (m0-a.length) (JA (cW x 3 rt).1 n.id j)) [n] i)) (λi=>JB (λj a=>kI x g (m0-a.length) (JA (cW x 3 rt).1 n.id j)) [n] i)
  (λi=>by rw[FO,se,show(((m0:Nat):Int)-((pc (λj a=>kI x g (m0-a.length) (JA (cW x 3 rt).1 n.id j)) [n] i).length:Nat)).toNat=m0-(pc (λj a=>kI x g (m0-a.length) (JA (cW x 3 rt).1 n.id j)) [n] i).length by omega];rfl)
  (λi hi=>by rw[FO,se,show(((m0:Nat):Int)-((pc (λj a=>kI x g (m0-a.length) (JA (cW x 3 rt).1 n.id j)) [n] i).length:Nat)).toNat=m0-(pc (λj a=>kI x g (m0-a.length) (JA (cW x 3 rt).1 n.id j)) [n] i).length by omega,ad9,<-BM];rw[ae0 hi])
  (λO i=>by rw[se];exact⟨Xw _ [n] i,HJ (f:=λj a=>kI x g (m0-a.length) (JA (cW x 3 rt).1 n.id j)) (λj a=>xa x g _ _) (a0:=[n]) O i⟩)
  (λi=>by rw[FO];have:=xa x g (((m0:Nat):Int)-((ib<|pc (λj a=>kI x g (m0-a.length) (JA (cW x 3 rt).1 n.id j)) [n] i).length:Nat)).toNat (JA (cW x 3 rt).1 n.id i);omega) rfl r
 rw[hc3,hc1]at walk;by_cases a1:m0<1\/iY rt=false
 .have e:kI x (g+1) m0 ⟨n,rt⟩=(2,[]):=by unfold kI;rw[if_pos a1]
  have no:∀q:Prop,¬m0<1->iY rt=true->q:=λq O h2=>by
   rcases a1 with a1|a1
   .exact absurd a1 O
   .rw[a1]at h2;cases h2
  refine key (uD 2) (λw Sx v h=> ?_)<|walk _ (λ_=>rfl) (λO h2=>no _ O h2) (λO h2=>no _ O h2) (λO h2=>no _ O h2) (λO h2=>no _ O h2) λO h2=>no _ O h2;rw[e];exact uE h
 .by_cases a2:pW n.mode=false
  .have e:kI x (g+1) m0 ⟨n,rt⟩=((cW x 1 rt).2,[Qv n (cW x 1 rt).1]):=by unfold kI;rw[if_neg a1,if_pos a2]
   have no:∀q:Prop,pW n.mode=true->q:=λq h=>by rw[a2]at h;cases h
   refine key _ (λw Sx v h=> ?_)<|walk _ (λh=>absurd h a1) (λ_ _ _=>rfl) (λ_ _ h=>no _ h) (λ_ _ h=>no _ h) (λ_ _ h=>no _ h) λ_ _ h=>no _ h;rw[e];exact rz (λ_ h=>fS (λi hi=>HK [Qv n (cW x 1 rt).1] i hi) h) h
  .by_cases a3:(cW x 3 rt).2≠0
   .have e:kI x (g+1) m0 ⟨n,rt⟩=((cW x 3 rt).2,[]):=by unfold kI;rw[if_neg a1,if_neg a2,if_pos a3]
    refine key (uD (cW x 3 rt).2) (λw Sx v h=> ?_)<|walk _ (λh=>absurd h a1) (λ_ _ h=>absurd h a2) (λ_ _ _ _=>rfl) (λ_ _ _ h=>absurd h a3) (λ_ _ _ h=>absurd h a3) λ_ _ _ h=>absurd h a3;rw[e];exact uE h
   .cases a4:T9 (cW x 3 rt).1 n.id with
    |true=>
     have e:kI x (g+1) m0 ⟨n,rt⟩=(2,[]):=by unfold kI;rw[if_neg a1,if_neg a2,if_neg a3,if_pos a4]
     have no:∀q:Prop,ar (uC (cW x 3 rt).1 n.id) (λi=>BK (cW x 3 rt).1 n.id (yD (cW x 3 rt).1 n.id i))=false->q:=λq h=>by rw[show T9 (cW x 3 rt).1 n.id=false from h]at a4;cases a4
     refine key (uD 2) (λw Sx v h=> ?_)<|walk _ (λh=>absurd h a1) (λ_ _ h=>absurd h a2) (λ_ _ _ h=>absurd h a3) (λ_ _ _ _ _=>rfl) (λ_ _ _ _ h=>no _ h) λ_ _ _ _ h=>no _ h;rw[e];exact uE h
    |false=>
     have no:∀q:Prop,ar (uC (cW x 3 rt).1 n.id) (λi=>BK (cW x 3 rt).1 n.id (yD (cW x 3 rt).1 n.id i))=true->q:=λq h=>by rw[show T9 (cW x 3 rt).1 n.id=true from h]at a4;cases a4
     have e:kI x (g+1) m0 ⟨n,rt⟩=QD (λj a=>kI x g (m0-a.length) (JA (cW x 3 rt).1 n.id j)) [n] (uC (cW x 3 rt).1 n.id):=by
      conv=>lhs;unfold kI
      rw[if_neg a1,if_neg a2,if_neg a3,if_neg (by rw[a4];exact dj)]
     cases a5:ar (uC (cW x 3 rt).1 n.id) (λi=>decide (JB (λj a=>kI x g (m0-a.length) (JA (cW x 3 rt).1 n.id j)) [n] i≠0))with
     |true=>
      refine key _ (λw Sx v h=> ?_)<|walk _ (λh=>absurd h a1) (λ_ _ h=>absurd h a2) (λ_ _ _ h=>absurd h a3) (λ_ _ _ _ h=>no _ h) (λ_ _ _ _ _ _=>rfl) (λ_ _ _ _ _ h=>by rw[a5]at h;cases h);rw[e];unfold QD;rw[if_pos a5];exact uE h
     |false=>
      refine key _ (λw Sx v h=> ?_)<|walk _ (λh=>absurd h a1) (λ_ _ h=>absurd h a2) (λ_ _ _ h=>absurd h a3) (λ_ _ _ _ h=>no _ h) (λ_ _ _ _ _ h=>by rw[a5]at h;cases h) λ_ _ _ _ _ _=>rfl;rw[e];unfold QD;rw[if_neg (by rw[a5];exact dj)];rw[se]at h;exact rz (λ_ h=>fS (λi hi=>HK _ i hi) h) h
def bi6(x:ay)(n:aV)(rt:jl):Ok P 182 [(af ay).au x,(af aV).au n,(af jl).au rt,I 0] (uD 2):=by exact al aw L0 (.s .fN<|.e<|J.bg [J.rf 0 λi=> [],I 2]) ft
theorem aM3(x:ay)(hx:fc x):∀g,BN x g
 |0=>λm e h0 _=>by
  have e0:m=0:=U;subst e0;exact(bi6 x e.aN e.bW).res λw Sx v h=>uE h
 |g+1=>ae1 x g hx (aM3 x hx g)
def xc(o:l_ aV)(k:Int):Nat:=aE o.length λj=>decide<|k<(o.getD j default).id
def JC(o:l_ aV)(x:aV):l_ aV:=o.take (xc o x.id)++ [x]++o.drop (xc o x.id)
def kf(l:bh aV):Nat->l_ aV
 |0=> []
 |i+1=>JC (kf l i) (l.f i)
def Xz(o:l_ aV)(k:Int):xc o k<=o.length:=oT _ _
theorem uF(l:bh aV):∀i,(kf l i).length=i
 |0=>rfl
 |i+1=>by have h:=uF l i;have h2:=Xz (kf l i) (l.f i).id;show(JC _ _).length=_;unfold JC;simp only[br,im,jX,iP,qj];omega
def aM4(o:l_ aV)(j:Nat)(h:j<o.length):(ib o)[j]?=some (aY.cells<|o.getD j default):=by unfold ib;rw[b9,cc,bX h];rfl
def ae2(o:l_ aV)(a b:Nat):k8 11 (((ib o).drop b).take a)=true:=cU.2 λe F=>by obtain⟨x,_,rfl⟩:=jB.1<|uW<|rE F;rfl
def ae3(o:l_ aV)(a b:Nat):nc (((ib o).drop b).take a)=true:=cU.2 λe F=>by obtain⟨x,_,rfl⟩:=jB.1<|uW<|rE F;rfl
def XA(o:l_ aV)(a b:Nat):(((ib o).drop b).take a).length=min a (o.length-b):=by rw[im,jX];unfold ib;rw[gS]
def ESr(o:l_ aV):Env:=vV (λid i _=>match id with
 |0=>some (.elem (aY.cells (o.getD i default)))
 |_=>none) EN
def bG8(o:l_ aV):an P (ESr o):=j7 aw
def aM5(o:l_ aV)(x:aV):ib (JC o x)=((ib o).drop 0).take (xc o x.id)++ [aY.cells x]++((ib o).drop<|xc o x.id).take (o.length-xc o x.id):=by unfold JC;rw[BM,BM,xu];unfold ib;rw[Fp,List.map_drop,wq (l:=(o.map aY.cells).drop _) (by rw[jX,gS];omega)];rfl
def Ua(l:bh aV)(hl:l.n<=1048576):Ok P 183 [(ak aV).au l] (.rf l.n λi=>(ib<|kf l l.n).getD i []):=by
 have WY:l.n<=aq:=by unfold aq;omega
 have lp:=qp f183 3 l.n (λ_=>false) (λi=>(M 50 [(0,(ak aV).au l),(2,.dF),(3,.bf 0 i),(4,I i)])) (λi=> [Oy<|ib<|kf l i]) (eR<|M 50 [(2,.dF),(3,.dF)]) (.ext 0,(M 50 [(2,.dF),(3,.bf 0 l.n)]),[Oy<|ib<|kf l l.n]) λi hi lt aW az aR=>by
  have Ww:=uF l i;have Fy:=se<|kf l i;obtain⟨ci8,hM⟩:∃ci8,ci8=xc (kf l i) (l.f i).id:=⟨_,rfl⟩
  have hMi:ci8<=i:=by have:=Xz (kf l i) (l.f i).id;omega
  have hM2:ci8<=aq:=U;have lq:=λ(iH:i<l.n)=>qp f183 6 ci8 (λ_=>false) (λj=>(M 50 [(0,(ak aV).au l),(2,.dF),(3,.bf 0 i),(4,I i),(5,I j)])) (λj=> [Oy<|ib<|kf l i]) (λj=>(.ret,(M 50 [(2,.dF),(3,.dF)]),[])) (.ext 2,(M 50 [(0,(ak aV).au l),(2,.dF),(3,.bf 0 i),(4,I i),(5,I ci8)]),[Oy<|ib<|kf l i]) λj hj ltj nC nq lO=>by
   have hrg:=aM4 (kf l i) j;have ch7:j<ci8->(((kf l i).getD j default).id<=(l.f i).id):=λh=>by rw[hM]at h;exact xH.1<|fW<|gy (b:=λj=>decide ((l.f i).id<((kf l i).getD j default).id)) h
   have cg8:j=ci8->ci8<i->(l.f i).id<((kf l i).getD j default).id:=λe h=>by subst e;rw[hM]at h⊢;exact cn<|dC (b:=λj=>decide ((l.f i).id<((kf l i).getD j default).id)) (by show xc _ _<_;omega)
   refine ao (bG8<|kf l i) L0 [0,2,3,4,5] [2,3,10000,10004,10005] (let V:=ib (kf l i);let Z:=(Out.ext 2,(M 50 [(0,(ak aV).au l),(2,J.dF),(3,J.bf 0 i),(4,I i),(5,I j)]),[dn V 11]);let aG:=(kf l i).getD (0+j) default;(.d ((j:Int)<i) (.g j i<|.o [V[0+j]?=some (aY.cells aG)]<|.g i l.n<|.d (aG.id<=(l.f i).id) (bR (M 50 [(0,(ak aV).au l),(2,J.dF),(3,J.bf 0 i),(4,I i),(5,I<|oU<|(j:Int)+1)]) [dn V 11])<|.e Z)<|.e Z)) ?_;have JV:=(di:False↔False)
   (try simp only[eP])
   simp only[av]
   (repeat' with_reducible first|intro _|apply aNd_)<;>first|exact aM|exact hrg U|(have gg:=nC U rfl;rw[bZ (n:=ci8) U hM2];exact gg)|(have e:j=ci8:=U;subst e;exact lO rfl)
  have hri:=aM5 (kf l i)<|l.f i;rw[<-hM,Ww]at hri;refine ao aw (tI [0,2,3,4,5] [(3,11)] (ci8) (λ_=>false) (λj=>(M 50 [(2,.dF),(3,.dF)])) (M 50 [(0,(ak aV).au l),(2,.dF),(3,.bf 0 i),(4,I i),(5,I ci8)]) (.ext 2) (λj=> []) [Oy<|ib<|kf l i]) [0,2,3,4] [2,3] (let V:=ib (kf l i);let bn:=(0,(ak aV).au l);let bH:=aY.cells (l.f i);let cp:=List.drop 0 V;let Z:=List.take (ci8-0) cp;let cu:=(2,J.dF);let dk:=[dn V 11];let bC:=(3,J.bf 0 i);let aS:=(M 50 [bn,cu,bC,(4,I i),(5,I 0)]);let bP:=(ci8:Int)<=(i:Int);let bY:=List.drop (0+ci8) V;let aG:=List.take (i-ci8) bY;let bu:=Z.length+1+aG.length;(.d ((i:Int)<l.n) (.n (ar ci8 λx=>false) (.o [ax P (aD f183 6) aS (dk) (Out.ret) (M 50 [cu,(3,J.dF)]) []]<|eH az)<|.o [ax P (aD f183 6) aS (dk) (Out.ext 2) (M 50 [bn,cu,bC,(4,I i),(5,I ci8)])<|dk,(0:Int)<=0,(0:Int)<=(ci8:Int),bP,Z.length*128<=140737488355328,k8 11 Z=true,nc Z=true,0+0+(ci8-0)<=V.length]<|.g i l.n<|.r (Z.length)<|.o [(Z.length+1)*128<=140737488355328]<|.r true<|.r true<|.o [(0:Int)<=(ci8:Int),bP,(i:Int)<=(i:Int),Z.length+ [List.take 11 bH].length=(List.take (ci8-0) cp++ [List.take 11 bH]).length,bu*128<=140737488355328,k8 11 aG=true,nc aG=true,0+ci8+(i-ci8)<=V.length]<|bR (M 50 [bn,cu,(3,J.bf 0 bu),(4,I<|oU<|(i:Int)+1)]) [dn (List.take (ci8-0) cp++ [bH]++List.take (i-ci8) bY) 11])<|fv 0 (M 50 [cu,bC]) dk)) ?_;have Y:=(di:False↔False)
  (try simp only[eP])
  simp only[av]
  (repeat' with_reducible first|intro _|apply aNd_)<;>first|exact aM|exact((lq U).t W).one|exact((lq U).f W).one|(exact absurd (show(ar ci8 λ_=>false)=true by assumption) (by rw[s7];simp))|(have e:i=l.n:=U;subst e;exact aR rfl)|exact ae2 _ _ _|exact ae3 _ _ _|(simp only[XA,Ww];omega)|(simp only[br,iP,qj])|(have gg:=aW U rfl;have e1:kf l (i+1)=JC (kf l i) (l.f i):=rfl;rw[e1,hri]at gg;rw[bZ (n:=l.n) U WY];simp only[XA,Ww];(have e2:min (ci8-0) (i-0)+1+min (i-ci8) (i-ci8)=i+1:=U);rw[e2];exact gg)
 have Fy:=se<|kf l l.n;have Zr:=uF l l.n;refine al aw (ax2 lp [0,2,3,4] [(3,11)]) (jS lp (.e<|J.rf 0 λi=> [])<|.o [l.n=(ib<|kf l l.n).length]<|.e<|J.rf l.n λi=>(ib<|kf l l.n).getD i []) ?_;simp only[av]
 (repeat' with_reducible first|intro _|apply aNd_)<;>first|exact aM|(exact absurd (show(ar l.n λ_=>false)=true by assumption) (by rw[s7];simp))
def Ub(s:y_)(e:mL)(q:Pt):l_ J->Hp->Option (J×Hp×l_ Prop):=λaa h=>match Hy aa,BA h with
 |true,some (s',z,b)=>some (.bg [(af aV).au e.aN,(af jl).au e.bW],[dB s q true],[s'=s,z=(z.toNat:Int),z.toNat<=s.size,o9 s (z.toNat,b)=(e,q)])
 |_,_=>none
def ae4 {E:Env}(s:y_)(e:mL)(q:Pt)(hs:s.size<=aq)(hE:an P E):an P (cF 181 (Ub s e q) E):=fC hE λaa h r h' ob O h2=>by
 unfold Ub at O;split at O
 .rename_i s' z b e1 e2;cases O;have k:=Kx s (z.toNat,b) hs<|h2 (z.toNat<=s.size) sS;rw[h2 (o9 s (z.toNat,b)=(e,q)) sS]at k;have es:s'=s:=h2 _ sS;have ez:z=(z.toNat:Int):=h2 _ sS;subst es;rw[wX e1,r7 e2];dsimp only[dB]at k⊢;rw[<-ez]at k;exact k
 .cases O
def zR(k:Int):J:= .bg [.agg [I 0,.rf 0 λ_=> []],I k]
def bG9(x:ay)(s:y_)(q:ay×y_×Int):Prop:=q=(x,s,4)
def bi7(x:ay)(n:aV)(r:jl)(m:Nat)(q:ay×aV×jl×Int):Prop:=q=(x,n,r,(m:Int))
def bH0(T:ct)(er:Int)(t:y_)(p:Pt)(q:ct):Prop:=q=T/\er=0/\p.2=false/\(p.1:Int)=(t.size:Int)
def ERt(x:ay)(s t:y_)(be:Int)(e:mL)(q:Pt)(most:Nat)(L:bh aV)(er:Int)(T:ct):Env:=
 cF 181 (Ub t e q) (cF 180 (CL t)
  (aF 182 (bN (a4 (af ay) (af aV) (af jl) bx) (λ_=> .bg [(ak aV).au L,I er]) (bi7 x e.aN e.bW most))
  (aF 183 (bN (a1 (ak aV)) (λ_=>(ak aV).au T.aj) (λl=>l=L))
  (aF 107 (bN (a1 (af ct)) (λ_=>Bo (eb T)) (bH0 T er t q))
  (aF 179 (bN (a3 (af ay) aQ bx) (λ_=> .bg [S t,I be]) (bG9 x s)) EN)))))
def bH1 (x:ay) (s t:y_) (be:Int) (e:mL) (q:Pt) (most:Nat) (L:bh aV) (er:Int) (T:ct) (hs:t.size<=aq:=by assumption)
  (hb:Ok P 179 [(af ay).au x,S s,I 4] (.bg [S t,I be]):=by assumption)
  (hg:Ok P 182 [(af ay).au x,(af aV).au e.aN,(af jl).au e.bW,I most] (.bg [(ak aV).au L,I er]):=by assumption)
  (hS:Ok P 183 [(ak aV).au L] ((ak aV).au T.aj):=by assumption)
  (hR:er=0->q.2=false->(q.1:Int)=(t.size:Int)->Ok P 107 [(af ct).au T] (Bo<|eb T):=by assumption):an P (ERt x s t be e q most L er T):=
 ae4 t e q hs (ya t (ah (ah (ah (ah aw λz h=>by
  unfold bG9 at h;subst h;exact hb) λz h=>by
  obtain⟨h,h2,h3,h4⟩:=h;subst h;exact hR h2 h3 h4) λz h=>by
  subst h;exact hS) λz h=>by
  unfold bi7 at h;subst h;exact hg) λa w b h hw=>Xj t a w b h hs hw.1 hw.2 _ _ rfl rfl)
def XB (x:ay) (s t:y_) (be:Int) (e:mL) (q:Pt) (most:Nat) (L:bh aV) (er:Int) (T:ct) (hs:t.size<=aq)
  (hb:Ok P 179 [(af ay).au x,S s,I 4] (.bg [S t,I be]))
  (hg:Ok P 182 [(af ay).au x,(af aV).au e.aN,(af jl).au e.bW,I most] (.bg [(ak aV).au L,I er]))
  (hS:Ok P 183 [(ak aV).au L] ((ak aV).au T.aj))
  (hR:er=0->q.2=false->(q.1:Int)=(t.size:Int)->Ok P 107 [(af ct).au T] (Bo<|eb T))
  (nx m:Int) (p1 p2:Pt) (DJ:cH t 4 (0,false)=(nx,p1)) (hn2:cH t 4 p1=(m,p2)) (hp1:p1.1<=t.size) (hp2:p2.1<=t.size)
  (F:o9 t p2=(e,q)) (hm:1<=m->m<=1024->m=(most:Int)) (Ov:nx=T.next) (r:J)
  (R8:be≠0->r=zR be) (Je:be=0->(q.2=true\/(q.1:Int)≠(t.size:Int)\/m<1\/m>1024)->r=zR 2)
  (hr3:be=0->q.2=false->(q.1:Int)=(t.size:Int)->1<=m->m<=1024->er≠0->r=zR er)
  (S5:be=0->q.2=false->(q.1:Int)=(t.size:Int)->1<=m->m<=1024->er=0->((L.n:Int)≠m\/eb T=false)->r=zR 2)
  (hr5:be=0->q.2=false->(q.1:Int)=(t.size:Int)->1<=m->m<=1024->er=0->(L.n:Int)=m->eb T=true->r= .bg [.agg [I nx,(ak aV).au T.aj],I 0]):
  Ok P 111 [(af ay).au x,S s] r:=by
 obtain⟨b1,b2⟩:=p1;obtain⟨c1,c2⟩:=p2;obtain⟨q1,q2⟩:=q;refine al (bH1 x s t be e (q1,q2) most L er T) L0 (let V:=cH t 4 (0,false);let Z:=cH t 4 V.snd;let aG:=ct.mk V.fst T.aj;let aS:=(x,e.aN,e.bW,Z.fst);(.k (a3 (af ay) aQ bx) (x,s,4) (bG9 x s (x,s,4))<|.u be 0 (.e<|J.bg [J.agg [I 0,J.rf 0 λi=> []],I be])<|.r t<|.o [4=(↑4:Int),0=(↑0:Int),0<=t.size,o8 4]<|.r t<|.o [4=(↑4:Int)]<|.r (V.snd.fst:Int)<|.o [V.snd.fst<=t.size,o8 4]<|.r t<|.r (Z.snd.fst:Int)<|.o [Z.snd.fst<=t.size,o9 t Z.snd=(e,q1,q2)]<|.n q2 (.e<|J.bg [J.agg [I 0,J.rf 0 λi=> []],I 2])<|.u q1 t.size (.e<|J.bg [J.agg [I 0,J.rf 0 λi=> []],I 2])<|.d (Z.fst<1) (.e<|J.bg [J.agg [I 0,J.rf 0 λi=> []],I 2])<|.d (Z.fst>1024) (.e<|J.bg [J.agg [I 0,J.rf 0 λi=> []],I 2])<|.k (a4 (af ay) (af aV) (af jl) bx) aS (bi7 x e.aN e.bW most aS)<|.u er 0 (.e<|J.bg [J.agg [I 0,J.rf 0 λi=> []],I er])<|.k (a1<|ak aV) L (L=L)<|.u L.n (Z.fst) (.e<|J.bg [J.agg [I 0,J.rf 0 λi=> []],I 2])<|.k (a1<|af ct) aG (bH0 T er t (q1,q2) aG)<|.m (eb T) (.e<|J.bg [J.agg [I 0,J.rf 0 λi=> []],I 2])<|.e<|J.bg [J.agg [I V.fst,(ak aV).au T.aj],I 0])) ?_;try dsimp only
 simp only[DJ,hn2];simp only[av]
 (repeat' with_reducible first|intro _|apply aNd_)<;>first|exact aM|(unfold bi7;rw[hm U U])|(unfold bH0;subst Ov;exact⟨rfl,W,W,W⟩)|(exact(R8 W).symm)|(exact(Je W<|.inl W).symm)|(exact(Je W<|.inr<|.inl W).symm)|(exact(Je W<|.inr<|.inr<|.inl W).symm)|(exact(Je W<|.inr<|.inr<|.inr W).symm)|(exact(hr3 W W U U U W).symm)|(exact(S5 W W U U U W<|.inl W).symm)|(exact(S5 W W U U U W<|.inr W).symm)|(exact(hr5 W W U U U W U W).symm)
end
section
open Go.PS Wf Go.Sort
abbrev QE(l:l_ aV):Prop:=l.Pairwise λa b=>a.id<=b.id
def ae5(o:l_ aV)(x:aV):(JC o x).Perm (x::o):=by unfold JC;rw[lG];refine List.perm_middle.trans ?_;show(x::(List.take _ o++List.drop _ o)).Perm _;rw[wu]
theorem KF(l:bh aV):∀i,(kf l i).Perm ((List.range i).map l.f)
 |0=>List.Perm.refl _
 |i+1=>(ae5 _ _).trans (by
  rw[qi,mr];exact((KF l i).cons _).trans (List.perm_append_singleton ..).symm)
def aM6(o:l_ aV)(x:aV)(h:QE o):QE (JC o x):=by
 have JX:∀a,a∈o.take (xc o x.id)->a.id<=x.id:=λa ha=>by obtain⟨j,hj,rfl⟩:=xI.1 ha;rw[im]at hj;have q:=fW<|gy (b:=λj=>decide (x.id<(o.getD j default).id)) (show j<xc o x.id by omega);rw[List.getElem_take];rw[cc,bX U]at q;exact xH.1 q
 have Zk:∀b,b∈o.drop (xc o x.id)->x.id<=b.id:=λb hb=>by
  obtain⟨j,hj,rfl⟩:=xI.1 hb;rw[jX]at hj;have q:x.id<(o.getD (xc o x.id) default).id:=cn<|dC (b:=λj=>decide (x.id<(o.getD j default).id)) (show xc o x.id<o.length by omega);rw[LW];rw[cc,bX (show xc o x.id<o.length by omega)]at q;have q:x.id<(o[xc o x.id]' U).id:=q;by_cases hj0:j=0
  .subst hj0;exact Int.le_of_lt q
  .have:=AG.1 h (xc o x.id) (xc o x.id+j) U U U;omega
 unfold JC;refine List.pairwise_append.2 ⟨List.pairwise_append.2 ⟨h.sublist<|List.take_sublist ..,List.pairwise_singleton ..,λa ha b hb=> ?_⟩,h.sublist<|List.drop_sublist ..,λa ha b hb=> ?_⟩
 .rw[mq.1 hb];exact JX a ha
 .rcases kx.1 ha with q|q
  .have:=JX a q;have:=Zk b hb;omega
  .rw[mq.1 q];exact Zk b hb
theorem QF(l:bh aV):∀i,QE (kf l i)
 |0=>List.Pairwise.nil
 |i+1=>aM6 _ _ (QF l i)
def ae6(l:l_ aV):(List.range (iT l).n).map (iT l).f=l:=by refine List.ext_getElem (by rw[gS,uX];rfl) λi O h2=> ?_;rw[List.getElem_map,List.getElem_range];show l.getD i default=_;rw[cc,bX h2];rfl
def Uc(d:Array aV):(gA d).toList.Perm d.toList:=by
 have hp:=(vE d).1;have hs:=hp.1;have hpp:=hp.2.2
 rwa [Fo U,Fo<|bE _]at hpp
def ae7(d:Array aV):QE (gA d).toList:=by refine AG.2 λi j hi hj Jj=> ?_;have hz:=kH d;rw[j0]at hi hj;have q:=(vE d).2 i j (bJ _) Jj U;rw[tp _ i hi,tp _ j hj]at q;exact xH.1<|fW q
def aM7 {a b:l_ aV}(hp:a.Perm b)(ha:QE a)(hb:QE b)(hs:a.Pairwise λx y=>x.id<y.id):a=b:=by
 refine List.Perm.eq_of_pairwise (le:=λx y=>x.id<=y.id) ?_ ha hb hp;intro x y hx hy O h2;obtain⟨i,hi,rfl⟩:=xI.1 hx;obtain⟨j,hj,rfl⟩:=xI.1<|hp.symm.subset hy;rcases rD i j with q|q|q
 .have:=AG.1 hs i j hi hj q;omega
 .subst q;rfl
 .have:=AG.1 hs j i hj hi q;omega
def aM8 {x:ct}(h:eb x=true):∀k j,j<k->k<x.aj.n->(x.aj.f j).id<(x.aj.f k).id:=by have h4:=(cn h).2.2.2;exact zC (λi=>(x.aj.f i).id) x.aj.n λi hi hn=>xG.1 λhb=>fW (bc.1 h4 i hn)<|.inr<|.inr<|.inl ⟨hi,hb⟩
def b97(d:Array aV):(⟨d.size,λi=>d[i]!⟩:bh aV)=iT d.toList:=by
 unfold iT;congr 1;funext i;rw[cc,rJ];rcases fA i d.size with q|q
 .rw[tp _ i q,jc q];rfl
 .rw[getElem!_neg _ i U,tk q];rfl
def HL {a:l_ aV} {nx:Int}(h:eb ⟨nx,iT a⟩=true):a.Pairwise λx y=>x.id<y.id:=by
 refine AG.2 λi j hi hj Jj=> ?_;have q:=aM8 h j i Jj hj;have e:∀k (hk:k<a.length),(iT a).f k=a[k]:=λk hk=>by show a.getD k default=_;rw[cc,bX hk];rfl
 have q:((iT a).f i).id<((iT a).f j).id:=q
 rwa [e i hi,e j hj]at q
def ae8 {a b:l_ aV} {nx:Int}(hp:a.Perm b)(ha:QE a)(hb:QE b):eb ⟨nx,iT a⟩=eb ⟨nx,iT b⟩:=by
 cases h:eb ⟨nx,iT a⟩with
 |true=>rw[<-aM7 hp ha hb (HL h),h]
 |false=>
  cases h2:eb ⟨nx,iT b⟩with
  |false=>rfl
  |true=>rw[aM7 hp.symm hb ha<|HL h2,h]at h2;cases h2
def qa(t:y_):mL×Pt:=o9 t (cX t).2
def xd(t:y_):Nat:=(cX t).1.toNat
def wm(x:ay)(s:y_):LR:=kI x (xd (aZ x s 4)+1) (xd<|aZ x s 4) (qa<|aZ x s 4).1
def rT(x:ay)(s:y_):ct:=⟨(sb<|aZ x s 4).1,iT<|kf (iT (wm x s).2) (iT (wm x s).2).n⟩
def aM9(t:y_):Bool:=decide<|(qa t).2.2=true\/((qa t).2.1:Int)≠(t.size:Int)\/(cX t).1<1\/(cX t).1>1024
def xe(x:ay)(s:y_):Int:=
 if jJ x s 4≠0 then jJ x s 4
 else if aM9 (aZ x s 4)=true then 2
 else if(wm x s).1≠0 then(wm x s).1
 else if((wm x s).2.length:Int)≠(cX<|aZ x s 4).1\/eb (rT x s)=false then 2
 else 0
def xf(x:ay)(s:y_):ct:=if xe x s=0 then rT x s else⟨0,⟨0,λ_=>default⟩⟩
def QG(t:y_):Jy (lV t).2 (qa t).2/\((lV t).2.2=false->(lV t).1=(qa t).1):=
 ⟨(BD (s:=t)<|Jy.refl (cX t).2).1,λh=>((BD (s:=t)<|Jy.refl (cX t).2).2 h).2⟩
def vG(t:y_):aM9 t=sd t:=by
 have h:=(QG t).1;unfold aM9 sd;rw[ea,bp,bp];rcases h.cases with⟨a,b⟩|⟨a,b⟩
 .exact⟨λ_=> .inl a,λ_=> .inl b⟩
 .rw[b]
def XC {t:y_}(h:sd t=false):(lV t).2.2=false/\((lV t).2.1:Int)=(t.size:Int)/\1<=(cX t).1/\(cX t).1<=1024:=by
 have hb:=fW h;refine⟨?_,mj λq=>hb (.inr<|.inl q),xH.1 λq=>hb (.inr<|.inr<|.inl q),xH.1 λq=>hb (.inr<|.inr<|.inr q)⟩;cases q:(lV t).2.2 with
 |false=>rfl
 |true=>exact absurd (.inl q) hb
def XD(x:ay)(s:y_)(h:sd (aZ x s 4)=false):((pZ x s []).1=0↔(wm x s).1=0)/\((pZ x s []).1=0->(wm x s).2=(fJ x s []).toList):=by have N:=(QG<|aZ x s 4).2 (XC h).1;have k:=Xy x (xd<|aZ x s 4) (xd (aZ x s 4)+1) (lV<|aZ x s 4).1 [] (dP x s 4 [])<|bJ _;have e1:jv x (xd<|aZ x s 4) (xd (aZ x s 4)+1) (lV<|aZ x s 4).1 [] (dP x s 4 [])=pZ x s []:=rfl;rw[e1,N]at k;refine⟨k.1,λq=> ?_⟩;have k2:=k.2 q;rw[CQ]at k2;exact(QC k2).symm
def XE(x:ay)(s:y_)(h:(wm x s).2=(fJ x s []).toList):eb (rT x s)=eb (oF x s [])/\(∀n,n∈kf (iT (wm x s).2) (iT (wm x s).2).n->∃i:Nat,n=(gA<|fJ x s [])[i]!):=by
 have p1:(kf (iT (wm x s).2) (iT (wm x s).2).n).Perm (gA<|fJ x s []).toList:=by have q:=KF (iT (wm x s).2) (iT (wm x s).2).n;rw[ae6]at q;refine q.trans ?_;rw[h];exact(Uc _).symm
 have e:oF x s []=⟨(sb<|aZ x s 4).1,iT (gA<|fJ x s []).toList⟩:=by unfold oF;rw[<-b97,kH]
 refine⟨?_,λn hn=> ?_⟩
 .rw[e];exact ae8 p1 (QF _ _)<|ae7 _
 .obtain⟨i,hi,rfl⟩:=xI.1<|p1.subset hn;exact⟨i,by rw[j0]at hi;rw[tp _ i hi];rfl⟩
def bw6(x:ay)(s:y_)(hx:fc x)(h0:sd (aZ x s 4)=false)(h:(wm x s).1=0):wf (rT x s):=by
 have k:=XD x s h0;have e:=k.2 (k.1.2 h);have hw:=HG x s [] hx;have hb:=XC h0;have hd:wf (default:aV):=by
  have:=hw.2 (gA<|fJ x s []).size
  rwa [getElem!_neg _ _ U]at this
 have hl:(iT<|kf (iT (wm x s).2) (iT (wm x s).2).n).n=(fJ x s []).size:=by show(kf _ _).length=_;rw[uF];show(wm x s).2.length=_;rw[e,j0]
 refine⟨rj,?_,λi=> ?_⟩
 .show(iT _).n<=aq;rw[hl];have:=hw.1;unfold aq;omega
 .show wf ((kf _ _).getD i default);rw[cc];rcases fA i (kf (iT (wm x s).2) (iT (wm x s).2).n).length with q|q
  .rw[bX q];obtain⟨j,hj⟩:=(XE x s e).2 _<|rF q;show wf ((kf _ _)[i]);rw[hj];exact hw.2 j
  .rw[gx q];exact hd
def aN0(x:ay)(s:y_):xe x s=0↔pa x s []=0:=by
 unfold xe pa;rw[vG];by_cases O:jJ x s 4≠0
 .rw[if_pos O,if_pos O]
 .rw[if_neg O,if_neg O];by_cases h2:sd (aZ x s 4)=true
  .rw[if_pos h2,if_pos h2]
  .rw[if_neg h2,if_neg h2];have k:=XD x s (jY.2 h2);by_cases h3:(pZ x s []).1=0
   .have h4:=k.1.1 h3;have e:=k.2 h3;rw[if_neg<|cI h3,if_neg<|cI h4,(XE x s e).1,e,j0]
   .have h4:(wm x s).1≠0:=U;rw[if_pos h3,if_pos h4];exact⟨λq=>absurd q h4,λq=>absurd q h3⟩
end
section
open Go.PS Wf
def KG(l:bh aV)(hl:l.n<=1048576):Ok P 183 [(ak aV).au l] ((ak aV).au<|iT<|kf l l.n):=(Ua l hl).res λw S v h=>by have e:(iT<|kf l l.n).n=l.n:=uF l l.n;show cf w S (.rf (iT<|kf l l.n).n _) v;rw[e];refine fS (λi hi=> ?_) h;exact HK _ _ (by rw[uF];exact hi)
def uG (x:ay) (s:y_) (hx:fc x) (r:J)
  (k1:jJ x s 4≠0->r=zR (jJ x s 4)) (k2:jJ x s 4=0->sd (aZ x s 4)=true->r=zR 2) (k3:jJ x s 4=0->sd (aZ x s 4)=false->(wm x s).1≠0->r=zR (wm x s).1)
  (k4:jJ x s 4=0->sd (aZ x s 4)=false->(wm x s).1=0->(((wm x s).2.length:Int)≠(cX<|aZ x s 4).1\/eb (rT x s)=false)->r=zR 2)
  (k5:jJ x s 4=0->sd (aZ x s 4)=false->(wm x s).1=0->((wm x s).2.length:Int)=(cX<|aZ x s 4).1->eb (rT x s)=true->r= .bg [.agg [I (rT x s).next,(ak aV).au (rT x s).aj],I 0]):
  Ok P 111 [(af ay).au x,S s] r:=by
 have hb:=D6 x s 4 ⟨dD,dD⟩ hx;have hs:=yd x s hx;have e1:cH (aZ x s 4) 4 (0,false)=sb (aZ x s 4):=mW _ _ _;have e2:cH (aZ x s 4) 4 (sb<|aZ x s 4).2=cX (aZ x s 4):=mW _ _ _;have l1:(sb<|aZ x s 4).2.1<=(aZ x s 4).size:=FH<|bJ _;have l2:(cX<|aZ x s 4).2.1<=(aZ x s 4).size:=FH l1;have gZ:((qa<|aZ x s 4).2.2=true\/((qa<|aZ x s 4).2.1:Int)≠((aZ x s 4).size:Int)\/(cX<|aZ x s 4).1<1\/(cX<|aZ x s 4).1>1024)↔sd (aZ x s 4)=true:=by rw[<-vG];exact(bp).symm
 have XF:(qa<|aZ x s 4).2.2=false->((qa<|aZ x s 4).2.1:Int)=((aZ x s 4).size:Int)->1<=(cX<|aZ x s 4).1->(cX<|aZ x s 4).1<=1024->sd (aZ x s 4)=false:=λa b c d=>jY.2 λq=>by
  rcases gZ.2 q with q|q|q|q
  .rw[a]at q;cases q
  .exact q b
  .omega
  .omega
 by_cases Y:1<=(cX<|aZ x s 4).1/\(cX<|aZ x s 4).1<=1024
 .have hm:((xd (aZ x s 4):Nat):Int)=(cX<|aZ x s 4).1:=by unfold xd;omega
  have hln:=xa x (xd (aZ x s 4)+1) (xd<|aZ x s 4) (qa<|aZ x s 4).1;have hn2:(iT (wm x s).2).n<=1048576:=by show(wm x s).2.length<=_;unfold wm;omega
  refine XB x s (aZ x s 4) (jJ x s 4) (qa<|aZ x s 4).1 (qa<|aZ x s 4).2 (xd<|aZ x s 4) (iT (wm x s).2) (wm x s).1 (rT x s) hs hb (aM3 x hx _ _ (qa<|aZ x s 4).1 (sQ _) U) (KG _ hn2) (λh b c=>by rw[<-PY];exact Hm _ (bw6 x s hx (XF b c Y.1 Y.2) h)) (sb<|aZ x s 4).1 (cX<|aZ x s 4).1 (sb<|aZ x s 4).2 (cX<|aZ x s 4).2 e1 e2 l1 l2 rfl (λ_ _=>hm.symm) rfl r k1 ?_ ?_ ?_ ?_
  .rw[gZ];exact k2
  .exact λa b c d e f=>k3 a (XF b c d e) f
  .exact λa b c d e f g=>k4 a (XF b c d e) f g
  .exact λa b c d e f g h=>k5 a (XF b c d e) f g h
 .have eL:(kI x 1 0 (qa<|aZ x s 4).1)=(2,[]):=by unfold kI;rw[if_pos<|.inl<|rK 0]
  have hg:=aM3 x hx 1 0 (qa<|aZ x s 4).1 U U;rw[eL]at hg;refine XB x s (aZ x s 4) (jJ x s 4) (qa<|aZ x s 4).1 (qa<|aZ x s 4).2 0 (iT []) 2 ⟨(sb<|aZ x s 4).1,iT<|kf (iT []) 0⟩ hs hb hg (KG _<|bJ _) (λh=>absurd h dD) (sb<|aZ x s 4).1 (cX<|aZ x s 4).1 (sb<|aZ x s 4).2 (cX<|aZ x s 4).2 e1 e2 l1 l2 rfl (λa b=>absurd ⟨a,b⟩ Y) rfl r k1 ?_ ?_ ?_ ?_
  .rw[gZ];exact k2
  .exact λa b c d e=>absurd ⟨d,e⟩ Y
  .exact λa b c d e=>absurd ⟨d,e⟩ Y
  .exact λa b c d e=>absurd ⟨d,e⟩ Y
def ae9(x:ay)(s:y_)(hx:fc x):Ok P 111 [(af ay).au x,S s] (.bg [(af ct).au<|xf x s,I<|xe x s]):=by
 have hz:∀e,e≠0->xe x s=e->Ok P 111 [(af ay).au x,S s] (zR e)->Ok P 111 [(af ay).au x,S s] (.bg [(af ct).au<|xf x s,I<|xe x s]):=λe O h2 h3=>h3.res λw Sx v N=>by unfold xf;rw[h2,if_neg O];exact rz (λv h=>CS (λi hi=>absurd hi (jC _)) h) N
 by_cases O:jJ x s 4=0
 .by_cases h2:sd (aZ x s 4)=true
  .refine hz 2 dD (by unfold xe;rw[if_neg<|cI O,vG,if_pos h2]) ?_;refine uG x s hx _ (λq=>absurd O q) (λ_ _=>rfl) (λ_ q=> ?_) (λ_ q=> ?_) (λ_ q=> ?_)<;>(rw[h2]at q;cases q)
  .have ZD:=jY.2 h2;by_cases h3:(wm x s).1=0
   .by_cases h4:((wm x s).2.length:Int)≠(cX<|aZ x s 4).1\/eb (rT x s)=false
    .refine hz 2 dD (by unfold xe;rw[if_neg<|cI O,vG,if_neg h2,if_neg<|cI h3,if_pos h4]) ?_;refine uG x s hx _ (λq=>absurd O q) (λ_ q=>absurd q h2) (λ_ _ q=>absurd h3 q) (λ_ _ _ _=>rfl) (λ_ _ _ a b=> ?_);rcases h4 with q|q
     .exact absurd a q
     .rw[b]at q;cases q
    .have F:xe x s=0:=by unfold xe;rw[if_neg<|cI O,vG,if_neg h2,if_neg<|cI h3,if_neg h4]
     have e2:xf x s=rT x s:=by unfold xf;rw[if_pos F]
     rw[F,e2];exact uG x s hx _ (λq=>absurd O q) (λ_ q=>absurd q h2) (λ_ _ q=>absurd h3 q) (λ_ _ _ q=>absurd q h4) λ_ _ _ _ _=>rfl
   .refine hz _ h3 (by unfold xe;rw[if_neg<|cI O,vG,if_neg h2,if_pos h3]) ?_;exact uG x s hx _ (λq=>absurd O q) (λ_ q=>absurd q h2) (λ_ _ _=>rfl) (λ_ _ q=>absurd q h3) λ_ _ q=>absurd q h3
 .refine hz _ O (by unfold xe;rw[if_pos O]) ?_;exact uG x s hx _ (λ_=>rfl) (λq=>absurd q O) (λq=>absurd q O) (λq=>absurd q O) λq=>absurd q O
def CW(x:ay)(s:y_):ct:=mK<|BJ x s
def CX(x:ay)(s:y_):CW x s=BJ x s:=ni _
def CY(x:ay)(s:y_):ct:=mK<|xf x s
def CZ(x:ay)(s:y_):CY x s=xf x s:=ni _
def D7(x:ay)(s:y_):Int:=mK<|xe x s
def HM(x:ay)(s:y_):D7 x s=xe x s:=ni _
def ye {x:ay}(h:rZ x=true):fc x:=by obtain⟨_,h2,h3,h4⟩:=cn h;refine⟨U,λi hi=>Nat.not_lt.1 λq=> ?_⟩;have:=bc.1 h4 i hi;exact fW this<|.inr<|.inl q
def XG(q:ay×y_):Prop:=fc q.1
def KH(x:ay):Prop:=x.aU.n<=aq
def ESn:Env:=aF 84 (bN (a2 (af ay) aQ) (λq=> .bg [(af ct).au<|CW q.1 q.2,I<|w8 q.1 q.2]) XG)<|aF 80 (bN (a1<|af ct) (λT=>Bo (eb T)) wf)<|aF 37 (bN (a1<|af cQ) (λx=>Bo (my x)) wf)<|aF 83 (bN (a1<|af ay) (λx=>Bo (rZ x)) KH) EN
def aN1:an P ESn:=ah (ah (ah (ah aw λx h=>aa6 x h) λx h=>Kr x h) λx h=>CI x h) λq h=>by rw[CX,w9];exact aL7 q.1 q.2 h
def ESm:Env:=aF 111 (bN (a2 (af ay) aQ) (λq=> .bg [(af ct).au<|CY q.1 q.2,I<|D7 q.1 q.2]) XG)<|aF 107 (bN (a1<|af ct) (λT=>Bo (eb T)) wf)<|aF 53 (bN (a1<|af cQ) (λx=>Bo (my x)) wf)<|aF 110 (bN (a1<|af ay) (λx=>Bo (rZ x)) KH) EN
def aN2:an P ESm:=ah (ah (ah (ah aw λx h=>TG x h) λx h=>Hq x h) λx h=>D3 x h) λq h=>by rw[CZ,HM];exact ae9 q.1 q.2 h
def XH(f:bh G2):Nat->Int
 |0=> -1
 |i+1=>(f.f i).time
def bw7(x:eX)(i:Nat):Prop:=(x.dp.f i).time<=XH x.dp i\/1099511627776<(x.dp.f i).time\/w8 x.dS (x.dp.f i).bM≠0\/eb (CW x.dS (x.dp.f i).bM)=false
instance(x:eX)(i:Nat):Decidable (bw7 x i):=Classical.propDecidable _
def XI(x:eX)(i:Nat):Bool:=decide<|bw7 x i
def af0(x:eX)(i:Nat):XI x i=true↔((x.dp.f i).time<=XH x.dp i\/1099511627776<(x.dp.f i).time\/w8 x.dS (x.dp.f i).bM≠0\/eb (CW x.dS (x.dp.f i).bM)=false):=bp
def HN(x:eX):Bool:=decide<|my x.bL=true/\rZ x.dS=true/\x.dp.n<=64/\ar x.dp.n (XI x)=false
def aN3(x:eX)(i:Nat):Prop:=(x.dp.f i).time<0\/1099511627776<(x.dp.f i).time\/(0<i/\(x.dp.f i).time<=(x.dp.f<|i-1).time)\/D7 x.dS (x.dp.f i).bM≠0\/eb (CY x.dS (x.dp.f i).bM)=false
instance(x:eX)(i:Nat):Decidable (aN3 x i):=Classical.propDecidable _
def Nk(x:eX)(i:Nat):Bool:=decide<|aN3 x i
def Ud(x:eX)(i:Nat):Nk x i=true↔((x.dp.f i).time<0\/1099511627776<(x.dp.f i).time\/(0<i/\(x.dp.f i).time<=(x.dp.f<|i-1).time)\/D7 x.dS (x.dp.f i).bM≠0\/eb (CY x.dS (x.dp.f i).bM)=false):=bp
def Ue(x:eX)(h:wf x):Ok P 38 [(af eX).au x] (Bo<|HN x):=by
 have hn:=h.2.2.1;have hb:KH x.dS:=h.2.1.2.1;have lp:fc x.dS->_:=λhx=>by
  have hw:=λs=>CX x.dS s▸aL6 x.dS s hx;have lq:=yM f38 5 x.dp.n (XI x) (λi=>(M 58 [(1,aT),(2,aP),(3,I<|XH x.dp i),(25,(ak G2).au x.dp),(26,I x.dp.n),(27,I i)])) [(cM [aY.cells x] 8)] (eR<|M 58 [(2,aP)]) (ey 0<|M 58 [(2,aP)]) λi hi lt aW az aR=>by
   refine ao aN1 L0 [1,2,3,25,26,27] [2] (let Z:=x.dp.f i;let V:=CW x.dS Z.bM;(.d ((i:Int)<x.dp.n) (.g i x.dp.n<|.d (Z.time<=XH x.dp i) (eH az)<|.d (Z.time>1099511627776) (eH az)<|.k (a2 (af ay) aQ) (x.dS,Z.bM) (XG (x.dS,Z.bM))<|.u (w8 x.dS Z.bM) 0 (eH az)<|.k (a1<|af ct) V (wf V)<|.m (eb V) (eH az)<|bR (M 58 [(1,aT),(2,aP),(3,I Z.time),(25,(ak G2).au x.dp),(26,I x.dp.n),(27,I<|oU<|(i:Int)+1)]) [cM [(aY.cells x)] 8])<|fv 0 (M 58 [(2,aP)]) [])) ?_;have Y:=af0 x i;simp only[av]
   (repeat' with_reducible first|intro _|apply aNd_)<;>first|exact aM|exact hw _
  exact lq
 refine al aN1 (bc7 lp [1,2,3,25,26,27]) (let Z:ix:=bI;(.k (a1<|af cQ) x.bL (wf x.bL)<|.m (my x.bL) Z<|.k (a1<|af ay) x.dS (KH x.dS)<|.m (rZ x.dS) Z<|.d ((x.dp.n:Int)>64) Z<|lpC lp Z fo)) ?_;simp only[av]
 (repeat' with_reducible first|intro _|apply aNd_)<;>first|exact aM|(exact((lp<|ye W).t W).one)|(exact((lp<|ye W).f W).one)|(clear lp h;unfold HN;exact ga)
def lW(e:wb):Bool:=decide<|e.data.size<=8192/\0<=e.da/\e.da<=9007199254740991/\0<=e.dd/\e.dd<=9007199254740991/\(e.nD=true\/(e.da=0/\e.dd=0))
def af1(e:wb):Ok P 86 [(af wb).au e] (Bo<|lW e):=by
 refine al aw L0 (let Z:ix:=bI;(.d ((e.data.size:Int)>8192) Z<|.d ((if e.dd<e.da then e.dd else e.da)<0) Z<|.d ((if e.dd>e.da then e.dd else e.da)>9007199254740991) Z<|.n e.nD fo<|.q e.da 0 (.e<|Bo<|e.dd==0) Z)) ?_;simp only[av]
 repeat' with_reducible first|intro _|apply aNd_
 all_goals (refine ba Bo ?_;unfold lW;rw[ea];(try simp only[bB9,bc8]at*);simp only[bp,ev,reduceCtorEq,false_iff,true_iff];first|omega|(simp only[*]<;>omega)|(simp_all<;>omega))
def aN4(e:wb):Ok P 113 [(af wb).au e] (Bo<|lW e):=by
 refine al aw L0 (let Z:ix:=bI;(.d ((e.data.size:Int)>8192) Z<|.d (e.da<0) Z<|.d (e.da>9007199254740991) Z<|.d (e.dd<0) Z<|.d (e.dd>9007199254740991) Z<|.n e.nD fo<|.q e.da 0 (.e<|Bo<|e.dd==0) Z)) ?_;simp only[av]
 repeat' with_reducible first|intro _|apply aNd_
 all_goals (refine ba Bo ?_;unfold lW;rw[ea];(try simp only[]at*);simp only[bp,ev,reduceCtorEq,false_iff,true_iff];first|omega|(simp only[*]<;>omega)|(simp_all<;>omega))
def kJ(x:mM):Int:=if x.next=0/\x.l.n=0 then 1 else x.next
def af2(x:mM):Ok P 112 [(af mM).au x] (I<|kJ x):=by
 refine al aw L0 (.q x.next 0 (.q x.l.n 0 (.e<|I 1)<|.e<|I x.next) (.e<|I x.next)) ?_;simp only[av]
 repeat' with_reducible first|intro _|apply aNd_
 all_goals (refine ba I ?_;unfold kJ;split<;>omega)
def vH(x:jm):Bool:=decide<|x.a.nD=true/\x.b.nD=true/\x.a.da<=0/\x.a.dd<=0/\x.b.da<=0/\x.b.dd<=0
def bH2(x:jm)(i:Int):l_ J:=(M 24 [(2,.bit false),(6,J.agg [S x.a.data,I x.a.da,I x.a.dd,Bo x.a.nD,S x.b.data,I x.b.da,I x.b.dd,Bo x.b.nD]),(7,I i)])
def bi8(x:jm):LT:= .ite (vH x) (.out (.ext 0) (M 24 [(2,.bit false)]) [])<|.out .ret (M 24 [(2,.bit false)]) []
def bY0(x:jm)(lt:LT)(h:lt.ends (.ext 0,(M 24 [(2,.bit false)]),[])):aO P (aD f85 2) (bH2 x 2) [] lt:=by exact ao aw L0 [2,6,7] [2] (.s .fN<|fv 0 (M 24 [(2,aP)]) []) ft
def bY1(x:jm)(lt:LT)(h:x.b.nD=true->x.b.da<=0->x.b.dd<=0->lt.ends (.ext 0,(M 24 [(2,.bit false)]),[]))(h': ¬(x.b.nD=true/\x.b.da<=0/\x.b.dd<=0)->lt.ends (.ret,(M 24 [(2,.bit false)]),[])):aO P (aD f85 2) (bH2 x 1) [] lt:=by
 refine ao aw L0 [2,6,7] [2] (let Z:nV:=(kG (M 24 [(2,aP)]) []);(.o [(0:Int)<=1,(1:Int)<2]<|.s .fN<|.m x.b.nD Z<|.d (x.b.da>0) Z<|.d (x.b.dd>0) Z<|bR (M 24 [(2,aP),(6,J.agg [S x.a.data,I x.a.da,I x.a.dd,Bo x.a.nD,S x.b.data,I x.b.da,I x.b.dd,Bo x.b.nD]),(7,I 2)]) [])) ?_;simp only[av]
 (repeat' with_reducible first|intro _|apply aNd_)<;>first|exact aM|exact bY0 x lt<|h W U U|exact h' (λq=>by have:=q.1;have:=q.2;first|omega|simp_all)
def bw8(x:jm):aO P (aD f85 2) (bH2 x 0) [] (bi8 x):=by
 have ht:x.a.nD=true->x.a.da<=0->x.a.dd<=0->x.b.nD=true->x.b.da<=0->x.b.dd<=0->(bi8 x).ends (.ext 0,(M 24 [(2,.bit false)]),[]):=λO h2 h3 h4 h5 h6=>GX (cd ⟨O,h4,h2,h3,h5,h6⟩) rfl;have hf: ¬(x.a.nD=true/\x.b.nD=true/\x.a.da<=0/\x.a.dd<=0/\x.b.da<=0/\x.b.dd<=0)->(bi8 x).ends (.ret,(M 24 [(2,.bit false)]),[]):=λh=>Mz (fq h) rfl;refine ao aw L0 [2,6,7] [2] (let Z:nV:=(kG (M 24 [(2,aP)]) []);(.o [(0:Int)<=0,(0:Int)<2]<|.s .fN<|.m x.a.nD Z<|.d (x.a.da>0) Z<|.d (x.a.dd>0) Z<|bR (M 24 [(2,aP),(6,J.agg [S x.a.data,I x.a.da,I x.a.dd,Bo x.a.nD,S x.b.data,I x.b.da,I x.b.dd,Bo x.b.nD]),(7,I 1)]) [])) ?_;simp only[av]
 (repeat' with_reducible first|intro _|apply aNd_)<;>first|exact aM|exact bY1 x _ (ht W U U) λq=>hf λr=>q ⟨r.2.1,r.2.2.2.2⟩|exact hf (λq=>by have:=q.1;have:=q.2;first|omega|simp_all)
def bi9(x:jm):Ok P 85 [(af jm).au x] (Bo<|vH x):=by
 refine al aw (λ_=>([2,6,7],[],λ_ _=>bi8 x)) (let Z:=(M 24 [(2,aP),(6,J.agg [S x.a.data,I x.a.da,I x.a.dd,Bo x.a.nD,S x.b.data,I x.b.da,I x.b.dd,Bo x.b.nD]),(7,I 0)]);let V:=(M 24 [(2,aP)]);(.n (vH x) (.o [ax P (aD f85 2) Z [] (Out.ext 0) V []] fo)<|.o [ax P (aD f85 2) Z [] (Out.ret) V []] bI)) ?_;simp only[av]
 (repeat' with_reducible first|intro _|apply aNd_)<;>first|exact aM|exact((bw8 x).t W).one|exact((bw8 x).f W).one|(simp only[*])
def EP:Env:=aF 85 (bN (a1<|af jm) λx=>Bo (vH x))<|aF 86 (bN (a1<|af wb) λx=>Bo (lW x))<|aF 112 (bN (a1<|af mM) λx=>I (kJ x))<|aF 113 (bN (a1<|af wb) λx=>Bo (lW x)) EN
def aN5:an P EP:=ah (ah (ah (ah aw λx _=>aN4 x) λx _=>af2 x) λx _=>af1 x) λx _=>bi9 x
def aN6(n:Int)(l:bh jm)(i:Nat):Prop:=(l.f i).id<1\/n<=(l.f i).id\/(0<i/\(l.f i).id<=(l.f<|i-1).id)\/vH (l.f i)=true\/lW (l.f i).a=false\/lW (l.f i).b=false
instance(n:Int)(l:bh jm)(i:Nat):Decidable (aN6 n l i):=by unfold aN6;infer_instance
def HO(n:Int)(l:bh jm)(i:Nat):Bool:=decide<|aN6 n l i
def KI(n:Int)(l:bh jm)(i:Nat):HO n l i=true↔((l.f i).id<1\/n<=(l.f i).id\/(0<i/\(l.f i).id<=(l.f<|i-1).id)\/vH (l.f i)=true\/lW (l.f i).a=false\/lW (l.f i).b=false):=bp
def vI(x:mM):Bool:=decide<|1<=kJ x/\kJ x<=549755813888/\x.l.n<=64/\ar x.l.n (HO (kJ x) x.l)=false
def HP(x:mM):vI x=true↔(1<=kJ x/\kJ x<=549755813888/\x.l.n<=64/\ar x.l.n (HO (kJ x) x.l)=false):=bp
def af3(x:mM)(hn:x.l.n<=aq):Ok P 39 [(af mM).au x] (Bo<|vI x):=by
 have lp:=fF f39 6 x.l.n (HO x.next x.l) (λi=>(M 79 [(1,aT),(2,aP),(29,(ak jm).au x.l),(30,I x.l.n),(31,I i)])) [(cM [aY.cells x] 2)] (eR<|M 79 [(2,aP)]) (ey 0<|M 79 [(2,aP)]) λi hi lt aW az aR=>by
  refine ao aN5 L0 [1,2,29,30,31] [2] (let Z:nV:=(.v (a1<|af jm) (x.l.f i)<|.n (vH<|x.l.f i) (eH az)<|.o [(0:Int)<=0,(0:Int)<2]<|.v (a1<|af wb) (x.l.f i).a<|.m (lW (x.l.f i).a) (eH az)<|.o [(0:Int)<=1,(1:Int)<2]<|.v (a1<|af wb) (x.l.f i).b<|.m (lW (x.l.f i).b) (eH az)<|eG aW);let V:=oU ((i:Int)-1);(.d ((i:Int)<x.l.n) (.g i x.l.n<|.d ((x.l.f i).id<1) (eH az)<|.d ((x.l.f i).id>=x.next) (eH az)<|.d ((i:Int)>0) (.g V x.l.n<|.d ((x.l.f i).id<=(x.l.f V.toNat).id) (eH az) Z) Z)<|eY aR)) ?_;have Y:=KI x.next x.l i
  simp only[lQ<|cm hi hn,jF];simp only[av]
  repeat' with_reducible first|intro _|apply aNd_
  all_goals exact aM
 have hz:x.l.n=0->∀n,ar x.l.n (HO n x.l)=false:=λh n=>by rw[h];rfl
 have nP: ¬(x.next=0/\x.l.n=0)->kJ x=x.next:=λh=>if_neg h
 have F:x.next=0/\x.l.n=0->kJ x=1:=λh=>if_pos h
 refine al aN5 (kR lp [1,2,29,30,31]) (let V:ix:=bI;let Z:ix:=(.d (x.next<1) V<|.d (x.next>549755813888) V<|.d ((x.l.n:Int)>64) V<|jS lp V fo);(.q x.next 0 (.q x.l.n 0 fo Z) Z)) ?_;simp only[av]
 (repeat' with_reducible first|intro _|apply aNd_)<;>first|exact aM|(refine ba Bo ?_;rw[ea,HP];first|(rw[F U];simp [hz U]<;>omega)|(rw[nP U];first|omega|(simp only[*]<;>omega)|(simp_all<;>omega)))
def tL(c:Int):Bool:=decide<|c=9\/(32<=c/\c≠127)
def af4(c:Int):Ok P 220 [U8 c] (Bo<|tL c):=by
 refine al aw L0 (.q c 9 fo<|.d (c>=32) (.e<|Bo<|c !=127) bI) ?_;simp only[av]
 repeat' with_reducible first|intro _|apply aNd_
 all_goals (unfold tL;exact ga)
def af5(c:Int):Ok P 184 [U8 c] (Bo<|tL c):=by
 refine al aw L0 (.q c 9 fo<|.d (c>=32) (.e<|Bo<|c !=127) bI) ?_;simp only[av]
 repeat' with_reducible first|intro _|apply aNd_
 all_goals (unfold tL;exact ga)
def Uf(s:y_):Ok P 221 [S s] (Bo<|decide<|(s.size:Int)>1025):=by exact al aw L0 (.e<|Bo<|decide<|(s.size:Int)>1025) ft
def EW:Env:=rW<|aF 221 (bN (a1 aQ) λs=>Bo (decide<|(s.size:Int)>1025))<|aF 220 (bN (a1<|oD .u8) λc=>Bo (tL c))<|aF 184 (bN (a1<|oD .u8) λc=>Bo (tL c)) EN
def QH:an P EW:=sZ<|ah (ah (ah aw λx _=>af5 x) λx _=>af4 x) λx _=>Uf x
def QI(s:y_)(i:Nat):Bool:= !tL ((s.data.toList.getD i 0).toNat:Int)
def KJ(s:y_)(i:Nat):QI s i=true↔tL ((s.data.toList.getD i 0).toNat:Int)=false:=by unfold QI;simp
def XJ(x:zt)(i:Nat):Bool:=decide<|((x.ready.f i).size:Int)>1025
def af6(x:zt)(i:Nat):XJ x i=true↔((x.ready.f i).size:Int)>1025:=bp
def yT(x:zt):Bool:=decide<|x.text.size<=1024/\(x.raw=true->x.text=n_)/\x.ready.n<=1024/\ar x.text.size (QI x.text)=false/\ar x.ready.n (XJ x)=false
def af7(x:zt)(h:wf x):Ok P 149 [(af zt).au x] (Bo<|yT x):=by
 have hn:x.text.size<=aq:=h.2.1;have N:=h.2.2.1;have lp:=fF f149 4 x.text.size (QI x.text) (λi=>(M 40 [(1,aT),(2,aP),(25,I x.text.size),(26,I i)])) [(cM [aY.cells x] 3)] (λi=>(.ret,(M 40 [(1,aT),(2,aP)]),[(cM [aY.cells x] 3)])) (.ext 0,(M 40 [(1,aT),(2,aP)]),[(cM [aY.cells x] 3)]) λi hi lt aW az aR=>by
  refine ao QH L0 [1,2,25,26] [1,2] (let Z:=Int.ofNat (x.text.data.toList.getD i 0).toNat;(.d ((i:Int)<x.text.size) (.g i x.text.size<|.v (a1<|oD IntKind.u8) Z<|.m (tL Z) (eH az)<|eG aW)<|eY aR)) ?_;have Y:=KJ x.text i;simp only[av]
  (repeat' with_reducible first|intro _|apply aNd_)<;>first|exact aM|(exact aW U (bF Y gG))
 have e1:ar x.ready.n (XJ x)=ar x.ready.n λi=>decide (((x.ready.f i).size:Int)>1025):=rfl;refine al QH (kR lp [1,2,25,26]) (let Z:ix:=bI;let V:=(ak y_).au x.ready;let aG:=(x.ready.n:Int)>1024;let aS:=x.ready.n<=140737488351232;(.d ((x.text.size:Int)>1024) Z<|.n x.raw (.m (dN x.text (n_:y_)) Z<|.d aG Z<|jS lp Z<|.r V<|.o [aS,∀(i:Nat),i<x.ready.n->(a1 aQ).au (x.ready.f i)=(a1 aQ).au (x.ready.f i)/\True/\True]<|.e<|Bo !ar x.ready.n λi=>decide ((↑(x.ready.f i).size:Int)>1025))<|.d aG Z<|jS lp Z<|.r V<|.o [aS,∀(i:Nat),i<x.ready.n->(a1 aQ).au (x.ready.f i)=(a1 aQ).au (x.ready.f i)/\True/\True]<|.e<|Bo !ar x.ready.n λi=>decide ((↑(x.ready.f i).size:Int)>1025))) ?_;simp only[av,bK,bO,aL]
 (repeat' with_reducible first|intro _|apply aNd_)<;>first|exact aM|(refine ba Bo ?_;unfold yT;rw[e1];grind)
def aN7(x:zt)(h:wf x):Ok P 115 [(af zt).au x] (Bo<|yT x):=by
 have hn:x.text.size<=aq:=h.2.1;have N:=h.2.2.1;have lp:=fF f115 4 x.text.size (QI x.text) (λi=>(M 51 [(1,aT),(2,aP),(3,I i)])) [(cM [aY.cells x] 3)] (λi=>(.ret,(M 51 [(1,aT),(2,aP)]),[(cM [aY.cells x] 3)])) (.ext 0,(M 51 [(1,aT),(2,aP)]),[(cM [aY.cells x] 3)]) λi hi lt aW az aR=>by
  refine ao QH L0 [1,2,3] [1,2] (let Z:=Int.ofNat (x.text.data.toList.getD i 0).toNat;(.d ((i:Int)<x.text.size) (.g i x.text.size<|.v (a1<|oD IntKind.u8) Z<|.m (tL Z) (eH az)<|eG aW)<|eY aR)) ?_;have Y:=KJ x.text i;simp only[av]
  (repeat' with_reducible first|intro _|apply aNd_)<;>first|exact aM|(exact aW U (bF Y gG))
 have xZ:=fF f115 9 x.ready.n (XJ x) (λi=>(M 51 [(1,aT),(2,aP),(4,I i)])) [(cM [aY.cells x] 3)] (eR<|M 51 [(2,aP)]) (ey 2<|M 51 [(2,aP)]) λi hi lt aW az aR=>by
  refine ao QH L0 [1,2,4] [2] (.d ((i:Int)<x.ready.n) (.g i x.ready.n<|.d ((↑(x.ready.f i).size:Int)>1025) (eH az)<|eG aW)<|eY aR) ?_;have Y:=af6 x i;simp only[av]
  (repeat' with_reducible first|intro _|apply aNd_)<;>first|exact aM|(exact aW U (bF Y gG))
 refine al QH (LOr 4 (kR lp [1,2,3]) 9<|kR xZ [1,2,4]) (let V:ix:=bI;let Z:ix:=(.d ((x.ready.n:Int)>1024) V<|jS lp V<|jS xZ V fo);(.d ((x.text.size:Int)>1024) V<|.n x.raw (.m (dN x.text (n_:y_)) V Z) Z)) ?_;simp only[av,bK,bO,aL]
 repeat' with_reducible first|intro _|apply aNd_
 all_goals (refine ba Bo ?_;unfold yT;grind)
def pA(x:iR):Bool:=decide<|x.label.size<=64/\x.text.size<=65536/\yT x.EL=true/\0<=x.fa/\x.fa<=9007199254740991/\(x.EM=true->0<x.fa)
def EW1:Env:=aF 149 (bN (a1<|af zt) (λx=>Bo (yT x)) wf)<|aF 115 (bN (a1<|af zt) (λx=>Bo (yT x)) wf) EN
def aN8:an P EW1:=ah (ah aw aN7) af7
def af8(x:iR)(h:wf x):Ok P 87 [(af iR).au x] (Bo<|pA x):=by
 refine al aN8 L0 (let Z:ix:=bI;(.d ((x.label.size:Int)>64) Z<|.d ((x.text.size:Int)>65536) Z<|.k (a1<|af zt) x.EL (wf x.EL)<|.m (yT x.EL) Z<|.d (x.fa<0) Z<|.d (x.fa>9007199254740991) Z<|.m x.EM fo<|.e<|Bo<|decide<|x.fa>0)) ?_;simp only[av]
 (repeat' with_reducible first|intro _|apply aNd_)<;>first|exact aM|(unfold pA;exact ga)
def Ug(x:iR)(i:Int):Ok P 151 [(af iR).au x,(k9 bx).au i] (Bo<|x.id==i):=by exact al aw L0 (.e<|Bo<|x.id==i) ft
def EW2:Env:=DX<|aF 151 (bN (a2 (af iR)<|k9 bx) λx=>Bo (x.1.id==x.2))<|aF 87 (bN (a1<|af iR) (λx=>Bo (pA x)) wf) EW1
def aN9:an P EW2:=G3<|ah (ah aN8 af8) λx _=>Ug x.1 x.2
def BO(l:bh iR)(id:Int):Int:=cZ l.n λi=>(l.f i).id==id
def af9(x:df)(id:Int)(h:x.l.n<=aq):Ok P 88 [(af df).au x,I id] (I<|BO x.l id):=by exact al aN9 L0 (let Z:=a2 (af iR) (k9 bx);(.r ((ak iR).au x.l)<|.o [x.l.n<=140737488351232,∀(i:Nat),i<x.l.n->Z.au (x.l.f i,id)=Z.au (x.l.f i,id)/\True/\True]<|.e<|I<|cZ x.l.n λi=>(x.l.f i).id==id)) ft
def EW3:Env:=aF 88 (bN (a2 (af df) bx) (λx=>I (BO x.1.l x.2)) λx=>x.1.l.n<=aq) EW2
def Nl:an P EW3:=ah aN9 λx h=>af9 x.1 x.2 h
def aO0(n:Int)(l:bh iR)(i:Nat):Prop:=(l.f i).id<1\/n<=(l.f i).id\/(0<i/\(l.f i).id<=(l.f<|i-1).id)\/pA (l.f i)=false
instance(n:Int)(l:bh iR)(i:Nat):Decidable (aO0 n l i):=by unfold aO0;infer_instance
def KK(n:Int)(l:bh iR)(i:Nat):Bool:=decide<|aO0 n l i
def yf(n:Int)(l:bh iR)(i:Nat):KK n l i=true↔((l.f i).id<1\/n<=(l.f i).id\/(0<i/\(l.f i).id<=(l.f<|i-1).id)\/pA (l.f i)=false):=bp
def BP(x:df)(i:Nat):Bool:=decide<|(x.l.f i).id=x.iG/\(x.l.f i).EM=false
def HQ(x:df):Bool:=decide<|1<=x.next/\x.next<=1048576/\x.l.n<=16/\ar x.l.n (KK x.next x.l)=false/\(x.iG=0\/ar x.l.n (BP x)=true)
def QJ {x:df}(h:ar x.l.n (KK x.next x.l)=false):∀j i,i<j->j<x.l.n->(x.l.f i).id<(x.l.f j).id:=by
 intro j
 induction j with
 |zero=>intro i hi;omega
 |succ j ih=>
  intro i hi hj;have O:=bc.1 h (j+1) hj;have h2: ¬_:=λhp=>absurd ((yf x.next x.l (j+1)).2 hp) (by rw[O];simp);have h3:(x.l.f j).id<(x.l.f<|j+1).id:=by have: ¬(x.l.f<|j+1).id<=(x.l.f<|j+1-1).id:=λh=>h2<|.inr<|.inr<|.inl ⟨U,h⟩;rw[show j+1-1=j by omega]at this;omega
  by_cases Jj:i=j
  .rw[Jj];exact h3
  .have:=ih i U U;omega
def aO1 {x:df}(h:ar x.l.n (KK x.next x.l)=false)(hi:0<=BO x.l x.iG):ar x.l.n (BP x)= !(x.l.f (BO x.l x.iG).toNat).EM:=by
 have ha:ar x.l.n (λi=>(x.l.f i).id==x.iG)=true:=by have:=iw (n:=x.l.n) (b:=λi=>(x.l.f i).id==x.iG);rw[<-this];exact cd hi
 have hw:BO x.l x.iG=(aE x.l.n λi=>(x.l.f i).id==x.iG:Nat):=by unfold BO cZ;rw[if_pos ha]
 have iH:=dw.2 ha;have az:=dC iH;rw[hw,dL];generalize aE x.l.n (λi=>(x.l.f i).id==x.iG)=k at*;have hid:(x.l.f k).id=x.iG:=by grind
 rw[ea,cG];constructor
 .rintro⟨i,O,h2⟩;have h3:=cn h2;have:i=k:=by
   rcases rD i k with h4|h4|h4
   .have:=QJ h k i h4 iH;omega
   .exact h4
   .have:=QJ h i k h4 O;omega
  rw[<-this,h3.2];rfl
 .intro h2;exact⟨k,iH,cd ⟨hid,by simpa using h2⟩⟩
def aO2 {x:df}(hi:BO x.l x.iG<0):ar x.l.n (BP x)=false:=by have ha:=Bb.1 hi;rw[bc]at ha⊢;intro i O;have:=ha i O;unfold BP;rw[bO];rintro⟨h2,_⟩;rw[h2]at this;simp at this
def ag0(x:df)(h:wf x):Ok P 40 [(af df).au x] (Bo<|HQ x):=by
 have hn:=h.2.2.1;have hv:=h.2.2.2;have lp:=fF f40 4 x.l.n (KK x.next x.l) (λi=>(M 78 [(1,aT),(2,aP),(21,(ak iR).au x.l),(22,I x.l.n),(23,I i)])) [(cM [aY.cells x] 3)] (λi=>(.ret,(M 78 [(1,aT),(2,aP)]),[(cM [aY.cells x] 3)])) (.ext 0,(M 78 [(1,aT),(2,aP)]),[(cM [aY.cells x] 3)]) λi hi lt aW az aR=>by
  refine ao Nl L0 [1,2,21,22,23] [1,2] (let Z:nV:=(.k (a1<|af iR) (x.l.f i) (wf<|x.l.f i)<|.m (pA<|x.l.f i) (eH az)<|eG aW);let V:=oU ((i:Int)-1);(.d ((i:Int)<x.l.n) (.g i x.l.n<|.d ((x.l.f i).id<1) (eH az)<|.d ((x.l.f i).id>=x.next) (eH az)<|.d ((i:Int)>0) (.g V x.l.n<|.d ((x.l.f i).id<=(x.l.f V.toNat).id) (eH az) Z) Z)<|eY aR)) ?_;have Y:=yf x.next x.l i
  simp only[lQ<|cm hi hn,jF];simp only[av]
  (repeat' with_reducible first|intro _|apply aNd_)<;>first|exact aM|exact hv i
 have hb:0<=BO x.l x.iG->BO x.l x.iG<x.l.n:=λh=>by
  have ha:ar x.l.n (λi=>(x.l.f i).id==x.iG)=true:=by have:=iw (n:=x.l.n) (b:=λi=>(x.l.f i).id==x.iG);rw[<-this];exact cd h
  have:=dw.2 ha;have e:BO x.l x.iG=(aE x.l.n λi=>(x.l.f i).id==x.iG:Nat):=by unfold BO cZ;rw[if_pos ha]
  omega
 have hs:=@aO1 x;have hz:=@aO2 x;refine al Nl (kR lp [1,2,21,22,23]) (let Z:ix:=bI;(.d (x.next<1) Z<|.d (x.next>1048576) Z<|.d ((x.l.n:Int)>16) Z<|jS lp Z<|.q x.iG 0 fo<|.k (a2 (af df) bx) (x,x.iG) (x.l.n<=140737488351232)<|.d (BO x.l x.iG>=0) (.g (BO x.l x.iG) x.l.n<|.e<|Bo !(x.l.f (BO x.l x.iG).toNat).EM) Z)) ?_;simp only[av]
 (repeat' with_reducible first|intro _|apply aNd_)<;>first|exact aM|(refine ba Bo ?_;unfold HQ;grind)
def pd(l:bh aC)(s:y_)(i:Nat):Bool:=decide<|(l.f i).dq=false/\(l.f i).name=s
def aO3(l:bh aC)(s:y_)(i:Nat):pd l s i=true↔((l.f i).dq=false/\(l.f i).name=s):=bp
def HR(l:bh aC)(s:y_):Bool:=ar l.n<|pd l s
def iE(l:bh aC)(s:y_):y_:=if HR l s=true then(l.f<|aE l.n<|pd l s).value else n_
def D8(l:bh aC)(s:y_):J:= .bg [S<|iE l s,Bo<|HR l s]
def KL {l:bh aC} {s:y_}(h:ar l.n (pd l s)=true):D8 l s= .bg [S (l.f<|aE l.n<|pd l s).value,Bo true]:=by have h':HR l s=true:=h;unfold D8 iE;rw[if_pos h',h']
def QK {l:bh aC} {s:y_}(h:ar l.n (pd l s)=false):D8 l s= .bg [S n_,Bo false]:=by have h':HR l s=false:=h;unfold D8 iE;rw[if_neg (by rw[h'];simp),h']
def aO4(x:aC)(s:y_):Ok P 317 [(af aC).au x,(k9 aQ).au s] (Bo<|decide<|x.dq=false/\x.name=s):=by
 refine al aw L0 (.m x.dq (.e<|Bo<|dN x.name s) bI) ?_;simp only[av,aL]
 repeat' with_reducible first|intro _|apply aNd_
 all_goals exact ga
def b98:Env:=J9<|aF 317 (bN (a2 (af aC)<|k9 aQ) λx=>Bo (decide<|x.1.dq=false/\x.1.name=x.2)) EN
def bj0:an P b98:=MD<|ah aw λx _=>aO4 x.1 x.2
def ag1(l:bh aC)(s:y_)(h:l.n<=aq):Ok P 275 [(ak aC).au l,S s] (I<|cZ l.n<|pd l s):=by exact al bj0 L0 (let Z:=a2 (af aC) (k9 aQ);(.r ((ak aC).au l)<|.o [l.n<=140737488351232,∀(i:Nat),i<l.n->Z.au (l.f i,s)=Z.au (l.f i,s)/\True/\True]<|.e<|I<|cZ l.n λi=>decide ((l.f i).dq=false/\(l.f i).name=s))) ft
def EA2:Env:=aF 275 (bN (a2 (ak aC) aQ) (λx=>I (cZ x.1.n<|pd x.1 x.2)) λx=>x.1.n<=aq) EN
def bH3:an P EA2:=ah aw λx h=>ag1 x.1 x.2 h
def aO5(l:bh aC)(s:y_)(h:l.n<=aq):Ok P 226 [(ak aC).au l,S s] (D8 l s):=by
 have h0:cZ l.n (pd l s)<0↔ar l.n (pd l s)=false:=Bb;have hi: ¬cZ l.n (pd l s)<0->ar l.n (pd l s)=true:=λq=>by rw[<-qR];exact λe=>q<|h0.2 e
 have F:ar l.n (pd l s)=true->cZ l.n (pd l s)=(aE l.n (pd l s):Nat):=λe=>by unfold cZ;rw[if_pos e]
 have hl:ar l.n (pd l s)=true->aE l.n (pd l s)<l.n:=λe=>dw.2 e;refine al bH3 L0 (let Z:=cZ l.n (pd l s);(.k (a2 (ak aC) aQ) (l,s) (l.n<=140737488351232)<|.d (cZ l.n (pd l s)<0) (.e<|J.bg [S (n_:y_),Bo false])<|.g Z l.n<|.e<|J.bg [S (l.f Z.toNat).value,Bo true])) ?_;simp only[av]
 (repeat' with_reducible first|intro _|apply aNd_)<;>first|exact aM|(rw[F<|hi W];have:=hl (hi W);omega)|exact(QK<|h0.1 W).symm|(rw[KL<|hi W,F<|hi W];rfl)
def aO6(l:bh aC)(s:y_)(h:l.n<=aq):Ok P 248 [(ak aC).au l,S s] (D8 l s):=by
 have lp:=fF f248 2 l.n (pd l s) (λi=>(M 33 [(0,(ak aC).au l),(1,S s),(4,S n_),(5,aP),(6,I i)])) [] (λi=>(.ret,(M 33 [(4,S (l.f i).value),(5,fZ)]),[])) (ey 0<|M 33 [(4,S n_),(5,aP)]) λi hi lt aW az aR=>by
  refine ao aw L0 [0,1,4,5,6] [4,5] (.d ((i:Int)<l.n) (.g i l.n<|.n (dN (l.f i).name s) (.g i l.n<|.m ((l.f i).dq) (.g i l.n<|eH az)<|eG aW)<|eG aW)<|eY aR) ?_;have Y:=aO3 l s i;simp only[av,bK,bO,aL]
  (repeat' with_reducible first|intro _|apply aNd_)<;>first|exact aM|(exact aW U (bF Y gG))
 refine al aw (kR lp [0,1,4,5,6]) (jS lp (.e<|J.bg [S (l.f<|aE l.n<|pd l s).value,Bo true])<|.e<|J.bg [S (n_:y_),Bo false]) ?_;simp only[av]
 (repeat' with_reducible first|intro _|apply aNd_)<;>first|exact(KL W).symm|exact(QK W).symm
def neA(l k:bh aC)(i:Nat):Bool:=decide<|¬((l.f i).name=(k.f i).name/\(l.f i).value=(k.f i).value/\(l.f i).dq=(k.f i).dq)
def XK(l k:bh aC)(i:Nat):neA l k i=true↔ ¬((l.f i).name=(k.f i).name/\(l.f i).value=(k.f i).value/\(l.f i).dq=(k.f i).dq):=bp
def oc(l k:bh aC):Bool:=decide<|l.n=k.n/\ar l.n (neA l k)=false
def bH4(l k:bh aC)(h:l.n<=aq):Ok P 228 [(ak aC).au l,(ak aC).au k] (Bo<|oc l k):=by
 have lq:=λ(iH:l.n=k.n)=>fF f228 4 l.n (neA l k) (λi=>(M 26 [(0,(ak aC).au l),(1,(ak aC).au k),(4,.bit false),(12,I l.n),(13,I i)])) [] (λi=>(.ret,(M 26 [(4,.bit false)]),[])) (.ext 0,(M 26 [(4,.bit false)]),[]) λi hi lt aW az aR=>by
  refine ao aw L0 [0,1,4,12,13] [4] (.d ((i:Int)<l.n) (.g i l.n<|.g i k.n<|.n (!(dN (l.f i).name (k.f i).name&&(dN (l.f i).value (k.f i).value&&((l.f i).dq==(k.f i).dq&&true)))) (eH az)<|eG aW)<|eY aR) ?_;have Y:=XK l k i;simp only[av,bK,bO,gl,nM,aL]
  (repeat' with_reducible first|intro _|apply aNd_)<;>first|exact aM|(exact aW U (bF Y gG))
 refine al aw (iy [0,1,4,12,13] (l.n) (neA l k) (λi=>(M 26 [(4,.bit false)])) (M 26 [(4,.bit false)]) (.ext 0) (λi=> []) []) (let Z:=(M 26 [(0,(ak aC).au l),(1,(ak aC).au k),(4,aP),(12,I l.n),(13,I 0)]);let V:=(M 26 [(4,aP)]);(.u l.n k.n bI<|.n (ar l.n<|neA l k) (.o [ax P (aD f228 4) Z [] (Out.ret) V []] bI)<|.o [ax P (aD f228 4) Z [] (Out.ext 0) V []] fo)) ?_;simp only[av]
 (repeat' with_reducible first|intro _|apply aNd_)<;>first|exact aM|exact((lq U).t W).one|exact((lq U).f W).one|(clear lq;unfold oc;exact ga)
def HS(l k:bh aC)(h:l.n<=aq):Ok P 189 [(ak aC).au l,(ak aC).au k] (Bo<|oc l k):=by
 have lq:=λ(iH:l.n=k.n)=>fF f189 4 l.n (neA l k) (λi=>(M 26 [(0,(ak aC).au l),(1,(ak aC).au k),(4,.bit false),(5,I i)])) [] (λi=>(.ret,(M 26 [(4,.bit false)]),[])) (.ext 0,(M 26 [(4,.bit false)]),[]) λi hi lt aW az aR=>by
  refine ao aw L0 [0,1,4,5] [4] (.d ((i:Int)<l.n) (.g i l.n<|.g i k.n<|.n (!(dN (l.f i).name (k.f i).name&&(dN (l.f i).value (k.f i).value&&((l.f i).dq==(k.f i).dq&&true)))) (eH az)<|eG aW)<|eY aR) ?_;have Y:=XK l k i;simp only[av,bK,bO,gl,nM,aL]
  (repeat' with_reducible first|intro _|apply aNd_)<;>first|exact aM|(exact aW U (bF Y gG))
 refine al aw (iy [0,1,4,5] (l.n) (neA l k) (λi=>(M 26 [(4,.bit false)])) (M 26 [(4,.bit false)]) (.ext 0) (λi=> []) []) (let Z:=(M 26 [(0,(ak aC).au l),(1,(ak aC).au k),(4,aP),(5,I 0)]);let V:=(M 26 [(4,aP)]);(.u l.n k.n bI<|.n (ar l.n<|neA l k) (.o [ax P (aD f189 4) Z [] (Out.ret) V []] bI)<|.o [ax P (aD f189 4) Z [] (Out.ext 0) V []] fo)) ?_;simp only[av]
 (repeat' with_reducible first|intro _|apply aNd_)<;>first|exact aM|exact((lq U).t W).one|exact((lq U).f W).one|(clear lq;unfold oc;exact ga)
def Uh(n i:Int):Int:=IntKind.u8.wrap<|n.fdiv<|2^min (oU<|8*i).toNat IntKind.i64.bits
def pst(n i:Int):l_ J:=(M 45 [(0,I n),(4,S n_),(5,I 0),(6,.bf 0 2),(30,I 2),(31,I i)])
def aO7:l_ J:=(M 45 [(4,S n_),(5,I 0),(6,.bf 0 2)])
def phe(a b:Int):Hp:=[⟨[[U8 a],[U8 b]],0,[],1,true,false⟩]
def bY2(n a b:Int)(lt:PS.LT)(h:lt.ends (.ext 0,aO7,phe a b)):aO P (aD f346 7) (pst n 2) (phe a b) lt:=by exact ao aw L0 [0,4,5,6,30,31] [4,5,6] (.s .fN<|fv 0 (M 45 [(4,S (n_:y_)),(5,I 0),(6,J.bf 0 2)]) [dn [[U8 a],[U8 b]] 1]) ft
def bY3(n a:Int)(lt:PS.LT)(h:lt.ends (.ext 0,aO7,phe a<|Uh n 1)):aO P (aD f346 7) (pst n 1) (phe a 0) lt:=by
 refine ao aw L0 [0,4,5,6,30,31] [4,5,6] (.o [(0:Int)<=1,(1:Int)<2]<|.s .fN<|bR (M 45 [(0,I n),(4,S (n_:y_)),(5,I 0),(6,J.bf 0 2),(30,I 2),(31,I 2)]) [dn [[U8 a],[U8<|IntKind.u8.wrap<|n.fdiv<|2^min (oU<|8*1).toNat IntKind.i64.bits]] 1]) ?_;simp only[av]
 (repeat' with_reducible first|intro _|apply aNd_)<;>first|exact aM|exact bY2 n a (Uh n 1) lt h
def bY4(n:Int)(lt:PS.LT)(h:lt.ends (.ext 0,aO7,phe (Uh n 0)<|Uh n 1)):aO P (aD f346 7) (pst n 0) (phe 0 0) lt:=by
 refine ao aw L0 [0,4,5,6,30,31] [4,5,6] (.o [(0:Int)<=0,(0:Int)<2]<|.s .fN<|bR (M 45 [(0,I n),(4,S (n_:y_)),(5,I 0),(6,J.bf 0 2),(30,I 2),(31,I 1)]) [dn [[U8<|IntKind.u8.wrap<|n.fdiv<|2^min (oU<|8*0).toNat IntKind.i64.bits],[U8 0]] 1]) ?_;simp only[av]
 (repeat' with_reducible first|intro _|apply aNd_)<;>first|exact aM|exact bY3 n (Uh n 0) lt h
def KM(n:Int):Int:=if n<0\/n.fdiv (2^min (oU<|8*2).toNat IntKind.i64.bits)>0 then 5 else 0
def D9(n:Int):y_:=if KM n=0 then dA [[U8<|Uh n 0],[U8<|Uh n 1]]else n_
def KN(n:Int):J:= .bg [S<|D9 n,I<|KM n]
def QL {n:Int}(h:KM n=5):KN n= .bg [S n_,I 5]:=by unfold KN D9;rw[h,if_neg dD]
def aO8 {n:Int}(h:KM n=0):KN n= .bg [S<|dA [[U8<|Uh n 0],[U8<|Uh n 1]],I 0]:=by unfold KN D9;rw[h,if_pos rfl]
def b99(n:Int):gD:=λ_=>([0,4,5,6,30,31],[],λ_ _=> .out (.ext 0) aO7 (phe (Uh n 0)<|Uh n 1))
def two:Int:=2
def bj1(n:Int):Ok P 346 [I n,I two] (KN n):=by
 show Ok P _ [I n,I 2] _;have hl:aO P (aD f346 7) (pst n 0) (phe 0 0) (.out (.ext 0) aO7<|phe (Uh n 0)<|Uh n 1):=bY4 n _ rfl;refine al aw (b99 n) (let Z:=S (n_:y_);let V:=[[U8<|Uh n 0],[U8<|Uh n 1]];(.s .fN<|.s .fN<|.d (n<0) (.e<|J.bg [Z,I 5])<|.s .fN<|.d (n.fdiv (2^min (oU<|8*2).toNat IntKind.i64.bits)>0) (.e<|J.bg [Z,I 5])<|.o [(0:Int)<=2,(2:Int)<=2,(2:Int)<=140737488355328,ax P (aD f346 7) (M 45 [(0,I n),(4,Z),(5,I 0),(6,J.bf 0 2),(30,I 2),(31,I 0)]) [dn [[U8 0],[U8 0]] 1] (Out.ext 0) (M 45 [(4,Z),(5,I 0),(6,J.bf 0 2)]) [dn V 1]]<|.r true<|.o [2=V.length]<|.e<|J.bg [S<|dA V,I 0])) ?_;simp only[av]
 (repeat' with_reducible first|intro _|apply aNd_)<;>first|exact aM|exact hl.one|exact(QL<|if_pos<|.inl W).symm|exact(QL<|if_pos<|.inr W).symm|exact(aO8<|if_neg λq=>q.elim W W).symm
def Ui(n:Int):(D9 n).size<=2:=by
 unfold D9;split
 .exact bE 2
 .exact bJ 2
def EOC:Env:=aF 346 (bN (a2 bx bx) (λx=>KN x.1) λx=>x.2=two) EN
def bH5:an P EOC:=ah aw λx h=>by rw[show x=(x.1,two)from Prod.ext rfl h];exact bj1 x.1
def ptE(s:y_):Int:=if 65535<s.size then 4 else KM s.size
def ptT(s:y_):y_:=if 65535<s.size then n_ else D9 s.size++s
def ptR(s:y_):J:= .bg [S<|ptT s,I<|ptE s]
def aO9(s:y_):Ok P 318 [S s] (ptR s):=by
 have hs:=Ui s.size;refine al bH5 L0 (let Z:=(s.size:Int);(.d (Z>65535) (.e<|J.bg [S (n_:y_),I 4])<|.k (a2 bx bx) (Z,2) (2=two)<|.o [(D9 Z).size+s.size<=9223372036854775807]<|.e<|J.bg [S<|D9 Z++s,I<|KM Z])) ?_;simp only[av]
 (repeat' with_reducible first|intro _|apply aNd_)<;>first|exact aM|(unfold ptR ptT ptE;rw[if_pos U,if_pos U])|(unfold ptR ptT ptE;rw[if_neg U,if_neg U])
def ca0:Env:=aF 318 (bN (a1 aQ) ptR) EN
def bj2:an P ca0:=ah aw λs _=>aO9 s
def Uj(s:y_):Ok P 278 [S s] (S<|ptT s):=by exact al bj2 L0 (.v (a1 aQ) s<|.e<|S<|ptT s) ft
def oG:y_:=⟨#[99,104,97,108]⟩
def yE:y_:=⟨#[109,117,116,117,97,108]⟩
def xg:y_:=⟨#[112,108,97,105,110]⟩
def lX:y_:=⟨#[117,115,101,114]⟩
def ma:y_:=⟨#[33,115,101,99,114,101,116]⟩
def Uk(x:bh y_)(k:y_)(hn:x.n<=aq):Ok P 230 [(ak y_).au x,S k] (I<|cZ x.n λi=>decide (x.f i=k)):=by
 have lp:=fF f230 2 x.n (λi=>decide (x.f i=k)) (λi=>(M 19 [(0,(ak y_).au x),(1,S k),(4,I 0),(7,I x.n),(8,I i)])) [] (λi=>(.ret,(M 19 [(4,I i)]),[])) (ey 0<|M 19 [(4,I 0)]) λi hi lt aW az aR=>by
  refine ao aw L0 [0,1,4,7,8] [4] (.d ((i:Int)<x.n) (.g i x.n<|.n (dN k<|x.f i) (eH az)<|eG aW)<|eY aR) ?_;have Y:=@decide_eq_true_iff (x.f i=k) _;simp only[av,bK,bO,aL]
  repeat' with_reducible first|intro _|apply aNd_
  all_goals exact aM
 refine al aw (kR lp [0,1,4,7,8]) (jS lp (.e<|I (↑(aE x.n λi=>decide (x.f i=k)):Int))<|.e<|I<|-1) ?_;simp only[av]
 (repeat' with_reducible first|intro _|apply aNd_)<;>first|(unfold cZ;rw[if_pos W])|(unfold cZ;rw[if_neg<|jY.1 W])
def ca1:Env:=aF 230 (bN (a2 (ak y_) aQ) (λx=>I (cZ x.1.n λi=>decide (x.1.f i=x.2))) λx=>x.1.n<=aq) EN
def bj3:an P ca1:=ah aw λx h=>Uk x.1 x.2 h
def KO(x:bh y_)(k:y_)(hn:x.n<=aq):Ok P 161 [(ak y_).au x,S k] (Bo<|ar x.n λi=>decide (x.f i=k)):=by
 refine al bj3 L0 (.k (a2 (ak y_) aQ) (x,k) (x.n<=140737488351232)<|.e<|Bo<|decide<|(cZ x.n λi=>decide (x.f i=k))>=0) ?_;simp only[av]
 (repeat' with_reducible first|intro _|apply aNd_)<;>first|exact aM|(refine ba Bo ?_;exact iw)
def BQ:bh y_:=⟨3,λi=> [oG,yE,xg].getD i default⟩
def ag2:Ok P 162 [] ((ak y_).au BQ):=by
 have h0:Ok P 162 [] (J.rf 3 λi=> [[S oG],[S yE],[S xg]].getD i []):=by exact al aw L0 (.e<|J.rf 3 λi=> [[S (⟨#[99,104,97,108]⟩:y_)],[S (⟨#[109,117,116,117,97,108]⟩:y_)],[S (⟨#[112,108,97,105,110]⟩:y_)]].getD i []) ft
 refine h0.res λ_ _ _ N=>fS (λi hi=> ?_) N
 match i,hi with
 |0,_=>rfl
 |1,_=>rfl
 |2,_=>rfl
def C0(s:y_):Bool:=decide<|s=oG\/s=yE\/s=xg
def Ul(s:y_):ar 3 (λi=>decide (BQ.f i=s))=C0 s:=by
 rw[ea,cG];unfold C0;rw[bp];constructor
 .rintro⟨i,hi,h⟩;have h:=cn h
  match i,hi with
  |0,_=>exact .inl h.symm
  |1,_=>exact .inr<|.inl h.symm
  |2,_=>exact .inr<|.inr h.symm
 .rintro(h|h|h)
  .exact⟨0,U,cd h.symm⟩
  .exact⟨1,U,cd h.symm⟩
  .exact⟨2,U,cd h.symm⟩
def qk(s:y_):Int:=if s=xg then 2 else 3
def XL(s:y_):Ok P 164 [S s] (I<|qk s):=by
 refine al aw L0 (.n (dN s (⟨#[112,108,97,105,110]⟩:y_)) (.e<|I 2)<|.e<|I 3) ?_;simp only[av,bK,bO,aL]
 (repeat' with_reducible first|intro _|apply aNd_)<;>first|(refine ba I ?_;unfold qk;rw[if_pos W])|(refine ba I ?_;unfold qk;rw[if_neg W])
def kg(s:y_):Int:=if s=oG\/s=yE then 3 else if s=xg then 2 else 0
def QM(s:y_):Ok P 192 [S s] (I<|kg s):=by
 have c0:(⟨#[99,104,97,108]⟩:y_)=oG:=rfl;have c1:(⟨#[109,117,116,117,97,108]⟩:y_)=yE:=rfl;have c2:(⟨#[112,108,97,105,110]⟩:y_)=xg:=rfl;refine al aw L0 (.n (dN s (⟨#[99,104,97,108]⟩:y_)) (.e<|I 3)<|.n (dN s (⟨#[109,117,116,117,97,108]⟩:y_)) (.e<|I 3)<|.n (dN s (⟨#[112,108,97,105,110]⟩:y_)) (.e<|I 2) qo) ?_;simp only[av,bK,bO,aL]
 repeat' with_reducible first|intro _|apply aNd_
 all_goals (refine ba I ?_;unfold kg;grind)
def sf(s:y_):Int:=if s=oG then 2 else 1
def ag3(s:y_):Ok P 250 [S s] (I<|sf s):=by
 refine al aw L0 (.n (dN s (⟨#[99,104,97,108]⟩:y_)) (.e<|I 2)<|.e<|I 1) ?_;simp only[av,bK,bO,aL]
 (repeat' with_reducible first|intro _|apply aNd_)<;>first|(refine ba I ?_;unfold sf;rw[if_pos W])|(refine ba I ?_;unfold sf;rw[if_neg W])
def sg(s:y_)(ig n:Int):Bool:=decide<|n.tmod 2=0↔ig=sf s
def ag4(s:y_)(ig n:Int):Ok P 235 [S s,I ig,I n] (Bo<|sg s ig n):=by
 have f1:s=oG->sf s=2:=λh=>if_pos h;have f2: ¬s=oG->sf s=1:=λh=>if_neg h;have c0:(⟨#[99,104,97,108]⟩:y_)=oG:=rfl;refine al aw L0 (.n (dN s (⟨#[99,104,97,108]⟩:y_)) (.e<|Bo<|(n.tmod 2==0)==(ig==2))<|.e<|Bo<|(n.tmod 2==0)==(ig==1)) ?_;simp only[av,bK,bO,aL]
 repeat' with_reducible first|intro _|apply aNd_
 all_goals (refine ba Bo ?_;unfold sg;rw[ea];simp only[bp,ev];grind)
def bY5:Env:=aF 226 (bN (a2 (ak aC) aQ) (λx=>D8 x.1 x.2) λx=>x.1.n<=aq)<|aF 248 (bN (a2 (ak aC) aQ) (λx=>D8 x.1 x.2) λx=>x.1.n<=aq) EN
def yg:an P bY5:=ah (ah aw λx h=>aO6 x.1 x.2 h) λx h=>aO5 x.1 x.2 h
def aP0(l:bh aC)(h:l.n<=aq):Ok P 196 [(ak aC).au l] (S<|iE l lX):=by exact al yg L0 (let Z:=(⟨#[117,115,101,114]⟩:y_);(.k (a2 (ak aC) aQ) (l,Z) (l.n<=140737488351232)<|.e<|S<|iE l<|Z)) ft
def bj4(l:bh aC)(h:l.n<=aq):Ok P 249 [(ak aC).au l] (S<|iE l ma):=by exact al yg L0 (let Z:=(⟨#[33,115,101,99,114,101,116]⟩:y_);(.k (a2 (ak aC) aQ) (l,Z) (l.n<=140737488351232)<|.e<|S<|iE l<|Z)) ft
def KP(c:dh)(s:y_)(h:c.key.n<=aq):Ok P 233 [(af dh).au c,S s] (S<|iE c.key s):=by exact al yg L0 (.k (a2 (ak aC) aQ) (c.key,s) (c.key.n<=140737488351232)<|.e<|S<|iE c.key s) ft
def qw(l:bh aC):Bool:=decide<|1<=(iE l lX).size/\(iE l lX).size<=32/\1<=(iE l ma).size/\(iE l ma).size<=64
def uI {l:bh aC} {s:y_}(h:1<=(iE l s).size):HR l s=true:=by rw[<-qR];intro e;unfold iE at h;rw[if_neg (by rw[e];simp)]at h;exact absurd h dD
def ag5(l:bh aC)(h:l.n<=aq):Ok P 163 [(ak aC).au l] (Bo<|qw l):=by
 have O:=@uI l lX;have h2:=@uI l ma;have u0:(⟨#[117,115,101,114]⟩:y_)=lX:=rfl;have u1:(⟨#[33,115,101,99,114,101,116]⟩:y_)=ma:=rfl;refine al yg L0 (let Z:=(⟨#[33,115,101,99,114,101,116]⟩:y_);let V:=(⟨#[117,115,101,114]⟩:y_);let aG:ix:=bI;let aS:=(↑(iE l<|V).size:Int);let bn:=(↑(iE l<|Z).size:Int);let bH:=l.n<=140737488351232;let cp:=a2 (ak aC) aQ;(.k cp (l,V) bH<|.k cp (l,Z) bH<|.n (HR l<|V) (.n (HR l<|Z) (.d (aS>=1) (.d (aS<=32) (.d (bn>=1) (.e<|Bo<|decide<|bn<=64) aG) aG) aG) aG) aG)) ?_;simp only[u0,u1];simp only[av]
 (repeat' with_reducible first|intro _|apply aNd_)<;>first|exact aM|(clear u0 u1;unfold qw;exact ga)
def bY6:Env:=aF 164 (bN (a1 aQ) λs=>I (qk s))<|aF 235 (bN (a3 aQ bx bx) λx=>Bo (sg x.1 x.2.1 x.2.2))<|aF 192 (bN (a1 aQ) λs=>I (kg s))<|aF 250 (bN (a1 aQ) λs=>I (sf s))<|aF 278 (bN (a1 aQ) λs=>S (ptT s))<|aF 233 (bN (a2 (af dh) aQ) (λx=>S (iE x.1.key x.2)) λx=>x.1.key.n<=aq) EN
def FP:an P bY6:=ah (ah (ah (ah (ah (ah aw λx h=>KP x.1 x.2 h) λs _=>Uj s) λs _=>ag3 s) λs _=>QM s) λx _=>ag4 x.1 x.2.1 x.2.2) λs _=>XL s
def Cm(c:dh)(n:Int):Int:=if c.jb=n then 3 else if sg c.cg c.ig c.jb=true then 1 else 2
def ag6(c:dh):Ok P 232 [(af dh).au c] (I<|Cm c<|qk c.cg):=by
 refine al FP L0 (.v (a1 aQ) c.cg<|.q c.jb (qk c.cg) (.e<|I 3)<|.v (a3 aQ bx bx) (c.cg,c.ig,c.jb)<|.n (sg c.cg c.ig c.jb) (.e<|I 1)<|.e<|I 2) ?_;simp only[av]
 (repeat' with_reducible first|intro _|apply aNd_)<;>first|(refine ba I ?_;unfold Cm;rw[if_pos W])|(refine ba I ?_;unfold Cm;rw[if_neg W,if_pos W])|(refine ba I ?_;unfold Cm;rw[if_neg W,if_neg (by simp only[*];simp)])
def ag7(c:dh):Ok P 195 [(af dh).au c] (I<|Cm c<|kg c.cg):=by
 have hs:sg c.cg c.ig c.jb=true↔(c.jb.tmod 2=0↔c.ig=sf c.cg):=bp;refine al FP L0 (.v (a1 aQ) c.cg<|.q c.jb (kg c.cg) (.e<|I 3)<|.v (a1 aQ) c.cg<|.n ((c.jb.tmod 2==0)==(c.ig==sf c.cg)) (.e<|I 1)<|.e<|I 2) ?_;simp only[av,ev,jR]
 repeat' with_reducible first|intro _|apply aNd_
 all_goals (refine ba I ?_;unfold Cm;grind)
def Nn(c:dh)(n:Int):Int:=if(c.cg=oG/\n=0)\/(c.cg=yE/\n=1)then 0 else if c.cg=yE/\n=0 then((ptT<|iE c.key lX).size:Int)else-1
def Um(c:dh)(n:Int)(h:c.key.n<=aq):Ok P 234 [(af dh).au c,I n] (I<|Nn c n):=by
 have c0:(⟨#[99,104,97,108]⟩:y_)=oG:=rfl;have c1:(⟨#[109,117,116,117,97,108]⟩:y_)=yE:=rfl;have u0:(⟨#[117,115,101,114]⟩:y_)=lX:=rfl;refine al FP L0 (let V:=dN c.cg (⟨#[109,117,116,117,97,108]⟩:y_);let aG:=(⟨#[117,115,101,114]⟩:y_);let Z:ix:=(.n V (.q n 0 (.k (a2 (af dh) aQ) (c,aG) (c.key.n<=140737488351232)<|.v (a1 aQ) (iE c.key<|aG)<|.e<|I (↑(ptT<|iE c.key<|aG).size:Int))<|.e<|I<|-1)<|.e<|I<|-1);let aS:ix:=(.n V (.q n 1 qo Z) Z);(.n (dN c.cg (⟨#[99,104,97,108]⟩:y_)) (.q n 0 qo aS) aS)) ?_;simp only[c0,c1,u0];simp only[av,bK,bO,aL]
 (repeat' with_reducible first|intro _|apply aNd_)<;>first|exact aM|(refine ba I ?_;unfold Nn;grind)
def kbB(c:dh)(i:Nat):Bool:=decide<|0<=Nn c i/\sg c.cg c.ig i=false
def FQ(c:dh)(i:Nat):kbB c i=true↔(0<=Nn c i/\sg c.cg c.ig i=false):=bp
def C3(c:dh):Bool:=ar c.jb.toNat<|kbB c
def ca2:Env:=aF 234 (bN (a2 (af dh) bx) (λx=>I (Nn x.1 x.2)) λx=>x.1.key.n<=aq) bY6
def XM:an P ca2:=ah FP λx h=>Um x.1 x.2 h
def ag8(c:dh)(h:c.key.n<=aq)(hs:c.jb<=3):Ok P 166 [(af dh).au c] (Bo<|C3 c):=by
 have hm:c.jb.toNat<=aq:=by unfold aq;omega
 have lp:=fF Tryz.f166 2 c.jb.toNat (kbB c) (λi=>(M 23 [(1,aT),(2,aP),(5,I c.jb),(6,I i)])) [(cM [aY.cells c] 10)] (eR<|M 23 [(2,fZ)]) (ey 0<|M 23 [(2,aP)]) λi hi lt aW az aR=>by
  refine ao XM L0 [1,2,5,6] [2] (.d ((i:Int)<c.jb) (.k (a2 (af dh) bx) (c,(i:Int)) (c.key.n<=140737488351232)<|.d (Nn c (i:Int)>=0) (.v (a3 aQ bx bx) (c.cg,c.ig,(i:Int))<|.m (sg c.cg c.ig (i:Int)) (eH az)<|eG aW)<|eG aW)<|eY aR) ?_;have Y:=FQ c i;simp only[av]
  repeat' with_reducible first|intro _|apply aNd_
  all_goals exact aM
 refine al XM (kR lp [1,2,5,6]) (jS lp fo bI) ?_;simp only[av]
 repeat' with_reducible first|intro _|apply aNd_
 all_goals (refine ba Bo ?_;exact Eq.symm W)
def HT(c:dh):Bool:=decide<|(c.cg=oG/\c.ig=1/\0<c.jb)\/(c.cg=yE/\((c.ig=2/\0<c.jb)\/(c.ig≠2/\1<c.jb)))
def ag9(c:dh):Ok P 194 [(af dh).au c] (Bo<|HT c):=by
 have c0:(⟨#[99,104,97,108]⟩:y_)=oG:=rfl;have c1:(⟨#[109,117,116,117,97,108]⟩:y_)=yE:=rfl;have nP: ¬yE=oG:=dD;refine al aw L0 (let Z:=dN c.cg (⟨#[109,117,116,117,97,108]⟩:y_);let V:ix:=(.n Z (.e<|Bo<|decide<|c.jb>1) bI);let aG:=Bo (decide<|c.jb>0);(.n (dN c.cg (⟨#[99,104,97,108]⟩:y_)) (.q c.ig 1 (.e aG) bI)<|.n Z (.q c.ig 2 (.e aG) V) V)) ?_;simp only[c0,c1];simp only[av,bK,bO,aL]
 (repeat' with_reducible first|intro _|apply aNd_)<;>first|exact aM|(clear c0 c1;unfold HT;exact ga)
def aP1(c:dh)(h0:0<=c.jb)(h3:c.jb<=3)(N:c.ig=1\/c.ig=2):C3 c=HT c:=by
 have nP: ¬yE=oG:=dD;have k0:kbB c 0=true↔((c.cg=oG/\c.ig=1)\/(c.cg=yE/\c.ig=2)):=by rw[FQ];unfold Nn sg sf;have:(0:Int).tmod 2=0:=rfl;grind
 have k1:kbB c 1=true↔(c.cg=yE/\c.ig=1):=by rw[FQ];unfold Nn sg sf;have:(1:Int).tmod 2=1:=rfl;grind
 have k2:kbB c 2=false:=by rw[<-mZ,FQ];unfold Nn;grind
 unfold C3 HT;rw[ea,bp,cG];constructor
 .rintro⟨i,hi,hb⟩
  match i,hi,hb with
  |0,hi,hb=>have:=k0.1 hb;grind
  |1,hi,hb=>have:=k1.1 hb;grind
  |2,hi,hb=>rw[k2]at hb;cases hb
  |i+3,hi,hb=>omega
 .intro h;by_cases hp:0<c.jb/\((c.cg=oG/\c.ig=1)\/(c.cg=yE/\c.ig=2))
  .exact⟨0,U,k0.2 hp.2⟩
  .exact⟨1,by grind,k1.2 (by grind)⟩
def EG:Env:=aF 101 (bN (a1 aQ) (λs=>Bo (gn s.data.toList)) λs=>s.size<=aq) EN
def bY7:an P EG:=ah aw vw
def xh(s:y_):Bool:=decide<|gn s.data.toList=true/\s≠⟨#[114,117,108,101,115]⟩/\s≠⟨#[115,101,110,100]⟩
def aP2(s:y_)(h:s.size<=aq):Ok P 117 [S s] (Bo<|xh s):=by
 refine al bY7 L0 (.k (a1 aQ) s (s.size<=140737488351232)<|.n (gn s.data.toList) (.m (dN s (⟨#[114,117,108,101,115]⟩:y_)) (.e<|Bo !dN s (⟨#[115,101,110,100]⟩:y_)) bI) bI) ?_;simp only[av,bK,bO,aL]
 (repeat' with_reducible first|intro _|apply aNd_)<;>first|exact aM|(refine ba Bo ?_;unfold xh;grind)
def sh(c:dh):Bool:=decide<|c.cg=n_/\c.ig=0/\c.phase=0/\c.jb=0/\c.key.n=0/\c.own=n_/\c.iV=n_/\c.gf=n_/\c.err=0
def ah0(c:dh):Ok P 92 [(af dh).au c] (Bo<|sh c):=by
 refine al aw L0 (let Z:ix:=bI;let V:=(n_:y_);(.n (dN c.cg V) (.q c.ig 0 (.q c.phase 0 (.q c.jb 0 (.q c.key.n 0 (.n (dN c.own V) (.n (dN c.iV V) (.n (dN c.gf V) (.e<|Bo<|c.err==0) Z) Z) Z) Z) Z) Z) Z) Z)) ?_;simp only[av,bK,bO,aL]
 repeat' with_reducible first|intro _|apply aNd_
 all_goals (refine ba Bo ?_;unfold sh;grind)
def aP3(l:bh aC)(s:y_)(h:l.n<=aq):Ok P 188 [(ak aC).au l,S s] (S<|iE l s):=by exact al yg L0 (.k (a2 (ak aC) aQ) (l,s) (l.n<=140737488351232)<|.e<|S<|iE l s) ft
def ca3:Env:=aF 189 (bN (a2 (ak aC)<|ak aC) (λx=>Bo (oc x.1 x.2)) λx=>x.1.n<=aq) EN
def bj5:an P ca3:=ah aw λx h=>HS x.1 x.2 h
def yI(c d:dh):Bool:=decide<|c.id=d.id/\c.cg=d.cg/\c.ig=d.ig/\c.phase=d.phase/\c.jb=d.jb/\oc c.key d.key=true/\c.own=d.own/\c.iV=d.iV/\c.gf=d.gf/\c.err=d.err
def bS7(c d:dh)(h:c.key.n<=aq):Ok P 191 [(af dh).au c,(af dh).au d] (Bo<|yI c d):=by
 refine al bj5 L0 (let Z:ix:=bI;(.q c.id d.id (.n (dN c.cg d.cg) (.q c.ig d.ig (.q c.phase d.phase (.q c.jb d.jb (.k (a2 (ak aC)<|ak aC) (c.key,d.key) (c.key.n<=140737488351232)<|.n (oc c.key d.key) (.n (dN c.own d.own) (.n (dN c.iV d.iV) (.n (dN c.gf d.gf) (.e<|Bo<|c.err==d.err) Z) Z) Z) Z) Z) Z) Z) Z) Z)) ?_;simp only[av,bK,bO,aL]
 (repeat' with_reducible first|intro _|apply aNd_)<;>first|exact aM|(refine ba Bo ?_;unfold yI;grind)
def aP4(x:aC):Ok P 225 [(af aC).au x] (Bo x.dq):=by exact al aw L0 (.e<|Bo x.dq) ft
def bY8:Env:=uk<|aF 225 (bN (a1<|af aC) λx=>Bo x.dq)<|aF 188 (bN (a2 (ak aC) aQ) (λx=>S (iE x.1 x.2)) λx=>x.1.n<=aq)<|aF 127 (bN (a1<|ak aC) (λx=>I (bV x)) wf)<|aF 167 (bN (a1<|ak aC) (λx=>I (bV x)) wf) bY5
def FR:an P bY8:=qZ<|ah (ah (ah (ah yg x7) Bj) λx h=>aP3 x.1 x.2 h) λx _=>aP4 x
def tM(l:bh aC):Bool:=decide<|bV l=0/\pR l=false/\qw l=true
def zK(l:bh aC):qw l=true↔(1<=(iE l lX).size/\(iE l lX).size<=32/\1<=(iE l ma).size/\(iE l ma).size<=64):=bp
def qA(l:bh aC)(i:Nat):Bool:=(l.f i).dq
def bw9(l:bh aC)(i:Nat):qA l i=true↔(l.f i).dq=true:=di
def C4(s:y_):s=⟨#[]⟩↔s.size=0:=⟨λh=>by rw[h];rfl,λh=>by cases s with|mk a=>exact ba ByteArray.mk (LS h)⟩
def ah1(l:bh aC)(h:wf l):Ok P 120 [(ak aC).au l] (Bo<|tM l):=by
 have hn:=h.1;have hk:=zK l;have hq:pR l=ar l.n (qA l):=rfl;have u0:(⟨#[117,115,101,114]⟩:y_)=lX:=rfl;have u1:(⟨#[33,115,101,99,114,101,116]⟩:y_)=ma:=rfl;have lq:=λ(iH:bV l=0)=>fF f120 4 l.n (qA l) (λi=>(M 42 [(0,(ak aC).au l),(2,.bit false),(3,I i)])) [] (λi=>(.ret,(M 42 [(2,.bit false)]),[])) (.ext 0,(M 42 [(0,(ak aC).au l),(2,.bit false)]),[]) λi hi lt aW az aR=>by
  refine ao FR L0 [0,2,3] [2,10000] (.d ((i:Int)<l.n) (.g i l.n<|.n ((l.f i).dq) (eH az)<|eG aW)<|eY aR) ?_;have Y:=bw9 l i;simp only[av]
  repeat' with_reducible first|intro _|apply aNd_
  all_goals exact aM
 refine al FR (iy [0,2,3] (l.n) (qA l) (λi=>(M 42 [(2,.bit false)])) (M 42 [(0,(ak aC).au l),(2,.bit false)]) (.ext 0) (λi=> []) []) (let Z:=(⟨#[33,115,101,99,114,101,116]⟩:y_);let V:=(⟨#[117,115,101,114]⟩:y_);let aS:ix:=bI;let bn:=ak aC;let aG:=(M 42 [(0,bn.au l),(2,aP),(3,I 0)]);let bH:=(↑(iE l<|V).size:Int);let cp:=(↑(iE l<|Z).size:Int);let cu:=l.n<=140737488351232;(.k (a1 bn) l (wf l)<|.u (bV l) 0 aS<|.n (ar l.n<|qA l) (.o [ax P (aD f120 4) aG [] (Out.ret) (M 42 [(2,aP)]) []] aS)<|.o [ax P (aD f120 4) aG [] (Out.ext 0) (M 42 [(0,bn.au l),(2,aP)]) []]<|.k (a2 bn aQ) (l,V) cu<|.k (a2 bn aQ) (l,Z) cu<|.d (bH>=1) (.d (bH<=32) (.d (cp>=1) (.e<|Bo<|decide<|cp<=64) aS) aS) aS)) ?_;simp only[u0,u1];simp only[av]
 (repeat' with_reducible first|intro _|apply aNd_)<;>first|exact aM|exact((lq U).t W).one|exact((lq U).f W).one|(clear lq u0 u1;unfold tM;exact ga)
def bj6(l:bh aC)(h:wf l):Ok P 157 [(ak aC).au l] (Bo<|tM l):=by
 have hn:=h.1;have hk:=zK l;have hq:pR l=ar l.n (λi=>(l.f i).dq):=rfl;have e1:=C4<|iE l lX;have e2:=C4<|iE l ma;have O:=@uI l lX;have h2:=@uI l ma;have u0:(⟨#[117,115,101,114]⟩:y_)=lX:=rfl;have u1:(⟨#[33,115,101,99,114,101,116]⟩:y_)=ma:=rfl;refine al FR L0 (let Z:=(⟨#[33,115,101,99,114,101,116]⟩:y_);let V:=(⟨#[117,115,101,114]⟩:y_);let aG:ix:=bI;let aS:=ak aC;let bn:=l.n<=140737488351232;let bH:=(n_:y_);(.k (a1 aS) l (wf l)<|.u (bV l) 0 aG<|.r (aS.au l)<|.o [l.n<=140737488351232,∀(i:Nat),i<l.n->(a1<|af aC).au (l.f i)=(a1<|af aC).au (l.f i)/\True/\True]<|.n (ar l.n λi=>(l.f i).dq) aG<|.k (a2 aS aQ) (l,V) bn<|.k (a2 aS aQ) (l,Z) bn<|.n (HR l<|V) (.n (HR l<|Z) (.m (dN (iE l<|V) bH) (.d ((↑(iE l<|V).size:Int)<=32) (.m (dN (iE l<|Z) bH) (.e<|Bo<|decide<|(↑(iE l<|Z).size:Int)<=64) aG) aG) aG) aG) aG)) ?_;simp only[u0,u1];simp only[av,bK,bO,aL]
 (repeat' with_reducible first|intro _|apply aNd_)<;>first|exact aM|(clear u0 u1;unfold tM;exact ga)
def E11:Env:=aF 135 (bN (a2 (af lP)<|k9 bx) λx=>Bo (decide<|x.1.id=x.2))
 E10
def bj7(x:lP)(i:Int):Ok P 135 [(af lP).au x,(k9 bx).au i] (Bo<|decide<|x.id=i):=by
 refine al MM L0 (.e<|Bo<|x.id==i) ?_;simp only[av]
 repeat' with_reducible first|intro _|apply aNd_
 all_goals exact aM
def bH6:an P E11:=ah MM λx _=>bj7 x.1 x.2
def E12:Env:=Ka E11
def HU:an P E12:=ME bH6
def KQ(x:bh lP)(id:Int):Int:=cZ x.n λi=>decide<|(x.f i).id=id
def ah2(p:ei)(id:Int)(h:p.l.n<=aq):Ok P 72 [(af ei).au p,I id] (I<|KQ p.l id):=by exact al HU L0 (let Z:=a2 (af lP) (k9 bx);(.r ((ak lP).au p.l)<|.o [p.l.n<=140737488351232,∀(i:Nat),i<p.l.n->Z.au (p.l.f i,id)=Z.au (p.l.f i,id)/\True/\True]<|.e<|I<|cZ p.l.n λi=>decide ((p.l.f i).id=id))) ft
def C5(n:Int):Bool:=decide<|n=1\/n=2\/n=3
def ah3(n:Int):Ok P 73 [I n] (Bo<|C5 n):=by
 refine al HU L0 (.q n 1 fo<|.q n 2 fo<|.e<|Bo<|n==3) ?_;simp only[av]
 (repeat' with_reducible first|intro _|apply aNd_)<;>first|(refine ba Bo ?_;unfold C5;rw[ea];simp only[ev,bp];omega)|exact ba Bo (cd U).symm
def xi(s:y_):Bool:=decide<|s.size<=1024
def ah4(s:y_):Ok P 75 [S s] (Bo<|xi s):=by
 refine al HU L0 (.e<|Bo<|decide<|(s.size:Int)<=1024) ?_;simp only[av]
 repeat' with_reducible first|intro _|apply aNd_
 all_goals (refine ba Bo ?_;unfold xi;rw[oM];omega)
def ah5(x:dQ)(i:Int):Ok P 132 [(af dQ).au x,(k9 bx).au i] (Bo<|decide<|x.id=i):=by
 refine al HU L0 (.e<|Bo<|x.id==i) ?_;simp only[av]
 repeat' with_reducible first|intro _|apply aNd_
 all_goals exact aM
def E13:Env:=CD<|aF 132 (bN (a2 (af dQ)<|k9 bx) λx=>Bo (decide<|x.1.id=x.2)) E12
def zM:an P E13:=Bd<|ah HU λx _=>ah5 x.1 x.2
def jj(x:km)(id:Int):Int:=cZ x.aB.n λi=>decide<|(x.aB.f i).id=id
def aP5(x:km)(id:Int)(h:x.aB.n<=aq):Ok P 68 [(af km).au x,I id] (I<|jj x id):=by exact al zM L0 (let Z:=a2 (af dQ) (k9 bx);(.r ((ak dQ).au x.aB)<|.o [x.aB.n<=140737488351232,∀(i:Nat),i<x.aB.n->Z.au (x.aB.f i,id)=Z.au (x.aB.f i,id)/\True/\True]<|.e<|I<|cZ x.aB.n λi=>decide ((x.aB.f i).id=id))) ft
def bH7(x:km)(id:Int)(hn:x.aB.n<=aq):Ok P 170 [(af km).au x,I id] (I<|jj x id):=by
 have lp:=fF Tryz.f170 2 x.aB.n (λi=>decide ((x.aB.f i).id=id)) (λi=>(M 22 [(1,I id),(2,aT),(4,I 0),(8,I x.aB.n),(9,I i)])) [(cM [aY.cells x] 3)] (λi=>(.ret,(M 22 [(4,I i)]),[])) (ey 0<|M 22 [(4,I 0)]) λi hi lt aW az aR=>by refine ao zM L0 [1,2,4,8,9] [4] (.d ((i:Int)<x.aB.n) (.g i x.aB.n<|.q ((x.aB.f i).id) id (eH az)<|eG aW)<|eY aR) ?_;have Y:=@decide_eq_true_iff ((x.aB.f i).id=id) _;exact ft
 refine al zM (kR lp [1,2,4,8,9]) (jS lp (.e<|I (↑(aE x.aB.n λi=>decide ((x.aB.f i).id=id)):Int))<|.e<|I<|-1) ?_;simp only[av]
 (repeat' with_reducible first|intro _|apply aNd_)<;>first|(unfold jj cZ;rw[if_pos W])|(unfold jj cZ;rw[if_neg<|jY.1 W])
def bH8(x:bh Int)(k:Int)(hn:x.n<=aq):Ok P 169 [(ak Int).au x,I k] (Bo<|ar x.n λi=>decide (x.f i=k)):=by
 have lp:=fF Tryz.f169 2 x.n (λi=>decide (x.f i=k)) (λi=>(M 18 [(0,(ak Int).au x),(1,I k),(4,aP),(7,I x.n),(8,I i)])) [] (eR<|M 18 [(4,fZ)]) (ey 0<|M 18 [(4,aP)]) λi hi lt aW az aR=>by refine ao zM L0 [0,1,4,7,8] [4] (.d ((i:Int)<x.n) (.g i x.n<|.q (x.f i) k (eH az)<|eG aW)<|eY aR) ?_;have Y:=@decide_eq_true_iff (x.f i=k) _;exact ft
 refine al zM (kR lp [0,1,4,7,8]) (jS lp fo bI) ?_;simp only[av]
 repeat' with_reducible first|intro _|apply aNd_
 all_goals (simp only[*])
def C6(p:ei)(n:Int):Bool:=decide<|1<=n/\n<p.iN
def ah6(p:ei)(n:Int):Ok P 102 [(af ei).au p,I n] (Bo<|C6 p n):=by
 refine al zM L0 (.d (n>=1) (.e<|Bo<|decide<|n<p.iN) bI) ?_;simp only[av]
 (repeat' with_reducible first|intro _|apply aNd_)<;>first|(refine ba Bo ?_;unfold C6;rw[oM];omega)|exact ba Bo (fq U).symm
def E14:Env:=aF 72 (bN (a2 (af ei) bx) (λx=>I (KQ x.1.l x.2)) λx=>x.1.l.n<=aq) E13
def Un:an P E14:=ah zM λx h=>ah2 x.1 x.2 h
def QN(p:ei)(i:Nat):Bool:=decide<|(i=0/\(p.l.f i).id=1/\(p.l.f i).bo=0)\/(i≠0/\(p.l.f<|i-1).id<(p.l.f i).id/\(p.l.f i).bo<(p.l.f i).id/\0<=KQ p.l (p.l.f i).bo)
def ah7(p:ei)(i:Nat)(hi:i<p.l.n)(h:p.l.n<=aq):Ok P 30 [(af ei).au p,I i] (Bo<|QN p i):=by
 refine al Un L0 (let Z:=oU ((i:Int)-1);let V:ix:=bI;(.g i p.l.n<|.q i 0 (.q ((p.l.f i).id) 1 (.e<|Bo<|(p.l.f i).bo==0) V)<|.g Z p.l.n<|.d ((p.l.f Z.toNat).id<(p.l.f i).id) (.d ((p.l.f i).bo<(p.l.f i).id) (.k (a2 (af ei) bx) (p,(p.l.f i).bo) (p.l.n<=140737488351232)<|.e<|Bo<|decide<|KQ p.l (p.l.f i).bo>=0) V) V)) ?_;simp only[bv6<|cm (Fq hi) h,aA1];simp only[av]
 (repeat' with_reducible first|intro _|apply aNd_)<;>first|exact aM|(refine ba Bo ?_;unfold QN;rw[ea];simp only[ev,bp];omega)|exact ba Bo (fq U).symm
def ah8(x:Var)(s:y_):Ok P 138 [(af Var).au x,(k9 aQ).au s] (Bo<|decide<|x.name=s):=by
 refine al Un L0 (.e<|Bo<|dN x.name s) ?_;simp only[av,aL]
 repeat' with_reducible first|intro _|apply aNd_
 all_goals first|exact aM|exact ba Bo<|aL _ _
def E15:Env:=Pr<|aF 138 (bN (a2 (af Var)<|k9 aQ) λx=>Bo (decide<|x.1.name=x.2)) E14
def No:an P E15:=Ps<|ah Un λx _=>ah8 x.1 x.2
def JD(g:qE)(s:y_):Int:=cZ g.gh.n λi=>decide<|(g.gh.f i).name=s
def ah9(g:qE)(s:y_)(h:g.gh.n<=aq):Ok P 76 [(af qE).au g,S s] (I<|JD g s):=by exact al No L0 (let Z:=a2 (af Var) (k9 aQ);(.r ((ak Var).au g.gh)<|.o [g.gh.n<=140737488351232,∀(i:Nat),i<g.gh.n->Z.au (g.gh.f i,s)=Z.au (g.gh.f i,s)/\True/\True]<|.e<|I<|cZ g.gh.n λi=>decide ((g.gh.f i).name=s))) ft
def ai0(g:qE)(s:y_)(hn:g.gh.n<=aq):Ok P 51 [(af qE).au g,S s] (I<|JD g s):=by
 have lp:=fF f51 2 g.gh.n (λi=>decide ((g.gh.f i).name=s)) (λi=>(M 22 [(1,S s),(2,aT),(4,I 0),(5,I i)])) [(cM [aY.cells g] 3)] (λi=>(.ret,(M 22 [(4,I i)]),[])) (ey 0<|M 22 [(4,I 0)]) λi hi lt aW az aR=>by refine ao No L0 [1,2,4,5] [4] (.d ((i:Int)<g.gh.n) (.g i g.gh.n<|.n (dN (g.gh.f i).name s) (eH az)<|eG aW)<|eY aR) ?_;have Y:=@decide_eq_true_iff ((g.gh.f i).name=s) _;exact ft
 refine al No (kR lp [1,2,4,5]) (jS lp (.e<|I (↑(aE g.gh.n λi=>decide ((g.gh.f i).name=s)):Int))<|.e<|I<|-1) ?_;simp only[av]
 repeat' with_reducible first|intro _|apply aNd_
 all_goals first|(unfold JD cZ;rw[if_pos W])|(unfold JD cZ;rw[if_neg<|jY.1 W])
def bY9:Env:=aF 141 (bN (a2 aQ aQ) (λx=>Bo (x.1.data.toList.contains<|x.2.data.toList.getD 0 0)) λx=>x.2.size=1) E15
def one_byte(s:y_)(h:s.size=1):s=⟨#[s.data.toList.getD 0 0]⟩:=by rw[Lib.size_eq]at h;obtain⟨b,hb⟩:=xD.1 h;rw[hb,<-ZM s,hb];rfl
def XN:an P bY9:=ah No λx h=>by have:=wT x.1<|x.2.data.toList.getD 0 0;rw[<-one_byte x.2 h]at this;exact this
def aP6(s:y_):Ok P 140 [S s] (Bo<|s.data.toList.contains 0):=by exact al XN L0 (.k (a2 aQ aQ) (s,(⟨#[0]⟩:y_)) ((⟨#[0]⟩:y_).size=1)<|.e<|Bo<|s.data.toList.contains<|(#[0]:Array UInt8).toList.getD 0 0) ft
def E16:Env:=rW<|aF 140 (bN (a1 aQ) λs=>Bo (s.data.toList.contains 0)) bY9
def bH9:an P E16:=sZ<|ah XN λs _=>aP6 s
def aP7(l:l_ UInt8)(i:Nat):Bool:=decide<|¬((97<=(l.getD i 0).toNat/\(l.getD i 0).toNat<=122)\/(48<=(l.getD i 0).toNat/\(l.getD i 0).toNat<=57\/(l.getD i 0).toNat=45\/(l.getD i 0).toNat=95))
def C7(l:l_ UInt8)(i:Nat):aP7 l i=true↔ ¬((97<=(l.getD i 0).toNat/\(l.getD i 0).toNat<=122)\/(48<=(l.getD i 0).toNat/\(l.getD i 0).toNat<=57\/(l.getD i 0).toNat=45\/(l.getD i 0).toNat=95)):=bp
def Uo(l:l_ UInt8)(n:Nat)(h0:0<n):ar n (CF l)=false↔((97<=(l.getD 0 0).toNat/\(l.getD 0 0).toNat<=122)/\ar n (aP7 l)=false):=by
 rw[bc,bc];constructor
 .intro h;have f:=h 0 h0;rw[<-mZ,uo]at f;refine⟨by grind,λi hi=> ?_⟩;have g:=h i hi;rw[<-mZ,uo]at g;rw[<-mZ,C7];grind
 .intro h i hi;have g:=h.2 i hi;rw[<-mZ,C7]at g;rw[<-mZ,uo];by_cases e:i=0
  .subst e;grind
  .grind
def ai1(s:y_)(hs:s.size<=aq):Ok P 153 [S s] (Bo<|xh s):=by
 have hv:=uq s;have hz:=C4 s;have hu:=Uo s.data.toList s.size;have hp:xh s=true↔(gn s.data.toList=true/\s≠⟨#[114,117,108,101,115]⟩/\s≠⟨#[115,101,110,100]⟩):=bp;have lp:=fF f153 4 s.size (aP7 s.data.toList) (λi=>(M 61 [(0,S s),(2,aP),(31,I s.size),(32,I i)])) [] (eR<|M 61 [(2,aP)]) (ey 0<|M 61 [(2,aP)]) λi hi lt aW az aR=>by
  refine ao aw L0 [0,2,31,32] [2] (let Z:=(↑(s.data.toList.getD i 0).toNat:Int);let V:nV:=(.u Z 45 (.u Z 95 (eH az)<|eG aW)<|eG aW);let aG:nV:=(.d (Z<48) V<|.d (Z>57) V<|eG aW);(.d ((i:Int)<s.size) (.g i s.size<|.d (Z<97) aG<|.d (Z>122) aG<|eG aW)<|eY aR)) ?_;have Y:=C7 s.data.toList i;simp only[av]
  (repeat' with_reducible first|intro _|apply aNd_)<;>first|exact aM|(exact aW U (bF Y gG))
 refine al aw (kR lp [0,2,31,32]) (let Z:ix:=bI;let V:=(↑(s.data.toList.getD 0 0).toNat:Int);let aG:=[(0:Int)<=0,(0:Int)<(s.size:Int)];(.n (dN s (n_:y_)) Z<|.d ((s.size:Int)>32) Z<|.o aG<|.d (V<97) Z<|.o aG<|.d (V>122) Z<|.n (dN s (⟨#[114,117,108,101,115]⟩:y_)) Z<|.n (dN s (⟨#[115,101,110,100]⟩:y_)) Z<|jS lp Z fo)) ?_;simp only[av,bK,bO,aL]
 (repeat' with_reducible first|intro _|apply aNd_)<;>first|exact aM|(have:=hz;clear lp;grind)
def Ea(s:y_)(i:Nat):Bool:=decide<|(s.data.toList.getD i 0).toNat=10
def C8(s:y_)(i:Nat):Ea s i=true↔(s.data.toList.getD i 0).toNat=10:=bp
def kh(s:y_):Int:=if 1024<s.size then 4 else if ar s.size (Ea s)=true then 2 else 0
def QO(s:y_)(hs:s.size<=aq):Ok P 245 [S s] (I<|kh s):=by
 have e1:1024<s.size->kh s=4:=λh=>if_pos h;have e2: ¬1024<s.size->ar s.size (Ea s)=true->kh s=2:=λh h2=>by unfold kh;rw[if_neg h,if_pos h2]
 have e3: ¬1024<s.size->ar s.size (Ea s)=false->kh s=0:=λh h2=>by unfold kh;rw[if_neg h,h2];rfl
 have lp:=λ(iH:s.size<=1024)=>fF f245 4 s.size (Ea s) (λi=>(M 17 [(0,S s),(2,I 0),(3,I i)])) [] (λi=>(.ret,(M 17 [(2,I 2)]),[])) (.ext 0,(M 17 [(2,I 0)]),[]) λi hi lt aW az aR=>by
  refine ao aw L0 [0,2,3] [2] (.d ((i:Int)<s.size) (.g i s.size<|.q (↑(s.data.toList.getD i 0).toNat:Int) 10 (eH az)<|eG aW)<|eY aR) ?_;have Y:=C8 s i;simp only[av]
  (repeat' with_reducible first|intro _|apply aNd_)<;>first|exact aM|(exact aW U (bF Y gG))
 refine al aw (iy [0,2,3] (s.size) (Ea s) (λi=>(M 17 [(2,I 2)])) (M 17 [(2,I 0)]) (.ext 0) (λi=> []) []) (let Z:=(M 17 [(0,S s),(2,I 0),(3,I 0)]);(.d ((s.size:Int)>1024) (.e<|I 4)<|.n (ar s.size<|Ea s) (.o [ax P (aD f245 4) Z [] (Out.ret) (M 17 [(2,I 2)]) []]<|.e<|I 2)<|.o [ax P (aD f245 4) Z [] (Out.ext 0) (M 17 [(2,I 0)]) []] qo)) ?_;simp only[av]
 (repeat' with_reducible first|intro _|apply aNd_)<;>first|exact aM|exact ba I (e1 U).symm|exact ba I (e2 U W).symm|exact ba I (e3 U W).symm
def QP(x:aC):Ok P 344 [(af aC).au x] (Bo x.dq):=by exact al aw L0 (.e<|Bo x.dq) ft
def ca4:Env:=uk<|aF 344 (bN (a1<|af aC) λx=>Bo x.dq) EN
def bj8:an P ca4:=qZ<|ah aw λx _=>QP x
def Up(l:bh aC)(h:l.n<=aq):Ok P 314 [(ak aC).au l] (Bo<|pR l):=by
 refine al bj8 L0 (.r ((ak aC).au l)<|.o [l.n<=140737488351232,∀(i:Nat),i<l.n->(a1<|af aC).au (l.f i)=(a1<|af aC).au (l.f i)/\True/\True]<|.e<|Bo<|ar l.n λi=>(l.f i).dq) ?_;simp only[av]
 repeat' with_reducible first|intro _|apply aNd_
 all_goals exact aM
def nj(s:y_):Bool:=decide<|s=⟨#[115,114,99]⟩\/s=⟨#[100,115,116]⟩\/s=⟨#[119,100,105,114]⟩\/s=⟨#[116,121,112,101]⟩\/s=⟨#[100,97,116,97]⟩
def ai2(s:y_):Ok P 284 [S s] (Bo<|nj s):=by
 refine al aw L0 (let Z:ix:=fo;(.n (dN s (⟨#[115,114,99]⟩:y_)) Z<|.n (dN s (⟨#[100,115,116]⟩:y_)) Z<|.n (dN s (⟨#[119,100,105,114]⟩:y_)) Z<|.n (dN s (⟨#[116,121,112,101]⟩:y_)) Z<|.e<|Bo<|dN s (⟨#[100,97,116,97]⟩:y_))) ?_;simp only[av,bK,bO,aL]
 repeat' with_reducible first|intro _|apply aNd_
 all_goals (refine ba Bo ?_;unfold nj;grind)
def KR(s:y_):ar s.size (Ea s)=s.data.toList.contains 10:=by
 rw[ea,cG,uZ];constructor
 .rintro⟨i,hi,h⟩;have h:=(C8 s i).1 h;have hi':i<s.data.toList.length:=hi;rw[cc,bX hi']at h;have e:s.data.toList[i]=10:=xF.1 h;exact e▸rF hi'
 .intro h;obtain⟨i,hi,e⟩:=xJ h;exact⟨i,hi,(C8 s i).2 (by rw[cc,bX hi];show(s.data.toList[i]).toNat=10;rw[e];rfl)⟩
def qx(x:dG)(i:Nat):y_:=if i=0 then x.src else if i=1 then x.dst else if i=2 then x.wo else x.type
def XO(x:dG)(i:Nat)(h:i<4):([[S x.src],[S x.dst],[S x.wo],[S x.type]]:l_ (l_ J))[i]?=some [S<|qx x i]:=by
 match i,h with
 |0,_=>rfl
 |1,_=>rfl
 |2,_=>rfl
 |3,_=>rfl
def QQ(x:dG)(i:Nat)(h:wf x):(qx x i).size<=aq:=by
 unfold qx;split
 .exact h.1
 .split
  .exact h.2.1
  .split
   .exact h.2.2.1
   .exact h.2.2.2.1
def ptB(x:dG)(i:Nat):Bool:=decide<|kh (qx x i)≠0
def FT(x:dG)(i:Nat):ptB x i=true↔ ¬kh (qx x i)=0:=bp
def fQ(x:dG):Int:=if ar 4 (ptB x)=true then kh (qx x<|aE 4<|ptB x)else if bV x.bw≠0 then bV x.bw else if pR x.bw=true then 2 else if 65536<x.data.size then 4 else 0
def ca5:Env:=aF 141 (bN (a2 aQ aQ) (λx=>Bo (x.1.data.toList.contains<|x.2.data.toList.getD 0 0)) λx=>x.2.size=1)<|aF 314 (bN (a1<|ak aC) (λx=>Bo (pR x)) λx=>x.n<=aq)<|aF 245 (bN (a1 aQ) (λs=>I (kh s)) λs=>s.size<=aq) bY8
def BR:an P ca5:=ah (ah (ah FR QO) Up) λx h=>by
 obtain⟨s,t⟩:=x;obtain⟨⟨l⟩⟩:=t
 match l,h with
 | [c],_=>exact wT s c
def Uq(x:dG)(h:wf x):Ok P 186 [(af dG).au x] (I<|fQ x):=by
 have h4:4<=aq:=dD;have ha:=h.2.2.2.2.1;have hn:=ha.1;have hq:pR x.bw=ar x.bw.n (qA x.bw):=rfl;have lp:=fF f186 3 4 (ptB x) (λi=>(M 54 [(1,aT),(2,I 0),(3,.own 1 0 4),(4,I i)])) [(cM [aY.cells x] 6),(cM [[S x.src],[S x.dst],[S x.wo],[S x.type]] 1)] (λi=>(.ret,(M 54 [(2,I<|kh<|qx x i)]),[])) (.ext 0,(M 54 [(1,aT),(2,I 0)]),[(cM [aY.cells x] 6)]) λi hi lt aW az aR=>by
  refine ao BR L0 [1,2,3,4] [2,10001] (let Z:=qx x i;(.d ((i:Int)<(↑4:Int)) (.g i 4<|.o [[[S x.src],[S x.dst],[S x.wo],[S x.type]][0+i]?=some [S Z]]<|.k (a1 aQ) Z (Z.size<=140737488351232)<|.s (.ld [S Z])<|.u (kh Z) 0 (eH az)<|eG aW)<|eY aR)) ?_;have Y:=FT x i
  (try simp only[eP])
  simp only[av]
  (repeat' with_reducible first|intro _|apply aNd_)<;>first|exact aM|exact XO x i U|exact QQ x i h
 have xZ:=fF f186 12 x.bw.n (qA x.bw) (λi=>(M 54 [(1,aT),(2,I 0),(7,I i)])) [(cM [aY.cells x] 6)] (eR<|M 54 [(2,I 2)]) (.ext 2,(M 54 [(1,aT),(2,I 0)]),[(cM [aY.cells x] 6)]) λi hi lt aW az aR=>by
  refine ao BR L0 [1,2,7] [2,10001] (.d ((i:Int)<x.bw.n) (.g i x.bw.n<|.n ((x.bw.f i).dq) (eH az)<|eG aW)<|eY aR) ?_;have Y:=bw9 x.bw i;simp only[av]
  repeat' with_reducible first|intro _|apply aNd_
  all_goals exact aM
 refine al BR (LOr 3 (kR lp [1,2,3,4]) 12<|kR xZ [1,2,7]) (jS lp (.e<|I<|kh<|qx x<|aE 4<|ptB x)<|.k (a1<|ak aC) x.bw (wf x.bw)<|.u (bV x.bw) 0 (.e<|I<|bV x.bw)<|jS xZ (.e<|I 2)<|.d ((x.data.size:Int)>65536) (.e<|I 4) qo) ?_;simp only[av]
 (repeat' with_reducible first|intro _|apply aNd_)<;>first|exact aM|(refine ba I ?_;unfold fQ;clear lp xZ;grind)
def Ur(x:dG)(h:wf x):Ok P 273 [(af dG).au x] (I<|fQ x):=by
 have h4:4<=aq:=dD;have ha:=h.2.2.2.2.1;have hn:=ha.1;have lp:=yM f273 2 4 (ptB x) (λi=>(M 39 [(1,aT),(2,I 0),(14,.own 1 0 4),(15,I 4),(16,I i)])) [(cM [aY.cells x] 6),(cM [[S x.src],[S x.dst],[S x.wo],[S x.type]] 1)] (λi=>(.ret,(M 39 [(2,I<|kh<|qx x i)]),[])) (.ext 0,(M 39 [(1,aT),(2,I 0)]),[(cM [aY.cells x] 6)]) λi hi lt aW az aR=>by
  have hz:=QQ x i h;have ht:=KR<|qx x i;have e1:1024<(qx x i).size->kh (qx x i)=4:=λh=>if_pos h;have e2: ¬1024<(qx x i).size->(qx x i).data.toList.contains 10=true->kh (qx x i)=2:=λh h2=>by unfold kh;rw[if_neg h,if_pos<|ht.trans h2]
  have e3: ¬1024<(qx x i).size->(qx x i).data.toList.contains 10=false->kh (qx x i)=0:=λh h2=>by unfold kh;rw[if_neg h,ht,h2];rfl
  refine ao BR L0 [1,2,14,15,16] [2,10001] (let Z:=[[S x.src],[S x.dst],[S x.wo],[S x.type]];let V:=qx x i;let aG:=(⟨#[10]⟩:y_);(.d ((i:Int)<4) (.g i 4<|.o [Z[0+i]?=some [S V]]<|.s (.ld [S V])<|.d ((V.size:Int)>1024) (kG (M 39 [(2,I 4)]) [])<|.k (a2 aQ aQ) (qx x i,aG) ((aG).size=1)<|.n (V.data.toList.contains<|(#[10]:Array UInt8).toList.getD 0 0) (kG (M 39 [(2,I 2)]) [])<|bR (M 39 [(1,aT),(2,I 0),(14,J.own 1 0 4),(15,I 4),(16,I<|oU<|(i:Int)+1)]) [cM [(aY.cells x)] 6,cM Z 1])<|fv 0 (M 39 [(1,aT),(2,I 0)]) [cM [(aY.cells x)] 6])) ?_;have Y:=FT x i
  (try simp only[eP])
  simp only[av]
  (repeat' with_reducible first|intro _|apply aNd_)<;>first|exact aM|exact XO x i U|(rw[bZ (n:=4) U h4];exact aW U (bF Y λq=>q (e3 U W)))|(rw[e1 U]at az;exact az U (Y.2 (by rw[e1 U];decide)))|(rw[e2 U W]at az;exact az U (Y.2 (by rw[e2 U W];decide)))
 refine al BR (kR lp [1,2,14,15,16]) (jS lp (.e<|I<|kh<|qx x<|aE 4<|ptB x)<|.k (a1<|ak aC) x.bw (wf x.bw)<|.u (bV x.bw) 0 (.e<|I<|bV x.bw)<|.k (a1<|ak aC) x.bw (x.bw.n<=140737488351232)<|.n (pR x.bw) (.e<|I 2)<|.d ((x.data.size:Int)>65536) (.e<|I 4) qo) ?_;simp only[av]
 (repeat' with_reducible first|intro _|apply aNd_)<;>first|exact aM|(refine ba I ?_;unfold fQ;clear lp;grind)
structure Inst where
 op:Int
 c:Int
 set:y_
 neg:Bool
 x:Int
 y:Int
instance:aY Inst:=⟨λi=> [I i.op,.sc (.int .u8 i.c),S i.set,Bo i.neg,I i.x,I i.y],λ
 | [.sc (.int _ a),.sc (.int _ b),.sc (.string c),.sc (.bool d),.sc (.int _ e),.sc (.int _ f)]=>⟨a,b,c,d,e,f⟩
 |_=>⟨0,0,⟨#[]⟩,false,0,0⟩⟩
def i0:Inst:=⟨0,0,n_,false,0,0⟩
def aK(d:l_ Inst):l_ (l_ J):=d.map aY.cells
def tb(s:y_)(a g:Nat)(k n:Nat)(b:Int)(gV:Bool):dW:=⟨[[S s,I a,I g,.bf k n,I b]],0,[],5,false,gV⟩
def iB(d:l_ Inst)(gV:Bool):dW:=⟨aK d,0,[],6,true,gV⟩
def gI:dW:=⟨[],2,[],6,true,true⟩
def iZ(d:l_ Inst):(aK d).length=d.length:=gS ..
def pg(d:l_ Inst)(i:Inst):aK (d++ [i])=aK d++ [[I i.op,U8 i.c,S i.set,Bo i.neg,I i.x,I i.y]]:=by unfold aK;rw[mr];rfl
def aP8 {w:World} {S:Nat->Prop} {m:Mp} {cs:l_ J} {v:Value}(h:cv w S m (.bg cs) v):cv w S m (.bg<|cs.map cj) v:=by
 have key:∀vs:Array Value,cs.length=vs.size->(∀(i:Nat) c v,cs[i]?=some c->vs[i]?=some v->cv w S m c v)->cv w S m (.bg<|cs.map cj) (.tuple vs):=λvs hl Y=> .bg _ _ (by rw[gS];exact hl) λi c v O h2=>by
  rw[b9]at O;cases hq:cs[i]? with
  |none=>rw[hq]at O;cases O
  |some p=>rw[hq]at O;cases O;exact xS<|Y i p v hq h2
 cases h with
 |st _ _ h=>cases h with
  |bg _ vs hl Y=>exact key vs hl λi c v O h2=> .st _ _<|Y i c v O h2
 |bg _ vs hl Y=>exact key vs hl Y
def dR.uD {cs cs':l_ J} {h h':Hp}(O:cs.map cj=cs')(h2:h=h'):dR (.bg cs,h) (.bg cs',h'):=by subst O h2;exact λ_ _ _ m _ _ q1 q2=>⟨m,q1,aP8 q2⟩
def dx(s:y_)(i:Nat):Int:=((s.data.toList.getD i 0).toNat:Nat)
def bj9 {s:y_} {i:Nat}(h:s.size<=i):dx s i=0:=by unfold dx;rw[cc,gx (by rw[j0];exact h)];rfl
def cz:Nat:=1048576
def bk0(s:y_)(a g:Nat)(b:Int)(d:l_ Inst)(i:Inst)(hd:d.length<=cz):kD P 312 [.ptr 0 0 0,(af Inst).au i] [tb s a g 1 d.length b true,iB d true] (I d.length) [tb s a g 2 (d.length+1) b true,gI,iB (d++ [i]) false]:=by
 have hl:=iZ d;have e1:oU (((d.length+1:Nat):Int)-1)=(d.length:Nat):=by unfold cz at hd;rw[wrap64 U U];omega
 unfold cz at hd;refine cK aw L0 (let Z:=d.length+1;(.o [d.length=(aK d).length,Z*56<=140737488355328]<|.r true<|.r true<|.e (I<|oU<|(Z:Int)-1,[gW [[S s,I a,I g,J.bf 2 Z,I b]] 5,js 6,dn (aK d++ [List.take 6 [I i.op,U8 i.c,S i.set,Bo i.neg,I i.x,I i.y]]) 6]))) ?_;try dsimp only
 simp only[e1];clear e1;simp only[av]
 (repeat' with_reducible first|intro _|apply aNd_)<;>first|exact aM|(unfold iB;rw[pg];exact dR.of_eq rfl)
def bk1(s:y_)(a g:Nat)(b:Int)(d:l_ Inst)(ha:a<=s.size):kD P 356 [.ptr 0 0 0] [tb s a g 1 d.length b true,iB d true] (.bg [U8<|dx s a,Bo<|decide<|a<s.size]) [tb s a g 1 d.length b true,iB d true]:=by
 refine cK aw L0 (let Z:=[gW [[S s,I a,I g,J.bf 1 d.length,I b]] 5,ox (aK d) 6];(.d ((a:Int)>=s.size) (.e (J.bg [U8 0,aP],Z))<|.g a s.size<|.e (J.bg [U8 (↑(s.data.toList.getD a 0).toNat:Int),fZ],Z))) ?_;simp only[av]
 (repeat' with_reducible first|intro _|apply aNd_)<;>first|exact aM|(rw[bj9 U,fq U];exact dR.uD rfl rfl)|(rw[cd U];exact dR.uD rfl rfl)
def bk2(s:y_)(a g:Nat)(b:Int)(d:l_ Inst):kD P 381 [.ptr 0 0 0] [tb s a g 1 d.length b true,iB d true] (.bit false) [tb s a g 1 d.length (a:Nat) true,iB d true]:=by
 refine cK aw L0 (.e (aP,[gW [[S s,I a,I g,J.bf 1 d.length,I a]] 5,ox (aK d) 6])) ?_;simp only[av]
 repeat' with_reducible first|intro _|apply aNd_
 all_goals exact dR.of_eq rfl
section
variable {s:y_}{L:l_ (l_ J)}{E:Env}{i:Nat}{e:l_ J}
structure dY where
 a:Nat
 g:Nat
 b:Int
 d:l_ Inst
def ff(L:l_ (l_ J)):l_ Inst:=mK<|L.map aY.of
def fT(d:l_ Inst):ff (aK d)=d:=by have h:ff (aK d)=(aK d).map aY.of:=ni _;rw[h];unfold aK;rw[qP];exact xE d
def XP:Hp->Option (y_×Int×Int×Nat×Int×l_ (l_ J))
 | [⟨[[.sc (.string s),.sc (.int .i64 a),.sc (.int .i64 g),.bf 1 n,.sc (.int .i64 b)]],0,[],5,false,true⟩,⟨L,0,[],6,true,true⟩]=>some (s,a,g,n,b,L)
 |_=>none
def QR {h:Hp}{a g:Int} {n:Nat} {b:Int}(e:XP h=some (s,a,g,n,b,L)):h=[⟨[[.sc<|.string s,.sc<|.int .i64 a,.sc<|.int .i64 g,.bf 1 n,.sc<|.int .i64 b]],0,[],5,false,true⟩,⟨L,0,[],6,true,true⟩]:=by
 unfold XP at e;split at e
 .cases e;rfl
 .cases e
def BS(s:y_)(ci7:l_ J->dY->Option (J×dY×l_ Prop)):l_ J->Hp->Option (J×Hp×l_ Prop):=λaa h=>match XP h with
 |some (s',a,g,n,b,L)=>match ci7 aa ⟨a.toNat,g.toNat,b,ff L⟩with
  |some (r,q,ob)=>some (r,[⟨[[S s,I q.a,I q.g,.bf 1 n,I q.b]],0,[],5,false,true⟩,⟨L,0,[],6,true,true⟩],[s'=s,a=(a.toNat:Int),g=(g.toNat:Int),L=aK (ff L),n=(ff L).length]++ob)
  |none=>none
 |none=>none
def BT {f:FuncId}{ci7:l_ J->dY->Option (J×dY×l_ Prop)}(hE:an P E)(h:∀aa t r q ob,ci7 aa t=some (r,q,ob)->(∀X∈ob,X)->kD P f aa [tb s t.a t.g 1 t.d.length t.b true,iB t.d true] r [tb s q.a q.g 1 t.d.length q.b true,iB t.d true]):an P (cF f (BS s ci7) E):=fC hE λaa hp r h' ob O h2=>by
 unfold BS at O;split at O
 .rename_i s' a g n b L e1;split at O
  .rename_i r q AK e2;cases O;have k:=h _ _ _ _ _ e2 λX hX=>h2 X<|tm _ hX;have f1:=h2 (s'=s) sS;have f2:=h2 (a=(a.toNat:Int)) sS;have f3:=h2 (g=(g.toNat:Int)) sS;have f4:=h2 (L=aK (ff L)) sS;have f5:=h2 (n=(ff L).length) sS;rw[QR e1];dsimp only[tb,iB]at k;rw[<-f2,<-f3,<-f4,<-f5]at k;subst f1;exact k
  .cases O
 .cases O
def pj(s:y_)(ci7:l_ J->dY->Option (J×dY×l_ Prop)):l_ J->Hp->Option (J×Hp×l_ Prop):=λaa h=>match XP h with
 |some (s',a,g,n,b,L)=>match ci7 aa ⟨a.toNat,g.toNat,b,ff L⟩with
  |some (r,q,ob)=>some (r,[tb s q.a q.g 2 q.d.length q.b true,gI,iB q.d false],[s'=s,a=(a.toNat:Int),g=(g.toNat:Int),L=aK (ff L),n=(ff L).length]++ob)
  |none=>none
 |none=>none
def rm {f:FuncId}{ci7:l_ J->dY->Option (J×dY×l_ Prop)}(hE:an P E)(h:∀aa t r q ob,ci7 aa t=some (r,q,ob)->(∀X∈ob,X)->kD P f aa [tb s t.a t.g 1 t.d.length t.b true,iB t.d true] r [tb s q.a q.g 2 q.d.length q.b true,gI,iB q.d false]):an P (cF f (pj s ci7) E):=fC hE λaa hp r h' ob O h2=>by
 unfold pj at O;split at O
 .rename_i s' a g n b L e1;split at O
  .rename_i r q AK e2;cases O;have k:=h _ _ _ _ _ e2 λX hX=>h2 X<|tm _ hX;have f1:=h2 (s'=s) sS;have f2:=h2 (a=(a.toNat:Int)) sS;have f3:=h2 (g=(g.toNat:Int)) sS;have f4:=h2 (L=aK (ff L)) sS;have f5:=h2 (n=(ff L).length) sS;rw[QR e1];dsimp only[tb,iB]at k;rw[<-f2,<-f3,<-f4,<-f5]at k;subst f1;exact k
  .cases O
 .cases O
def BU(i:Inst):Inst:=if i.op=6 then {i with x:=oU (i.x+1),y:=oU (i.y+1)}else if i.op=7 then {i with x:=oU (i.x+1)}else i
def qH(d:l_ Inst)(k:Nat):Nat->l_ Inst
 |0=>d
 |j+1=>(qH d k j).set (k+j) (BU (d.getD (k+j) i0))
theorem uJ(d:l_ Inst)(k:Nat):∀j,(qH d k j).length=d.length
 |0=>rfl
 |j+1=>by show(List.set _ _ _).length=_;rw[nJ];exact uJ d k j
theorem KS(d:l_ Inst)(k:Nat):∀j i,k+j<=i->(qH d k j)[i]?=d[i]?
 |0,_,_=>rfl
 |j+1,i,h=>by show(List.set _ _ _)[i]?=_;rw[List.getElem?_set_ne U];exact KS d k j i U
def HV(d:l_ Inst)(k:Nat)(i:Inst):aK (d.set k i)=(aK d).set k [I i.op,U8 i.c,S i.set,Bo i.neg,I i.x,I i.y]:=by unfold aK;rw[List.map_set];rfl
def uK(d:l_ Inst)(k:Nat)(h:k<d.length):(aK d)[k]?=some [I (d.getD k i0).op,U8 (d.getD k i0).c,S (d.getD k i0).set,Bo (d.getD k i0).neg,I (d.getD k i0).x,I (d.getD k i0).y]:=by unfold aK;rw[b9,cc,bX h];rfl
def bx0 {c:Nat}{v:J}(h:L[i]?=some e)(hv:e[c]?=some v):(L[i]?).bind (λe=>e[c]?)=some v:=by rw[h];exact hv
def aP9(h:L[i]?=some e):i<L.length:=(bm.1 h).1
def XQ(h:L[i]?=some e)(e':l_ J):(L.set i e')[i]?=some e':=by grind
def FU(h:L[i]?=some e):L.getD i []=e:=by rw[cc,h];rfl
def aQ0(h:L[i]?=some e):L.set i e=L:=by obtain⟨O,h2⟩:=bm.1 h;rw[<-h2,List.set_getElem_self]
def EBm(d:l_ Inst):Env:=vV (λid i off=>match id with
 |1=>some (.cell ([I (d.getD i i0).op,U8 (d.getD i i0).c,S (d.getD i i0).set,Bo (d.getD i i0).neg,I (d.getD i i0).x,I (d.getD i i0).y].getD off cj4))
 |_=>none) EN
def bI0(d:l_ Inst):an P (EBm d):=j7 aw
def aQ1(s:y_)(a g:Nat)(b:Int)(d:l_ Inst)(k:Nat)(i:Inst)(hk:k<=d.length)(hd:d.length<=cz):
  aO P (aD f343 2) (M 73 [(0,.ptr 0 0 0),(1,I k),(5,.ptr 2 0 0),(6,I k)]) [tb s a g 1 d.length b true,iB d true,⟨[aY.cells i],0,[],6,false,false⟩]
   (.out (.ext 0) (M 73 [(0,.ptr 0 0 0),(1,I k),(5,.ptr 2 0 0)]) [tb s a g 1 d.length b true,iB (qH d k<|d.length-k) true,⟨[aY.cells i],0,[],6,false,false⟩]):=by
 obtain⟨ci9,hN⟩:∃ci9,ci9=d.length-k:=⟨_,rfl⟩
 rw[<-hN];have WY:ci9<=aq:=by unfold cz at hd;unfold aq;omega
 have lp:=qp f343 2 ci9 (λ_=>false) (λj=>(M 73 [(0,aT),(1,I k),(5,.ptr 2 0 0),(6,I ((k+j:Nat):Int))])) (λj=> [tb s a g 1 d.length b true,iB (qH d k j) true,(cM [aY.cells i] 6)]) (eR<|M 73 [(0,aT),(1,I k),(5,.ptr 2 0 0)]) (.ext 0,(M 73 [(0,aT),(1,I k),(5,.ptr 2 0 0)]),[tb s a g 1 d.length b true,iB (qH d k ci9) true,(cM [aY.cells i] 6)]) λj hj ltj nC nq lO=>by
  have e1:oU (((k+j:Nat):Int)+1)=((k+(j+1):Nat):Int):=by unfold cz at hd;rw[wrap64 U U];omega
  have N:k+j<d.length->(aK<|qH d k j)[k+j]?=some [I (d.getD (k+j) i0).op,U8 (d.getD (k+j) i0).c,S (d.getD (k+j) i0).set,Bo (d.getD (k+j) i0).neg,I (d.getD (k+j) i0).x,I (d.getD (k+j) i0).y]:=λh=>by rw[uK _ _ (by rw[uJ];exact h),cc,KS d k j _<|bE _,<-cc]
  have hb:∀w:Inst,BU (d.getD (k+j) i0)=w->aK (qH d k<|j+1)=(aK<|qH d k j).set (k+j) [I w.op,U8 w.c,S w.set,Bo w.neg,I w.x,I w.y]:=λw hw=>by rw[<-hw,<-HV];rfl
  have hg:k+j<d.length->(aK<|qH d k j).getD (k+j) []=[I (d.getD (k+j) i0).op,U8 (d.getD (k+j) i0).c,S (d.getD (k+j) i0).set,Bo (d.getD (k+j) i0).neg,I (d.getD (k+j) i0).x,I (d.getD (k+j) i0).y]:=by grind
  have hs:∀e',k+j<d.length->((aK<|qH d k j).set (k+j) e').getD (k+j) []=e':=by grind
  refine ao (bI0 d) L0 [0,1,5,6] [0,1,5] (let V:=d.getD (0+(k+j)) i0;let aG:=aK (qH d k j);let bn:=[I V.op,U8 V.c,S V.set,Bo V.neg,I V.x,I V.y];let bH:=cM [[I i.op,U8 i.c,S i.set,Bo i.neg,I i.x,I i.y]] 6;let cp:=gW [[S s,I a,I g,J.bf 1 d.length,I b]] 5;let cu:=(↑(k+j):Int);let aS:=M 73 [(0,aT),(1,I k),(5,dK 2),(6,I<|oU<|cu+1)];let dk:=aG.getD (0+(k+j)) [];let Z:=aG.set (0+(k+j)) (PS.splice dk (4) [I<|oU<|V.x+1]);let bu:=Z.getD (0+(k+j)) [];(.d (cu<(d.length:Int)) (.g cu d.length<|.o [(aG[0+(k+j)]?.bind λe=>e[0]?)=some (bn.getD (0) cj4)]<|.q (V.op) 6 (.g cu d.length<|.o [(aG[0+(k+j)]?.bind λe=>e[4]?)=some (bn.getD (4) cj4)]<|.g cu d.length<|.o [0+(k+j)<aG.length,5<=dk.length]<|.g cu d.length<|.o [(Z[0+(k+j)]?.bind λe=>e[5]?)=some (bn.getD (5) cj4)]<|.g cu d.length<|.o [0+(k+j)<Z.length,6<=bu.length]<|bR aS [cp,ox (Z.set (0+(k+j))<|PS.splice bu (5) [I<|oU<|V.y+1]) 6,bH])<|.q (V.op) 7 (.g cu d.length<|.o [(aG[0+(k+j)]?.bind λe=>e[4]?)=some (bn.getD (4) cj4)]<|.g cu d.length<|.o [0+(k+j)<aG.length,5<=dk.length]<|bR aS [cp,ox Z 6,bH])<|bR aS [cp,ox aG 6,bH])<|fv 0 (M 73 [(0,aT),(1,I k),(5,dK 2)]) [cp,ox aG 6,bH])) ?_;have JV:=(di:False↔False)
  (simp only[e1,eP];clear e1)
  simp only[av]
  (repeat' with_reducible first|intro _|apply aNd_)<;>first|exact aM|exact bx0 (N U) rfl|exact aP9<|N U|exact aP9<|XQ (N U) _|(rw[hg U];exact bx0 (XQ (N U) _) rfl)|(rw[hg U];exact Nat.le_of_ble_eq_true rfl)|(rw[hs _ U,hg U];exact Nat.le_of_ble_eq_true rfl)|(have e:j=ci9:=U;subst e;exact lO rfl)|(have h:k+j<d.length:=U;have h6:(d.getD (k+j) i0).op=6:=W;have gg:=nC U rfl;rw[hs _ h,hg h,List.set_set];unfold iB at gg;rw[hb _<|if_pos h6]at gg;exact gg)|(have h:k+j<d.length:=U;have h6:(d.getD (k+j) i0).op=7:=W;have gg:=nC U rfl;rw[hg h];unfold iB at gg;rw[hb _<|(if_neg U).trans<|if_pos h6]at gg;exact gg)|(have h:k+j<d.length:=U;have gg:=nC U rfl;unfold iB at gg;rw[hb _<|(if_neg U).trans<|if_neg U,aQ0<|N h]at gg;exact gg)
 exact lp.f<|bc.2 λ_ _=>rfl
end
end
section
open Go
def yh {P:Program} (w:World) (dT sT ty elem:TypeId) (K n:Nat) (g o bZ0 ca6:Nat) (a:Addr) (sLen sCap:Nat) (cur:Array Value) (t:TypeId) (cs:l_ Value)
  (hu:P.underlying dT=some (.slice elem)) (hs:(P.info? elem).map (·.size)=some K) (hg:w.heap[g]?=some (.cells cur t (0,0))) (hn:n=Nat.min sLen bZ0) (I5:cs.length=n*K)
  (ca7:∀j v,cs[j]?=some v->w.cell? (a.add j)=some v) (nQ:o+cs.length<=cur.size) (O:∀v∈cs,v.oneCell'=true):
  (Builtin.copy_ #[dT,sT] ty #[.slice (some ⟨g,o,none⟩) bZ0 ca6,.slice (some a) sLen sCap]).run P w= .ok (goInt n) (w.setRow g (cur.toList.take o++cs++cur.toList.drop (o+cs.length)).toArray):=by
 have hl:=run_loadCells_list (P:=P) w a cs ca7;rw[I5]at hl;have cy:=run_storeCells_at P g o t cs 0 cur w hg (by simpa using nQ) O;cases hq:P.info? elem with
 |none=>rw[hq]at hs;cases hs
 |some i=>
  have hi:i.size=K:=by rw[hq]at hs;exact ku hs
  simp [Builtin.copy_,run_underlying hu,Builtin.lenOf,Builtin.firstCells,sizeOf,typeInfo,hq,hi,<-hn,hl,cy]
def Us {α:Type}(p a b q r v:l_ α)(cur:l_ α)(Y:cur=p++a++b++q++r)(hv:v.length=q.length)(l1:l_ α)(O:l1=cur.take (p.length+a.length+q.length)++b++cur.drop (p.length+a.length+q.length+b.length)):
  l1.take (p.length+a.length)++v++l1.drop (p.length+a.length+v.length)=p++a++v++b++r:=by
 have e0:cur.take (p.length+a.length+q.length)=p++a++(b++q++r).take q.length:=by rw[Y,show p++a++b++q++r=(p++a)++(b++q++r) by simp,<-br,List.take_length_add_append]
 have e1:cur.drop (p.length+a.length+q.length+b.length)=r:=by rw[Y,show p.length+a.length+q.length+b.length=(p++a++b++q).length by simp;omega,List.drop_left]
 rw[O,e0,e1];have e2:((b++q++r).take q.length).length=q.length:=by rw[im];simp;omega
 rw[show p++a++(b++q++r).take q.length++b++r=(p++a)++((b++q++r).take q.length++b++r) by simp,<-br,List.take_left,hv];rw[show(p++a).length+q.length=((p++a)++(b++q++r).take q.length).length by rw[br,br,e2];simp];rw[show(p++a)++((b++q++r).take q.length++b++r)=((p++a)++(b++q++r).take q.length)++(b++r) by simp,List.drop_left];simp
def C9 {P:Program} (w:World) (tS tR e:TypeId) (ht:P.underlying tS=some (.slice e)) (size:Nat) (hz:∀w,(Go.sizeOf e).run P w= .ok size w)
  (a b:Addr) (la ca lb cb:Nat) (nP:a.block≠b.block) (tA tB:TypeId) (kA kB:Nat)
  (hsa:w.shape? a.block=some (tA,kA)) (hsb:w.shape? b.block=some (tB,kB)) (hkA:kA≠0) (hkB:kB≠0)
  (hfb:w.frozen? b=false) (hfe:w.frozen? {block:=b.block,off:=kB}=false):
  (Extern.SlicesOverlaps.overlaps #[tS,tS] #[tR] #[.slice (some a) la ca,.slice (some b) lb cb]).run P w= .ok (.bool false) w:=by
 have hnb:(a.block !=b.block)=true:=by grind
 have ca8:(a.block==b.block)=false:=by grind
 change Sem.run P (α:=Value) (do
  let some t:=(#[tS,tS]:Array TypeId)[0]?|stuck "slices.overlaps: no parameter types"
  let .slice elem<-underlying t|stuck "slices.overlaps: slice type expected"
  let size<-sizeOf elem
  match(some a:Option Addr),(some b:Option Addr)with
  |some a,some b=>
   if la=0\/lb=0\/size=0 then pure (Value.bool false)
   else if a.block !=b.block&&(<-frozen a)&&(<-frozen b)then unsupported .addressObserved
   else do
    if a.block !=b.block then do
     noView a;noView b
     if<-mayBeOne a b then return Value.bool ((<-choose (.extern "sameAddr.stringBytes" 2))==1)
    pure (Value.bool<|a.block==b.block&&a.off<b.off+lb*size&&b.off<a.off+la*size)
  |_,_=>pure (Value.bool false)) w=_
 by_cases h0:la=0\/lb=0\/size=0
 .simp [run_underlying ht,hz,h0]
 .cases kB with
  |zero=>exact absurd rfl hkB
  |succ kB=>
   cases kA with
   |zero=>exact absurd rfl hkA
   |succ kA=>
    simp [run_underlying ht,hz,h0,hnb,ca8,frozen,noView,viewAt,mayBeOne,stringish,shape,Sem.run,hsa,hsb,hfb,hfe]
end
section
open Go.PS Wf Go.RowKit Go.Lib
section
variable {w:World}{b:Nat}{cur:Array Value}{et:TypeId}
def HW(w:World) {b x:Nat}(c:Array Value)(h:x≠b):(w.setRow b c).heap[x]?=w.heap[x]?:=by unfold World.setRow;show(w.heap.modify b _)[x]?=_;rw[Ay,if_neg U]
def HX(hg:w.heap[b]?=some (.cells cur et (0,0)))(k:Nat):w.frozen? ⟨b,k,none⟩=false:=by simp [World.frozen?,hg]
def QS{f:Nat×Nat}(hg:w.heap[b]?=some (.cells cur et f)):w.shape? b=some (et,cur.size):=by simp [World.shape?,hg]
def cell_of{f:Nat×Nat}(hg:w.heap[b]?=some (.cells cur et f))(k:Nat):w.cell? ⟨b,k,none⟩=cur[k]?:=by simp [World.cell?,hg]
def BV:(P.info? 389).map (·.size)=some 6:=kK
def bZ1 {o vb vo vc:Nat} {we:Array Value} {vt:TypeId} {vf:Nat×Nat}(hvb:vb≠b)(hg:w.heap[b]?=some (.cells cur et (0,0)))(hv:w.heap[vb]?=some (.cells we vt vf))(O:cur.size≠0)(h2:we.size≠0)(lb cb:Nat):
  (callFunc 370 #[.slice (some ⟨vb,vo,none⟩) 1 vc,.slice (some ⟨b,o,none⟩) lb cb]).run P w= .ok (.value<|.bool false) w:=by
 rw[run_callFunc_extern func370 kK kK kK (e:=Extern.SlicesOverlaps.overlaps #[350,350] #[4]) kK,
  C9 w 350 4 389 underlying350 6 sizeOf389 ⟨vb,vo,none⟩ ⟨b,o,none⟩ 1 vc lb cb hvb vt et we.size cur.size (QS hv) (QS hg) h2 O (HX hg _) (HX hg _)]
 rfl
set_option maxRecDepth 100000 in
def ai3 (b o n c k vb vo vc:Nat) (p a bb q r vs:l_ Value) (cur C2:Array Value) (et:TypeId) (w:World) (we:Array Value) (vt:TypeId) (vf:Nat×Nat)
  (hC2:C2=(p++a++vs++bb++r).toArray) (Np:cur.toList=p++a++bb++q++r) (hp:p.length=o) (ha:a.length=k*6) (Ai:bb.length=(n-k)*6) (hq:q.length=6) (hk:k<n) (lu:n+1<=c) (ch8:n+1<=9223372036854775807) (hvb:vb≠b) (hg:w.heap[b]?=some (.cells cur et (0,0))) (hv:w.heap[vb]?=some (.cells we vt vf)) (SG:vs.length=6)
  (hvs:∀j v,vs[j]?=some v->we[vo+j]?=some v) (O:∀v∈vs,v.oneCell'=true) (h1b:∀v∈bb,v.oneCell'=true):
  Calls P 358 #[.slice (some ⟨b,o,none⟩) n c,.int .i64 k,.slice (some ⟨vb,vo,none⟩) 1 vc] w λe w'=>e= .returned (.slice (some ⟨b,o,none⟩) (n+1) c)/\w'=w.drew.setRow b C2:=by
 have Aj:cur.size=o+k*6+(n-k)*6+6+r.length:=by
  have:cur.toList.length=(p++a++bb++q++r).length:=by rw[Np]
  simp only[j0,br]at this;omega
 have hvc:we.size≠0:=by have h0:=hvs 0 (vs[0]' U)<|bX _;intro e;rw[tk U]at h0;cases h0
 have hov:=λlb cb o'=>bZ1 (o:=o') (vo:=vo) (vc:=vc) hvb hg hv U hvc lb cb;have zf:∀j v,bb[j]?=some v->cur[o+k*6+j]?=some v:=λj v hj=>by rw[<-rJ,Np,show p++a++bb++q++r=(p++a)++(bb++q++r) by simp,gj (by rw[br];omega)];have hj2:=(bm.1 hj).1;rw[br,show o+k*6+j-(p.length+a.length)=j by omega,lG,dy hj2];exact hj
 obtain⟨C1,hC1⟩:∃C1:Array Value,C1=(cur.toList.take (o+(k+1)*6)++bb++cur.toList.drop (o+(k+1)*6+bb.length)).toArray:=⟨_,rfl⟩
 have zg:C1.size=cur.size:=by rw[hC1];simp only[rI,br,im,jX,j0];omega
 have ca9:∀ty dc sc,(Builtin.copy_ #[350,350] ty #[.slice (some ⟨b,o+(k+1)*6,none⟩) (n-k) dc,.slice (some ⟨b,o+k*6,none⟩) (n+1-k) sc]).run P w.drew= .ok (goInt (n-k:Nat)) (w.drew.setRow b C1):=λty dc sc=>by rw[hC1];exact yh w.drew 350 350 ty 389 6 (n-k) b (o+(k+1)*6) _ dc ⟨b,o+k*6,none⟩ _ sc cur et bb underlying350 BV hg (by simp only[Fs];split<;>omega) Ai (λj v hj=>by rw[Addr.add_lit,cell_of (w:=w.drew) hg];exact zf j v hj) U h1b
 have cb0:∀ty dc,(Builtin.copy_ #[350,350] ty #[.slice (some ⟨b,o+k*6,none⟩) (n+1-k) dc,.slice (some ⟨vb,vo,none⟩) 1 vc]).run P (w.drew.setRow b C1)= .ok (goInt (1:Nat)) (w.drew.setRow b C2):=λty dc=>by
  rw[hC2];have h:=yh (P:=P) (w.drew.setRow b C1) 350 350 ty 389 6 1 b (o+k*6) (n+1-k) dc ⟨vb,vo,none⟩ 1 vc C1 et vs underlying350 BV (setRow_heap w.drew b cur C1 et (0,0) hg) (by simp only[Fs];split<;>omega) SG (λj v hj=>by rw[Addr.add_lit,cell_of<|(HW w.drew C1 hvb).trans hv];exact hvs j v hj) U O
  have e:=Us p a bb q r vs cur.toList Np (SG.trans hq.symm) C1.toList (by rw[hC1,hp,ha,hq,show o+k*6+6=o+(k+1)*6 by omega]);rw[hp,ha]at e;rw[e,setRow_setRow]at h;exact h
 have hw1:oU ((k:Int)+1)=(k:Int)+1:=by rw[oU,IntKind.wrap_i64];omega
 have GR:oU ((n:Int)+1)=(n:Int)+1:=by rw[oU,IntKind.wrap_i64];omega
 have hz2: ¬((k:Int)=(n:Int)):=U;have hz3: ¬((n:Int)+1>(c:Int)):=U;have hb1:(0:Int)<=(k:Int)+1:=U;have hin:k<=n:=U;have htn:((k:Int)+1).toNat=k+1:=U;have ch9:((n:Int)+1).toNat=n+1:=U;have mixed:P.follows Departure.mixedOrders=true:=kK;have hb2: ¬(c=k+1):=U;have hb3:(k:Int)<=(n:Int)+1:=U;have hb4: ¬(c=k):=U;clear hC2 hC1 Np hp ha Ai hq zg zf Aj SG;go_enter func358,ntmps358
 go_wp2_with (simp only[hov])
 go_region_law_o (refine step_copy_runI rfl _ _ 350 350 rfl _ _ (by simp [Act.eval,Act.put]) (by simp [Act.eval,Act.put]) (ca9 _ _ _) ?_)
 go_wp2_with (at_builtin;refine wpList_copy_runI _ rfl _ _ 350 350 rfl _ _ rfl rfl (cb0 _ _) ?_)
 go_ret;exact⟨rfl,rfl⟩
def Nq(cj2:World)(X cj3:Array Value)(t:TypeId):(cj2.alloc<|.cells X t).setRow cj2.heap.size cj3=cj2.alloc (.cells cj3 t):=by
 unfold World.setRow World.alloc;congr 1;apply LP;intro i;rw[Ay,Ap,Ap];by_cases h:cj2.heap.size=i
 .subst h;simp
 .rw[if_neg h,if_neg λe=>h e.symm,if_neg λe=>h e.symm]
def HY:Value:= .agg #[.int .i64 0,.int .u8 0,.string n_,.bool false,.int .i64 0,.int .i64 0]
def bZ2:(P.info? 389).bind (·.zero)=some HY:=kK
def bI1:(P.info? 389).map (·.bytes)=some 56:=kK
def bI2 {α:Type}(a v b rest:l_ α)(l1:l_ α)(O:l1=(a++rest).take a.length++v++(a++rest).drop (a.length+v.length)):l1.take (a.length+v.length)++b++l1.drop (a.length+v.length+b.length)=a++v++b++rest.drop (v.length+b.length):=by
 rw[List.take_left]at O;have e:l1.take (a.length+v.length)=a++v:=by grind
 rw[e,O,<-br,List.drop_length_add_append,xC,LK,br];congr 1;rw[Fg U,nL];congr 1;omega
set_option maxRecDepth 100000 in
def aQ2 (b o n c k vb vo vc:Nat) (p a bb r vs:l_ Value) (cur:Array Value) (et:TypeId) (w:World) (we:Array Value) (vt:TypeId) (vf:Nat×Nat)
  (Np:cur.toList=p++a++bb++r) (hp:p.length=o) (ha:a.length=k*6) (Ai:bb.length=(n-k)*6) (hk:k<n) (hnc:n<=c) (lu:c<n+1) (OT:(n+1)*56<=140737488355328) (hg:w.heap[b]?=some (.cells cur et (0,0))) (hv:w.heap[vb]?=some (.cells we vt vf)) (SG:vs.length=6)
  (hvs:∀j v,vs[j]?=some v->we[vo+j]?=some v) (O:∀v∈vs,v.oneCell'=true) (h1b:∀v∈bb,v.oneCell'=true):
  Calls P 358 #[.slice (some ⟨b,o,none⟩) n c,.int .i64 k,.slice (some ⟨vb,vo,none⟩) 1 vc] w λe w'=>∃(G:Nat) (C:Array Value) (rest:l_ Value),n+1<=G/\C.size=G*6/\C.toList=a++vs++bb++rest/\e= .returned (.slice (some ⟨w.heap.size,0,none⟩) (n+1) G)/\w'=w.drew.drew.alloc (.cells C 389):=by
 have Aj:cur.size=o+k*6+(n-k)*6+r.length:=by
  have:cur.toList.length=(p++a++bb++r).length:=by rw[Np]
  simp only[j0,br]at this;omega
 have zf:∀j v,bb[j]?=some v->cur[o+k*6+j]?=some v:=λj v hj=>by rw[<-rJ,Np,show p++a++bb++r=(p++a)++(bb++r) by simp,gj (by rw[br];omega)];have hj2:=(bm.1 hj).1;rw[br,show o+k*6+j-(p.length+a.length)=j by omega,dy hj2];exact hj
 have bZ3:∀j v,a[j]?=some v->cur[o+j]?=some v:=λj v hj=>by rw[<-rJ,Np,show p++a++bb++r=p++(a++(bb++r)) by simp,gj U];have hj2:=(bm.1 hj).1;rw[show o+j-p.length=j by omega,dy hj2];exact hj
 obtain⟨i0,hi0⟩:∃i0,P.info? 389=some i0:=LG.1 kK;have mE:i0.zero=some HY:=by have:=bZ2;rw[hi0]at this;exact this
 have hzs:i0.size=6:=by have:=BV;rw[hi0]at this;exact ku this
 have hzb:i0.bytes=56:=by have:=bI1;rw[hi0]at this;exact ku this
 have hik:k+(n+1-k)=n+1:=U;have hold:(Builtin.firstCells i0.size k<|.slice (some ⟨b,o,none⟩) k c).run P w.drew= .ok a.toArray w.drew:=by rw[hzs];exact run_firstCells_some w.drew 6 k ⟨b,o,none⟩ k c a ha (λj v hj=>by rw[Addr.add_lit,cell_of (w:=w.drew) hg];exact bZ3 j v hj)
 obtain⟨G,hG⟩:∃G,G=grownCap w (n+1) c 389:=⟨_,rfl⟩
 obtain⟨rest,wA⟩:∃rest:l_ Value,rest=(Builtin.zeroCells HY.cells (n+1-k)++Builtin.zeroCells HY.cells (G-(n+1))).toList:=⟨_,rfl⟩
 obtain⟨ROW,bk3⟩:∃ROW:Array Value,ROW=(a++rest).toArray:=⟨_,rfl⟩
 have hGn:n+1<=G:=by rw[hG];exact grownCap_ge w _ _ _
 have ci0:G<=9223372036854775807:=by have:=grownCap_le_maxLen w (n+1) c 389 (by unfold maxLen;omega);rw[<-hG]at this;unfold maxLen at this;omega
 have Fy:rest.length=(G-k)*6:=by rw[wA];simp [Builtin.zeroCells,HY,Value.cells];omega
 have hrz:∀ty,(Builtin.append_ #[350,3] ty #[.slice (some ⟨b,o,none⟩) k c,.int .i64<|(n:Int)+1-(k:Int)]).run P w=
   .ok (.slice (some ⟨w.heap.size,0,none⟩) (n+1) G) (w.drew.alloc<|.cells ROW 389):=λty=>by
  have h:=Lib.run_append_grow_zeros (P:=P) w 350 3 ty 389 i0 _ .i64 .i64 underlying350 underlying3 hi0 mE (some ⟨b,o,none⟩) k c a hold (n+1-k) U U U U (by rw[hzb];omega) (by rw[hzb,hik];exact growslice_fits lu OT);rw[hik,<-hG]at h;have hR:a.toArray++Builtin.zeroCells HY.cells (n+1-k)++Builtin.zeroCells HY.cells (G-(n+1))=ROW:=by rw[bk3,wA];apply EY.1;simp
  rw[show(n:Int)+1-(k:Int)=((n+1-k:Nat):Int) by omega,h,hR]
 obtain⟨C1,hC1⟩:∃C1:Array Value,C1=(ROW.toList.take (k*6)++vs++ROW.toList.drop (k*6+vs.length)).toArray:=⟨_,rfl⟩
 obtain⟨C2,hC2⟩:∃C2:Array Value,C2=(C1.toList.take ((k+1)*6)++bb++C1.toList.drop ((k+1)*6+bb.length)).toArray:=⟨_,rfl⟩
 have hRs:ROW.size=G*6:=by rw[bk3];simp only[rI,br];omega
 have zg:C1.size=G*6:=by rw[hC1];simp only[rI,br,im,jX,j0];omega
 have Et:C2.size=G*6:=by rw[hC2];simp only[rI,br,im,jX,j0];omega
 have bZ4:C2.toList=a++vs++bb++rest.drop (vs.length+bb.length):=by have:=bI2 a vs bb rest C1.toList (by rw[hC1,bk3,ha]);rw[ha,SG,show k*6+6=(k+1)*6 by omega]at this;rw[hC2,SG];exact this
 have hbw:=lt_of_block hg;have hvw:=lt_of_block hv;obtain⟨W0,hW0⟩:∃W0,W0=w.drew.alloc (.cells ROW 389):=⟨_,rfl⟩
 have g0:W0.heap[w.heap.size]?=some (.cells ROW 389 (0,0)):=by rw[hW0];exact dJ w.drew _
 have gv:W0.heap[vb]?=some (.cells we vt vf):=by rw[hW0];exact(gw (w:=w.drew) hvw).trans hv
 have gb:((W0.setRow w.heap.size C1).drew).heap[b]?=some (.cells cur et (0,0)):=(HW W0 C1 U).trans (by rw[hW0];exact(gw (w:=w.drew) hbw).trans hg);have cb1:∀ty dc,(Builtin.copy_ #[350,350] ty #[.slice (some ⟨w.heap.size,k*6,none⟩) (n+1-k) dc,.slice (some ⟨vb,vo,none⟩) 1 vc]).run P W0= .ok (goInt (1:Nat)) (W0.setRow w.heap.size C1):=λty dc=>by rw[hC1];exact yh W0 350 350 ty 389 6 1 w.heap.size (k*6) (n+1-k) dc ⟨vb,vo,none⟩ 1 vc ROW 389 vs underlying350 BV g0 (by simp only[Fs];split<;>omega) SG (λj v hj=>by rw[Addr.add_lit,cell_of gv];exact hvs j v hj) U O
 have cb2:∀ty dc sc,(Builtin.copy_ #[350,350] ty #[.slice (some ⟨w.heap.size,(k+1)*6,none⟩) (n-k) dc,.slice (some ⟨b,o+k*6,none⟩) (n-k) sc]).run P (W0.setRow w.heap.size C1).drew= .ok (goInt (n-k:Nat)) ((W0.setRow w.heap.size C1).drew.setRow w.heap.size C2):=λty dc sc=>by rw[hC2];exact yh (W0.setRow w.heap.size C1).drew 350 350 ty 389 6 (n-k) w.heap.size ((k+1)*6) (n-k) dc ⟨b,o+k*6,none⟩ (n-k) sc C1 389 bb underlying350 BV (setRow_heap W0 w.heap.size ROW C1 389 (0,0) g0) (by simp only[Fs];split<;>omega) Ai (λj v hj=>by rw[Addr.add_lit,cell_of gb];exact zf j v hj) U h1b
 have hW:(W0.setRow w.heap.size C1).drew.setRow w.heap.size C2=w.drew.drew.alloc (.cells C2 389):=by
  have e:(W0.setRow w.heap.size C1).drew=(w.drew.drew.alloc<|.cells ROW 389).setRow w.heap.size C1:=by rw[hW0];rfl
  rw[e,setRow_setRow];exact Nq w.drew.drew ROW C2 389
 suffices hs:Calls P 358 #[.slice (some ⟨b,o,none⟩) n c,.int .i64 k,.slice (some ⟨vb,vo,none⟩) 1 vc] w λe w'=>e= .returned (.slice (some ⟨w.heap.size,0,none⟩) (n+1) G)/\w'=(W0.setRow w.heap.size C1).drew.setRow w.heap.size C2 from hs.mono λe w' h=>⟨G,C2,_,hGn,Et,bZ4,h.1,h.2.trans hW⟩
 have hw1:oU ((k:Int)+1)=(k:Int)+1:=by rw[oU,IntKind.wrap_i64];omega
 have GR:oU ((n:Int)+1)=(n:Int)+1:=by rw[oU,IntKind.wrap_i64];omega
 have hw3:oU ((n:Int)+1-(k:Int))=(n:Int)+1-(k:Int):=by rw[oU,IntKind.wrap_i64];omega
 have hz2: ¬((k:Int)=(n:Int)):=U;have hz3:(c:Int)<(n:Int)+1:=U;have hb1:(0:Int)<=(k:Int)+1:=U;have hin:k<=n:=U;have htn:((k:Int)+1).toNat=k+1:=U;have hb3:(k:Int)<=(n:Int):=U;have hci: ¬(c=k):=U;have hGi: ¬(G=k):=U;have ci1: ¬(G=k+1):=U;have mixed:P.follows Departure.mixedOrders=true:=kK;rw[<-hW0]at hrz;clear hW bZ4 hC1 hC2 zg Et hRs bk3 wA Fy hG hold hik Np hp ha Ai zf bZ3 Aj SG hW0 g0 gv gb;go_enter func358,ntmps358
 go_wp2_with (first
  |(at_builtin;refine Lib.wpList_append_run _ rfl _ _ _ _ rfl _ _ rfl rfl _ _ (hrz _) ?_)
  |(at_builtin;refine wpList_copy_runI _ rfl _ _ 350 350 rfl _ _ rfl rfl (cb1 _ _) ?_))
 go_region_law_o (refine step_copy_runI rfl _ _ 350 350 rfl _ _ (by simp [Act.eval,Act.put]) (by simp [Act.eval,Act.put]) (cb2 _ _ _) ?_)
 go_wp2
 go_ret;exact⟨rfl,rfl⟩
end
end
section
open Go.PS Wf
def bk4 {E:Env} {f:FuncId} {fn:Func} {args:l_ J} {h h':Hp} {r:J} {ob:l_ Ob}(hE:an P E)(L:gD)(hf:P.funcs[f]?=some fn)(s:l8)(N:Pj P E L fn args h s=some ((r,h'),ob))(cJ:∀X∈ob,X.holds):kD P f args h r h':=by
 unfold Pj at N;split at N
 .rename_i r' AK s' hq;cases N;exact S7 hE hf hq cJ
 .cases N
def bk5(d:l_ Inst)(i:Inst)(hd:d.length<=cz):kD P 358 [.bf 0 d.length,I d.length,.ro [aY.cells i]] [iB d true] (.bf 1<|d.length+1) [gI,iB (d++ [i]) false]:=by
 have hl:=iZ d;unfold cz at hd;have k:=bk4 (r:= .bf 1 (d.length+1)) (h':=[gI,⟨aK d++ [aY.cells i],0,[],6,true,false⟩]) (ob:=[Ob.xK<|0<=((d.length:Nat):Int),Ob.xK<|((d.length:Nat):Int)<=((d.length:Nat):Int),Ob.xK<|((d.length:Nat):Int)<=((d.length:Nat):Int),Ob.dec (((d.length:Nat):Int)==((d.length:Nat):Int)) true,Ob.xK<|d.length=(aK d).length,Ob.xK<|(d.length+1)*56<=pE,Ob.xK<|k8 6 [aY.cells i]=true,Ob.xK<|nc [aY.cells i]=true])
  aw L0 func358 (args:=[.bf 0 d.length,I d.length,.ro [aY.cells i]]) (h:=[iB d true]) [.fN,.bit true] kK ?_
 .unfold iB;rw[pg];exact k
 .intro X hX;simp only[fB,tu,qQ]at hX;rcases hX with rfl|rfl|rfl|rfl|rfl|rfl|rfl|rfl
  .show(0:Int)<=_;omega
  .show _<=_;omega
  .show _<=_;omega
  .show(_==_)=true;simp
  .exact hl.symm
  .show _<=_;unfold pE;omega
  .rfl
  .rfl
end
section
open Go.PS Wf Go.RowKit
section
variable {d:l_ Inst}{e:l_ J}
def encI(i:Inst):l_ Value:=[.int .i64 i.op,.int .u8 i.c,.string i.set,.bool i.neg,.int .i64 i.x,.int .i64 i.y]
def vJ(i:Inst):aY.cells i=(encI i).map J.sc:=rfl
def jx(d:l_ Inst):l_ Value:=d.flatMap encI
def Da(a b:l_ Inst):jx (a++b)=jx a++jx b:=List.flatMap_append ..
theorem Db:∀d:l_ Inst,(jx d).length=d.length*6
 | []=>rfl
 |i::d=>by show(encI i++jx d).length=_;rw[br,Db d,iP,ed];show 6+_=_;omega
theorem Dc:∀(d:l_ Inst) (i j:Nat),j<6->(jx d)[i*6+j]?=(d[i]?).bind λe=>(encI e)[j]?
 | [],i,j,_=>by simp [jx]
 |e::d,0,j,h=>by
  show(encI e++jx d)[0*6+j]?=_;rw[sP,eP,dy (show j<(encI e).length from h)];rfl
 |e::d,i+1,j,h=>by
  show(encI e++jx d)[(i+1)*6+j]?=_;rw[gj (show(encI e).length<=_ by show 6<=_;omega)];have:(i+1)*6+j-(encI e).length=i*6+j:=by show(i+1)*6+j-6=_;omega
  rw[this,Dc d i j h];rfl
def KT(d:l_ Inst):∀v∈jx d,v.oneCell'=true:=by intro v hv;obtain⟨i,_,h⟩:=tn.1 hv;simp only[encI,fB,tu,qQ]at h;rcases h with rfl|rfl|rfl|rfl|rfl|rfl<;>rfl
def KU {i j:Nat}{q:J}(O:(aK d)[i]?=some e)(h2:e[j]?=some q):j<6/\∃v,q= .sc v/\(jx d)[i*6+j]?=some v:=by
 unfold aK at O;rw[b9]at O;cases hd:d[i]? with
 |none=>rw[hd]at O;cases O
 |some x=>
  rw[hd]at O;cases O;rw[vJ,b9]at h2;have hj:j<6:=by
   rcases fA j 6 with h|h
   .exact h
   .rw[gx (show(encI x).length<=j from h)]at h2;cases h2
  refine⟨hj,?_⟩;cases F:(encI x)[j]? with
  |none=>rw[F]at h2;cases h2
  |some v=>
   rw[F]at h2;cases h2;exact⟨v,rfl,by rw[Dc d i j hj,hd];exact F⟩
def aQ3 {cur:Array Value} {o:Nat}(hn:o+d.length*6<=cur.size)(Y:∀(i j:Nat) e q v,(aK d)[i]?=some e->e[j]?=some q->cur[o+i*6+j]?=some v->q= .sc v):cur.toList=cur.toList.take o++jx d++cur.toList.drop (o+d.length*6):=by
 apply k6;intro x;have hl:=Db d;rw[lG];have AU:(cur.toList.take o).length=o:=by rw[im,j0];omega
 rcases fA x o with h|h
 .rw[dy U,LO,if_pos h]
 .rw[gj U,AU];rcases fA (x-o) (d.length*6)with h2|h2
  .rw[dy U];obtain⟨i,j,hj,hx⟩:∃i j,j<6/\x-o=i*6+j:=⟨(x-o)/6,(x-o)%6,Au _ dD,U⟩
   have hi:i<d.length:=U;rw[hx,Dc d i j hj,bX hi];have F:(aK d)[i]?=some (aY.cells d[i]):=by unfold aK;rw[b9,bX hi];rfl
   have hxs:x<cur.size:=U;have hq:(aY.cells d[i])[j]?=some (.sc<|(encI d[i])[j]'hj):=by rw[vJ,b9,bX (show j<(encI d[i]).length from hj)];rfl
   have hv:=Y i j _ _ (cur[x]'hxs) F hq (by rw[show o+i*6+j=x by omega,jc hxs]);show cur.toList[x]?=(encI d[i])[j]?;rw[rJ,jc hxs,bX (show j<(encI d[i]).length from hj)];injection hv with hv
   show some _=some _;rw[<-hv];rfl
  .rw[gj U,iO,hl];congr 1;omega
def yF(d:l_ Inst)(k:Nat)(i:Inst):l_ Inst:=d.take k++ [i]++d.drop k
def QT(d:l_ Inst)(k:Nat)(i:Inst)(hk:k<=d.length):(yF d k i).length=d.length+1:=by unfold yF;simp only[br,im,jX,iP,qj];omega
def FV(h:e∈aK d):∃x,x∈d/\e=aY.cells x:=by obtain⟨x,hx,rfl⟩:=jB.1 h;exact⟨x,hx,rfl⟩
def Dd(d:l_ Inst):oA (aK d):=λe F=>by obtain⟨x,_,rfl⟩:=FV F;rfl
def QU(d:l_ Inst):∀e∈aK d,e.length=6:=λe F=>by obtain⟨x,_,rfl⟩:=FV F;rfl
def QV {C:Array Value} {p r:l_ Value}(hC:C.toList=p++jx d++r) {i j:Nat} {e:l_ J} {q:J} {v:Value}(O:(aK d)[i]?=some e)(h2:e[j]?=some q)(h3:C[p.length+i*6+j]?=some v):q= .sc v:=by obtain⟨hj,u,rfl,hu⟩:=KU O h2;have hl:=(bm.1 hu).1;rw[<-rJ,hC,lG,gj U,show p.length+i*6+j-p.length=i*6+j by omega,dy hl,hu]at h3;cases h3;rfl
def bk6(d:l_ Inst)(k:Nat)(i:Inst)(hk:k<d.length)(hd:d.length<=cz):kD P 358 [.bf 0 d.length,I k,.ro [aY.cells i]] [iB d true] (.bf 1<|d.length+1) [gI,iB (yF d k i) false]:=by
 refine⟨kK,λw0 S vs hG hI hD hl ha=> ?_⟩
 match vs,hl with
 | [v0,v1,v2],_=>
  have h0:=qW (ha 0 _ v0 rfl rfl);have O:=jr (ha 1 _ v1 rfl rfl);subst O;have hB:([iB d true]:Hp)[0]?=some (iB d true):=rfl;have Fy:=iZ d;have nP:(iB d true).es≠ []:=by
   intro h;have:(aK d).length=0:=by rw[show aK d=[]from h];rfl
   omega
  rcases wy (ha 2 _ v2 rfl rfl)with⟨h,_⟩|⟨vb,vo,vc,vsz,we,vt,vf,rfl,hSv,hv,hvz,hvf,_,hvc⟩
  .cases h
  rcases lx h0 with⟨h2,_⟩|⟨b,o,sz,cap,c,et,rfl,hm,mE,hb,iq,hlen⟩
  .omega
  have ub:Rl (iB d true).es sz:=U;have hs:6=sz:=hI.Ci 0 _ b o sz hB hm ub;subst hs;obtain⟨c1,SB,e1,e2,e3,e4⟩:=hI.oq 0 _ b o 6 hB (bJ 1) hm ub;rw[hb]at e1;cases e1;have bt3:=hI.live 0 _ b o 6 hB rfl hm ub;have hvb:vb≠b:=by grind
  have Ut:=aQ3 (cur:=c) (o:=o) (d:=d) (by have:o+(aK d).length*6<=c.size:=e2;rw[Fy]at this;exact this) (λi j e q v q1 q2 q3=>by obtain⟨_,u,rfl,_⟩:=KU q1 q2;have:=jr (e4 i j e _ v q1 q2 q3);rw[this])
  have SG:(encI i).length=6:=rfl;have cb3:6=vsz:=hvz (aY.cells i) sS;subst cb3;have hvs:∀j v,(encI i)[j]?=some v->we[vo+j]?=some v:=λj v hj=>by
   have hj6:j<6:=by grind
   have hx:vo+j<we.size:=by have:vo+1*6<=we.size:=hvf;omega
   have:=hvc 0 j (aY.cells i) (.sc v) (we[vo+j]) rfl (by rw[vJ,b9,hj];rfl) (by rw[sP,rG,jc hx]);cases this;rw[jc hx]
  have Ja:=KT;have hvo:∀v∈encI i,v.oneCell'=true:=λv hv=>KT [i] v (by simpa [jx]using hv);have hfi:jx (yF d k i)=jx (d.take k)++encI i++jx (d.drop k):=by unfold yF;rw[Da,Da];congr 2
  have aQ4:jx d=jx (d.take k)++jx (d.drop k):=by rw[<-Da,wu]
  have hla:(jx<|d.take k).length=k*6:=by rw[Db,im];congr 1;omega
  have hlb:(jx<|d.drop k).length=(d.length-k)*6:=by grind
  have JX:(c.toList.take o).length=o:=by rw[im,j0];have:o+(aK d).length*6<=c.size:=e2;omega
  have hdl:=QT d k i U;rw[sP,rG];by_cases lu:d.length+1<=cap
  .have nQ:o+(d.length+1)*6<=c.size:=by
    have:(0+cap)*6=cap*6:=by rw[eP]
    omega
   obtain⟨q,r,hqr,hql⟩:∃q r,c.toList.drop (o+d.length*6)=q++r/\q.length=6:=⟨(c.toList.drop<|o+d.length*6).take 6,(c.toList.drop<|o+d.length*6).drop 6,(wu _ _).symm,by rw[im,jX,j0];omega⟩
   rw[hqr,aQ4]at Ut;have I5:=ai3 b o d.length cap k vb vo vc (c.toList.take o) (jx<|d.take k) (jx<|d.drop k) q r (encI i) c _ et w0.w we vt vf rfl (by rw[<-lG]at Ut;simpa using Ut) JX hla hlb hql hk lu (by unfold cz at hd;omega) hvb hb hv SG hvs hvo<|Ja _;generalize hC2:(c.toList.take o++jx (d.take k)++encI i++jx (d.drop k)++r).toArray=C2 at I5;have cb4:C2.toList=c.toList.take o++jx (yF d k i)++r:=by rw[<-hC2,hfi];simp
   have ci2:c.size=o+k*6+(d.length-k)*6+6+r.length:=by have:=ba List.length Ut;simp only[j0,br,JX,hla,hlb,hql]at this;omega
   have bZ5:C2.size=c.size:=by rw[<-hC2];simp only[rI,br,JX,hla,hlb,SG];omega
   refine I5.mono ?_;rintro e w' ⟨rfl,rfl⟩;have DI:Inv w0 S [iB d true] S w0.gV w0.w.drew:=hI.grown ⟨rfl,rfl,rfl,bE _,λ_ _=>rfl⟩;have hbd:w0.w.drew.heap[b]?=some (.cells c et (0,0)):=hb;obtain⟨Ck,_⟩:=DI.Gt (off:=0) (len:=d.length) (pr:=[0]) (ys:=[aY.cells i]) (news:=encI i) (sm:=true) hB rfl hm ub dD (by show 0+d.length<=(aK d).length;omega) (Gs hB (by show 0+d.length=(aK d).length;omega)) (λ_=>rfl) (λq hq=> .inl (mq.1 hq)) (λe F=>by rw[mq.1 F];rfl) rfl (λa j e p v q1 q2 q3=>by
    have ha0:a=0:=by
     rcases a with _|a
     .rfl
     .cases q1
    subst ha0;cases q1;rw[vJ,b9]at q2;rw[sP,eP]at q3;rw[q3]at q2;cases q2;exact .st _ _ (.sc _)) hbd (by rw[eP];show o+d.length*6+6<=c.size;omega) (λ_=>by
    rw[xu,wq (by show(aK d).length<=_;omega)];intro e F;rcases kx.1 F with h|h
    .exact Dd d e h
    .rw[mq.1 h];rfl)
   have kC:((iB d true).es.drop 0).take d.length++ [aY.cells i]=aK d++ [aY.cells i]:=by rw[xu,wq (by show(aK d).length<=_;omega)];rfl
   rw[kC,sP,rG,eP]at Ck;generalize hC1:(c.toList.take (o+d.length*6)++encI i++c.toList.drop (o+d.length*6+(encI i).length)).toArray=C1 at Ck;have bZ6:C1.size=c.size:=by rw[<-hC1];simp only[rI,br,im,jX,j0,SG];omega
   have hb1:(w0.w.drew.setRow b C1).heap[b]?=some (.cells C1 et (0,0)):=setRow_heap w0.w.drew b c C1 et (0,0) hbd;have Zp:w0.gV.length=1:=hI.len;have zy:cv (w0.w.drew.setRow b C1) S (w0.gV++ [(b,o,6)]) (.own 1 0<|d.length+1) (.slice (some ⟨b,o,none⟩) (d.length+1) cap):=by have:=cv.own (w:=w0.w.drew.setRow b C1) (S:=S) (m:=w0.gV++ [(b,o,6)]) 1 0 (d.length+1) cap b o 6 C1 et (by rw[gj U,Zp];rfl) dD hb1 lu (by rw[bZ6];exact hlen);simpa using this
   obtain⟨m3,hI3,hR3⟩:=dR.keep (r:= .bf 1 (d.length+1)) (h':=[gI,⟨aK d++ [aY.cells i],0,[],6,true,false⟩]) [0,1] rfl rfl dD rfl w0 S S _ _ (.slice (some ⟨b,o,none⟩) (d.length+1) cap) Ck<|.bf _ _ _ zy;rcases lx (qW hR3)with⟨h,_⟩|⟨b',o',nO,ci3,c',et',hve,hm3,_,_,_,_⟩
   .omega
   have hs6:6=nO:=hI3.Ci 1 _ b' o' nO rfl hm3<|.inl sS;subst hs6;injection hve with hve _ _
   injection hve with hve
   injection hve with cb5 bZ7 _
   rw[sP,rG]at bZ7;subst cb5 bZ7;have hI4:=Inv.Xp hI3 (id:=1) (c':=C2) (es':=aK (yF d k i)) rfl rfl rfl hm3 hb1 sS (by rw[bZ5,bZ6]) (by rw[iZ,hdl];simp [iZ]) (QU _) (λ_=>Dd _) (λa j e p v q1 q2 q3 w2 S2=>by have hcc:=QV cb4 q1 q2 (by rw[JX];exact q3);rw[hcc];exact .sc _)
   rw[setRow_setRow]at hI4;refine⟨.slice (some ⟨b,o,none⟩) (d.length+1) cap,S,m3,rfl,hI4,λ_ h=>h,.bf _ _ _ ?_⟩;have:=cv.own (w:=w0.w.drew.setRow b C2) (S:=S) (m:=m3) 1 0 (d.length+1) cap b o 6 C2 et hm3 dD (setRow_heap w0.w.drew b c C2 et (0,0) hbd) lu (by rw[bZ5];exact hlen);simpa using this
  .have I5:=aQ2 b o d.length cap k vb vo vc (c.toList.take o) (jx<|d.take k) (jx<|d.drop k) (c.toList.drop<|o+d.length*6) (encI i) c _ w0.w we vt vf (by rw[aQ4]at Ut;rw[<-lG]at Ut;exact Ut) JX hla hlb hk iq U (by unfold cz at hd;omega) hb hv SG hvs hvo (Ja _);refine I5.mono ?_;rintro e w' ⟨G,C,rest,hGn,hCs,hCl,rfl,rfl⟩;have DI:Inv w0 S [iB d true] S w0.gV w0.w.drew.drew:=hI.grown ⟨rfl,rfl,rfl,bE _,λ_ _=>rfl⟩;obtain⟨Ck,_⟩:=DI.bA2 (tip:=False) hB rfl hm ub (OU hB λq hq=>by cases hq);have cb6:C.toList=[]++jx (yF d k i)++rest:=by rw[hCl,hfi];simp
   obtain⟨hI3,_⟩:=Ck.alloc C 389 (aK<|yF d k i) 6 (sm:=true) (QU _) (by rw[iZ,hdl,hCs];omega) (λa j e p v q1 q2 q3=>by rw[QV cb6 q1 q2 (by rw[qj,eP];exact q3)];exact .st _ _ (.sc _)) λ_=>Dd _
   have Zp:w0.gV.length=1:=hI.len;obtain⟨m4,hI4,hR4⟩:=dR.keep (r:= .bf 1 (d.length+1)) (h':=[gI,iB (yF d k i) false]) [0,1] rfl rfl dD rfl w0 S _ _ _ (.slice (some ⟨w0.w.heap.size,0,none⟩) (d.length+1) G) hI3 (.bf _ _ _ (by
    have:=cv.own (w:=w0.w.drew.drew.alloc (.cells C 389)) (S:=λx=>S x\/x=b) (m:=w0.gV++ [(w0.w.drew.drew.heap.size,0,6)]) 1 0 (d.length+1) G w0.w.drew.drew.heap.size 0 6 C 389 (by rw[gj U,Zp];rfl) dD (dJ _ _) hGn (by rw[hCs];omega);simpa using this))
   exact⟨.slice (some ⟨w0.w.heap.size,0,none⟩) (d.length+1) G,_,m4,rfl,hI4,λ_ h=> .inl h,hR4⟩
def bI3(d:l_ Inst)(k:Nat)(i:Inst)(hk:k<=d.length)(hd:d.length<=cz):kD P 358 [.bf 0 d.length,I k,.ro [aY.cells i]] [iB d true] (.bf 1<|d.length+1) [gI,iB (yF d k i) false]:=by
 rcases fA k d.length with h|h
 .exact bk6 d k i h hd
 .have e:k=d.length:=U;subst e;have h2:=bk5 d i hd;have e2:yF d d.length i=d++ [i]:=by unfold yF;simp
  rw[e2];exact h2
end
end
section
open Go.PS Wf
def pkF(s:y_):l_ J->dY->Option (J×dY×l_ Prop)
 | [p],t=>some (.bg [U8 (dx s t.a),Bo (decide (t.a<s.size))],t,[p= .ptr 0 0 0,t.a<=s.size])
 |_,_=>none
def bx1 {E:Env}(s:y_)(hE:an P E):an P (cF 356 (BS s<|pkF s) E):=BT hE λaa t r q ob O h2=>by
 unfold pkF at O;split at O
 .cases O;rw[h2 (_=_) ch];exact bk1 s _ _ _ _<|h2 (_<=_) sS
 .cases O
def jI(s:y_)(a:Nat)(c:Int):Bool:=decide<|a<s.size/\dx s a=c
def pk(s:y_)(a:Nat)(c:Int):Nat:=if jI s a c=true then a+1 else a
def bx2 {s:y_} {a:Nat} {c:Int}(h: ¬(a<s.size/\dx s a=c)):jI s a c=false/\pk s a c=a:=by have:jI s a c=false:=fq h;exact⟨this,if_neg (by rw[this];exact dj)⟩
def bI4 {s:y_} {a:Nat} {c:Int}(h:a<s.size/\dx s a=c):jI s a c=true/\pk s a c=a+1:=by have:jI s a c=true:=cd h;exact⟨this,if_pos this⟩
def ENx(s:y_):Env:=cF 356 (BS s<|pkF s) EN
def bI5(s:y_):an P (ENx s):=bx1 s aw
def bk7(s:y_)(a g:Nat)(b:Int)(d:l_ Inst)(c:Int)(ha:a<=s.size)(hs:s.size<=aq):kD P 342 [.ptr 0 0 0,U8 c] [tb s a g 1 d.length b true,iB d true] (Bo<|jI s a c) [tb s (pk s a c) g 1 d.length b true,iB d true]:=by
 have e1:oU ((a:Int)+1)=((a+1:Nat):Int):=by unfold aq at hs;rw[wrap64 U U];omega
 have hg:=dL g;refine cK (bI5 s) L0 (let Z:=(aP,[gW [[S s,I a,I g,J.bf 1 d.length,I b]] 5,ox (aK d) 6]);(.r s<|.r (a:Int)<|.r (g:Int)<|.o [aK d=aK (ff<|aK d),d.length=(ff<|aK d).length]<|.r (aT)<|.o [a<=s.size]<|.m (decide<|a<s.size) (.e Z)<|.u (dx s a) c (.e Z)<|.e (fZ,[gW [[S s,I<|oU<|(a:Int)+1,I g,J.bf 1 d.length,I b]] 5,ox (aK d) 6]))) ?_;try dsimp only
 simp only[e1,fT];clear e1 hg;simp only[av,bK,bO]
 (repeat' with_reducible first|intro _|apply aNd_)<;>first|exact aM|(have q:=bx2 (s:=s) (a:=a) (c:=c) (λh=>absurd h.1 W);rw[q.1,q.2];exact dR.norm rfl rfl rfl)|(have q:=bx2 (s:=s) (a:=a) (c:=c) (λh=>absurd h.2 W);rw[q.1,q.2];exact dR.norm rfl rfl rfl)|(have q:=bI4 (s:=s) (a:=a) (c:=c) ⟨W,W⟩;rw[q.1,q.2];exact dR.norm rfl rfl rfl)
def asI(es:l_ J):Inst:=aY.of es
def reI(i:Inst):l_ J:=aY.cells i
def Uu:l_ J->Hp->Option (J×Hp×l_ Prop):=λaa h=>match aa,h with
 | [.bf 0 n,.sc (.int .i64 k),.ro [es]],[⟨L,0,[],6,true,true⟩]=>some (.bf 1 (n+1),[gI,iB (yF (ff L) k.toNat (asI es)) false],[L=aK (ff L),n=(ff L).length,es=reI (asI es),0<=k,k.toNat<=(ff L).length,(ff L).length<=cz])
 |_,_=>none
def ai4 {E:Env}(hE:an P E):an P (cF 358 Uu E):=fC hE λaa h r h' ob O h2=>by
 unfold Uu at O;split at O
 .rename_i n k es L;cases O;have e1:=h2 (L=aK (ff L)) sS;have e2:=h2 (n=(ff L).length) sS;have e3:=h2 (es=reI (asI es)) sS;have e4:=h2 (0<=k) sS;have q:=bI3 (ff L) k.toNat (asI es) (h2 (k.toNat<=_) sS)<|h2 (_<=cz) sS;rw[rM e4,<-e2,show aY.cells (asI es)=es from e3.symm]at q;unfold iB at q⊢;rw[<-e1]at q;exact q
 .cases O
def cb7:Env:=cF 358 Uu EN
def bk8:an P cb7:=ai4 aw
def cb8(s:y_)(a g:Nat)(b:Int)(d:l_ Inst)(k:Nat)(i:Inst):gD:=λ_=>([0,1,5,6],[],λ_ _=> .out (.ext 0) (M 73 [(0,.ptr 0 0 0),(1,I k),(5,.ptr 2 0 0)]) [tb s a g 1 d.length b true,iB (qH d k<|d.length-k) true,⟨[aY.cells i],0,[],6,false,false⟩])
def De(d:l_ Inst)(k:Nat)(i:Inst):l_ Inst:=yF (qH d k<|d.length-k) k i
def mb(d:l_ Inst)(k:Nat)(i:Inst)(hk:k<=d.length):(De d k i).length=d.length+1:=by unfold De;rw[QT _ _ _ (by rw[uJ];exact hk),uJ]
def ai5(s:y_)(a g:Nat)(b:Int)(d:l_ Inst)(k:Nat)(i:Inst)(hk:k<=d.length)(hd:d.length<=cz):kD P 343 [.ptr 0 0 0,I k,(af Inst).au i] [tb s a g 1 d.length b true,iB d true] (.bg []) [tb s a g 2 (d.length+1) b true,gI,iB (De d k i) false]:=by
 have Zv:=uJ d k<|d.length-k;have Fy:=iZ<|qH d k<|d.length-k;refine cK bk8 (cb8 s a g b d k i) (let Z:=[I i.op,U8 i.c,S i.set,Bo i.neg,I i.x,I i.y];let aG:=gW [[S s,I a,I g,J.bf 1 d.length,I b]] 5;let aS:=qH d k (d.length-k);let V:=aK aS;let bn:=asI (List.take 6 Z);(.o [ax P (aD f343 2) (M 73 [(0,aT),(1,I k),(5,dK 2),(6,I k)]) [aG,ox (aK d) 6,cM [Z] 6] (Out.ext 0) (M 73 [(0,aT),(1,I k),(5,dK 2)]) [aG,ox V 6,cM [Z] 6],aK aS=aK (ff V),d.length=(ff V).length,List.take 6 Z=reI bn,(0:Int)<=(k:Int),k<=(ff V).length,(ff V).length<=1048576]<|.e (J.bg [],[gW [[S s,I a,I g,J.bf 2<|d.length+1,I b]] 5,js 6,dn (aK<|yF (ff V) k bn) 6]))) ?_;try dsimp only
 simp only[fT];simp only[av]
 (repeat' with_reducible first|intro _|apply aNd_)<;>first|exact aM|exact(aQ1 s a g b d k i hk hd).one|(rw[Zv];exact hd)|exact dR.of_eq rfl
section
variable {p r:J}{l:l_ J}{h h':Hp}{E:Env}{s:y_}
def jK:J->J
 | .agg cs=> .agg (cs.map cj)
 |p=>p
def FW {w:World} {S:Nat->Prop} {m:Mp}{v:Value}(h:cv w S m p v):cv w S m (jK p) v:=by
 unfold jK;split
 .rename_i cs;have key:∀vs:Array Value,cs.length=vs.size->(∀(i:Nat) c v,cs[i]?=some c->vs[i]?=some v->cv w S m c v)->cv w S m (.agg<|cs.map cj) (.agg vs):=λvs hl Y=> .agg _ _ (by rw[gS];exact hl) λi c v O h2=>by
   rw[b9]at O;cases hq:cs[i]? with
   |none=>rw[hq]at O;cases O
   |some p=>rw[hq]at O;cases O;exact xS<|Y i p v hq h2
  cases h with
  |st _ _ h=>cases h with
   |agg _ vs hl Y=>exact key vs hl λi c v O h2=> .st _ _<|Y i c v O h2
  |agg _ vs hl Y=>exact key vs hl Y
 .exact h
def XR {f:FuncId} {l':l_ J}(hk:kD P f l' h r h')(hl:l.length=l'.length)(Y:∀(i:Nat) p p',l[i]?=some p->l'[i]?=some p'->∀w S m v,cv w S m p v->cv w S m p' v):kD P f l h r h':=by
 refine⟨hk.1,λw0 S vs q0 q1 q2 q3 q4=>hk.2 w0 S vs q0 q1 q2 U λi p' v r1 r2=> ?_⟩;have hi:i<l.length:=by have:=(bm.1 r1).1;omega
 have Ww:l[i]?=some l[i]:=sS;exact Y i l[i] p' Ww r1 _ _ _ v<|q4 i l[i] v Ww r2
def XS {f:FuncId}(hk:kD P f (l++ [jK p]) h r h'):kD P f (l++ [p]) h r h':=XR hk sS λi a b O h2 w S m v N=>by
 rcases fA i l.length with q|q
 .rw[dy q]at O h2;rw[O]at h2;cases h2;exact N
 .rw[gj q]at O h2;rcases hi:i-l.length with _|k
  .rw[hi]at O h2;cases O;cases h2;exact FW N
  .rw[hi]at O;cases O
def dm(p:J):Inst:=(af Inst).dec<|jK p
def uL(a b:Int)(c:y_)(d:Bool)(x y:Int):dm (.agg [.sc<|.int .i64 a,.sc<|.int .u8 b,.sc<|.string c,.bit d,.sc<|.int .i64 x,.sc<|.int .i64 y])=⟨a,b,c,d,x,y⟩:=rfl
def nxF(s:y_):l_ J->dY->Option (J×dY×l_ Prop)
 | [p,.sc (.int .u8 c)],t=>some (Bo (jI s t.a c), {t with a:=pk s t.a c},[p= .ptr 0 0 0,t.a<=s.size])
 |_,_=>none
def bI6(s:y_)(hs:s.size<=aq)(hE:an P E):an P (cF 342 (BS s<|nxF s) E):=BT hE λaa t r q ob O h2=>by
 unfold nxF at O;split at O
 .cases O;rw[h2 (_=_) ch];exact bk7 s _ _ _ _ _ (h2 (_<=_) sS) hs
 .cases O
def flF:l_ J->dY->Option (J×dY×l_ Prop)
 | [p],t=>some (.bit false, {t with b:=(t.a:Nat)},[p= .ptr 0 0 0])
 |_,_=>none
def bI7(s:y_)(hE:an P E):an P (cF 381 (BS s flF) E):=BT hE λaa t r q ob O h2=>by
 unfold flF at O;split at O
 .cases O;rw[h2 (_=_) ch];exact bk2 s _ _ _ _
 .cases O
def emF:l_ J->dY->Option (J×dY×l_ Prop)
 | [p,i],t=>some (I t.d.length, {t with d:=t.d++ [dm i]},[p= .ptr 0 0 0,jK i=(af Inst).au (dm i),t.d.length<=cz])
 |_,_=>none
def Df(s:y_)(hE:an P E):an P (cF 312 (pj s emF) E):=rm hE λaa t r q ob O h2=>by
 unfold emF at O;split at O
 .rename_i p i;cases O;rw[h2 (p=_) ch];have k:=bk0 s t.a t.g t.b t.d (dm i)<|h2 (t.d.length<=cz) sS;rw[<-h2 (jK i=(af Inst).au (dm i)) sS]at k;have e:(t.d++ [dm i]).length=t.d.length+1:=sS;show kD _ _ _ _ _ [tb s t.a t.g 2 (t.d++ [dm i]).length t.b true,gI,iB (t.d++ [dm i]) false];rw[e];exact XS (l:=[.ptr 0 0 0]) k
 .cases O
def isF:l_ J->dY->Option (J×dY×l_ Prop)
 | [p,.sc (.int .i64 k),i],t=>some (.bg [], {t with d:=De t.d k.toNat (dm i)},[p= .ptr 0 0 0,jK i=(af Inst).au (dm i),0<=k,k.toNat<=t.d.length,t.d.length<=cz])
 |_,_=>none
def aQ5(s:y_)(hE:an P E):an P (cF 343 (pj s isF) E):=rm hE λaa t r q ob O h2=>by
 unfold isF at O;split at O
 .rename_i p k i;cases O;rw[h2 (p=_) ch];have hk:=h2 (k.toNat<=t.d.length) sS;have q:=ai5 s t.a t.g t.b t.d k.toNat (dm i) hk<|h2 (t.d.length<=cz) sS;rw[<-h2 (jK i=(af Inst).au (dm i)) sS,rM<|h2 (0<=k) sS]at q;show kD _ _ _ _ _ [tb s t.a t.g 2 (De t.d k.toNat<|dm i).length t.b true,gI,iB (De t.d k.toNat<|dm i) false];rw[mb _ _ _ hk];exact XS (l:=[.ptr 0 0 0,.sc<|.int .i64 k]) q
 .cases O
def HZ(c:Int):Int:=if c=110 then 10 else if c=116 then 9 else c
def si(s:y_)(t:dY):Int×Bool×dY:=if t.a+1<s.size then(HZ<|dx s<|t.a+1,true, {t with a:=t.a+2})else(0,false, {t with a:=t.a+1,b:=(t.a+1:Nat)})
def sj {t:dY}(h:t.a+1<s.size):si s t=(HZ<|dx s<|t.a+1,true, {t with a:=t.a+2}):=if_pos h
def BW {t:dY}(h: ¬t.a+1<s.size):si s t=(0,false, {t with a:=t.a+1,b:=(t.a+1:Nat)}):=if_neg h
def pH(s:y_)(t:dY):Hp:=[tb s t.a t.g 1 t.d.length t.b true,iB t.d true]
def pK(s:y_)(t q:dY):Hp:=[tb s q.a q.g 1 t.d.length q.b true,iB t.d true]
def pJ(s:y_)(q:dY):Hp:=[tb s q.a q.g 2 q.d.length q.b true,gI,iB q.d false]
def EPx(s:y_):Env:=cF 381 (BS s flF)<|cF 342 (BS s<|nxF s)<|cF 356 (BS s<|pkF s) EN
def xj(s:y_)(hs:s.size<=aq:=by assumption):an P (EPx s):=bI7 s<|bI6 s hs<|bx1 s aw
def bI8(s:y_)(t:dY)(ha:t.a<s.size)(hs:s.size<=aq):kD P 384 [.ptr 0 0 0] (pH s t) (.bg [U8 (si s t).1,Bo (si s t).2.1]) (pK s t (si s t).2.2):=by
 have e1:oU ((t.a:Int)+1)=((t.a+1:Nat):Int):=by unfold aq at hs;rw[wrap64 U U];omega
 have e2:t.a+1<s.size->oU (((t.a+1:Nat):Int)+1)=((t.a+2:Nat):Int):=λh=>by unfold aq at hs;rw[wrap64 U U];omega
 refine cK (xj s) L0 (let Z:=oU ((t.a:Int)+1);let aS:=(Z.toNat:Int);let bn:=dx s Z.toNat;let bH:=aK t.d;let V:=[gW [[S s,I<|oU<|aS+1,I t.g,J.bf 1 t.d.length,I t.b]] 5,ox bH 6];let aG:=[aK t.d=aK (ff bH),t.d.length=(ff bH).length];(.r s<|.o [oU ((t.a:Int)+1)=aS]<|.r (t.g:Int)<|.o aG<|.r (aT)<|.o [Z.toNat<=s.size]<|.m (decide<|Z.toNat<s.size) (.r s<|.r aS<|.r (t.g:Int)<|.o aG<|.r (aT)<|.e (J.bg [U8 0,aP],[gW [[S s,I aS,I t.g,J.bf 1 t.d.length,I aS]] 5,ox bH 6]))<|.q bn 110 (.e (J.bg [U8 10,fZ],V))<|.q bn 116 (.e (J.bg [U8 9,fZ],V))<|.e (J.bg [U8 bn,fZ],V))) ?_;try dsimp only
 simp only[e1,dL,fT];clear e1;simp only[av,bK,bO]
 (repeat' with_reducible first|intro _|apply aNd_)<;>first|exact aM|(rw[BW W];exact dR.uD rfl rfl)|(have h:t.a+1<s.size:=W;have k:HZ (dx s<|t.a+1)=10:=(if_pos W);rw[sj h,e2 h,k];exact dR.uD rfl rfl)|(have h:t.a+1<s.size:=W;have k:HZ (dx s<|t.a+1)=9:=((if_neg W).trans<|if_pos W);rw[sj h,e2 h,k];exact dR.uD rfl rfl)|(have h:t.a+1<s.size:=W;have k:HZ (dx s<|t.a+1)=dx s (t.a+1):=((if_neg W).trans<|if_neg W);rw[sj h,e2 h,k];exact dR.uD rfl rfl)
def esF(s:y_):l_ J->dY->Option (J×dY×l_ Prop)
 | [p],t=>some (.bg [U8 (si s t).1,Bo (si s t).2.1],(si s t).2.2,[p= .ptr 0 0 0,t.a<s.size])
 |_,_=>none
def aQ6(s:y_)(hs:s.size<=aq)(hE:an P E):an P (cF 384 (BS s<|esF s) E):=BT hE λaa t r q ob O h2=>by
 unfold esF at O;split at O
 .cases O;rw[h2 (_=_) ch];exact bI8 s _ (h2 (_<_) sS) hs
 .cases O
def ECh(s:y_):Env:=cF 384 (BS s<|esF s)<|EPx s
def bI9(s:y_)(hs:s.size<=aq:=by assumption):an P (ECh s):=aQ6 s hs<|xj s
def bd(s:y_)(t:dY):Int×Bool×dY:=if ¬t.a<s.size\/dx s t.a=93\/dx s t.a=45 then(0,false, {t with b:=(t.a:Nat)})else if dx s t.a=92 then si s t else(dx s t.a,true, {t with a:=t.a+1})
def sk {t:dY}(h: ¬t.a<s.size\/dx s t.a=93\/dx s t.a=45):bd s t=(0,false, {t with b:=(t.a:Nat)}):=if_pos h
def Dg {t:dY}(h: ¬(¬t.a<s.size\/dx s t.a=93\/dx s t.a=45))(h2:dx s t.a=92):bd s t=si s t:=(if_neg h).trans<|if_pos h2
def Dh {t:dY}(h: ¬(¬t.a<s.size\/dx s t.a=93\/dx s t.a=45))(h2: ¬dx s t.a=92):bd s t=(dx s t.a,true, {t with a:=t.a+1}):=(if_neg h).trans<|if_neg h2
def bk9(s:y_)(t:dY)(ha:t.a<=s.size)(hs:s.size<=aq):kD P 393 [.ptr 0 0 0] (pH s t) (.bg [U8 (bd s t).1,Bo (bd s t).2.1]) (pK s t (bd s t).2.2):=by
 have e1:oU ((t.a:Int)+1)=((t.a+1:Nat):Int):=by unfold aq at hs;rw[wrap64 U U];omega
 refine cK (bI9 s) L0 (let aS:=aK t.d;let V:=si s (dY.mk t.a t.g t.b<|ff aS);let aG:=[aK t.d=aK (ff aS),t.d.length=(ff aS).length];let bn:=J.bf 1 t.d.length;let bH:=(t.a:Int);let Z:TcH:=(.r s<|.r bH<|.r (t.g:Int)<|.o aG<|.r (aT)<|.e (J.bg [U8 0,aP],[gW [[S s,I t.a,I t.g,bn,I t.a]] 5,ox aS 6]));let cp:=dx s t.a;(.r s<|.r bH<|.r (t.g:Int)<|.o aG<|.r (aT)<|.o [t.a<=s.size]<|.m (decide<|t.a<s.size) Z<|.q cp 93 Z<|.q cp 45 Z<|.q cp 92 (.r s<|.r bH<|.r (t.g:Int)<|.o aG<|.r (aT)<|.o [t.a<s.size]<|.e (J.bg [U8 V.fst,Bo V.snd.fst],[gW [[S s,I V.snd.snd.a,I V.snd.snd.g,bn,I V.snd.snd.b]] 5,ox aS 6]))<|.e (J.bg [U8 cp,fZ],[gW [[S s,I<|oU<|bH+1,I t.g,bn,I t.b]] 5,ox aS 6]))) ?_;try dsimp only
 simp only[e1,fT];clear e1;simp only[av,bK,bO]
 (repeat' with_reducible first|intro _|apply aNd_)<;>first|exact aM|(rw[sk<|.inl W];exact dR.uD rfl rfl)|(rw[sk<|.inr<|.inl W];exact dR.uD rfl rfl)|(rw[sk<|.inr<|.inr W];exact dR.uD rfl rfl)|(have q: ¬(¬t.a<s.size\/dx s t.a=93\/dx s t.a=45):=(by intro q;exact q.elim (λq=>q W) (λq=>q.elim (λq=>absurd q W) (λq=>absurd q W)));first|(rw[Dg q W];exact dR.of_eq rfl)|(rw[Dh q W];exact dR.uD rfl rfl))
end
def chF(s:y_):l_ J->dY->Option (J×dY×l_ Prop)
 | [p],t=>some (.bg [U8 (bd s t).1,Bo (bd s t).2.1],(bd s t).2.2,[p= .ptr 0 0 0,t.a<=s.size])
 |_,_=>none
def bJ0 {E:Env}(s:y_)(hs:s.size<=aq)(hE:an P E):an P (cF 393 (BS s<|chF s) E):=BT hE λaa t r q ob O h2=>by
 unfold chF at O;split at O
 .cases O;rw[h2 (_=_) ch];exact bk9 s _ (h2 (_<=_) sS) hs
 .cases O
def ECl(s:y_):Env:=cF 312 (pj s emF)<|cF 393 (BS s<|chF s)<|EPx s
def Nr(s:y_)(hs:s.size<=aq:=by assumption):an P (ECl s):=Df s<|bJ0 s hs<|xj s
section
variable {s:y_}{a:Nat}{c:Int}
def nu(s:y_)(t:dY):Bool×Int×Int×dY:=
 if(bd s t).2.1=false then(false,0,0,(bd s t).2.2)
 else if jI s (bd s t).2.2.a 45=false then(true,(bd s t).1,(bd s t).1,(bd s t).2.2)
 else if(bd s {(bd s t).2.2 with a:=(bd s t).2.2.a+1}).2.1=false then(false,0,0,(bd s {(bd s t).2.2 with a:=(bd s t).2.2.a+1}).2.2)
 else if(bd s {(bd s t).2.2 with a:=(bd s t).2.2.a+1}).1<(bd s t).1 then(false,0,0, {(bd s {(bd s t).2.2 with a:=(bd s t).2.2.a+1}).2.2 with a:=(bd s {(bd s t).2.2 with a:=(bd s t).2.2.a+1}).2.2.a-1,b:=((bd s {(bd s t).2.2 with a:=(bd s t).2.2.a+1}).2.2.a-1:Nat)})
 else(true,(bd s t).1,(bd s {(bd s t).2.2 with a:=(bd s t).2.2.a+1}).1,(bd s {(bd s t).2.2 with a:=(bd s t).2.2.a+1}).2.2)
def XT {t:dY}(h:(bd s t).2.1=false):nu s t=(false,0,0,(bd s t).2.2):=if_pos h
def bx3 {t:dY}(h:(bd s t).2.1=true)(h2:jI s (bd s t).2.2.a 45=false):nu s t=(true,(bd s t).1,(bd s t).1,(bd s t).2.2):=(if_neg (by rw[h];decide)).trans<|if_pos h2
def aQ7 {t:dY}(h:(bd s t).2.1=true)(h2:jI s (bd s t).2.2.a 45=true)(h3:(bd s {(bd s t).2.2 with a:=(bd s t).2.2.a+1}).2.1=false):nu s t=(false,0,0,(bd s {(bd s t).2.2 with a:=(bd s t).2.2.a+1}).2.2):=(if_neg (by rw[h];decide)).trans<|(if_neg (by rw[h2];decide)).trans<|if_pos h3
def bx4 {t:dY}(h:(bd s t).2.1=true)(h2:jI s (bd s t).2.2.a 45=true)(h3:(bd s {(bd s t).2.2 with a:=(bd s t).2.2.a+1}).2.1=true)(h4:(bd s {(bd s t).2.2 with a:=(bd s t).2.2.a+1}).1<(bd s t).1):nu s t=(false,0,0, {(bd s {(bd s t).2.2 with a:=(bd s t).2.2.a+1}).2.2 with a:=(bd s {(bd s t).2.2 with a:=(bd s t).2.2.a+1}).2.2.a-1,b:=((bd s {(bd s t).2.2 with a:=(bd s t).2.2.a+1}).2.2.a-1:Nat)}):=(if_neg (by rw[h];decide)).trans<|(if_neg (by rw[h2];decide)).trans<|(if_neg (by rw[h3];decide)).trans<|if_pos h4
def bx5 {t:dY}(h:(bd s t).2.1=true)(h2:jI s (bd s t).2.2.a 45=true)(h3:(bd s {(bd s t).2.2 with a:=(bd s t).2.2.a+1}).2.1=true)(h4: ¬(bd s {(bd s t).2.2 with a:=(bd s t).2.2.a+1}).1<(bd s t).1):nu s t=(true,(bd s t).1,(bd s {(bd s t).2.2 with a:=(bd s t).2.2.a+1}).1,(bd s {(bd s t).2.2 with a:=(bd s t).2.2.a+1}).2.2):=(if_neg (by rw[h];decide)).trans<|(if_neg (by rw[h2];decide)).trans<|(if_neg (by rw[h3];decide)).trans<|if_neg h4
def uM {t:dY}(h:t.a<=s.size):(bd s t).2.2.a<=s.size/\(bd s t).2.2.d=t.d/\(bd s t).2.2.g=t.g/\((bd s t).2.1=true->t.a<(bd s t).2.2.a/\(bd s t).2.2.b=t.b):=by
 by_cases O: ¬t.a<s.size\/dx s t.a=93\/dx s t.a=45
 .rw[sk O];exact⟨h,rfl,rfl,λq=>by cases q⟩
 .have h0:t.a<s.size:=U;by_cases h2:dx s t.a=92
  .rw[Dg O h2];by_cases h3:t.a+1<s.size
   .rw[sj h3];refine⟨?_,rfl,rfl,λ_=>⟨?_,rfl⟩⟩
    .show t.a+2<=_;omega
    .show t.a<t.a+2;omega
   .rw[BW h3];refine⟨?_,rfl,rfl,λq=>by cases q⟩;show t.a+1<=_;omega
  .rw[Dh O h2];refine⟨?_,rfl,rfl,λ_=>⟨?_,rfl⟩⟩
   .show t.a+1<=_;omega
   .show t.a<t.a+1;omega
def ki(h:jI s a c=true):a<s.size/\pk s a c=a+1:=⟨(cn h).1,if_pos h⟩
def kL(h:jI s a c=false):pk s a c=a:=if_neg (by rw[h];exact dj)
def QW(a b:Int):y_:=dA [[.sc<|.int .u8 a],[.sc<|.int .u8 b]]
def KV(a b:Int):(QW a b).size=2:=rfl
def Uv {t:dY} {c1 c2:Int} {k1 k2:Bool} {t1 t2:dY}(O:bd s t=(c1,k1,t1))(h2:bd s {t1 with a:=pk s t1.a 45}=(c2,k2,t2)):
  (k1=false->nu s t=(false,0,0,t1))/\(k1=true->jI s t1.a 45=false->nu s t=(true,c1,c1,t1))/\(k1=true->jI s t1.a 45=true->k2=false->nu s t=(false,0,0,t2))/\(k1=true->jI s t1.a 45=true->k2=true->c2<c1->nu s t=(false,0,0, {t2 with a:=t2.a-1,b:=(t2.a-1:Nat)}))/\(k1=true->jI s t1.a 45=true->k2=true-> ¬c2<c1->nu s t=(true,c1,c2,t2)):=by
 have e2:jI s t1.a 45=true->bd s {t1 with a:=t1.a+1}=(c2,k2,t2):=λq=>by rw[<-(ki q).2];exact h2
 refine⟨λq=> ?_,λq r=> ?_,λq r u=> ?_,λq r u v=> ?_,λq r u v=> ?_⟩
 .rw[XT (by rw[O];exact q),O]
 .rw[bx3 (by rw[O];exact q) (by rw[O];exact r),O]
 .rw[aQ7 (by rw[O];exact q) (by rw[O];exact r) (by rw[O];show(bd s {t1 with a:=t1.a+1}).2.1=false;rw[e2 r];exact u),O];show(false,(0:Int),(0:Int),(bd s {t1 with a:=t1.a+1}).2.2)=_;rw[e2 r]
 .rw[bx4 (by rw[O];exact q) (by rw[O];exact r) (by rw[O];show(bd s {t1 with a:=t1.a+1}).2.1=true;rw[e2 r];exact u) (by rw[O];show(bd s {t1 with a:=t1.a+1}).1<c1;rw[e2 r];exact v),O];show(false,(0:Int),(0:Int), {(bd s {t1 with a:=t1.a+1}).2.2 with a:=(bd s {t1 with a:=t1.a+1}).2.2.a-1,b:=((bd s {t1 with a:=t1.a+1}).2.2.a-1:Nat)})=_;rw[e2 r]
 .rw[bx5 (by rw[O];exact q) (by rw[O];exact r) (by rw[O];show(bd s {t1 with a:=t1.a+1}).2.1=true;rw[e2 r];exact u) (by rw[O];show ¬(bd s {t1 with a:=t1.a+1}).1<c1;rw[e2 r];exact v),O];show(true,c1,(bd s {t1 with a:=t1.a+1}).1,(bd s {t1 with a:=t1.a+1}).2.2)=_;rw[e2 r]
def kB(neg:Bool)(S0:y_):dW:=⟨[[I 3,U8 0,S S0,Bo neg,I 0,I 0]],0,[],6,false,false⟩
def XU (s:y_) (a g:Nat) (b:Int) (d:l_ Inst) (hs:s.size<=1048576) (neg:Bool) (S0:y_) (hS:S0.size<=4194304) (ha:a<=s.size) (lt:LT) (oI:(nu s ⟨a,g,b,d⟩).1=false->lt.ends (.ret,(M 57 [(2,.bit false)]),[tb s (nu s ⟨a,g,b,d⟩).2.2.2.a (nu s ⟨a,g,b,d⟩).2.2.2.g 1 d.length (nu s ⟨a,g,b,d⟩).2.2.2.b true,iB d true]))
  (aW:(nu s ⟨a,g,b,d⟩).1=true->aO P (aD f383 3) (M 57 [(0,.ptr 0 0 0),(3,.ptr 2 0 0),(4,.bit false)]) [tb s (nu s ⟨a,g,b,d⟩).2.2.2.a (nu s ⟨a,g,b,d⟩).2.2.2.g 1 d.length (nu s ⟨a,g,b,d⟩).2.2.2.b true,iB d true,kB neg<|S0++QW (nu s ⟨a,g,b,d⟩).2.1 (nu s ⟨a,g,b,d⟩).2.2.1] lt):
  aO P (aD f383 3) (M 57 [(0,.ptr 0 0 0),(3,.ptr 2 0 0),(4,.bit true)]) [tb s a g 1 d.length b true,iB d true,kB neg S0] lt:=by
 have vd:s.size<=aq:=by unfold aq;omega
 refine ao (Nr s) L0 [0,3,4] [2,10000,10003] (let V:=bd s (dY.mk a g b<|ff<|aK d);let Z:=bd s (dY.mk (pk s V.snd.snd.a 45) V.snd.snd.g V.snd.snd.b<|ff<|aK d);let aG:=[aK d=aK (ff<|aK d),d.length=(ff<|aK d).length];let aS:=(↑(oU<|(Z.snd.snd.a:Int)-1).toNat:Int);let bn:=[[S s,I Z.snd.snd.a,I Z.snd.snd.g,J.bf 1 d.length,I Z.snd.snd.b]];let bH:=M 57 [(0,aT),(3,dK 2),(4,aP)];(.r s<|.r (a:Int)<|.r (g:Int)<|.o aG<|.r (aT)<|.o [a<=s.size]<|.m (V.snd.fst) (kG (M 57 [(2,aP)]) [gW [[S s,I V.snd.snd.a,I V.snd.snd.g,J.bf 1 d.length,I V.snd.snd.b]] 5,ox (aK d) 6])<|.r s<|.r (V.snd.snd.a:Int)<|.r (V.snd.snd.g:Int)<|.o aG<|.r (aT)<|.o [V.snd.snd.a<=s.size]<|.n (jI s V.snd.snd.a 45) (.r s<|.r (↑(pk s V.snd.snd.a 45):Int)<|.r (V.snd.snd.g:Int)<|.o aG<|.r (aT)<|.o [pk s V.snd.snd.a 45<=s.size]<|.m (Z.snd.fst) (kG (M 57 [(2,aP)]) [gW bn 5,ox (aK d) 6])<|.d (Z.fst<V.fst) (.r s<|.o [oU ((Z.snd.snd.a:Int)-1)=aS]<|.r (Z.snd.snd.g:Int)<|.o aG<|.r (aT)<|kG (M 57 [(2,aP)]) [gW [[S s,I aS,I Z.snd.snd.g,J.bf 1 d.length,I aS]] 5,ox (aK d) 6])<|.r true<|.o [S0.size+(dA [[U8 V.fst],[U8 Z.fst]]).size<=9223372036854775807]<|bR bH [gW bn 5,ox (aK d) 6,cM [[I 3,U8 0,S<|S0++dA [[U8 V.fst],[U8 Z.fst]],Bo neg,I 0,I 0]] 6])<|.r true<|.o [S0.size+(dA [[U8 V.fst],[U8 V.fst]]).size<=9223372036854775807]<|bR bH [gW [[S s,I (↑(pk s V.snd.snd.a 45):Int),I V.snd.snd.g,J.bf 1 d.length,I V.snd.snd.b]] 5,ox (aK d) 6,cM [[I 3,U8 0,S<|S0++dA [[U8 V.fst],[U8 V.fst]],Bo neg,I 0,I 0]] 6])) ?_;obtain⟨c1,k1,t1,O⟩:∃c k t,bd s ⟨a,g,b,d⟩=(c,k,t):=⟨_,_,_,rfl⟩
 obtain⟨c2,k2,t2,h2⟩:∃c k t,bd s {t1 with a:=pk s t1.a 45}=(c,k,t):=⟨_,_,_,rfl⟩
 have zg:=uM (s:=s) (t:=⟨a,g,b,d⟩) ha;rw[O]at zg;have DJ:pk s t1.a 45<=s.size:=by
  cases q:jI s t1.a 45 with
  |true=>have:=ki q;omega
  |false=>rw[kL q];exact zg.1
 have Et:=uM (s:=s) (t:= {t1 with a:=pk s t1.a 45}) DJ;rw[h2]at Et;have ZD:bd s ⟨pk s t1.a 45,t1.g,t1.b,d⟩=(c2,k2,t2):=by rw[<-h2];show bd s _=bd s ⟨pk s t1.a 45,t1.g,t1.b,t1.d⟩;rw[zg.2.1]
 obtain⟨w1,w2,w3,w4,w5⟩:=Uv O h2;try dsimp only
 simp only[fT,O,ZD];simp only[av,bK,bO,gl,nM]
 (repeat' with_reducible first|intro _|apply aNd_)<;>first|exact aM|exact zg.1|(show S0.size+2<=_;omega)|(have q:pk s t1.a 45<t2.a:=(Et.2.2.2 W).1;have q2:t2.a<=s.size:=Et.1;rw[wrap64 U U];omega)|(have e:=w1 W;rw[e]at oI;exact oI rfl)|(have e:=w3 W W W;rw[e]at oI;exact oI rfl)|(have e:=w4 W W W W;rw[e]at oI;have q:pk s t1.a 45<t2.a:=(Et.2.2.2 W).1;have q2:t2.a<=s.size:=Et.1;have ew:(oU<|(t2.a:Int)-1).toNat=t2.a-1:=(by rw[wrap64 U U];omega);rw[ew];exact oI rfl)|(have e:=w5 W W W W;rw[e]at aW;exact aW rfl)|(have e:=w2 W W;rw[e]at aW;rw[kL W];exact aW rfl)
def class_1 (s:y_) (a g:Nat) (b:Int) (d:l_ Inst) (hs:s.size<=1048576) (neg:Bool) (S0:y_) (hS:S0.size<=4194304) (ha:a<=s.size) (lt:LT) (oI:jI s a 93=false->(nu s ⟨a,g,b,d⟩).1=false->lt.ends (.ret,(M 57 [(2,.bit false)]),[tb s (nu s ⟨a,g,b,d⟩).2.2.2.a (nu s ⟨a,g,b,d⟩).2.2.2.g 1 d.length (nu s ⟨a,g,b,d⟩).2.2.2.b true,iB d true]))
  (so:jI s a 93=true->lt.ends (.ext 0,(M 57 [(0,.ptr 0 0 0),(3,.ptr 2 0 0)]),[tb s (a+1) g 1 d.length b true,iB d true,kB neg S0]))
  (aW:jI s a 93=false->(nu s ⟨a,g,b,d⟩).1=true->aO P (aD f383 3) (M 57 [(0,.ptr 0 0 0),(3,.ptr 2 0 0),(4,.bit false)]) [tb s (nu s ⟨a,g,b,d⟩).2.2.2.a (nu s ⟨a,g,b,d⟩).2.2.2.g 1 d.length (nu s ⟨a,g,b,d⟩).2.2.2.b true,iB d true,kB neg<|S0++QW (nu s ⟨a,g,b,d⟩).2.1 (nu s ⟨a,g,b,d⟩).2.2.1] lt):
  aO P (aD f383 3) (M 57 [(0,.ptr 0 0 0),(3,.ptr 2 0 0),(4,.bit false)]) [tb s a g 1 d.length b true,iB d true,kB neg S0] lt:=by
 have vd:s.size<=aq:=by unfold aq;omega
 refine ao (Nr s) L0 [0,3,4] [2,10000,10003] (let cp:=J.bf 1 d.length;let cu:=ox (aK d) 6;let bC:=M 57 [(0,aT),(3,dK 2),(4,aP)];let bP:=M 57 [(2,aP)];let dE:=ff (aK d);let aG:=[aK d=aK dE,d.length=dE.length];let dV:=pk s a 93;let V:=bd s (dY.mk dV g b dE);let bH:=(V.snd.snd.g:Int);let dk:=[U8 V.fst];let bu:=pk s V.snd.snd.a 45;let Z:=bd s (dY.mk bu V.snd.snd.g V.snd.snd.b dE);let bY:=(Z.snd.snd.a:Int);let aS:=(↑(oU<|bY-1).toNat:Int);let cN:=(Z.snd.snd.g:Int);let bn:=gW [[S s,I bY,I cN,cp,I Z.snd.snd.b]] 5;(.r s<|.r (a:Int)<|.r (g:Int)<|.o aG<|.r (aT)<|.o [a<=s.size]<|.m (jI s a 93) (.r s<|.r (dV:Int)<|.r (g:Int)<|.o aG<|.r (aT)<|.o [pk s a 93<=s.size]<|.m (V.snd.fst) (kG bP [gW [[S s,I V.snd.snd.a,I bH,cp,I V.snd.snd.b]] 5,cu])<|.r s<|.r (V.snd.snd.a:Int)<|.r bH<|.o aG<|.r (aT)<|.o [V.snd.snd.a<=s.size]<|.n (jI s V.snd.snd.a 45) (.r s<|.r (bu:Int)<|.r bH<|.o aG<|.r (aT)<|.o [pk s V.snd.snd.a 45<=s.size]<|.m (Z.snd.fst) (kG bP [bn,cu])<|.d (Z.fst<V.fst) (.r s<|.o [oU (bY-1)=aS]<|.r cN<|.o aG<|.r (aT)<|kG bP [gW [[S s,I aS,I cN,cp,I aS]] 5,cu])<|.r true<|.o [S0.size+(dA [dk,[U8 Z.fst]]).size<=9223372036854775807]<|bR bC [bn,cu,cM [[I 3,U8 0,S<|S0++dA [dk,[U8 Z.fst]],Bo neg,I 0,I 0]] 6])<|.r true<|.o [S0.size+(dA [dk,dk]).size<=9223372036854775807]<|bR bC [gW [[S s,I bu,I bH,cp,I V.snd.snd.b]] 5,cu,cM [[I 3,U8 0,S<|S0++dA [dk,dk],Bo neg,I 0,I 0]] 6])<|fv 0 (M 57 [(0,aT),(3,dK 2)]) [gW [[S s,I dV,I g,cp,I b]] 5,cu,cM [[I 3,U8 0,S S0,Bo neg,I 0,I 0]] 6])) ?_;cases hb:jI s a 93 with
 |true=>
  try dsimp only
  simp only[fT];simp only[av]
  (repeat' with_reducible first|intro _|apply aNd_)<;>first|exact aM|(rw[(ki hb).2];exact so hb)
 |false=>
  replace oI:=oI hb
  replace aW:=aW hb
  have hn:=kL hb;obtain⟨c1,k1,t1,O⟩:∃c k t,bd s ⟨a,g,b,d⟩=(c,k,t):=⟨_,_,_,rfl⟩
  obtain⟨c2,k2,t2,h2⟩:∃c k t,bd s {t1 with a:=pk s t1.a 45}=(c,k,t):=⟨_,_,_,rfl⟩
  have zg:=uM (s:=s) (t:=⟨a,g,b,d⟩) ha;rw[O]at zg;have DJ:pk s t1.a 45<=s.size:=by
   cases q:jI s t1.a 45 with
   |true=>have:=ki q;omega
   |false=>rw[kL q];exact zg.1
  have Et:=uM (s:=s) (t:= {t1 with a:=pk s t1.a 45}) DJ;rw[h2]at Et;have ZD:bd s ⟨pk s t1.a 45,t1.g,t1.b,d⟩=(c2,k2,t2):=by rw[<-h2];show bd s _=bd s ⟨pk s t1.a 45,t1.g,t1.b,t1.d⟩;rw[zg.2.1]
  obtain⟨w1,w2,w3,w4,w5⟩:=Uv O h2;try dsimp only
  simp only[fT,hn,O,ZD];simp only[av]
  (repeat' with_reducible first|intro _|apply aNd_)<;>first|exact aM|exact zg.1|(show S0.size+2<=_;omega)|(have q:pk s t1.a 45<t2.a:=(Et.2.2.2 W).1;have q2:t2.a<=s.size:=Et.1;rw[wrap64 U U];omega)|(have e:=w1 W;rw[e]at oI;exact oI rfl)|(have e:=w3 W W W;rw[e]at oI;exact oI rfl)|(have e:=w4 W W W W;rw[e]at oI;have q:pk s t1.a 45<t2.a:=(Et.2.2.2 W).1;have q2:t2.a<=s.size:=Et.1;have ew:(oU<|(t2.a:Int)-1).toNat=t2.a-1:=(by rw[wrap64 U U];omega);rw[ew];exact oI rfl)|(have e:=w5 W W W W;rw[e]at aW;exact aW rfl)|(have e:=w2 W W;rw[e]at aW;rw[kL W];exact aW rfl)
end
def Ns(s:y_):Nat->dY->y_->Bool×dY×y_
 |0,t,S0=>(false,t,S0)
 |n+1,t,S0=>if jI s t.a 93=true then(true, {t with a:=t.a+1},S0)else if(nu s t).1=false then(false,(nu s t).2.2.2,S0)else Ns s n (nu s t).2.2.2 (S0++QW (nu s t).2.1 (nu s t).2.2.1)
def bJ1(s:y_)(d:l_ Inst)(neg:Bool)(r:Bool×dY×y_):LT:= .ite r.1 (.out (.ext 0) (M 57 [(0,.ptr 0 0 0),(3,.ptr 2 0 0)]) [tb s r.2.1.a r.2.1.g 1 d.length r.2.1.b true,iB d true,kB neg r.2.2])<|.out .ret (M 57 [(2,.bit false)]) [tb s r.2.1.a r.2.1.g 1 d.length r.2.1.b true,iB d true]
def tN {s:y_} {t:dY}(h:t.a<=s.size):(nu s t).2.2.2.a<=s.size/\(nu s t).2.2.2.d=t.d/\(nu s t).2.2.2.g=t.g/\((nu s t).1=true->t.a<(nu s t).2.2.2.a/\(nu s t).2.2.2.b=t.b):=by
 obtain⟨c1,k1,t1,O⟩:∃c k t',bd s t=(c,k,t'):=⟨_,_,_,rfl⟩
 obtain⟨c2,k2,t2,h2⟩:∃c k t',bd s {t1 with a:=pk s t1.a 45}=(c,k,t'):=⟨_,_,_,rfl⟩
 have zg:=uM h;rw[O]at zg;have DJ:pk s t1.a 45<=s.size/\t1.a<=pk s t1.a 45:=by
  cases q:jI s t1.a 45 with
  |true=>have:=ki q;omega
  |false=>rw[kL q];exact⟨zg.1,bE _⟩
 have Et:=uM (s:=s) (t:= {t1 with a:=pk s t1.a 45}) DJ.1;rw[h2]at Et;obtain⟨w1,w2,w3,w4,w5⟩:=Uv O h2;have r1:t1.a<=s.size:=U;have r2:t2.a<=s.size:=Et.1;have d2:t2.d=t.d:=by grind
 have g2:t2.g=t.g:=by grind
 cases hk1:k1 with
 |false=>rw[w1 hk1];exact⟨r1,zg.2.1,zg.2.2.1,λq=>by cases q⟩
 |true=>
  have p1:=zg.2.2.2 hk1;cases hn:jI s t1.a 45 with
  |false=>rw[w2 hk1 hn];exact⟨r1,zg.2.1,zg.2.2.1,λ_=>p1⟩
  |true=>
   cases Cx:k2 with
   |false=>rw[w3 hk1 hn Cx];exact⟨r2,d2,g2,λq=>by cases q⟩
   |true=>
    have p2:pk s t1.a 45<t2.a:=by grind
    have p3:t2.b=t1.b:=by grind
    by_cases Y:c2<c1
    .rw[w4 hk1 hn Cx Y];refine⟨?_,d2,g2,λq=>by cases q⟩;show t2.a-1<=_;omega
    .rw[w5 hk1 hn Cx Y];have p1a:t.a<t1.a:=p1.1;exact⟨r2,d2,g2,λ_=>⟨by show t.a<t2.a;omega,p3.trans p1.2⟩⟩
def bl0(t:dY)(d:l_ Inst)(h:t.d=d):t=⟨t.a,t.g,t.b,d⟩:=by subst h;rfl
theorem XV(s:y_)(d:l_ Inst)(hs:s.size<=1048576)(neg:Bool):∀n t S0,t.d=d->t.a<=s.size->s.size<t.a+n->S0.size<=2*t.a->aO P (aD f383 3) (M 57 [(0,.ptr 0 0 0),(3,.ptr 2 0 0),(4,.bit false)]) [tb s t.a t.g 1 d.length t.b true,iB d true,kB neg S0] (bJ1 s d neg<|Ns s n t S0)
 |0,t,S0,_,ha,hn,_=>U
 |n+1,t,S0,hd,ha,hn,hS=>by
  have hle:=tN ha;have et:=bl0 t d hd;refine class_1 s t.a t.g t.b d hs neg S0 U ha _ ?_ ?_ ?_
  .rw[<-et];intro hx h;unfold Ns;rw[if_neg (by rw[hx];exact dj),if_pos h];exact⟨(λh=>by cases h),λ_=>rfl⟩
  .intro h;unfold Ns;rw[if_pos h];exact⟨λ_=>rfl,(λh=>by cases h)⟩
  .rw[<-et];intro hx h;have hl4:=hle.2.2.2 h;have ih:=XV s d hs neg n (nu s t).2.2.2 (S0++QW (nu s t).2.1 (nu s t).2.2.1) (hle.2.1.trans hd) hle.1 U (by rw[fy,KV];omega)
   conv=>rhs;unfold Ns
   rw[if_neg (by rw[hx];exact dj),if_neg (by rw[h];decide)];exact ih
def cT(s:y_)(t:dY):dY:= {t with a:=pk s t.a 94}
def cE(s:y_)(t:dY):Bool×Int×Int×dY:=nu s<|cT s t
def cS(s:y_)(t:dY):y_:=n_++QW (cE s t).2.1 (cE s t).2.2.1
def cR(s:y_)(t:dY):Bool×dY×y_:=Ns s (s.size+1) (cE s t).2.2.2<|cS s t
def jT(s:y_)(t:dY):Bool×dY:=
 if(cE s t).1=false then(false,(cE s t).2.2.2)
 else if(cR s t).1=false then(false,(cR s t).2.1)
 else(true, {(cR s t).2.1 with d:=t.d++ [⟨3,0,(cR s t).2.2,jI s t.a 94,0,0⟩]})
def QX {s:y_} {t:dY}(O:(cE s t).1=true)(h2:(cR s t).1=true):jT s t=(true, {(cR s t).2.1 with d:=t.d++ [⟨3,0,(cR s t).2.2,jI s t.a 94,0,0⟩]}):=(if_neg (by rw[O];decide)).trans<|if_neg (by rw[h2];decide)
def QY {s:y_} {t:dY}(O:(cE s t).1=true)(h2:(cR s t).1=false):jT s t=(false,(cR s t).2.1):=(if_neg (by rw[O];decide)).trans<|if_pos h2
def bZ8(s:y_)(d:l_ Inst)(neg:Bool)(o:Bool)(r:Bool×dY×y_)(q:dY):gD:=λ_=>([0,3,4],[],λ_ _=>bif o then bJ1 s d neg r else .out .ret (M 57 [(2,.bit false)]) [tb s q.a q.g 1 d.length q.b true,iB d true])
theorem aQ8(s:y_):∀n t S0,t.a<=s.size->(Ns s n t S0).2.1.d=t.d/\(Ns s n t S0).2.1.a<=s.size
 |0,_,_,h=>⟨rfl,h⟩
 |n+1,t,S0,h=>by
  unfold Ns;split
  .rename_i q;exact⟨rfl,(ki q).1⟩
  .split
   .exact⟨(tN h).2.1,(tN h).1⟩
   .have:=aQ8 s n (nu s t).2.2.2 (S0++QW (nu s t).2.1 (nu s t).2.2.1) (tN h).1;exact⟨this.1.trans (tN h).2.1,this.2⟩
def QZ(r:J)(b:Bool)(N:r= .bit b)(s:y_)(q:dY)(d:l_ Inst)(hd:q.d=d):dR (r,[tb s q.a q.g 1 d.length q.b true,iB d true]) (Bo b,pJ s q):=by subst N hd;exact dR.trans (dR.norm rfl rfl rfl)<|dR.move 1 rfl rfl rfl rfl
def aQ9(s:y_)(t:dY)(ha:t.a<=s.size)(hs:s.size<=1048576)(hd:t.d.length<=cz):kD P 383 [.ptr 0 0 0] (pH s t) (Bo (jT s t).1) (pJ s (jT s t).2):=by
 have vd:s.size<=aq:=by unfold aq;omega
 have DJ:pk s t.a 94<=s.size:=by
  cases q:jI s t.a 94 with
  |true=>have:=ki q;omega
  |false=>rw[kL q];exact ha
 have hle:=tN (t:=cT s t) DJ;cases ho:(cE s t).1 with
 |false=>
  have lp:=XU s (pk s t.a 94) t.g t.b t.d hs (jI s t.a 94) ⟨#[]⟩ dD DJ (.out .ret (M 57 [(2,.bit false)]) [tb s (cE s t).2.2.2.a (cE s t).2.2.2.g 1 t.d.length (cE s t).2.2.2.b true,iB t.d true]) (λ_=>rfl) (λh=>by rw[show(nu s ⟨pk s t.a 94,t.g,t.b,t.d⟩).1=false from ho]at h;cases h);have ec:jT s t=(false,(cE s t).2.2.2):=if_pos ho;rw[ec];refine cK (Nr s) (bZ8 s t.d (jI s t.a 94) false (false,t,⟨#[]⟩) (cE s t).2.2.2) (let V:=aK t.d;let Z:=[gW [[S s,I (↑(cE s t).snd.snd.snd.a:Int),I (↑(cE s t).snd.snd.snd.g:Int),J.bf 1 t.d.length,I (cE s t).snd.snd.snd.b]] 5,ox V 6];(.r s<|.r (t.a:Int)<|.r (t.g:Int)<|.o [aK t.d=aK (ff V),t.d.length=(ff V).length]<|.r (aT)<|.o [t.a<=s.size,ax P (aD f383 3) (M 57 [(0,aT),(3,dK 2),(4,fZ)]) [gW [[S s,I (↑(pk s t.a 94):Int),I t.g,J.bf 1 t.d.length,I t.b]] 5,ox V 6,cM [[I 3,U8 0,S (⟨#[]⟩:y_),Bo<|jI s t.a 94,I 0,I 0]] 6] (Out.ret) (M 57 [(2,aP)])<|Z]<|.e (aP,Z))) ?_;try dsimp only
  simp only[fT];simp only[av]
  (repeat' with_reducible first|intro _|apply aNd_)<;>first|exact aM|exact QZ _ false rfl s _ _ hle.2.1
 |true=>
  have lp:=XU s (pk s t.a 94) t.g t.b t.d hs (jI s t.a 94) ⟨#[]⟩ dD DJ (bJ1 s t.d (jI s t.a 94)<|cR s t) (λh=>by rw[show(nu s ⟨pk s t.a 94,t.g,t.b,t.d⟩).1=true from ho]at h;cases h) λ_=>XV s t.d hs (jI s t.a 94) (s.size+1) _ _ hle.2.1 hle.1 U (by rw[fy,KV];have q:(cT s t).a<(nu s<|cT s t).2.2.2.a:=(hle.2.2.2 ho).1;show 0+2<=2*(nu s<|cT s t).2.2.2.a;omega);have hq:=aQ8 s (s.size+1) (cE s t).2.2.2 (cS s t) hle.1;refine cK (Nr s) (bZ8 s t.d (jI s t.a 94) true (cR s t) t) (let aS:=aK t.d;let aG:=[gW [[S s,I (↑(pk s t.a 94):Int),I t.g,J.bf 1 t.d.length,I t.b]] 5,ox aS 6,cM [[I 3,U8 0,S (⟨#[]⟩:y_),Bo<|jI s t.a 94,I 0,I 0]] 6];let bn:=[I 3,U8 0,S (cR s t).snd.snd,Bo<|jI s t.a 94,I 0,I 0];let V:=cj (J.agg bn);let bH:=[aK t.d=aK (ff aS),t.d.length=(ff aS).length];let cp:=(↑(cR s t).snd.fst.a:Int);let cu:=(↑(cR s t).snd.fst.g:Int);let Z:=gW [[S s,I cp,I cu,J.bf 1 t.d.length,I (cR s t).snd.fst.b]] 5;let dk:=(M 57 [(0,aT),(3,dK 2),(4,fZ)]);let bu:=ff aS++ [dm V];(.r s<|.r (t.a:Int)<|.r (t.g:Int)<|.o bH<|.r (aT)<|.o [t.a<=s.size]<|.n ((cR s t).fst) (.o [ax P (aD f383 3) dk aG (Out.ext 0) (M 57 [(0,aT),(3,dK 2)]) [Z,ox aS 6,cM [bn] 6]]<|.r s<|.r cp<|.r cu<|.o bH<|.r (aT)<|.o [jK V=(af Inst).au (dm V),(ff aS).length<=1048576]<|.e (fZ,[gW [[S s,I cp,I cu,J.bf 2 bu.length,I (cR s t).snd.fst.b]] 5,js 6,dn (aK bu) 6]))<|.o [ax P (aD f383 3) dk aG (Out.ret) (M 57 [(2,aP)]) [Z,ox aS 6]]<|.e (aP,[Z,ox aS 6]))) ?_;try dsimp only
  simp only[fT];simp only[av]
  (repeat' with_reducible first|intro _|apply aNd_)<;>first|exact aM|(rw[QX ho W];exact dR.norm rfl rfl rfl)|(rw[QY ho W];exact QZ _ false rfl s _ _ (hq.1.trans hle.2.1))
section
variable {s:y_}{z:Int}{t1:dY}
def qI(s:y_)(t:dY):Prop:=t.a<=s.size/\t.g<=9/\t.d.length<=2*t.a+1
def mv(s:y_)(t:dY)(r:Bool×dY):Prop:=r.1=true->qI s r.2/\t.a<=r.2.a/\t.d.length<=r.2.d.length
abbrev RF:=Int->dY->Bool×dY
def rgF(s:y_)(f:Nat)(R:RF):l_ J->dY->Option (J×dY×l_ Prop)
 | [p,.sc (.int .i64 z)],t=>some (Bo (R z t).1,(R z t).2,[p= .ptr 0 0 0,qI s t,s.size<t.a+f,0<=z/\z<=t.a])
 |_,_=>none
def mO(s:y_)(f:Nat)(R:RF):Prop:=∀(z:Int) (t:dY),qI s t->s.size<t.a+f->(0<=z/\z<=t.a)->kD P 313 [.ptr 0 0 0,I z] (pH s t) (Bo (R z t).1) (pJ s (R z t).2)
def gO(s:y_)(f:Nat)(R:RF):Prop:=∀(z:Int) (t:dY),qI s t->s.size<t.a+f->mv s t (R z t)
def aR0 {E:Env}{f:Nat} {R:RF}(h:mO s f R)(hE:an P E):an P (cF 313 (pj s<|rgF s f R) E):=rm hE λaa t r q ob O h2=>by
 unfold rgF at O;split at O
 .rename_i p z;cases O;rw[h2 (p=_) ch];exact h z t (h2 (qI s t) sS) (h2 (s.size<t.a+f) sS)<|h2 (0<=z/\z<=t.a) sS
 .cases O
def EGr(s:y_)(f:Nat)(R:RF):Env:=cF 313 (pj s<|rgF s f R)<|cF 312 (pj s emF)<|EPx s
def bJ2(s:y_)(f:Nat)(R:RF)(hs:s.size<=aq:=by assumption)(h:mO s f R:=by assumption):an P (EGr s f R):=aR0 h<|Df s<|xj s
def flT(t:dY):dY:= {t with b:=(t.a:Nat)}
def sv(x:Int):Inst:=⟨8,0,n_,false,x,0⟩
def gT(t:dY):dY:= {t with a:=t.a+1,g:=t.g+1,d:=t.d++ [sv<|2*((t.g+1:Nat):Int)]}
def kM(s:y_)(R:RF)(z:Int)(t:dY):Bool×dY:=
 if 9<=t.g then(false, {t with b:=(t.a:Nat)})
 else if(R (z+1)<|gT t).1=false then(false,(R (z+1)<|gT t).2)
 else if jI s (R (z+1)<|gT t).2.a 41=false then(false, {(R (z+1)<|gT t).2 with b:=((R (z+1)<|gT t).2.a:Nat)})
 else(true, {(R (z+1)<|gT t).2 with a:=(R (z+1)<|gT t).2.a+1,d:=(R (z+1)<|gT t).2.d++ [sv<|2*((t.g+1:Nat):Int)+1]})
def H0 {R:RF}{t:dY}(h:9<=t.g):kM s R z t=(false, {t with b:=(t.a:Nat)}):=if_pos h
def H2 {R:RF}{t:dY}(h: ¬9<=t.g)(O:R (z+1) (gT t)=(false,t1)):kM s R z t=(false,t1):=by unfold kM;rw[if_neg h,O,if_pos rfl]
def H4 {R:RF}{t:dY}(h: ¬9<=t.g)(O:R (z+1) (gT t)=(true,t1))(h2:jI s t1.a 41=false):kM s R z t=(false, {t1 with b:=(t1.a:Nat)}):=by unfold kM;rw[if_neg h,O,if_neg Bool.noConfusion,if_pos h2]
def H5 {R:RF}{t:dY}(h: ¬9<=t.g)(O:R (z+1) (gT t)=(true,t1))(h2:jI s t1.a 41=true):kM s R z t=(true, {t1 with a:=t1.a+1,d:=t1.d++ [sv<|2*((t.g+1:Nat):Int)+1]}):=by unfold kM;rw[if_neg h,O,if_neg Bool.noConfusion,if_neg (by rw[h2];decide)]
def aR1(s:y_)(f:Nat)(R:RF)(hs:s.size<=256)(h:mO s f R)(hp:gO s f R)(z:Int)(t:dY)(ht:qI s t)(ha:t.a<s.size)(hf:s.size<t.a+1+f)(hz:0<=z/\z<=t.a):kD P 382 [.ptr 0 0 0,I z] (pH s t) (Bo (kM s R z t).1) (pJ s (kM s R z t).2):=by
 have vd:s.size<=aq:=by unfold aq;omega
 obtain⟨p1,p2,p3⟩:=ht;have e1:oU ((t.a:Int)+1)=((t.a+1:Nat):Int):=by rw[wrap64 U U];omega
 have e2:oU ((t.g:Int)+1)=((t.g+1:Nat):Int):=by rw[wrap64 U U];omega
 have e3:oU (2*((t.g+1:Nat):Int))=2*((t.g+1:Nat):Int):=wrap64 U U;have e4:oU (2*((t.g+1:Nat):Int)+1)=2*((t.g+1:Nat):Int)+1:=wrap64 U U;have e5:oU (z+1)=z+1:=wrap64 U U;obtain⟨k1,t1,O⟩:∃k t',R (z+1) (gT t)=(k,t'):=⟨_,_,rfl⟩
 have OS:R (z+1) ⟨t.a+1,t.g+1,t.b,t.d++ [⟨8,0,n_,false,2*((t.g+1:Nat):Int),0⟩]⟩=(k1,t1):=O;have hpg: ¬9<=t.g->qI s (gT t):=λq=>⟨by show t.a+1<=_;omega,by show t.g+1<=9;omega,by show(t.d++ [_]).length<=2*(t.a+1)+1;rw[br];show _+1<=_;omega⟩
 have sq: ¬9<=t.g->k1=true->qI s t1:=λq r=>by have:=hp (z+1) (gT t) (hpg q) (by show s.size<t.a+1+f;omega);rw[O]at this;exact(this r).1
 refine cK (bJ2 s f R) L0 (let aS:=oU ((t.a:Int)+1);let bC:=ff (aK t.d);let bY:=(t.g:Int);let cp:=oU (bY+1);let cN:=cellOf (Value.string (n_:y_));let dE:=(aS.toNat:Int);let dV:=cellOf (Value.int IntKind.i64 0);let fI:=cellOf (Value.int IntKind.u8 0);let iz:=cellOf (Value.bool false);let V:=cj (J.agg [I 8,fI,cN,iz,I<|oU<|2*oU (bY+1),dV]);let aG:=cj (J.agg [I 8,fI,cN,iz,I<|oU<|oU (2*oU (bY+1))+1,dV]);let bn:=ff (aK t.d)++ [dm V];let eu:=ff (aK bn);let bP:=dY.mk aS.toNat cp.toNat t.b eu;let Z:=R (oU<|z+1) bP;let bH:=aK Z.snd.d;let cu:=(↑(pk s Z.snd.a 41):Int);let dk:=[aK Z.snd.d=aK (ff bH),Z.snd.d.length=(ff bH).length];let bu:=(Z.snd.g:Int);let ia:=J.bf 2 Z.snd.d.length;let iC:=ff bH++ [dm aG];(.r s<|.d (bY>=9) (.r (t.a:Int)<|.r bY<|.o [aK t.d=aK bC,t.d.length=bC.length]<|.r (aT)<|.e (aP,[gW [[S s,I t.a,I t.g,J.bf 1 t.d.length,I t.a]] 5,ox (aK t.d) 6]))<|.o [oU ((t.a:Int)+1)=dE,oU (bY+1)=(cp.toNat:Int),aK t.d=aK bC,t.d.length=bC.length]<|.r (aT)<|.o [jK V=(af Inst).au (dm V),bC.length<=1048576]<|.r s<|.r dE<|.r (cp.toNat:Int)<|.o [aK bn=aK eu,bn.length=eu.length]<|.r (aT)<|.o [qI s bP,s.size<aS.toNat+f,0<=oU (z+1)/\oU (z+1)<=dE]<|.m (Z.fst) (.e (aP,[gW [[S s,I Z.snd.a,I bu,ia,I Z.snd.b]] 5,js 6,dn bH 6]))<|.r s<|.r (Z.snd.a:Int)<|.r bu<|.o dk<|.r (aT)<|.o [Z.snd.a<=s.size]<|.r s<|.r cu<|.r bu<|.o dk<|.r (aT)<|.m (jI s Z.snd.a 41) (.e (aP,[gW [[S s,I cu,I bu,ia,I cu]] 5,js 6,dn bH 6]))<|.o [jK aG=(af Inst).au (dm aG),(ff bH).length<=1048576]<|.e (fZ,[gW [[S s,I cu,I bu,J.bf 2 iC.length,I Z.snd.b]] 5,js 6,dn (aK iC) 6]))) ?_;try dsimp only
 simp only[dL,fT,e1,e2,e3,e4,e5,cellOf,cj,uL,OS];simp only[av]
 (repeat' with_reducible first|intro _|apply aNd_)<;>first|exact aM|exact hpg U|exact(sq U W).1|(have q:=(sq U W).2.2;have q1:=(sq U W).1;omega)|(rw[H0 U];exact QZ (.bit false) false rfl s (flT t) t.d rfl)|(have e:k1=false:=W;rw[e]at O;rw[H2 U O];exact dR.norm rfl rfl rfl)|(have e:k1=true:=W;have n:jI s t1.a 41=false:=W;rw[e]at O;rw[H4 U O n,kL n];exact dR.norm rfl rfl rfl)|(have e:k1=true:=W;have n:jI s t1.a 41=true:=W;rw[e]at O;rw[H5 U O n,(ki n).2];exact dR.norm rfl rfl rfl)
end
def grF(s:y_)(f:Nat)(R:RF):l_ J->dY->Option (J×dY×l_ Prop)
 | [p,.sc (.int .i64 z)],t=>some (Bo (kM s R z t).1,(kM s R z t).2,[p= .ptr 0 0 0,qI s t,t.a<s.size,s.size<t.a+1+f,0<=z/\z<=t.a])
 |_,_=>none
def bJ3 {E:Env} {s:y_} {f:Nat} {R:RF}(hs:s.size<=256)(h:mO s f R)(hp:gO s f R)(hE:an P E):an P (cF 382 (pj s<|grF s f R) E):=rm hE λaa t r q ob O h2=>by
 unfold grF at O;split at O
 .rename_i p z;cases O;rw[h2 (p=_) ch];exact aR1 s f R hs h hp z t (h2 (qI s t) sS) (h2 (t.a<s.size) sS) (h2 (s.size<t.a+1+f) sS)<|h2 (0<=z/\z<=t.a) sS
 .cases O
def csF(s:y_):l_ J->dY->Option (J×dY×l_ Prop)
 | [p],t=>some (Bo (jT s t).1,(jT s t).2,[p= .ptr 0 0 0,t.a<=s.size,t.d.length<=cz])
 |_,_=>none
def bJ4 {E:Env} {s:y_}(hs:s.size<=256)(hE:an P E):an P (cF 383 (pj s<|csF s) E):=rm hE λaa t r q ob O h2=>by
 unfold csF at O;split at O
 .rename_i p;cases O;rw[h2 (p=_) ch];exact aQ9 s t (h2 (t.a<=s.size) sS) U<|h2 (t.d.length<=cz) sS
 .cases O
def EAt(s:y_)(f:Nat)(R:RF):Env:=cF 382 (pj s<|grF s f R)<|cF 383 (pj s<|csF s)<|cF 384 (BS s<|esF s)<|cF 312 (pj s emF)<|EPx s
def bJ5(s:y_)(f:Nat)(R:RF)(hs:s.size<=256:=by assumption)(h:mO s f R:=by assumption)(hp:gO s f R:=by assumption):an P (EAt s f R):=
 have vd:s.size<=aq:=cm hs dD
 bJ3 hs h hp (bJ4 hs<|aQ6 s vd<|Df s<|xj s)
def Oz(k:Int):Inst:=⟨k,0,n_,false,0,0⟩
def chI(c:Int):Inst:=⟨1,c,n_,false,0,0⟩
def H6(t:dY)(i:Inst):dY:= {t with a:=t.a+1,d:=t.d++ [i]}
def adv(t:dY):dY:= {t with a:=t.a+1}
def bJ6(s:y_)(t:dY):dY:= {(si s t).2.2 with d:=t.d++ [chI (si s t).1]}
def bJ7(s:y_)(t:dY):(si s t).2.2.d=t.d:=by unfold si;split<;>rfl
def fl(s:y_)(R:RF)(z:Int)(t:dY):Bool×dY:=
 if ¬t.a<s.size then(false,flT t)
 else if dx s t.a=40 then kM s R z t
 else if dx s t.a=41\/dx s t.a=42\/dx s t.a=43\/dx s t.a=63 then(false,flT t)
 else if dx s t.a=46 then(true,H6 t<|Oz 2)
 else if dx s t.a=94 then(true,H6 t<|Oz 4)
 else if dx s t.a=36 then(true,H6 t<|Oz 5)
 else if dx s t.a=91 then jT s (adv t)
 else if dx s t.a=92 then(if(si s t).2.1=false then(false,(si s t).2.2)else(true,bJ6 s t))
 else(true,H6 t<|chI<|dx s t.a)
def bl1(s:y_)(f:Nat)(R:RF)(hs:s.size<=256)(h:mO s f R)(hp:gO s f R)(z:Int)(t:dY)(ht:qI s t)(hf:s.size<t.a+1+f)(hz:0<=z/\z<=t.a):kD P 369 [.ptr 0 0 0,I z] (pH s t) (Bo (fl s R z t).1) (pJ s (fl s R z t).2):=by
 have vd:s.size<=aq:=by unfold aq;omega
 have ht':=ht;obtain⟨p1,p2,p3⟩:=ht;have e1:oU ((t.a:Int)+1)=((t.a+1:Nat):Int):=by rw[wrap64 U U];omega
 refine cK (bJ5 s f R) L0 (let Z:=cellOf (Value.int IntKind.i64 0);let aG:=cellOf (Value.string (n_:y_));let bH:=cellOf (Value.bool false);let cu:=cellOf (Value.int IntKind.u8 0);let bY:=cj (J.agg [I 2,cu,aG,bH,Z,Z]);let cN:=cj (J.agg [I 4,cu,aG,bH,Z,Z]);let dE:=cj (J.agg [I 5,cu,aG,bH,Z,Z]);let dV:=aK t.d;let fI:=dx s t.a;let bC:=cj (J.agg [I 1,U8 fI,aG,bH,Z,Z]);let ia:=(t.a:Int);let dk:=oU (ia+1);let iC:=(t.g:Int);let ka:=af Inst;let kV:=ff dV;let aS:=dY.mk t.a t.g t.b kV;let bn:=[aK t.d=aK kV,t.d.length=kV.length];let V:TcH:=(.r ia<|.r iC<|.o bn<|.r (aT)<|.e (aP,[gW [[S s,I t.a,I t.g,J.bf 1 t.d.length,I t.a]] 5,ox dV 6]));let cp:=jT s (dY.mk dk.toNat t.g t.b kV);let bP:=kV.length<=1048576;let eu:=si s aS;let bu:=cj (J.agg [I 1,U8 eu.fst,aG,bH,Z,Z]);let iz:=kM s R z aS;let jn:=(eu.snd.snd.a:Int);let iD:=(eu.snd.snd.g:Int);let lg:=ff dV++ [dm bY];let mA:=ff dV++ [dm cN];let lT:=ff dV++ [dm dE];let r9:=ff dV++ [dm bu];let vD:=ff dV++ [dm bC];(.r s<|.r ia<|.r iC<|.o bn<|.r (aT)<|.o [t.a<=s.size]<|.r s<|.m (decide<|t.a<s.size) V<|.q fI 40 (.r ia<|.r iC<|.o bn<|.r (aT)<|.o [qI s aS,t.a<s.size,s.size<t.a+1+f,0<=z/\z<=ia]<|.e (Bo iz.fst,[gW [[S s,I iz.snd.a,I iz.snd.g,J.bf 2 iz.snd.d.length,I iz.snd.b]] 5,js 6,dn (aK iz.snd.d) 6]))<|.q fI 41 V<|.q fI 42 V<|.q fI 43 V<|.q fI 63 V<|.q fI 46 (.r ia<|.r iC<|.o bn<|.r (aT)<|.o [jK bY=ka.au (dm bY),bP]<|.e (fZ,[gW [[S s,I dk,I t.g,J.bf 2 lg.length,I t.b]] 5,js 6,dn (aK lg) 6]))<|.q fI 94 (.r ia<|.r iC<|.o bn<|.r (aT)<|.o [jK cN=ka.au (dm cN),bP]<|.e (fZ,[gW [[S s,I dk,I t.g,J.bf 2 mA.length,I t.b]] 5,js 6,dn (aK mA) 6]))<|.q fI 36 (.r ia<|.r iC<|.o bn<|.r (aT)<|.o [jK dE=ka.au (dm dE),bP]<|.e (fZ,[gW [[S s,I dk,I t.g,J.bf 2 lT.length,I t.b]] 5,js 6,dn (aK lT) 6]))<|.q fI 91 (.o [oU (ia+1)=(dk.toNat:Int)]<|.r iC<|.o bn<|.r (aT)<|.o [dk.toNat<=s.size,bP]<|.e (Bo cp.fst,[gW [[S s,I cp.snd.a,I cp.snd.g,J.bf 2 cp.snd.d.length,I cp.snd.b]] 5,js 6,dn (aK cp.snd.d) 6]))<|.r ia<|.r iC<|.o bn<|.r (aT)<|.q fI 92 (.o [t.a<s.size]<|.m (eu.snd.fst) (.e (aP,[gW [[S s,I jn,I iD,J.bf 1 t.d.length,I eu.snd.snd.b]] 5,ox dV 6]))<|.r s<|.r jn<|.r iD<|.o bn<|.r (aT)<|.o [jK bu=ka.au (dm bu),bP]<|.e (fZ,[gW [[S s,I jn,I iD,J.bf 2 r9.length,I eu.snd.snd.b]] 5,js 6,dn (aK r9) 6]))<|.o [jK bC=ka.au (dm bC),bP]<|.e (fZ,[gW [[S s,I dk,I t.g,J.bf 2 vD.length,I t.b]] 5,js 6,dn (aK vD) 6]))) ?_
 try dsimp only
 simp only[dL,fT,e1,cellOf,cj,uL];simp only[av,bK,bO]
 (repeat' with_reducible first|intro _|apply aNd_)<;>first|exact aM|(have e:fl s R z t=(false,flT t):=(by unfold fl;simp [*]);rw[e];exact QZ (.bit false) false rfl s (flT t) t.d rfl)|(have e:fl s R z t=kM s R z t:=(by unfold fl;simp [*]);rw[e];exact dR.of_eq rfl)|(have e:fl s R z t=(true,H6 t<|Oz 2):=(by unfold fl;simp [*]);rw[e];exact dR.norm rfl rfl rfl)|(have e:fl s R z t=(true,H6 t<|Oz 4):=(by unfold fl;simp [*]);rw[e];exact dR.norm rfl rfl rfl)|(have e:fl s R z t=(true,H6 t<|Oz 5):=(by unfold fl;simp [*]);rw[e];exact dR.norm rfl rfl rfl)|(have e:fl s R z t=jT s (adv t):=(by unfold fl;simp [*]);rw[e];exact dR.of_eq rfl)|(have k:(si s t).2.1=false:=W;have e:fl s R z t=(false,(si s t).2.2):=(by unfold fl;simp [*]);rw[e];exact QZ (.bit false) false rfl s _ t.d (bJ7 s t))|(have k:(si s t).2.1=true:=W;have e:fl s R z t=(true,bJ6 s t):=(by unfold fl;simp [*]);rw[e];exact dR.norm rfl rfl rfl)|(have e:fl s R z t=(true,H6 t<|chI<|dx s t.a):=(by unfold fl;simp [*]);rw[e];exact dR.norm rfl rfl rfl)
theorem Q0(s:y_):∀n t S0,t.a<=s.size->(Ns s n t S0).1=true->t.a<(Ns s n t S0).2.1.a/\(Ns s n t S0).2.1.g=t.g
 |0,_,_,_,h=>by cases h
 |n+1,t,S0,ha,h=>by
  unfold Ns at h⊢;split at h
  .rename_i q;rw[if_pos q];exact⟨rK _,rfl⟩
  .rename_i q;rw[if_neg q];split at h
   .cases h
   .rename_i q2;rw[if_neg q2];have F:(nu s t).1=true:=by grind
    have hl:=tN ha;have ih:=Q0 s n _ _ hl.1 h;exact⟨Nat.lt_trans (hl.2.2.2 F).1 ih.1,ih.2.trans hl.2.2.1⟩
def Uw(s:y_)(t:dY)(ha:t.a<=s.size)(h:(jT s t).1=true):t.a<(jT s t).2.a/\(jT s t).2.a<=s.size/\(jT s t).2.g=t.g/\(jT s t).2.d.length=t.d.length+1:=by
 have DJ:pk s t.a 94<=s.size/\t.a<=pk s t.a 94:=by
  cases q:jI s t.a 94 with
  |true=>have:=ki q;omega
  |false=>rw[kL q];exact⟨ha,bE _⟩
 have hl:=tN (t:=cT s t) DJ.1;unfold jT at h⊢;split at h
 .cases h
 .rename_i q1;rw[if_neg q1];have F:(cE s t).1=true:=by grind
  split at h
  .cases h
  .rename_i q2;rw[if_neg q2];have N:(cR s t).1=true:=by grind
   have p1:=Q0 s (s.size+1) (cE s t).2.2.2 (cS s t) hl.1 N;have p2:=aQ8 s (s.size+1) (cE s t).2.2.2 (cS s t) hl.1;have p3:pk s t.a 94<(cE s t).2.2.2.a:=(hl.2.2.2 F).1;refine⟨?_,p2.2,?_,?_⟩
   .show t.a<(cR s t).2.1.a;have:(cE s t).2.2.2.a<(cR s t).2.1.a:=p1.1;omega
   .exact p1.2.trans hl.2.2.1
   .show(t.d++ [_]).length=_;rw[br];rfl
def Ux {s:y_} {f:Nat} {R:RF}(hp:gO s f R) {z:Int} {t:dY}(ht:qI s t)(ha:t.a<s.size)(hf:s.size<t.a+1+f)(h:(kM s R z t).1=true):qI s (kM s R z t).2/\t.a<(kM s R z t).2.a/\t.d.length<=(kM s R z t).2.d.length:=by
 obtain⟨p1,p2,p3⟩:=ht;by_cases hg:9<=t.g
 .rw[H0 hg]at h;cases h
 .obtain⟨k1,t1,O⟩:∃k t',R (z+1) (gT t)=(k,t'):=⟨_,_,rfl⟩
  have hpg:qI s (gT t):=⟨by show t.a+1<=_;omega,by show t.g+1<=9;omega,by show(t.d++ [_]).length<=2*(t.a+1)+1;rw[br];show _+1<=_;omega⟩
  have sq:=hp (z+1) (gT t) hpg (by show s.size<t.a+1+f;omega);rw[O]at sq;cases k1 with
  |false=>rw[H2 hg O]at h;cases h
  |true=>
   obtain⟨⟨o1,o2,o3⟩,o4,o5⟩:=sq rfl;have o4':t.a+1<=t1.a:=o4;have Uy:(t.d++ [sv<|2*((t.g+1:Nat):Int)]).length<=t1.d.length:=o5;rw[br]at Uy;cases hn:jI s t1.a 41 with
   |false=>rw[H4 hg O hn]at h;cases h
   |true=>
    rw[H5 hg O hn];have:=(ki hn).1;refine⟨⟨?_,o2,?_⟩,?_,?_⟩
    .show t1.a+1<=_;omega
    .show(t1.d++ [_]).length<=2*(t1.a+1)+1;rw[br];show t1.d.length+1<=_;have:t1.d.length<=2*t1.a+1:=o3;omega
    .show t.a<t1.a+1;omega
    .show _<=(t1.d++ [_]).length;rw[br];show _<=t1.d.length+1;omega
def yi {s:y_} {t:dY}(i:Inst)(ht:qI s t)(ha:t.a<s.size):qI s (H6 t i)/\t.a<(H6 t i).a/\t.d.length<=(H6 t i).d.length:=by
 obtain⟨p1,p2,p3⟩:=ht;refine⟨⟨?_,p2,?_⟩,?_,?_⟩
 .show t.a+1<=_;omega
 .show(t.d++ [_]).length<=2*(t.a+1)+1;rw[br];show _+1<=_;omega
 .show t.a<t.a+1;omega
 .show _<=(t.d++ [_]).length;rw[br];omega
def KW {s:y_} {f:Nat} {R:RF}(hp:gO s f R) {z:Int} {t:dY}(ht:qI s t)(hf:s.size<t.a+1+f)(h:(fl s R z t).1=true):qI s (fl s R z t).2/\t.a<(fl s R z t).2.a/\t.d.length<=(fl s R z t).2.d.length:=by
 unfold fl at h⊢;split at h
 .cases h
 .rename_i O;have ha:t.a<s.size:=U;rw[if_neg O];split at h
  .rename_i h2;rw[if_pos h2];exact Ux hp ht ha hf h
  .rename_i h2;rw[if_neg h2];split at h
   .cases h
   .rename_i h3;rw[if_neg h3];split at h
    .rename_i h4;rw[if_pos h4];exact yi _ ht ha
    .rename_i h4;rw[if_neg h4];split at h
     .rename_i h5;rw[if_pos h5];exact yi _ ht ha
     .rename_i h5;rw[if_neg h5];split at h
      .rename_i h6;rw[if_pos h6];exact yi _ ht ha
      .rename_i h6;rw[if_neg h6];obtain⟨p1,p2,p3⟩:=ht;split at h
       .rename_i h7;rw[if_pos h7];obtain⟨c1,c2,c3,c4⟩:=Uw s (adv t) (by show t.a+1<=_;omega) h;have c1':t.a+1<(jT s<|adv t).2.a:=c1;have c4':(jT s<|adv t).2.d.length=t.d.length+1:=c4;exact⟨⟨c2,by rw[c3];exact p2,U⟩,U,U⟩
       .rename_i h7;rw[if_neg h7];split at h
        .rename_i h8;rw[if_pos h8];split at h
         .cases h
         .rename_i h9;rw[if_neg h9];by_cases F:t.a+1<s.size
          .unfold bJ6;rw[sj F];refine⟨⟨?_,p2,?_⟩,?_,?_⟩
           .show t.a+2<=_;omega
           .show(t.d++ [_]).length<=2*(t.a+2)+1;rw[br];show _+1<=_;omega
           .show t.a<t.a+2;omega
           .show _<=(t.d++ [_]).length;rw[br];omega
          .rw[BW F]at h9;exact absurd rfl h9
        .rename_i h8;rw[if_neg h8];exact yi _ ⟨p1,p2,p3⟩ ha
def atF(s:y_)(f:Nat)(R:RF):l_ J->dY->Option (J×dY×l_ Prop)
 | [p,.sc (.int .i64 z)],t=>some (Bo (fl s R z t).1,(fl s R z t).2,[p= .ptr 0 0 0,qI s t,s.size<t.a+1+f,0<=z/\z<=t.a])
 |_,_=>none
def bJ8 {E:Env} {s:y_} {f:Nat} {R:RF}(hs:s.size<=256)(h:mO s f R)(hp:gO s f R)(hE:an P E):an P (cF 369 (pj s<|atF s f R) E):=rm hE λaa t r q ob O h2=>by
 unfold atF at O;split at O
 .rename_i p z;cases O;rw[h2 (p=_) ch];exact bl1 s f R hs h hp z t (h2 (qI s t) sS) (h2 (s.size<t.a+1+f) sS)<|h2 (0<=z/\z<=t.a) sS
 .cases O
def bx6(E:Env):Env:=vV (λid _ _=>match id with
 |0=>none
 |_=>some (.cell cj4)) E
def EPc(s:y_)(f:Nat)(R:RF):Env:=bx6<|cF 369 (pj s<|atF s f R)<|cF 343 (pj s isF)<|cF 312 (pj s emF)<|EPx s
def bJ9(s:y_)(f:Nat)(R:RF)(hs:s.size<=256:=by assumption)(h:mO s f R:=by assumption)(hp:gO s f R:=by assumption):an P (EPc s f R):=
 have vd:s.size<=aq:=cm hs dD
 j7 (bJ8 hs h hp<|aQ5 s<|Df s<|xj s)
def Di(x:Int):Inst:=⟨6,0,n_,false,x,0⟩
def jpI(x:Int):Inst:=⟨7,0,n_,false,x,0⟩
def lz(d:l_ Inst)(k:Nat)(v:Int):l_ Inst:=d.set k {d.getD k i0 with y:=v}
def od(d:l_ Inst)(k:Nat)(v:Int):l_ Inst:=d.set k {d.getD k i0 with x:=v}
def fm(d:l_ Inst)(k:Nat)(v:Int):(lz d k v).length=d.length:=nJ
def rA(d:l_ Inst)(k:Nat)(v:Int):(od d k v).length=d.length:=nJ
def Dj {d:l_ Inst} {k:Nat}(v:Int)(h:k<d.length):(aK d).set k (PS.splice ((aK d).getD k []) 5 [I v])=aK (lz d k v):=by rw[FU<|uK d k h];unfold lz;rw[HV];rfl
def ai6 {d:l_ Inst} {k:Nat}(v:Int)(h:k<d.length):(aK d).set k (PS.splice ((aK d).getD k []) 4 [I v])=aK (od d k v):=by rw[FU<|uK d k h];unfold od;rw[HV];rfl
def Al(k:Nat):Int:=oU<|(k:Int)+1
def KX(d:l_ Inst)(k:Nat):l_ Inst:=lz (De d k (Di<|Al k)++ [jpI (k:Nat)]) k ((De d k (Di<|Al k)++ [jpI (k:Nat)]).length:Nat)
def KY(d:l_ Inst)(k:Nat):l_ Inst:=lz (d++ [Di (k:Nat)]) d.length<|Al d.length
def ai7(d:l_ Inst)(k:Nat):l_ Inst:=lz (De d k<|Di<|Al k) k ((De d k<|Di<|Al k).length:Nat)
def vK {D:l_ Inst} {k:Nat}(h:k<D.length):(k:Int)<(D.length:Nat)/\k<(aK D).length/\6<=((aK D).getD k []).length/\5<=((aK D).getD k []).length:=by
 refine⟨U,by rw[iZ];exact h,?_,?_⟩
 .rw[FU<|uK D k h];exact bE 6
 .rw[FU<|uK D k h];exact sQ 5
def H7(s:y_)(a g:Nat)(b:Int)(D:l_ Inst)(k:Nat)(v:Int)(h:k<D.length):dR (.bit true,[tb s a g 2 D.length b true,gI,⟨(aK D).set k<|PS.splice ((aK D).getD k []) 5 [I v],0,[],6,true,false⟩]) (Bo true,pJ s ⟨a,g,b,lz D k v⟩):=by rw[Dj v h];have e:=(fm D k v).symm;rw[e];exact dR.norm rfl rfl rfl
def yU(t:dY)(d:l_ Inst):dY:= {t with a:=t.a+1,d:=d}
def fD(s:y_)(R:RF)(z:Int)(t:dY):Bool×dY:=
 if(fl s R z t).1=false then(false,(fl s R z t).2)
 else if jI s (fl s R z t).2.a 42=true then(true,yU (fl s R z t).2<|KX (fl s R z t).2.d t.d.length)
 else if jI s (fl s R z t).2.a 43=true then(true,yU (fl s R z t).2<|KY (fl s R z t).2.d t.d.length)
 else if jI s (fl s R z t).2.a 63=true then(true,yU (fl s R z t).2<|ai7 (fl s R z t).2.d t.d.length)
 else(true,(fl s R z t).2)
def aR2(s:y_)(f:Nat)(R:RF)(hs:s.size<=256)(h:mO s f R)(hp:gO s f R)(z:Int)(t:dY)(ht:qI s t)(hf:s.size<t.a+1+f)(hz:0<=z/\z<=t.a):kD P 357 [.ptr 0 0 0,I z] (pH s t) (Bo (fD s R z t).1) (pJ s (fD s R z t).2):=by
 have vd:s.size<=aq:=by unfold aq;omega
 have sq:=KW hp ht hf (z:=z);obtain⟨k1,t1,O⟩:∃k t',fl s R z t=(k,t'):=⟨_,_,rfl⟩
 rw[O]at sq;have OS:fl s R z ⟨t.a,t.g,t.b,t.d⟩=(k1,t1):=O;have ht':=ht;obtain⟨p1,p2,p3⟩:=ht;have hk:k1=true->t.d.length<=t1.d.length:=by grind
 have l1:k1=true->t.d.length<(De t1.d t.d.length (Di<|Al t.d.length)++ [jpI (t.d.length:Nat)]).length:=λq=>by rw[br,mb _ _ _<|hk q];have:=hk q;show _<_+1+1;omega
 have l2:t1.d.length<(t1.d++ [Di (t.d.length:Nat)]).length:=by rw[br];exact rK _
 have l3:k1=true->t.d.length<(De t1.d t.d.length<|Di<|Al t.d.length).length:=λq=>by rw[mb _ _ _<|hk q];have:=hk q;omega
 have l4:k1=true->(De t1.d t.d.length<|Di<|Al t.d.length).length<=1048576:=λq=>by rw[mb _ _ _<|hk q];have q1:t1.a<=s.size:=(sq q).1.1;have q2:t1.d.length<=2*t1.a+1:=(sq q).1.2.2;omega
 have l5:k1=true->t1.d.length<=1048576:=λq=>by have q1:t1.a<=s.size:=(sq q).1.1;have q2:t1.d.length<=2*t1.a+1:=(sq q).1.2.2;omega
 refine cK (bJ9 s f R) L0 (let bY:=cellOf (Value.string (n_:y_));let dE:=cellOf (Value.int IntKind.i64 0);let dV:=cellOf (Value.int IntKind.u8 0);let fI:=cellOf (Value.bool false);let aG:=cj (J.agg [I 7,dV,bY,fI,I t.d.length,dE]);let aS:=cj (J.agg [I 6,dV,bY,fI,I t.d.length,dE]);let bn:=cj (J.agg [I 6,dV,bY,fI,I<|oU<|(t.d.length:Int)+1,dE]);let ia:=ff (aK t.d);let lg:=dY.mk t.a t.g t.b ia;let V:=fl s R z lg;let cp:=pk s V.snd.a 42;let bC:=(V.snd.g:Int);let iz:=aK V.snd.d;let bH:=ff iz;let Z:=De bH t.d.length (dm bn);let cu:=ff iz++ [dm aS];let bu:=[aK V.snd.d=aK bH,V.snd.d.length=bH.length];let bP:=[jK bn=(af Inst).au (dm bn),(0:Int)<=(t.d.length:Int),t.d.length<=bH.length,bH.length<=1048576];let eu:=aK Z;let dk:=ff eu++ [dm aG];let iC:=pk s cp 43;let cN:=(↑(pk s iC 63):Int);let jn:=(aK dk).getD (0+t.d.length) [];let iD:=(aK cu).getD (0+bH.length) [];let ka:=I V.snd.b;let kV:=eu.getD (0+t.d.length) [];let mA:=J.bf 2 V.snd.d.length;(.r s<|.r (t.a:Int)<|.r (t.g:Int)<|.o [aK t.d=aK ia,t.d.length=ia.length]<|.r (aT)<|.o [qI s lg,s.size<t.a+1+f,0<=z/\z<=(t.a:Int)]<|.m (V.fst) (.e (aP,[gW [[S s,I V.snd.a,I bC,mA,ka]] 5,js 6,dn iz 6]))<|.r s<|.r (V.snd.a:Int)<|.r bC<|.o bu<|.r (aT)<|.o [V.snd.a<=s.size]<|.r s<|.r (cp:Int)<|.r bC<|.o bu<|.r (aT)<|.n (jI s V.snd.a 42) (.o bP<|.r s<|.r (cp:Int)<|.r bC<|.o [aK Z=aK (ff eu),Z.length=(ff eu).length]<|.r (aT)<|.o [jK aG=(af Inst).au (dm aG),(ff eu).length<=1048576]<|.g t.d.length (dk.length:Int)<|.o [0+t.d.length<(aK dk).length,6<=jn.length]<|.e (fZ,[gW [[S s,I cp,I bC,J.bf 2 dk.length,ka]] 5,js 6,dn ((aK dk).set (0+t.d.length)<|PS.splice jn (5) [I dk.length]) 6]))<|.o [pk s V.snd.a 42<=s.size]<|.r s<|.r (iC:Int)<|.r bC<|.o bu<|.r (aT)<|.n (jI s cp 43) (.o [jK aS=(af Inst).au (dm aS),bH.length<=1048576]<|.g (bH.length:Int) (cu.length:Int)<|.o [0+bH.length<(aK cu).length,6<=iD.length]<|.e (fZ,[gW [[S s,I iC,I bC,J.bf 2 cu.length,ka]] 5,js 6,dn ((aK cu).set (0+bH.length)<|PS.splice iD (5) [I<|oU<|(bH.length:Int)+1]) 6]))<|.o [pk s cp 43<=s.size]<|.n (jI s iC 63) (.r s<|.r cN<|.r bC<|.o bu<|.r (aT)<|.o bP<|.g t.d.length (Z.length:Int)<|.o [0+t.d.length<eu.length,6<=kV.length]<|.e (fZ,[gW [[S s,I cN,I bC,J.bf 2 Z.length,ka]] 5,js 6,dn (eu.set (0+t.d.length)<|PS.splice kV (5) [I Z.length]) 6]))<|.e (fZ,[gW [[S s,I cN,I bC,mA,ka]] 5,js 6,dn iz 6]))) ?_
 try dsimp only
 simp only[fT,cellOf,cj,uL,OS,eP];simp only[av]
 (repeat' with_reducible first|intro _|apply aNd_)<;>first|exact aM|exact(sq W).1.1|(rw[kL W];exact(sq W).1.1)|(have n:jI s t1.a 42=false:=W;rw[kL n]at*;rw[kL W];exact(sq W).1.1)|exact hk W|exact l5 W|exact l4 W|exact(vK<|l1 W).1|exact(vK<|l1 W).2.1|exact(vK<|l1 W).2.2.1|exact(vK l2).1|exact(vK l2).2.1|exact(vK l2).2.2.1|exact(vK<|l3 W).1|exact(vK<|l3 W).2.1|exact(vK<|l3 W).2.2.1|(have e:k1=false:=W;have e2:fD s R z t=(false,t1):=(by unfold fD;rw[O,e];rfl);rw[e2];exact dR.norm rfl rfl rfl)|(have kk:k1=true:=W;have n:jI s t1.a 42=true:=W;have e2:fD s R z t=(true,yU t1<|KX t1.d t.d.length):=(by unfold fD;rw[O];simp [*]);rw[e2,(ki n).2];exact H7 s _ _ _ _ _ _ (l1 kk))|(have kk:k1=true:=W;have n:jI s t1.a 42=false:=W;rw[kL n]at*;have n2:jI s t1.a 43=true:=W;have e2:fD s R z t=(true,yU t1<|KY t1.d t.d.length):=(by unfold fD;rw[O];simp [*]);rw[e2,(ki n2).2];exact H7 s _ _ _ _ _ _ l2)|(have kk:k1=true:=W;have n:jI s t1.a 42=false:=W;rw[kL n]at*;have n2:jI s t1.a 43=false:=W;rw[kL n2]at*;have n3:jI s t1.a 63=true:=W;have e2:fD s R z t=(true,yU t1<|ai7 t1.d t.d.length):=(by unfold fD;rw[O];simp [*]);rw[e2,(ki n3).2];exact H7 s _ _ _ _ _ _ (l3 kk))|(have kk:k1=true:=W;have n:jI s t1.a 42=false:=W;rw[kL n]at*;have n2:jI s t1.a 43=false:=W;rw[kL n2]at*;have n3:jI s t1.a 63=false:=W;rw[kL n3]at*;have e2:fD s R z t=(true,t1):=(by unfold fD;rw[O];simp [*]);rw[e2];exact dR.norm rfl rfl rfl)
def H8 {s:y_} {f:Nat} {R:RF}(hp:gO s f R) {z:Int} {t:dY}(ht:qI s t)(hf:s.size<t.a+1+f)(h:(fD s R z t).1=true):qI s (fD s R z t).2/\t.a<(fD s R z t).2.a/\t.d.length<=(fD s R z t).2.d.length:=by
 have sq:=KW hp ht hf (z:=z);obtain⟨k1,t1,O⟩:∃k t',fl s R z t=(k,t'):=⟨_,_,rfl⟩
 unfold fD at h⊢;rw[O]at sq h⊢;cases k1 with
 |false=>cases h
 |true=>
  obtain⟨⟨o1,o2,o3⟩,o4,o5⟩:=sq rfl;have o1':t1.a<=s.size:=o1;have o3':t1.d.length<=2*t1.a+1:=o3;have o4':t.a<t1.a:=o4;have Uy:t.d.length<=t1.d.length:=o5;rw[if_neg Bool.noConfusion]at h⊢;have key:∀D:l_ Inst,t1.a<s.size->D.length<=t1.d.length+2->t1.d.length<=D.length->qI s (yU t1 D)/\t.a<(yU t1 D).a/\t.d.length<=(yU t1 D).d.length:=λD q0 q1 q2=>⟨⟨by show t1.a+1<=_;omega,o2,by show D.length<=2*(t1.a+1)+1;omega⟩,by show t.a<t1.a+1;omega,by show _<=D.length;omega⟩
  split
  .rename_i n;refine key _ (ki n).1 ?_ ?_
   .show(KX t1.d t.d.length).length<=_;unfold KX;rw[fm,br,mb _ _ _ Uy];exact bE _
   .show _<=(KX t1.d t.d.length).length;unfold KX;rw[fm,br,mb _ _ _ Uy];omega
  .split
   .rename_i n;refine key _ (ki n).1 ?_ ?_
    .show(KY t1.d t.d.length).length<=_;unfold KY;rw[fm,br];show _+1<=_;omega
    .show _<=(KY t1.d t.d.length).length;unfold KY;rw[fm,br];omega
   .split
    .rename_i n;refine key _ (ki n).1 ?_ ?_
     .show(ai7 t1.d t.d.length).length<=_;unfold ai7;rw[fm,mb _ _ _ Uy];omega
     .show _<=(ai7 t1.d t.d.length).length;unfold ai7;rw[fm,mb _ _ _ Uy];omega
    .exact⟨⟨o1',o2,o3'⟩,o4',Uy⟩
def pcF(s:y_)(f:Nat)(R:RF):l_ J->dY->Option (J×dY×l_ Prop)
 | [p,.sc (.int .i64 z)],t=>some (Bo (fD s R z t).1,(fD s R z t).2,[p= .ptr 0 0 0,qI s t,s.size<t.a+1+f,0<=z/\z<=t.a])
 |_,_=>none
def bK0 {E:Env} {s:y_} {f:Nat} {R:RF}(hs:s.size<=256)(h:mO s f R)(hp:gO s f R)(hE:an P E):an P (cF 357 (pj s<|pcF s f R) E):=rm hE λaa t r q ob O h2=>by
 unfold pcF at O;split at O
 .rename_i p z;cases O;rw[h2 (p=_) ch];exact aR2 s f R hs h hp z t (h2 (qI s t) sS) (h2 (s.size<t.a+1+f) sS)<|h2 (0<=z/\z<=t.a) sS
 .cases O
def EBr(s:y_)(f:Nat)(R:RF):Env:=cF 357 (pj s<|pcF s f R)<|EPx s
def aR3(s:y_)(f:Nat)(R:RF)(hs:s.size<=256:=by assumption)(h:mO s f R:=by assumption)(hp:gO s f R:=by assumption):an P (EBr s f R):=
 have vd:s.size<=aq:=cm hs dD
 bK0 hs h hp (xj s)
def ai8(s:y_)(z:Int)(t:dY):Bool:=decide<|¬t.a<s.size\/dx s t.a=124\/(dx s t.a=41/\0<z)
def Uz (s:y_) (f:Nat) (R:RF) (hs:s.size<=256) (h:mO s f R) (hp:gO s f R) (z:Int) (t:dY) (ht:qI s t) (hf:s.size<t.a+1+f) (hz:0<=z/\z<=t.a) (lt:LT) (so:ai8 s z t=true->lt.ends (.ret,(M 30 [(4,.bit true)]),pJ s t)) (oI:ai8 s z t=false->(fD s R z t).1=false->lt.ends (.ret,(M 30 [(4,.bit false)]),pJ s (fD s R z t).2))
  (aW:ai8 s z t=false->(fD s R z t).1=true->aO P (aD f341 1) (M 30 [(0,.ptr 0 0 0),(1,I z)]) (pJ s (fD s R z t).2) lt):aO P (aD f341 1) (M 30 [(0,.ptr 0 0 0),(1,I z)]) (pJ s t) lt:=by
 have vd:s.size<=aq:=by unfold aq;omega
 have hns:t.a<s.size->dx s t.a≠124-> ¬(dx s t.a=41/\0<z)->ai8 s z t=false:=λa b c=>fq λq=>q.elim (λq=>q a) λq=>q.elim b c;refine ao (aR3 s f R) L0 [0,1] [4] (let aG:nV:=(kG (M 30 [(4,fZ)]) [gW [[S s,I t.a,I t.g,J.bf 2 t.d.length,I t.b]] 5,js 6,dn (aK t.d) 6]);let bn:=ff (aK t.d);let bH:=[aK t.d=aK bn,t.d.length=bn.length];let cp:=dY.mk t.a t.g t.b bn;let V:=fD s R z cp;let aS:=[gW [[S s,I V.snd.a,I V.snd.g,J.bf 2 V.snd.d.length,I V.snd.b]] 5,js 6,dn (aK V.snd.d) 6];let Z:nV:=(.r s<|.r (t.a:Int)<|.r (t.g:Int)<|.o bH<|.r (aT)<|.o [qI s cp,s.size<t.a+1+f,0<=z/\z<=(t.a:Int)]<|.m (V.fst) (kG (M 30 [(4,aP)]) aS)<|bR (M 30 [(0,aT),(1,I z)]) aS);(.r s<|.r (t.a:Int)<|.r (t.g:Int)<|.o bH<|.r (aT)<|.o [t.a<=s.size]<|.m (decide<|t.a<s.size) aG<|.q (dx s t.a) 124 aG<|.q (dx s t.a) 41 (.d (z>0) aG Z) Z)) ?_;try dsimp only
 simp only[fT];simp only[av,bK,bO]
 (repeat' with_reducible first|intro _|apply aNd_)<;>first|exact aM|exact ht.1|exact so<|cd<|.inl W|exact so<|cd<|.inr<|.inl W|exact so<|cd<|.inr<|.inr ⟨W,W⟩|exact oI (hns W W λq=>absurd q.1 W) W|exact aW (hns W W λq=>absurd q.1 W) W|exact oI (hns W W λq=>absurd q.2 W) W|exact aW (hns W W λq=>absurd q.2 W) W
def OA(s:y_)(R:RF)(z:Int):Nat->dY->Bool×dY
 |0,t=>(false,t)
 |n+1,t=>if ai8 s z t=true then(true,t)else if(fD s R z t).1=false then(false,(fD s R z t).2)else OA s R z n (fD s R z t).2
def bZ9(s:y_)(r:Bool×dY):LT:= .out .ret (M 30 [(4,.bit r.1)])<|pJ s r.2
theorem Eb(s:y_)(f:Nat)(R:RF)(hs:s.size<=256)(h:mO s f R)(hp:gO s f R)(z:Int):∀n t,qI s t->s.size<t.a+1+f->(0<=z/\z<=t.a)->s.size<t.a+n->aO P (aD f341 1) (M 30 [(0,.ptr 0 0 0),(1,I z)]) (pJ s t) (bZ9 s<|OA s R z n t)
 |0,t,ht,_,_,hn=>by have:=ht.1;omega
 |n+1,t,ht,hf,hz,hn=>by
  refine Uz s f R hs h hp z t ht hf hz _ ?_ ?_ ?_
  .intro q;unfold OA;rw[if_pos q];exact rfl
  .intro q r;unfold OA;rw[if_neg (by rw[q];exact dj),if_pos r];exact rfl
  .intro q r;have hq:=H8 hp ht hf r;have ih:=Eb s f R hs h hp z n (fD s R z t).2 hq.1 U ⟨hz.1,U⟩ U
   conv=>rhs;unfold OA
   rw[if_neg (by rw[q];exact dj),if_neg (by rw[r];exact Bool.noConfusion)];exact ih
def aR4 {c:Code} {T T':l_ J} {h h':Hp} {lt:LT}(hle:dR (.bg T,h) (.bg T',h'))(hl:T'.length=T.length)(hT:aO P c T' h' lt):aO P c T h lt:=by obtain⟨x,O,n,h2⟩:=hT;exact⟨x,O,n,λw0 Sa a w Q q1 q2 q3=>h2 w0 Sa a w Q q1 (T4 hle hl q2) q3⟩
def jQ(s:y_)(R:RF)(z:Int)(t:dY):Bool×dY:=OA s R z (s.size+1) t
def brE(s:y_)(r:Bool×dY):gD:=λ_=>([0,1],[],λ_ _=>bZ9 s r)
def ai9(s:y_)(f:Nat)(R:RF)(hs:s.size<=256)(h:mO s f R)(hp:gO s f R)(z:Int)(t:dY)(ht:qI s t)(hf:s.size<t.a+1+f)(hz:0<=z/\z<=t.a):kD P 341 [.ptr 0 0 0,I z] (pH s t) (Bo (jQ s R z t).1) (pJ s (jQ s R z t).2):=by
 have vd:s.size<=aq:=by unfold aq;omega
 have lp:=aR4 (T:=(M 30 [(0,.ptr 0 0 0),(1,I z)])) (h:=pH s t) (dR.move 1 rfl rfl rfl rfl) rfl<|Eb s f R hs h hp z (s.size+1) t ht hf hz U;refine cK (aR3 s f R) (brE s<|OA s R z (s.size+1) t) (let Z:=OA s R z (s.size+1) t;let V:=[gW [[S s,I Z.snd.a,I Z.snd.g,J.bf 2 Z.snd.d.length,I Z.snd.b]] 5,js 6,dn (aK Z.snd.d) 6];(.o [ax P (aD f341 1) (M 30 [(0,aT),(1,I z)]) [gW [[S s,I t.a,I t.g,J.bf 1 t.d.length,I t.b]] 5,ox (aK t.d) 6] (Out.ret) (M 30 [(4,J.bit Z.fst)])<|V]<|.e (J.bit Z.fst,V))) ?_;simp only[av]
 (repeat' with_reducible first|intro _|apply aNd_)<;>first|exact aM|exact dR.norm rfl rfl rfl
def zO(d:l_ Inst)(k:Nat)(v:Int):(aK d).set k (PS.splice ((aK d).getD k []) 5 [I v])=aK (lz d k v):=by
 rcases fA k d.length with h|h
 .exact Dj v h
 .unfold lz;rw[Ft (by rw[iZ];exact h),Ft h]
theorem H9 {s:y_} {f:Nat} {R:RF}(hp:gO s f R) {z:Int}:∀n t,qI s t->s.size<t.a+1+f->(OA s R z n t).1=true->qI s (OA s R z n t).2/\t.a<=(OA s R z n t).2.a/\t.d.length<=(OA s R z n t).2.d.length
 |0,_,_,_,h=>by cases h
 |n+1,t,ht,hf,h=>by
  unfold OA at h⊢;split at h
  .rename_i q;rw[if_pos q];exact⟨ht,bE _,bE _⟩
  .rename_i q;rw[if_neg q];split at h
   .cases h
   .rename_i r;rw[if_neg r];have hq:=H8 hp ht hf (by simpa using r);have ih:=H9 hp n (fD s R z t).2 hq.1 U h;exact⟨ih.1,U,U⟩
def bK1(s:y_)(f:Nat)(R:RF):l_ J->dY->Option (J×dY×l_ Prop)
 | [p,.sc (.int .i64 z)],t=>some (Bo (jQ s R z t).1,(jQ s R z t).2,[p= .ptr 0 0 0,qI s t,s.size<t.a+1+f,0<=z/\z<=t.a])
 |_,_=>none
def bl2 {E:Env} {s:y_} {f:Nat} {R:RF}(hs:s.size<=256)(h:mO s f R)(hp:gO s f R)(hE:an P E):an P (cF 341 (pj s<|bK1 s f R) E):=rm hE λaa t r q ob O h2=>by
 unfold bK1 at O;split at O
 .rename_i p z;cases O;rw[h2 (p=_) ch];exact ai9 s f R hs h hp z t (h2 (qI s t) sS) (h2 (s.size<t.a+1+f) sS)<|h2 (0<=z/\z<=t.a) sS
 .cases O
def ERg(s:y_)(f:Nat)(R:RF):Env:=bx6<|cF 341 (pj s<|bK1 s f R)<|cF 313 (pj s<|rgF s f R)<|cF 343 (pj s isF)<|cF 312 (pj s emF)<|EPx s
def bK2(s:y_)(f:Nat)(R:RF)(hs:s.size<=256:=by assumption)(h:mO s f R:=by assumption)(hp:gO s f R:=by assumption):an P (ERg s f R):=
 have vd:s.size<=aq:=cm hs dD
 j7 (bl2 hs h hp<|aR0 h<|aQ5 s<|Df s<|xj s)
def Nt(d:l_ Inst)(k:Nat):l_ Inst:=De d k (Di<|Al k)++ [jpI 0]
def yG(t:dY)(k:Nat):dY:= {t with a:=t.a+1,d:=lz (Nt t.d k) k (Al (De t.d k<|Di<|Al k).length)}
def bK3(t:dY)(j:Nat):dY:= {t with d:=od t.d j (t.d.length:Nat)}
def nv(s:y_)(R:RF)(z:Int)(t:dY):Bool×dY:=
 if(jQ s R z t).1=false then(false,(jQ s R z t).2)
 else if jI s (jQ s R z t).2.a 124=false then(true,(jQ s R z t).2)
 else if(R z<|yG (jQ s R z t).2 t.d.length).1=false then(false,(R z<|yG (jQ s R z t).2 t.d.length).2)
 else(true,bK3 (R z<|yG (jQ s R z t).2 t.d.length).2 (De (jQ s R z t).2.d t.d.length<|Di<|Al t.d.length).length)
def zQ(d:l_ Inst)(k:Nat)(v:Int):(aK d).set k (PS.splice ((aK d).getD k []) 4 [I v])=aK (od d k v):=by
 rcases fA k d.length with h|h
 .exact ai6 v h
 .unfold od;rw[Ft (by rw[iZ];exact h),Ft h]
def aR5(s:y_)(t:dY)(j:Nat):dR (.bit true,[tb s t.a t.g 2 t.d.length t.b true,gI,⟨aK<|od t.d j (t.d.length:Nat),0,[],6,true,false⟩]) (Bo true,pJ s<|bK3 t j):=by have e:t.d.length=(od t.d j (t.d.length:Nat)).length:=(rA _ _ _).symm;show dR (.bit true,[tb s t.a t.g 2 t.d.length t.b true,gI,⟨aK<|od t.d j (t.d.length:Nat),0,[],6,true,false⟩]) (Bo true,[tb s t.a t.g 2 (od t.d j (t.d.length:Nat)).length t.b true,gI,iB (od t.d j (t.d.length:Nat)) false]);rw[<-e];exact dR.norm rfl rfl rfl
def aR6(s:y_)(f:Nat)(R:RF)(hs:s.size<=256)(h:mO s f R)(hp:gO s f R)(z:Int)(t:dY)(ht:qI s t)(hf:s.size<t.a+1+f)(hz:0<=z/\z<=t.a):kD P 313 [.ptr 0 0 0,I z] (pH s t) (Bo (nv s R z t).1) (pJ s (nv s R z t).2):=by
 have vd:s.size<=aq:=by unfold aq;omega
 have sq:=H9 hp (z:=z) (s.size+1) t ht hf;obtain⟨k1,t1,O⟩:∃k t',jQ s R z t=(k,t'):=⟨_,_,rfl⟩
 rw[show OA s R z (s.size+1) t=(k1,t1)from O]at sq;have OS:jQ s R z ⟨t.a,t.g,t.b,t.d⟩=(k1,t1):=O;have hk:k1=true->t.d.length<=t1.d.length:=by grind
 have Cx:k1=true->t1.a<=s.size/\t1.g<=9/\t1.d.length<=2*t1.a+1/\t.a<=t1.a:=λq=>⟨(sq q).1.1,(sq q).1.2.1,(sq q).1.2.2,(sq q).2.1⟩
 obtain⟨k2,t2,h2⟩:∃k t',R z (yG t1 t.d.length)=(k,t'):=⟨_,_,rfl⟩
 have ZD:R z ⟨t1.a+1,t1.g,t1.b,lz (De t1.d t.d.length ⟨6,0,n_,false,oU<|(t.d.length:Nat)+1,0⟩++ [⟨7,0,n_,false,0,0⟩]) t.d.length<|oU<|((De t1.d t.d.length ⟨6,0,n_,false,oU<|(t.d.length:Nat)+1,0⟩).length:Nat)+1⟩=(k2,t2):=h2;have l1:k1=true->t.d.length<(De t1.d t.d.length (Di<|Al t.d.length)++ [jpI 0]).length:=λq=>by rw[br,mb _ _ _<|hk q];have:=hk q;show _<_+1+1;omega
 have l4:k1=true->(De t1.d t.d.length<|Di<|Al t.d.length).length<=1048576:=λq=>by rw[mb _ _ _<|hk q];have:=Cx q;omega
 have l5:k1=true->t1.d.length<=1048576:=λq=>by have:=Cx q;omega
 have l6:k1=true->jI s t1.a 124=true->qI s (yG t1 t.d.length):=λq n=>by have:=Cx q;have:=(ki n).1;refine⟨by show t1.a+1<=_;omega,by show t1.g<=9;omega,?_⟩;show(lz (Nt t1.d t.d.length) t.d.length _).length<=2*(t1.a+1)+1;unfold Nt;rw[fm,br,mb _ _ _<|hk q];show _+1+1<=_;omega
 have l7:k1=true->jI s t1.a 124=true->k2=true->(De t1.d t.d.length<|Di<|Al t.d.length).length<t2.d.length:=λq n r=>by have:=Cx q;have:=(ki n).1;have hh:=hp z (yG t1 t.d.length) (l6 q n) (by show s.size<t1.a+1+f;omega);rw[h2]at hh;have h3:(lz (Nt t1.d t.d.length) t.d.length<|Al (De t1.d t.d.length<|Di<|Al t.d.length).length).length<=t2.d.length:=(hh r).2.2;unfold Nt at h3;rw[fm,br]at h3;have h4:(De t1.d t.d.length<|Di<|Al t.d.length).length+1<=t2.d.length:=h3;omega
 refine cK (bK2 s f R) L0 (let dE:=cellOf (Value.int IntKind.i64 0);let eu:=cellOf (Value.string (n_:y_));let fI:=ff (aK t.d);let iD:=cellOf (Value.int IntKind.u8 0);let ka:=dY.mk t.a t.g t.b fI;let aS:=jQ s R z ka;let cN:=(aS.snd.g:Int);let iC:=aK aS.snd.d;let cu:=ff iC;let dV:=[aK aS.snd.d=aK cu,aS.snd.d.length=cu.length];let lg:=J.bf 2 aS.snd.d.length;let mA:=cellOf (Value.bool false);let aG:=cj (J.agg [I 7,iD,eu,mA,dE,dE]);let bn:=cj (J.agg [I 6,iD,eu,mA,I<|oU<|(t.d.length:Int)+1,dE]);let V:=De cu t.d.length (dm bn);let cp:=ff (aK V)++ [dm aG];let bC:=ff (aK V);let kV:=aK cp;let ia:=kV.getD (0+t.d.length) [];let bH:=PS.splice ia (5) [I<|oU<|(bC.length:Int)+1];let bP:=ff (kV.set (0+t.d.length) bH);let lT:=pk s aS.snd.a 124;let Z:=dY.mk lT aS.snd.g aS.snd.b bP;let dk:=gW [[S s,I (↑(R z Z).snd.a:Int),I (↑(R z Z).snd.g:Int),J.bf 2 (R z Z).snd.d.length,I (R z Z).snd.b]] 5;let bu:=(lT:Int);let bY:=aK (R z Z).snd.d;let iz:=bY.getD (0+bC.length) [];let jn:=(↑(R z Z).snd.d.length:Int);(.r s<|.r (t.a:Int)<|.r (t.g:Int)<|.o [aK t.d=aK fI,t.d.length=fI.length]<|.r (aT)<|.o [qI s ka,s.size<t.a+1+f,0<=z/\z<=(t.a:Int)]<|.m (aS.fst) (.e (aP,[gW [[S s,I aS.snd.a,I cN,lg,I aS.snd.b]] 5,js 6,dn iC 6]))<|.r s<|.r (aS.snd.a:Int)<|.r cN<|.o dV<|.r (aT)<|.o [aS.snd.a<=s.size]<|.m (jI s aS.snd.a 124) (.e (fZ,[gW [[S s,I bu,I cN,lg,I aS.snd.b]] 5,js 6,dn iC 6]))<|.r s<|.r bu<|.r cN<|.o dV<|.r (aT)<|.o [jK bn=(af Inst).au (dm bn),(0:Int)<=(t.d.length:Int),t.d.length<=cu.length,cu.length<=1048576]<|.r s<|.r bu<|.r cN<|.o [aK V=aK bC,V.length=bC.length]<|.r (aT)<|.o [jK aG=(af Inst).au (dm aG),bC.length<=1048576]<|.g t.d.length (cp.length:Int)<|.o [0+t.d.length<kV.length,6<=ia.length]<|.r s<|.r bu<|.r cN<|.o [kV.set (0+t.d.length) bH=aK bP,cp.length=bP.length]<|.r (aT)<|.o [qI s Z,s.size<pk s aS.snd.a 124+f,0<=z/\z<=bu]<|.m ((R z Z).fst) (.e (aP,[dk,js 6,dn bY 6]))<|.g (bC.length:Int) jn<|.o [0+bC.length<bY.length,5<=iz.length]<|.e (fZ,[dk,js 6,dn (bY.set (0+bC.length)<|PS.splice iz (4) [I jn]) 6]))) ?_
 try dsimp only
 cases hn:jI s t1.a 124 with
 |true=>
  have DJ:=(ki hn).2;simp only[fT,cellOf,cj,uL,OS,eP,zO,zQ,hn,DJ,ZD];simp only[av]
  (repeat' with_reducible first|intro _|apply aNd_)<;>first|exact aM|exact(Cx W).1|exact hk W|exact l5 W|exact l4 W|exact(vK<|l1 W).1|exact(vK<|l1 W).2.1|exact(vK<|l1 W).2.2.1|(have q:=Cx W;omega)|exact(fm _ _ _).symm|exact l6 W hn|exact(vK<|l7 W hn W).1|exact(vK<|l7 W hn W).2.1|exact(vK<|l7 W hn W).2.2.2|(have e:k1=false:=W;have e2:nv s R z t=(false,t1):=(by unfold nv;rw[O,e];rfl);rw[e2];exact dR.norm rfl rfl rfl)|(have kk:k1=true:=W;have e:k2=false:=W;have e2:nv s R z t=(false,t2):=(by unfold nv;rw[O];simp [*]);rw[e2];exact dR.norm rfl rfl rfl)|(have kk:k1=true:=W;have e:k2=true:=W;have e2:nv s R z t=(true,bK3 t2 (De t1.d t.d.length<|Di<|Al t.d.length).length):=(by unfold nv;rw[O];simp [*]);rw[e2];exact aR5 s t2 _)
 |false=>
  have DJ:=kL hn;simp only[fT,cellOf,cj,uL,OS,eP,zO,zQ,hn,DJ];simp only[av]
  (repeat' with_reducible first|intro _|apply aNd_)<;>first|exact aM|exact(Cx W).1|(have e:k1=false:=W;have e2:nv s R z t=(false,t1):=(by unfold nv;rw[O,e];rfl);rw[e2];exact dR.norm rfl rfl rfl)|(have kk:k1=true:=W;have e2:nv s R z t=(true,t1):=(by unfold nv;rw[O];simp [*]);rw[e2];exact dR.norm rfl rfl rfl)
def UA(z c j:Nat)(h:Hp):Option Hp:=match h[j]? with
 |some ⟨e::es,st,par,sz,false,gV⟩=>match e[c]? with
  |some .dF=>some<|h.set j ⟨(e.set c<|.bf h.length 0)::es,st,par,sz,false,gV⟩++ [⟨[],0,[],z,true,false⟩]
  |_=>none
 |_=>none
def UB {z c j:Nat} {h h':Hp}(r:J)(hn:UA z c j h=some h')(hp:∀X∈h,X.par=[]/\X.st≠1):dR (r,h) (r,h'):=by
 unfold UA at hn;split at hn
 .rename_i e es st par sz gV hj;split at hn
  .rename_i Y;cases hn;exact dR.dF j 0 c z hj rfl rfl Y hp
  .cases hn
 .cases hn
def bK4(E:Env)(k z c:Nat)(id:Nat)(ops:Array Oper)(dr:Bool)(T:l_ J)(h:Hp):Option (l_ J×Hp×l_ Prop):=match id==k with
 |true=>match rq P E ops dr T h []with
  |some (T',h',ob,[])=>match UA z c (h'.length-1) h' with
   |some h2=>some (T',h2,(calm h'=true)::ob.map Ob.holds)
   |none=>none
  |_=>none
 |false=>none
def bl3 {E:Env}(hE:an P E)(N:E.r=λ_ _ _ _ _=>none)(k z c:Nat)(id:Nat)(ops:Array Oper)(dr:Bool)(T:l_ J)(h:Hp)(T':l_ J)(h':Hp)(ob:l_ Prop)(hd:bK4 E k z c id ops dr T h=some (T',h',ob))(cJ:∀X∈ob,X):tz P id ops dr T h T' h':=by
 unfold bK4 at hd;split at hd
 .split at hd
  .rename_i T1 O tX F;split at hd
   .rename_i h2 hn;cases hd;intro w0 Sa a w Q hG iu hQ;refine lN (E:=E) (L:=L0) (c:= .region id ops dr) (T':=T') (h':=O) (s:=[]) (s':=[]) (o:= .norm) (ob:=tX) hE hG ?_ ?_ iu ?_
    .simp only[exec,N,F]
    .intro X hX;exact cJ _<|fh _<|jB.2 ⟨X,hX,rfl⟩
    .intro a' w' ko;exact hQ a' w'<|T4 (UB _ hn<|Qz<|cJ _ ch) rfl ko
   .cases hd
  .cases hd
 .cases hd
def tO(s:y_):Nat->RF
 |0,_,t=>(false,t)
 |f+1,z,t=>nv s (tO s f) z t
def UC {s:y_} {f:Nat} {R:RF}(hp:gO s f R) {z:Int} {t:dY}(ht:qI s t)(hf:s.size<t.a+1+f)(h:(nv s R z t).1=true):qI s (nv s R z t).2/\t.a<=(nv s R z t).2.a/\t.d.length<=(nv s R z t).2.d.length:=by
 have sq:=H9 hp (z:=z) (s.size+1) t ht hf;obtain⟨k1,t1,O⟩:∃k t',jQ s R z t=(k,t'):=⟨_,_,rfl⟩
 rw[show OA s R z (s.size+1) t=(k1,t1)from O]at sq;unfold nv at h⊢;rw[O]at h⊢;cases k1 with
 |false=>cases h
 |true=>
  obtain⟨o1,o2,o3⟩:qI s t1/\t.a<=t1.a/\t.d.length<=t1.d.length:=sq rfl;rw[if_neg Bool.noConfusion]at h⊢;split
  .exact⟨o1,o2,o3⟩
  .rename_i n;have n:jI s t1.a 124=true:=by grind
   have n1:=(ki n).1;obtain⟨p1,p2,p3⟩:=o1;have hq:qI s (yG t1 t.d.length):=by refine⟨by show t1.a+1<=_;omega,p2,?_⟩;show(lz (Nt t1.d t.d.length) t.d.length _).length<=2*(t1.a+1)+1;unfold Nt;rw[fm,br,mb _ _ _ o3];have p3':=p3;show t1.d.length+1+1<=_;omega
   have o2':=o2;have hh:=hp z (yG t1 t.d.length) hq (by show s.size<t1.a+1+f;omega);rw[if_neg (by rw[n];exact Bool.noConfusion)]at h;split
   .rename_i r;rw[if_pos r]at h;cases h
   .rename_i r;have r:(R z<|yG t1 t.d.length).1=true:=by grind
    obtain⟨⟨a1,a2,a3⟩,a4,a5⟩:=hh r;have a4':t1.a+1<=(R z<|yG t1 t.d.length).2.a:=a4;have a5':(lz (Nt t1.d t.d.length) t.d.length<|Al (De t1.d t.d.length<|Di<|Al t.d.length).length).length<=(R z<|yG t1 t.d.length).2.d.length:=a5;unfold Nt at a5';rw[fm,br,mb _ _ _ o3]at a5';have o3':=o3;refine⟨⟨a1,a2,?_⟩,by show t.a<=(R z<|yG t1 t.d.length).2.a;omega,?_⟩
    .show(od _ _ _).length<=_;rw[rA];exact a3
    .show _<=(od _ _ _).length;rw[rA];have a6:t1.d.length+1+1<=(R z<|yG t1 t.d.length).2.d.length:=a5';show t.d.length<=(R z<|yG t1 t.d.length).2.d.length;omega
theorem xk(s:y_):∀f,gO s f (tO s f)
 |0=>λz t ht hf=>by have:=ht.1;omega
 |f+1=>λz t ht hf h=>UC (xk s f) ht U h
theorem KZ(s:y_)(hs:s.size<=256):∀f,mO s f (tO s f)
 |0=>λz t ht hf=>by have:=ht.1;omega
 |f+1=>λz t ht hf hz=>aR6 s f (tO s f) hs (KZ s hs f) (xk s f) z t ht U hz
def t00:dY:=⟨0,0,0,[sv 0]⟩
def cmR(s:y_):Bool×dY:=tO s (s.size+1) 0 t00
def cmE(s:y_):Int:=if 256<s.size then 4 else if(cmR s).1=false then 49 else 0
def bl4:ff []=[]:=fT []
def isZ(z:Int):Prop:=z=0
def rg0(s:y_)(f:Nat)(R:RF):l_ J->dY->Option (J×dY×l_ Prop)
 | [p,.sc (.int .i64 z)],t=>some (Bo (R 0 t).1,(R 0 t).2,[p= .ptr 0 0 0,qI s t,s.size<t.a+f,isZ z])
 |_,_=>none
def bK5 {E:Env} {s:y_} {f:Nat} {R:RF}(h:mO s f R)(hE:an P E):an P (cF 313 (pj s<|rg0 s f R) E):=rm hE λaa t r q ob O h2=>by
 unfold rg0 at O;split at O
 .rename_i p z;cases O;rw[h2 (p=_) ch,show z=0 from h2 (isZ z) sS];exact h 0 t (h2 (qI s t) sS) (h2 (s.size<t.a+f) sS) ⟨AF _,U⟩
 .cases O
def ECm(s:y_)(f:Nat)(R:RF):Env:=Pk (bK4 E0 3 6 3)<|cF 313 (pj s<|rg0 s f R)<|cF 312 (pj s emF) EN
def bK6(s:y_)(f:Nat)(R:RF)(h:mO s f R:=by assumption):an P (ECm s f R):=vq (bK5 h<|Df s aw)<|bl3 (Ba P) rfl 3 6 3
def xl (s:y_) (f:Nat) (R:RF) (h:mO s f R) (hp:gO s f R) (hf:s.size<=256->s.size<0+f) (r:J) (r0:256<s.size->r= .bg [.agg [.rf 0 λ_=> [],I 0],I 0,I 4]) (r1:s.size<=256->(R 0 t00).1=false->r= .bg [.agg [.rf 0 λ_=> [],I 0],I (R 0 t00).2.b,I 49])
  (r2:s.size<=256->(R 0 t00).1=true->r= .bg [.agg [.rf ((R 0 t00).2.d++ [sv 1]++ [Oz 9]).length λi=>(aK<|(R 0 t00).2.d++ [sv 1]++ [Oz 9]).getD i [],I<|oU<|((R 0 t00).2.g:Nat)+1],I 0,I 0]):Ok P 272 [S s] r:=by
 obtain⟨k1,t1,O⟩:∃k t',R 0 t00=(k,t'):=⟨_,_,rfl⟩
 have hpp:qI s t00:=⟨bJ _,bJ _,bE _⟩
 have sq:=λq=>hp 0 t00 hpp<|hf q;rw[O]at sq r1 r2;have hl:s.size<=256->k1=true->t1.d.length<=513:=λq r=>by obtain⟨⟨a1,_,a3⟩,_,_⟩:qI s t1/\_/\_:=sq q r;omega
 have OS:R 0 ⟨0,0,0,[⟨8,0,n_,false,0,0⟩]⟩=(k1,t1):=O;refine al (bK6 s f R) L0 (let cp:=cellOf (Value.int IntKind.i64 0);let cu:=cellOf (Value.string (n_:y_));let bu:=cellOf (Value.int IntKind.u8 0);let bC:=cellOf (Value.bool false);let aG:=cj (J.agg [I 9,bu,cu,bC,cp,cp]);let bn:=cj (J.agg [I 8,bu,cu,bC,cp,cp]);let Z:=ff []++ [dm bn];let bH:=cj (J.agg [I 8,bu,cu,bC,I 1,cp]);let bP:=ff (aK Z);let aS:=R 0 (dY.mk 0 0 0 bP);let bY:=aK aS.snd.d;let V:=ff bY++ [dm bH];let dk:=ff (aK V)++ [dm aG];let cN:=(aS.snd.g:Int);let dE:=ff (aK V);(.d ((s.size:Int)>256) (.e<|J.bg [J.agg [J.rf 0 λi=> [],I 0],I 0,I 4])<|.r true<|.r s<|.o [0=(↑0:Int),0=(↑0:Int),[]=aK (ff []),0=(ff []).length]<|.r (aT)<|.o [jK bn=(af Inst).au (dm bn),(ff []).length<=1048576]<|.r s<|.r (↑0:Int)<|.r (↑0:Int)<|.o [aK Z=aK bP,Z.length=bP.length]<|.r (aT)<|.o [qI s<|dY.mk 0 0 0 bP,s.size<0+f,isZ 0]<|.m (aS.fst) (.e<|J.bg [J.agg [J.rf 0 λi=> [],I 0],I aS.snd.b,I 49])<|.r s<|.r (aS.snd.a:Int)<|.r cN<|.o [aK aS.snd.d=aK (ff bY),aS.snd.d.length=(ff bY).length]<|.r (aT)<|.o [jK bH=(af Inst).au (dm bH),(ff bY).length<=1048576]<|.r s<|.r (aS.snd.a:Int)<|.r cN<|.o [aK V=aK dE,V.length=dE.length]<|.r (aT)<|.o [jK aG=(af Inst).au (dm aG),dE.length<=1048576,dk.length=(aK dk).length]<|.e<|J.bg [J.agg [J.rf dk.length λi=>(aK dk).getD i [],I<|oU<|cN+1],I 0,I 0])) ?_;try dsimp only
 simp only[fT,cellOf,cj,uL,bl4,nL,OS];simp only[av]
 (repeat' with_reducible first|intro _|apply aNd_)<;>first|exact aM|exact(r0 U).symm|(have q:=hl U W;omega)|(have q:=hl U W;rw[br];show _+1<=_;omega)|(rw[iZ];done)|(have e:k1=false:=W;exact(r1 U e).symm)|(have e:k1=true:=W;exact(r2 U e).symm)
def xm:y_:=⟨#[97,116,116,114]⟩
def nk:y_:=⟨#[112,108,117,109,98]⟩
def vIs:y_:=⟨#[105,115]⟩
def Ia:y_:=⟨#[105,115,110]⟩
def wg:y_:=⟨#[109,97,116,99,104,101,115]⟩
def Ib:y_:=⟨#[115,101,116]⟩
def JE:y_:=⟨#[97,100,100]⟩
def JF:y_:=⟨#[100,101,108,101,116,101]⟩
def vTo:y_:=⟨#[116,111]⟩
def mB(o:y_):l_ y_:=if nj o=true then [vIs,Ia,wg,Ib]else if o=xm then [vIs,Ia,JE,JF]else if o=nk then [vTo]else []
def bK7(l:l_ y_):bh y_:=⟨l.length,λi=>l.getD i default⟩
def rfB(l:l_ y_):J:= .rf l.length λi=>(l.map λs=> [S s]).getD i []
def aj0(o:y_):Ok P 271 [S o] (rfB<|mB o):=by
 have hf:nj o=true↔(o=⟨#[115,114,99]⟩\/o=⟨#[100,115,116]⟩\/o=⟨#[119,100,105,114]⟩\/o=⟨#[116,121,112,101]⟩\/o=⟨#[100,97,116,97]⟩):=bp;have c1:(⟨#[97,116,116,114]⟩:y_)=xm:=rfl;have c2:(⟨#[112,108,117,109,98]⟩:y_)=nk:=rfl;refine al aw L0 (let V:=[S (⟨#[105,115,110]⟩:y_)];let aG:=[S (⟨#[105,115]⟩:y_)];let Z:=[aG,V,[S (⟨#[109,97,116,99,104,101,115]⟩:y_)],[S (⟨#[115,101,116]⟩:y_)]];(.n (dN o (⟨#[115,114,99]⟩:y_)) (.e<|J.rf 4 λi=> Z.getD i [])<|.n (dN o (⟨#[100,115,116]⟩:y_)) (.e<|J.rf 4 λi=> Z.getD i [])<|.n (dN o (⟨#[119,100,105,114]⟩:y_)) (.e<|J.rf 4 λi=> Z.getD i [])<|.n (dN o (⟨#[116,121,112,101]⟩:y_)) (.e<|J.rf 4 λi=> Z.getD i [])<|.n (dN o (⟨#[100,97,116,97]⟩:y_)) (.e<|J.rf 4 λi=> Z.getD i [])<|.n (dN o (⟨#[97,116,116,114]⟩:y_)) (.e<|J.rf 4 λi=> [aG,V,[S (⟨#[97,100,100]⟩:y_)],[S (⟨#[100,101,108,101,116,101]⟩:y_)]].getD i [])<|.n (dN o (⟨#[112,108,117,109,98]⟩:y_)) (.e<|J.rf 1 λi=> [[S (⟨#[116,111]⟩:y_)]].getD i [])<|.e<|J.rf 0 λi=> [])) ?_;simp only[av,bK,bO,aL]
 (repeat' with_reducible first|intro _|apply aNd_)<;>first|(unfold mB;rw[if_pos<|hf.2<|by grind];rfl)|(unfold mB;rw[if_neg (λq=>by have:=hf.1 q;grind),if_pos W];rfl)|(unfold mB;rw[if_neg (λq=>by have:=hf.1 q;grind),if_neg W,if_pos W];rfl)|(unfold mB;rw[if_neg (λq=>by have:=hf.1 q;grind),if_neg W,if_neg W];rfl)
def aR7(o:y_):Ok P 271 [S o] ((ak y_).au (bK7 (mB o))):=(aj0 o).res λ_ _ _ N=>fS (λi hi=>by
 show _=[S<|(mB o).getD i default]
 rw[cc,cc,b9,bX hi];rfl) N
def Ic(s:y_):∃q:Nat×(Nat->l_ J)×Int×Int,Ok P 272 [S s] (.bg [.agg [.rf q.1 q.2.1,I q.2.2.1],I q.2.2.2,I<|cmE s]):=by
 by_cases hs:s.size<=256
 .have hR:=KZ s hs (s.size+1);have hP:=xk s (s.size+1);cases hk:(tO s (s.size+1) 0 t00).1 with
  |false=>
   have e:cmE s=49:=(if_neg U).trans<|if_pos hk;rw[e];exact⟨(_,_,_,_),xl s (s.size+1) (tO s<|s.size+1) hR hP (λ_=>U) _ (λq=>U) (λ_ _=>rfl) (λ_ q=>by rw[hk]at q;cases q)⟩
  |true=>
   have e:cmE s=0:=(if_neg U).trans<|if_neg (by rw[show(cmR s).1=true from hk];exact Bool.noConfusion);rw[e];exact⟨(_,_,_,_),xl s (s.size+1) (tO s<|s.size+1) hR hP (λ_=>U) _ (λq=>U) (λ_ q=>by rw[hk]at q;cases q) λ_ _=>rfl⟩
 .have e:cmE s=4:=if_pos U;rw[e];exact⟨(_,_,_,_),xl s 0 (λ_ t=>(false,t)) (λz t ht hf=>by have:=ht.1;omega) (λz t ht hf=>by have:=ht.1;omega) (λq=>absurd q hs) _ (λ_=>rfl) (λq=>absurd q hs) λq=>absurd q hs⟩
def cmQ(s:y_):Nat×(Nat->l_ J)×Int×Int:=Classical.choose<|Ic s
def Q1(s:y_):Ok P 272 [S s] (.bg [.agg [.rf (cmQ s).1 (cmQ s).2.1,I (cmQ s).2.2.1],I (cmQ s).2.2.2,I<|cmE s]):=as1<|Ic s
def cmH(s:y_):Int:=mK<|cmE s
def aR8(s:y_):cmH s=cmE s:=ni _
def vbH(o:y_):bh y_:=mK<|bK7<|mB o
def UD(o:y_):vbH o=bK7 (mB o):=ni _
def bl5(o:y_):(vbH o).n<=aq:=by
 rw[UD];show(mB o).length<=140737488351232;unfold mB;split
 .exact(by decide:(4:Nat)<=140737488351232)
 .split
  .exact(by decide:(4:Nat)<=140737488351232)
  .split
   .exact(by decide:(1:Nat)<=140737488351232)
   .exact bJ _
def bx7(x:bh y_×y_):Prop:=x.1.n<=aq
def aR9(x:y_×y_):Prop:=x.2.size=1
def ESd:Env:=aF 271 (bN (a1 aQ) λo=>(ak y_).au (vbH o))<|aF 161 (bN (a2 (ak y_) aQ) (λx=>Bo (ar x.1.n λi=>decide (x.1.f i=x.2))) bx7)<|aF 141 (bN (a2 aQ aQ) (λx=>Bo (x.1.data.toList.contains<|x.2.data.toList.getD 0 0)) aR9)<|aF 272 (bN (a1 aQ) λs=> .bg [.agg [.rf (cmQ s).1 (cmQ s).2.1,I (cmQ s).2.2.1],I (cmQ s).2.2.2,I<|cmH s]) EN
def bK8:an P ESd:=ah (ah (ah (ah aw λs _=>by rw[aR8];exact Q1 s) λx h=>by
  obtain⟨s,k⟩:=x;have h:k.size=1:=h;have e:k=⟨#[k.data.toList.getD 0 0]⟩:=by
   obtain⟨⟨l⟩⟩:=k
   match l,h with
   | [a],_=>rfl
  have:=wT s (k.data.toList.getD 0 0);rw[<-e]at this;exact this) λx h=>KO x.1 x.2 h) λo _=>by rw[UD];exact aR7 o
def qb(p:fE):Bool:=decide<|(ar (vbH p.cO).n λi=>decide ((vbH p.cO).f i=p.lD))=true/\p.yH≠n_/\p.yH.size<=1024/\p.yH.data.toList.contains 10=false/\(p.lD=wg->cmH p.yH=0)
def aS0(p:fE):Ok P 222 [(af fE).au p] (Bo<|qb p):=by
 have hv:=bl5 p.cO;have e10:(⟨#[10]⟩:y_).data.toList.getD 0 0=10:=rfl;have em:(⟨#[109,97,116,99,104,101,115]⟩:y_)=wg:=rfl;refine al bK8 L0 (let Z:ix:=bI;let V:=(p.yH,(⟨#[10]⟩:y_));(.v (a1 aQ) p.cO<|.k (a2 (ak y_) aQ) (vbH p.cO,p.lD) (bx7 (vbH p.cO,p.lD))<|.m (ar (vbH p.cO).n λi=>decide ((vbH p.cO).f i=p.lD)) Z<|.n (dN p.yH (n_:y_)) Z<|.d ((p.yH.size:Int)>1024) Z<|.k (a2 aQ aQ) V (aR9 V)<|.n (p.yH.data.toList.contains<|(#[10]:Array UInt8).toList.getD 0 0) Z<|.m (dN p.lD (⟨#[109,97,116,99,104,101,115]⟩:y_)) fo<|.v (a1 aQ) p.yH<|.e<|Bo<|cmH p.yH==0)) ?_;simp only[av,bK,bO,aL]
 (repeat' with_reducible first|intro _|apply aNd_)<;>first|exact aM|(clear hv;unfold qb;exact ga)
def EVl:Env:=aF 222 (bN (a1<|af fE) λp=>Bo (qb p)) EN
def aS1:an P EVl:=ah aw λp _=>aS0 p
def bx8(l:bh fE)(i:Nat):Prop:=qb (l.f i)=false\/ ¬((l.f i).cO=nk↔(i:Int)=(l.n:Int)-1)
instance(l:bh fE)(i:Nat):Decidable (bx8 l i):=Classical.propDecidable _
def XW(l:bh fE)(i:Nat):Bool:=decide<|bx8 l i
def K0(l:bh fE)(i:Nat):XW l i=true↔(qb (l.f i)=false\/ ¬((l.f i).cO=nk↔(i:Int)=(l.n:Int)-1)):=bp
def qJ(r:iS):Bool:=decide<|1<=r.bD.n/\r.bD.n<=32/\ar r.bD.n (XW r.bD)=false
def aj1(r:iS)(h:r.bD.n<=aq):Ok P 152 [(af iS).au r] (Bo<|qJ r):=by
 have hsx:r.bD.n<=140737488351232:=h;have ep:(⟨#[112,108,117,109,98]⟩:y_)=nk:=rfl;have ew:1<=r.bD.n->oU ((r.bD.n:Int)-1)=(r.bD.n:Int)-1:=λq=>wrap64 U U;have lp:1<=r.bD.n->_:=λO=>by
  have ew:=ew O;have lq:=fF f152 5 r.bD.n (XW r.bD) (λi=>(M 37 [(1,aT),(2,aP),(3,I r.bD.n),(16,(ak fE).au r.bD),(17,I r.bD.n),(18,I i)])) [(cM [aY.cells r] 1)] (eR<|M 37 [(2,aP)]) (ey 0<|M 37 [(2,aP)]) λi hi lt aW az aR=>by
   refine ao aS1 L0 [1,2,3,16,17,18] [2] (let Z:=r.bD.f i;(.d ((i:Int)<r.bD.n) (.g i r.bD.n<|.v (a1<|af fE) Z<|.m (qb Z) (eH az)<|.n (!dN Z.cO (⟨#[112,108,117,109,98]⟩:y_)==((i:Int)==oU ((r.bD.n:Int)-1))) (eH az)<|eG aW)<|eY aR)) ?_;have Y:=K0 r.bD i
   (try simp only[ew])
   simp only[av,bK,bO,ev,jR,gl,nM,aL]
   repeat' with_reducible first|intro _|apply aNd_
   all_goals exact aM
  exact lq
 refine al aS1 (bc7 lp [1,2,3,16,17,18]) (let Z:ix:=bI;(.d ((r.bD.n:Int)<1) Z<|.d ((r.bD.n:Int)>32) Z<|lpC lp Z fo)) ?_;simp only[av]
 (repeat' with_reducible first|intro _|apply aNd_)<;>first|exact aM|(clear lp h;unfold qJ;exact ga)
abbrev mP:=dG->y_
abbrev nF:=dG->Int
def BX(pt:mP)(m:dG):Prop:=wf m/\(pt m).size<=140737488355328
def aS2(pt:mP)(x:wh):Prop:=wf x/\∀k,(pt<|x.fV.f k).size<=140737488355328
def iL(f:Nat)(pt:mP)(pe:nF):Prop:=∀m:dG,BX pt m->Ok P f [(af dG).au m] (.bg [S<|pt m,I<|pe m])
def Ie(pt:mP)(pe:nF)(m:dG):Bool:=decide<|pe m=0/\(pt m).size<=65536
def EM1(pt:mP)(pe:nF):Env:=aF 224 (bN (a1<|af dG) (λm=> .bg [S<|pt m,I<|pe m])<|BX pt) EN
def bK9(pt:mP)(pe:nF)(h:iL 224 pt pe:=by assumption):an P (EM1 pt pe):=ah aw h
def bl6(pt:mP)(pe:nF)(hp:iL 224 pt pe)(m:dG)(h:BX pt m):Ok P 156 [(af dG).au m] (Bo<|Ie pt pe m):=by
 refine al (bK9 pt pe) L0 (.k (a1<|af dG) m (BX pt m)<|.q (pe m) 0 (.e<|Bo<|decide<|(↑(pt m).size:Int)<=65536) bI) ?_;simp only[av]
 (repeat' with_reducible first|intro _|apply aNd_)<;>first|exact aM|(clear h;unfold Ie;exact ga)
def EM2(pt:mP)(pe:nF):Env:=aF 156 (bN (a1<|af dG) (λm=>Bo (Ie pt pe m))<|BX pt) EN
def bL0(pt:mP)(pe:nF)(h:iL 224 pt pe:=by assumption):an P (EM2 pt pe):=ah aw λm hm=>bl6 pt pe h m hm
def bL1(pt:mP)(pe:nF)(hp:iL 224 pt pe)(m:dG)(h:BX pt m):Ok P 155 [(af dG).au m] (Bo<|!Ie pt pe m):=by exact al (bL0 pt pe) L0 (.k (a1<|af dG) m (BX pt m)<|.e<|Bo !Ie pt pe m) ft
def K1(s:y_):Prop:=s.size<=aq
def EM3(pt:mP)(pe:nF):Env:=G4<|aF 155 (bN (a1<|af dG) (λm=>Bo (!Ie pt pe m))<|BX pt)<|aF 153 (bN (a1 aQ) (λs=>Bo (xh s)) K1) EN
def bL2(pt:mP)(pe:nF)(h:iL 224 pt pe:=by assumption):an P (EM3 pt pe):=Jn<|ah (ah aw ai1) λm hm=>bL1 pt pe h m hm
def vL(pt:mP)(pe:nF)(x:wh):Bool:=decide<|xh x.name=true/\0<=x.fa/\x.fa<=9007199254740991/\x.fV.n<=64/\(x.fa=0->x.fV.n=0)/\(ar x.fV.n λi=> !Ie pt pe (x.fV.f i))=false
def aj2(pt:mP)(pe:nF)(hp:iL 224 pt pe)(x:wh)(h:aS2 pt x):Ok P 90 [(af wh).au x] (Bo<|vL pt pe x):=by
 have hs:K1 x.name:=h.1.1;have hq:=h.1.2.1.1;have hw:∀i,BX pt (x.fV.f i):=λi=>⟨h.1.2.1.2 i,h.2 i⟩
 refine al (bL2 pt pe) L0 (let Z:ix:=bI;let V:=a1 (af dG);let aG:=(ak dG).au x.fV;let aS:=x.fV.n<=140737488351232;(.k (a1 aQ) x.name (K1 x.name)<|.m (xh x.name) Z<|.d (x.fa<0) Z<|.d (x.fa>9007199254740991) Z<|.d ((x.fV.n:Int)>64) Z<|.q x.fa 0 (.d ((x.fV.n:Int)>0) Z<|.r aG<|.o [aS,∀(i:Nat),i<x.fV.n->V.au (x.fV.f i)=V.au (x.fV.f i)/\BX pt (x.fV.f i)/\True]<|.e<|Bo !ar x.fV.n λi=> !Ie pt pe (x.fV.f i))<|.r aG<|.o [aS,∀(i:Nat),i<x.fV.n->V.au (x.fV.f i)=V.au (x.fV.f i)/\BX pt (x.fV.f i)/\True]<|.e<|Bo !ar x.fV.n λi=> !Ie pt pe (x.fV.f i))) ?_;simp only[av]
 (repeat' with_reducible first|intro _|apply aNd_)<;>first|exact aM|exact hw _|(clear h hs hq hw hp;unfold vL;exact ga)
abbrev UE:=bh iS->y_
abbrev tW:=bh iS->Int
def lB(f:Nat)(rt:UE)(re:tW):Prop:=∀l:bh iS,wf l->Ok P f [(ak iS).au l] (.bg [S<|rt l,I<|re l])
def EM4(pt:mP)(pe:nF)(rt:UE)(re:tW):Env:=aF 89 (bN (a1<|ak iS) (λl=> .bg [S<|rt l,I<|re l]) wf)<|aF 90 (bN (a1<|af wh) (λx=>Bo (vL pt pe x))<|aS2 pt) EN
def aS3(pt:mP)(pe:nF)(rt:UE)(re:tW)(h:iL 224 pt pe:=by assumption)(h2:lB 89 rt re:=by assumption):an P (EM4 pt pe rt re):=ah (ah aw λx hx=>aj2 pt pe h x hx) h2
def UF(pt:mP)(pe:nF)(x:hJ)(i:Nat):Prop:=vL pt pe (x.dX.f i)=false\/(0<i/\Op.bytesLess (x.dX.f<|i-1).name.toList (x.dX.f i).name.toList=false)
instance(pt:mP)(pe:nF)(x:hJ)(i:Nat):Decidable (UF pt pe x i):=by unfold UF;infer_instance
def Ig(pt:mP)(pe:nF)(x:hJ)(i:Nat):Bool:=decide<|UF pt pe x i
def Ih(pt:mP)(pe:nF)(x:hJ)(i:Nat):Ig pt pe x i=true↔(vL pt pe (x.dX.f i)=false\/(0<i/\Op.bytesLess (x.dX.f<|i-1).name.toList (x.dX.f i).name.toList=false)):=bp
def mQ(pt:mP)(pe:nF)(re:tW)(x:hJ):Bool:=decide<|re x.qN=0/\x.dX.n<=16/\ar x.dX.n (Ig pt pe x)=false
def Q2(pt:mP)(x:hJ):Prop:=wf x/\∀i k,(pt<|(x.dX.f i).fV.f k).size<=140737488355328
def UG(pt:mP)(pe:nF)(rt:UE)(re:tW)(hp:iL 224 pt pe)(ht:lB 89 rt re)(x:hJ)(h:Q2 pt x):Ok P 41 [(af hJ).au x] (Bo<|mQ pt pe re x):=by
 have N:=h.1.1;have hn:=h.1.2.1;have hw:∀i,aS2 pt (x.dX.f i):=λi=>⟨h.1.2.2 i,h.2 i⟩
 have lp:=fF f41 5 x.dX.n (Ig pt pe x) (λi=>(M 49 [(1,aT),(2,aP),(22,(ak wh).au x.dX),(23,I x.dX.n),(24,I i)])) [(cM [aY.cells x] 2)] (eR<|M 49 [(2,aP)]) (ey 0<|M 49 [(2,aP)]) λi hi lt aW az aR=>by
  refine ao (aS3 pt pe rt re) L0 [1,2,22,23,24] [2] (let Z:=x.dX.f i;let V:=oU ((i:Int)-1);(.d ((i:Int)<x.dX.n) (.g i x.dX.n<|.k (a1<|af wh) Z (aS2 pt Z)<|.m (vL pt pe Z) (eH az)<|.d ((i:Int)>0) (.g V x.dX.n<|.m (Op.bytesLess (x.dX.f V.toNat).name.toList Z.name.toList) (eH az)<|eG aW)<|eG aW)<|eY aR)) ?_;have Y:=Ih pt pe x i
  (try simp only[lQ<|cm hi hn,jF])
  simp only[av]
  (repeat' with_reducible first|intro _|apply aNd_)<;>first|exact aM|exact hw _
 refine al (aS3 pt pe rt re) (kR lp [1,2,22,23,24]) (let Z:ix:=bI;(.k (a1<|ak iS) x.qN (wf x.qN)<|.u (re x.qN) 0 Z<|.d ((x.dX.n:Int)>16) Z<|jS lp Z fo)) ?_;simp only[av]
 (repeat' with_reducible first|intro _|apply aNd_)<;>first|exact aM|(clear lp h N hw hp ht;unfold mQ;exact ga)
def fk(l:l_ y_):l_ (l_ J):=l.map λs=> [S s]
def pn(l:l_ y_):(fk l).length=l.length:=by unfold fk;rw[gS]
def kr(l:l_ y_)(s:y_):fk (l++ [s])=fk l++ [[S s]]:=by unfold fk;rw[mr];rfl
def Ec(l:l_ y_)(k:Nat):(fk l).take k=fk (l.take k):=by unfold fk;rw[Fp]
def zU(l:l_ y_)(i:Nat)(h:i<l.length):(fk l).getD i []=[S<|l.getD i default]:=by unfold fk;rw[cc,b9,cc,bX h];rfl
def rfS(l:l_ y_):J:= .rf l.length λi=> [S<|l.getD i default]
def yV(l:l_ y_):bh y_:=⟨l.length,λi=>l.getD i default⟩
def Q3 {w:World} {S':Nat->Prop} {n:Nat} {f g:Nat->l_ J} {q:J} {v:Value}(h:∀i,i<n->f i=g i)(N:cf w S' (.bg [.rf n f,q]) v):cf w S' (.bg [.rf n g,q]) v:=by
 cases N with
 |bg _ vs hl Y=>
  refine .bg _ vs (by simpa using hl) λi c v q1 q2=> ?_
  match i with
  |0=>simp at q1;subst q1;exact fS h<|Y 0 _ v rfl q2
  |1=>simp at q1;subst q1;exact Y 1 _ v rfl q2
  |i+2=>simp at q1
def dot:y_:=⟨#[46]⟩
def UH:y_:=⟨#[46,46]⟩
def tc(l:l_ y_):y_:=l.getLastD n_
def td(bW:Bool)(out:l_ y_)(s:y_):l_ y_:=
 if s=n_\/s=dot then out else if s=UH then(if out≠ []/\tc out≠UH then out.dropLast else if bW=true then out else out++ [s])else out++ [s]
def Dk(s:y_):Bool:=decide<|s≠n_/\s≠dot/\s≠UH/\fj s=false
def Q4(s:y_):Dk s=true↔(s≠n_/\s≠⟨#[46]⟩/\s≠⟨#[46,46]⟩/\fj s=false):=bp
def qK(p:y_)(i:Nat):y_:=B<|(bS 47 p.data.toList).getD i []
def gd(p:y_):Nat->l_ y_
 |0=> []
 |i+1=>td (iK p) (gd p i) (qK p i)
def gq(p:y_):Nat:=(bS 47 p.data.toList).length
def aj3(r:Bool)(out:l_ y_)(s:y_):(td r out s).length<=out.length+1:=by
 unfold td
 repeat' split
 all_goals simp
 all_goals omega
theorem Ii(p:y_):∀i,(gd p i).length<=i
 |0=>bE _
 |i+1=>by have O:=Ii p i;have h2:=aj3 (iK p) (gd p i) (qK p i);show(td _ _ _).length<=_;omega
theorem Ed(c:UInt8):∀l:l_ UInt8,(bS c l).length<=l.length+1
 | []=>bE _
 |b::l=>by
  have ih:=Ed c l;rw[lS];split
  .simp;omega
  .split
   .rename_i x r h;rw[h]at ih;simp at ih⊢;omega
   .simp
def XX(p:y_):gq p<=p.size+1:=by have:=Ed 47 p.data.toList;have e:p.data.toList.length=p.size:=rfl;unfold gq;omega
def Q5 {l:l_ y_}(h:l≠ []):(fk l)[l.length-1]?=some [S<|tc l]:=by
 unfold fk tc;rw[b9,List.getLastD_eq_getLast?,List.getLast?_eq_getElem?];have:l.length-1<l.length:=by have:=sM.2 h;omega
 rw[bX this];rfl
def gL(p:y_):Int:=if 1024<p.size then 4 else if ar (gq p) (λi=>Dk (qK p i))=true then 6 else if 32<(gd p<|gq p).length then 4 else 0
def iU(p:y_):l_ y_:=if gL p=0 then gd p (gq p)else []
def Nu(p:y_):J:= .bg [rfS<|iU p,I<|gL p]
def EPA:Env:=aF 43 (bN (a1 aQ) (λs=>Bo (fj s)) λs=>s.size<=aq)<|aF 206 (bN (a1 aQ) λs=>Bo (iK s))<|aF 256 (bN (a2 aQ aQ) (λx=>He (bS 47 x.1.data.toList)) λx=>x.1.size<4294967281/\x.2=⟨#[47]⟩) EN
theorem aS4:an P EPA:=ah (ah (ah aw λx h=>by have:=ay4 x.1 47 h.1;rw[<-h.2]at this;exact this) λs _=>Km s) λs h=>uw s h
theorem BY(c:UInt8):∀(l:l_ UInt8),∀x∈bS c l,x.length<=l.length
 | [],x,h=>by
  have:x=[]:=by simpa [bS]using h
  rw[this];exact bE _
 |b::l,x,h=>by
  have ih:=BY c l;rw[lS]at h;split at h
  .rcases fB.1 h with rfl|h
   .exact bJ _
   .have:=ih x h;simp;omega
  .split at h
   .rename_i y r hy;rw[hy]at ih;rcases fB.1 h with rfl|h
    .have:=ih y sS;simp;omega
    .have:=ih x (by simp [h]);simp;omega
   .have:x=[b]:=by simpa using h
    rw[this];simp
theorem zV(p:y_)(i:Nat):(B<|(bS 47 p.data.toList).getD i []).size<=p.size:=by
 rw[jG,cc];cases h:(bS 47 p.data.toList)[i]? with
 |none=>exact bJ _
 |some x=>exact BY 47 _ x (cw h)
def yj(p:y_):J:= .bg [.rf (iU p).length λi=>(fk<|iU p).getD i [],I<|gL p]
theorem po {p:y_} {e:Int}(h:gL p=e)(F:e≠0):J.bg [J.rf 0 λ_=> [],I e]=yj p:=by unfold yj iU;rw[h,if_neg F];rfl
theorem Ij {p:y_}(h:gL p=0):J.bg [J.rf (gd p<|gq p).length λi=>(fk<|gd p<|gq p).getD i [],I 0]=yj p:=by unfold yj iU;rw[h,if_pos rfl]
theorem Q6 {p:y_}(h:(p.size:Int)>1024):gL p=4:=if_pos U
theorem Q7 {p:y_}(h: ¬(p.size:Int)>1024)(h2:ar (gq p) (λi=>Dk (qK p i))=true):gL p=6:=by unfold gL;rw[if_neg U,if_pos h2]
theorem Q8 {p:y_}(h: ¬(p.size:Int)>1024)(h2:ar (gq p) (λi=>Dk (qK p i))=false)(h3:((gd p<|gq p).length:Int)>32):gL p=4:=by unfold gL;rw[if_neg U,if_neg (by rw[h2];simp),if_pos U]
theorem Q9 {p:y_}(h: ¬(p.size:Int)>1024)(h2:ar (gq p) (λi=>Dk (qK p i))=false)(h3: ¬((gd p<|gq p).length:Int)>32):gL p=0:=by unfold gL;rw[if_neg U,if_neg (by rw[h2];simp),if_neg U]
section
variable {p:y_} {i:Nat}
theorem b00(h:(B<|(bS 47 p.data.toList).getD i [])=n_):gd p (i+1)=gd p i:=if_pos<|.inl h
theorem b01(h:(B<|(bS 47 p.data.toList).getD i [])=⟨#[46]⟩):gd p (i+1)=gd p i:=if_pos<|.inr h
theorem b02(h:(B<|(bS 47 p.data.toList).getD i [])=⟨#[46,46]⟩)(hl:0<(gd p i).length)(h2: ¬tc (gd p i)=⟨#[46,46]⟩):gd p (i+1)=(gd p i).dropLast:=by show td (iK p) (gd p i) (B<|(bS 47 p.data.toList).getD i [])=_;unfold td;rw[h,if_neg dD,if_pos (show(⟨#[46,46]⟩:y_)=UH from rfl),if_pos ⟨sM.1 hl,h2⟩]
theorem bl7(h:(B<|(bS 47 p.data.toList).getD i [])=⟨#[46,46]⟩)(h2: ¬0<(gd p i).length\/tc (gd p i)=⟨#[46,46]⟩)(h3:iK p=true):gd p (i+1)=gd p i:=by show td (iK p) (gd p i) (B<|(bS 47 p.data.toList).getD i [])=_;unfold td;rw[h,if_neg dD,if_pos (show(⟨#[46,46]⟩:y_)=UH from rfl),if_neg λq=>h2.elim (λq2=>q2 (sM.2 q.1)) λq2=>q.2 q2,if_pos h3]
theorem bl8(h:(B<|(bS 47 p.data.toList).getD i [])=⟨#[46,46]⟩)(h2: ¬0<(gd p i).length\/tc (gd p i)=⟨#[46,46]⟩)(h3:iK p=false):gd p (i+1)=gd p i++ [(B<|(bS 47 p.data.toList).getD i [])]:=by show td (iK p) (gd p i) (B<|(bS 47 p.data.toList).getD i [])=_;unfold td;rw[h,if_neg dD,if_pos (show(⟨#[46,46]⟩:y_)=UH from rfl),if_neg λq=>h2.elim (λq2=>q2 (sM.2 q.1)) λq2=>q.2 q2,if_neg (by rw[h3];simp)]
theorem b03(h0: ¬(B<|(bS 47 p.data.toList).getD i [])=n_)(O: ¬(B<|(bS 47 p.data.toList).getD i [])=⟨#[46]⟩)(h2: ¬(B<|(bS 47 p.data.toList).getD i [])=⟨#[46,46]⟩):gd p (i+1)=gd p i++ [(B<|(bS 47 p.data.toList).getD i [])]:=by show td (iK p) (gd p i) (B<|(bS 47 p.data.toList).getD i [])=_;unfold td;rw[if_neg λq=>q.elim h0 O,if_neg (show ¬_=UH from h2)]
end
theorem aj4(p:y_)(hp:p.size<=aq):Ok P 204 [S p] (yj p):=by
 have Y:=XX p;have hl:=Ii p;have lp:=λ(iH:p.size<=1024)=>qp f204 5 (gq p) (λi=>Dk (qK p i)) (λi=>(M 68 [(0,S p),(2,.dF),(3,I 0),(4,.bf 0 (gd p i).length),(12,He<|bS 47 p.data.toList),(13,I (gq p:Int)),(14,I i)])) (λi=> [⟨fk<|gd p i,0,[],1,true,false⟩]) (λi=>(.ret,(M 68 [(2,.dF),(3,I 6)]),[])) (.ext 0,(M 68 [(2,.dF),(3,I 0),(4,.bf 0 (gd p<|gq p).length)]),[⟨fk<|gd p<|gq p,0,[],1,true,false⟩]) λi hi lt aW az aR=>by
  have hm:gq p<=aq:=by unfold aq;omega
  have Ww:=hl i;have hlm:(gd p i).length<=aq:=by unfold aq;omega
  have JY:0<(gd p i).length->(fk<|gd p i)[(gd p i).length-1]?=some [S<|tc<|gd p i]:=λh=>Q5<|sM.1 h;have I5:=pn<|gd p i;have hqs:=cm (zV p i) hp
  refine ao aS4 L0 [0,2,3,4,12,13,14] [2,3,10004] (let Z:=bS 47 p.data.toList;let aG:=(14,I<|oU<|(i:Int)+1);let aS:=B (Z.getD i []);let bn:=gd p i;let bH:=(13,I (↑(gq p):Int));let cp:=[dn (fk bn++ [[S aS]]) 1];let cu:=(4,J.bf 0<|bn.length+1);let dk:=(bn.length:Int);let bP:=(4,J.bf 0 bn.length);let bY:=(2,J.dF);let cN:=aS.size<=140737488351232;let dE:=oU (dk-1);let dV:=(⟨#[46,46]⟩:y_);let bu:=dN aS dV;let eu:=fk bn;let V:=[bn.length=eu.length,(bn.length+1)*16<=140737488355328];let bC:=[dn eu 1];let fI:=fj aS;(.d ((i:Int)<(↑(gq p):Int)) (.g i (Z.length:Int)<|.n (dN aS (n_:y_)) (bR (M 68 [(0,S p),bY,(3,I 0),bP,(12,J.rf Z.length λi=> [S<|B<|Z.getD i []]),bH,aG]) bC)<|.n (dN aS (⟨#[46]⟩:y_)) (bR (M 68 [(0,S p),bY,(3,I 0),bP,(12,J.rf Z.length λi=> [S<|B<|Z.getD i []]),bH,aG]) bC)<|.n bu (.d (oU (dk-1)>=0) (.g dE dk<|.o [eu[0+dE.toNat]?=some [S<|tc bn]]<|.s (.ld [S<|tc bn])<|.m (dN (tc bn) dV) (.o [(0:Int)<=0,(0:Int)<=oU (dk-1),oU (dk-1)<=dk]<|bR (M 68 [(0,S p),bY,(3,I 0),(4,J.own 0 0<|dE.toNat-0),(12,J.rf Z.length λi=> [S<|B<|Z.getD i []]),bH,aG]) bC)<|.n bu (.v (a1 aQ) p<|.m (iK p) (.o V<|.r true<|.r true<|bR (M 68 [(0,S p),bY,(3,I 0),cu,(12,J.rf Z.length λi=> [S<|B<|Z.getD i []]),bH,aG]) cp)<|bR (M 68 [(0,S p),bY,(3,I 0),bP,(12,J.rf Z.length λi=> [S<|B<|Z.getD i []]),bH,aG]) bC)<|.k (a1 aQ) aS cN<|.m fI (eH az)<|.o V<|.r true<|.r true<|bR (M 68 [(0,S p),bY,(3,I 0),cu,(12,J.rf Z.length λi=> [S<|B<|Z.getD i []]),bH,aG]) cp)<|.n bu (.v (a1 aQ) p<|.m (iK p) (.o V<|.r true<|.r true<|bR (M 68 [(0,S p),bY,(3,I 0),cu,(12,J.rf Z.length λi=> [S<|B<|Z.getD i []]),bH,aG]) cp)<|bR (M 68 [(0,S p),bY,(3,I 0),bP,(12,J.rf Z.length λi=> [S<|B<|Z.getD i []]),bH,aG]) bC)<|.k (a1 aQ) aS cN<|.m fI (eH az)<|.o V<|.r true<|.r true<|bR (M 68 [(0,S p),bY,(3,I 0),cu,(12,J.rf Z.length λi=> [S<|B<|Z.getD i []]),bH,aG]) cp)<|.n bu (.v (a1 aQ) p<|.m (iK p) (.o V<|.r true<|.r true<|bR (M 68 [(0,S p),bY,(3,I 0),cu,(12,J.rf Z.length λi=> [S<|B<|Z.getD i []]),bH,aG]) cp)<|bR (M 68 [(0,S p),bY,(3,I 0),bP,(12,J.rf Z.length λi=> [S<|B<|Z.getD i []]),bH,aG]) bC)<|.k (a1 aQ) aS cN<|.m fI (eH az)<|.o V<|.r true<|.r true<|bR (M 68 [(0,S p),bY,(3,I 0),cu,(12,J.rf Z.length λi=> [S<|B<|Z.getD i []]),bH,aG]) cp)<|fv 0 (M 68 [bY,(3,I 0),bP]) bC)) ?_
  have Y:=(show Dk (qK p i)=true↔((B<|(bS 47 p.data.toList).getD i [])≠n_/\(B<|(bS 47 p.data.toList).getD i [])≠⟨#[46]⟩/\(B<|(bS 47 p.data.toList).getD i [])≠⟨#[46,46]⟩/\fj (B<|(bS 47 p.data.toList).getD i [])=false)from Q4 (qK p i))
  simp only[lQ hlm,jF,eP,u3];simp only[av,bK,bO,aL]
  (repeat' with_reducible first|intro _|apply aNd_)<;>first|exact aM|exact JY U|(rw[b00 W]at aW;rw[bZ (n:=gq p) U hm];exact aW U (bF Y λq=>q.1 W))|(rw[b01 W]at aW;rw[bZ (n:=gq p) U hm];exact aW U (bF Y λq=>q.2.1 W))|(rw[b02 W U W,List.length_dropLast,List.dropLast_eq_take,<-Ec]at aW;rw[bZ (n:=gq p) U hm];exact aO.shrink 4 0 _ (.inl rfl) rfl rfl rfl (aW U<|bF Y λq=>q.2.2.1 W))|(rw[bl7 W (.inr W) W]at aW;rw[bZ (n:=gq p) U hm];exact aW U (bF Y λq=>q.2.2.1 W))|(rw[bl7 W (.inl U) W]at aW;rw[bZ (n:=gq p) U hm];exact aW U (bF Y λq=>q.2.2.1 W))|(rw[bl8 W (.inr W) W,kr,br]at aW;rw[bZ (n:=gq p) U hm];exact aW U (bF Y λq=>q.2.2.1 W))|(rw[bl8 W (.inl U) W,kr,br]at aW;rw[bZ (n:=gq p) U hm];exact aW U (bF Y λq=>q.2.2.1 W))|(rw[b03 W W W,kr,br]at aW;rw[bZ (n:=gq p) U hm];exact aW U (bF Y λq=>absurd q.2.2.2 (by rw[qR];assumption)))|(have e:i=gq p:=U;subst e;exact aR rfl)
 have I5:=pn<|gd p<|gq p;refine al aS4 (tI [0,2,3,4,12,13,14] [(4,1)] (gq p) (λi=>Dk (qK p i)) (λi=>(M 68 [(2,.dF),(3,I 6)])) (M 68 [(2,.dF),(3,I 0),(4,.bf 0 (gd p<|gq p).length)]) (.ext 0) (λi=> []) [⟨fk<|gd p<|gq p,0,[],1,true,false⟩]) (let Z:=bS 47 p.data.toList;let V:=gd p (gq p);let aG:=(⟨#[47]⟩:y_);let aS:=(13,I Z.length);let bn:=(2,J.dF);let bH:=fk V;(.d ((p.size:Int)>1024) (.e<|J.bg [J.rf 0 λi=> [],I 4])<|.k (a2 aQ aQ) (p,aG) (p.size<4294967281/\aG=aG)<|.n (ar (gq p) λi=>Dk (qK p i)) (.o [ax P (aD f204 5) (M 68 [(0,S p),bn,(3,I 0),(4,J.bf 0 0),(12,J.rf Z.length λi=> [S<|B<|Z.getD i []]),aS,(14,I 0)]) [dn [] 1] (Out.ret) (M 68 [bn,(3,I 6)]) []]<|.e<|J.bg [J.rf 0 λi=> [],I 6])<|.o [ax P (aD f204 5) (M 68 [(0,S p),bn,(3,I 0),(4,J.bf 0 0),(12,J.rf Z.length λi=> [S<|B<|Z.getD i []]),aS,(14,I 0)]) [dn [] 1] (Out.ext 0) (M 68 [bn,(3,I 0),(4,J.bf 0 V.length)]) [dn bH 1]]<|.d ((V.length:Int)>32) (.e<|J.bg [J.rf 0 λi=> [],I 4])<|.o [V.length=bH.length]<|.e<|J.bg [J.rf V.length λi=>bH.getD i [],I 0])) ?_;simp only[av]
 (repeat' with_reducible first|intro _|apply aNd_)<;>first|exact aM|exact po (Q6 W) dD|exact po (Q7 W W) dD|exact po (Q8 W W W) dD|exact Ij<|Q9 W W W
theorem aj5(p:y_)(hp:p.size<=aq):Ok P 204 [S p] (Nu p):=
 (aj4 p hp).res λ_ _ _ N=>Q3 (λi hi=>zU _ i hi) N
def EF1:Env:=aF 170 (bN (a2 (af km) bx) (λx=>I (jj x.1 x.2)) λx=>x.1.aB.n<=aq)<|aF 68 (bN (a2 (af km) bx) (λx=>I (jj x.1 x.2)) λx=>x.1.aB.n<=aq) EN
def Nv:an P EF1:=ah (ah aw λx h=>aP5 x.1 x.2 h) λx h=>bH7 x.1 x.2 h
def BZ {x:km} {id:Int}(h: ¬jj x id<0):jj x id<x.aB.n:=by
 have ha:ar x.aB.n (λi=>decide ((x.aB.f i).id=id))=true:=by have:=iw (n:=x.aB.n) (b:=λi=>decide ((x.aB.f i).id=id));rw[<-this];exact cd (show 0<=jj x id by omega)
 have:=dw.2 ha;have e:jj x id=(aE x.aB.n λi=>decide ((x.aB.f i).id=id):Nat):=by unfold jj cZ;rw[if_pos ha]
 omega
def Dl(n:km)(t:dQ):Bool:=decide<|(t.dZ≠3/\t.iV=0)\/(t.dZ=3/\0<=jj n t.iV/\t.iV≠t.id/\(n.aB.f (jj n t.iV).toNat).dZ=3/\(n.aB.f (jj n t.iV).toNat).iV=t.id)
def aj6(n:km)(t:dQ)(h:n.aB.n<=aq):Ok P 99 [(af km).au n,(af dQ).au t] (Bo<|Dl n t):=by
 refine al Nv L0 (let Z:=jj n t.iV;let V:=n.aB.f Z.toNat;let aG:ix:=bI;(.u t.dZ 3 (.e<|Bo<|t.iV==0)<|.k (a2 (af km) bx) (n,t.iV) (n.aB.n<=140737488351232)<|.d (jj n t.iV>=0) (.u t.iV t.id (.g Z n.aB.n<|.q (V.dZ) 3 (.g Z n.aB.n<|.e<|Bo<|V.iV==t.id) aG) aG) aG)) ?_;simp only[av]
 (repeat' with_reducible first|intro _|apply aNd_)<;>first|exact aM|exact BZ U|(refine ba Bo ?_;unfold Dl;grind)
def EF2:Env:=aF 169 (bN (a2 (ak Int) bx) (λx=>Bo (ar x.1.n λi=>decide (x.1.f i=x.2))) λx=>x.1.n<=aq) EF1
def UI:an P EF2:=ah Nv λx h=>bH8 x.1 x.2 h
def bL3(n:km)(t:dQ)(a:lE)(i:Nat):Prop:=(n.aB.f i).id≠t.id/\(n.aB.f i).fY=t.fY/\(n.aB.f i).dZ=2/\(n.aB.f i).Cg.x6=a.x6/\(n.aB.f i).Cg.lC=a.lC
instance(n:km)(t:dQ)(a:lE)(i:Nat):Decidable (bL3 n t a i):=by unfold bL3;infer_instance
def Ra(n:km)(t:dQ)(a:lE)(i:Nat):Bool:=decide<|bL3 n t a i
def Rb(n:km)(t:dQ)(a:lE)(i:Nat):Ra n t a i=true↔((n.aB.f i).id≠t.id/\(n.aB.f i).fY=t.fY/\(n.aB.f i).dZ=2/\(n.aB.f i).Cg.x6=a.x6/\(n.aB.f i).Cg.lC=a.lC):=bp
def bl9(n:km)(t:dQ)(a:lE)(h:n.aB.n<=aq):Ok P 97 [(af km).au n,(af dQ).au t,(af lE).au a] (Bo<|ar n.aB.n<|Ra n t a):=by
 have lp:=fF f97 2 n.aB.n (Ra n t a) (λi=>(M 54 [(3,aT),(4,J.ptr 1 0 0),(5,J.ptr 2 0 0),(6,aP),(11,I n.aB.n),(12,I i)])) [(cM [aY.cells n] 3),(cM [aY.cells t] 14),(cM [aY.cells a] 3)] (eR<|M 54 [(6,fZ)]) (ey 0<|M 54 [(6,aP)]) λi hi lt aW az aR=>by
  refine ao UI L0 [3,4,5,6,11,12] [6] (let Z:=n.aB.f i;(.d ((i:Int)<n.aB.n) (.g i n.aB.n<|.u (Z.id) t.id (.n (dN Z.fY t.fY) (.q (Z.dZ) 2 (.n (dN Z.Cg.x6 a.x6) (.n (dN Z.Cg.lC a.lC) (eH az)<|eG aW)<|eG aW)<|eG aW)<|eG aW)<|eG aW)<|eY aR)) ?_;have Y:=Rb n t a i;simp only[av,bK,bO,aL]
  repeat' with_reducible first|intro _|apply aNd_
  all_goals exact aM
 refine al UI (kR lp [3,4,5,6,11,12]) (jS lp fo bI) ?_;simp only[av]
 repeat' with_reducible first|intro _|apply aNd_
 all_goals (simp only[*])
def UJ(x:bh Int)(k:Int)(hn:x.n<=aq):Ok P 203 [(ak Int).au x,I k] (I<|cZ x.n λi=>decide (x.f i=k)):=by
 have lp:=fF f203 2 x.n (λi=>decide (x.f i=k)) (λi=>(M 19 [(0,(ak Int).au x),(1,I k),(4,I 0),(7,I x.n),(8,I i)])) [] (λi=>(.ret,(M 19 [(4,I i)]),[])) (ey 0<|M 19 [(4,I 0)]) λi hi lt aW az aR=>by
  refine ao aw L0 [0,1,4,7,8] [4] (.d ((i:Int)<x.n) (.g i x.n<|.q k (x.f i) (eH az)<|eG aW)<|eY aR) ?_;have Y:=@decide_eq_true_iff (x.f i=k) _;simp only[av]
  repeat' with_reducible first|intro _|apply aNd_
  all_goals exact aM
 refine al aw (kR lp [0,1,4,7,8]) (jS lp (.e<|I (↑(aE x.n λi=>decide (x.f i=k)):Int))<|.e<|I<|-1) ?_;simp only[av]
 (repeat' with_reducible first|intro _|apply aNd_)<;>first|(unfold cZ;rw[if_pos W])|(unfold cZ;rw[if_neg<|jY.1 W])
def cb9:Env:=aF 203 (bN (a2 (ak Int) bx) (λx=>I (cZ x.1.n λi=>decide (x.1.f i=x.2))) λx=>x.1.n<=aq) EN
def bm0:an P cb9:=ah aw λx h=>UJ x.1 x.2 h
def aj7(x:bh Int)(k:Int)(hn:x.n<=aq):Ok P 131 [(ak Int).au x,I k] (Bo<|ar x.n λi=>decide (x.f i=k)):=by
 refine al bm0 L0 (.k (a2 (ak Int) bx) (x,k) (x.n<=140737488351232)<|.e<|Bo<|decide<|(cZ x.n λi=>decide (x.f i=k))>=0) ?_;simp only[av]
 (repeat' with_reducible first|intro _|apply aNd_)<;>first|exact aM|(refine ba Bo ?_;exact iw)
def EF3:Env:=aF 131 (bN (a2 (ak Int) bx) (λx=>Bo (ar x.1.n λi=>decide (x.1.f i=x.2))) λx=>x.1.n<=aq) EF2
def xn:an P EF3:=ah UI λx h=>aj7 x.1 x.2 h
def inB(l:bh Int)(id:Int):Bool:=ar l.n λk=>decide<|l.f k=id
def lY(x:bh dQ)(id:Int):Nat->Nat
 |0=>0
 |i+1=>lY x id i+if inB (x.f i).bt id=true then 1 else 0
theorem Nw(x:bh dQ)(id:Int):∀i,lY x id i<=i
 |0=>bE _
 |i+1=>by have:=Nw x id i;show lY x id i+_<=_;split<;>omega
def Nx(n:Nat):ar n (λ_=>false)=false:=bc.2 λ_ _=>rfl
def aS5(x:km)(id:Int)(h:wf x):Ok P 71 [(af km).au x,I id] (I (lY x.aB id x.aB.n:Nat)):=by
 have hn:=h.2.2.1;have hb:∀i,(x.aB.f i).bt.n<=aq:=λi=>(h.2.2.2 i).2.2.2.2.2.2.2.2.1.1;have lp:=yM f71 3 x.aB.n (λ_=>false) (λi=>(M 23 [(1,I id),(4,I 0),(5,I (lY x.aB id i:Nat)),(9,(ak dQ).au x.aB),(10,I x.aB.n),(11,I i)])) [] (eR<|M 23 [(4,I 0),(5,I 0)]) (ey 0<|M 23 [(4,I 0),(5,I (lY x.aB id x.aB.n:Nat))]) λi hi lt aW az aR=>by
  have hle:=Nw x.aB id i;have hs:lY x.aB id (i+1)=lY x.aB id i+if inB (x.aB.f i).bt id=true then 1 else 0:=rfl
  have O:ar (x.aB.f i).bt.n (λk=>decide ((x.aB.f i).bt.f k=id))=true->oU ((lY x.aB id i:Int)+1)=(lY x.aB id (i+1):Nat):=λe=>by
   have e2:lY x.aB id (i+1)=lY x.aB id i+1:=by rw[hs,if_pos (show inB (x.aB.f i).bt id=true from e)]
   unfold aq at hn;rw[e2,wrap64 U U];rfl
  have h0:ar (x.aB.f i).bt.n (λk=>decide ((x.aB.f i).bt.f k=id))=false->lY x.aB id (i+1)=lY x.aB id i:=λe=>by rw[hs,if_neg (by unfold inB;rw[e];simp)];rfl
  refine ao xn L0 [1,4,5,9,10,11] [4,5] (let Z:=(↑(lY x.aB id i):Int);let V:=x.aB.f i;let aG:=(9,(ak dQ).au x.aB);let aS:=(11,I<|oU<|(i:Int)+1);(.d ((i:Int)<x.aB.n) (.g i x.aB.n<|.k (a2 (ak Int) bx) (V.bt,id) (V.bt.n<=140737488351232)<|.n (ar V.bt.n λuU=>decide (V.bt.f uU=id)) (bR (M 23 [(1,I id),(4,I 0),(5,I<|oU<|Z+1),aG,(10,I x.aB.n),aS]) [])<|bR (M 23 [(1,I id),(4,I 0),(5,I Z),aG,(10,I x.aB.n),aS]) [])<|fv 0 (M 23 [(4,I 0),(5,I Z)]) [])) ?_;have Y:=(di:False↔False)
  simp only[av,bK,bO]
  (repeat' with_reducible first|intro _|apply aNd_)<;>first|exact aM|exact hb i|(rw[O W,bZ (n:=x.aB.n) U hn];exact aW U rfl)|(rw[h0 W]at aW;rw[bZ (n:=x.aB.n) U hn];exact aW U rfl)|(have e:i=x.aB.n:=U;subst e;exact aR rfl)
 refine al xn (kR lp [1,4,5,9,10,11]) (jS lp qo<|.e<|I (↑(lY x.aB id x.aB.n):Int)) ?_;simp only[av]
 (repeat' with_reducible first|intro _|apply aNd_)<;>first|exact aM|exact absurd (show(ar x.aB.n λ_=>false)=true by assumption) (by rw[Nx];simp)
def aS6(x:km)(id:Int)(h:wf x):Ok P 98 [(af km).au x,I id] (I (lY x.aB id x.aB.n:Nat)):=by
 have hn:=h.2.2.1;have hb:∀i,(x.aB.f i).bt.n<=aq:=λi=>(h.2.2.2 i).2.2.2.2.2.2.2.2.1.1;have lp:=yM f98 3 x.aB.n (λ_=>false) (λi=>(M 25 [(1,I id),(2,aT),(4,I 0),(5,I (lY x.aB id i:Nat)),(9,I x.aB.n),(10,I i)])) [(cM [aY.cells x] 3)] (eR<|M 25 [(4,I 0),(5,I 0)]) (ey 0<|M 25 [(4,I 0),(5,I (lY x.aB id x.aB.n:Nat))]) λi hi lt aW az aR=>by
  have hle:=Nw x.aB id i;have hs:lY x.aB id (i+1)=lY x.aB id i+if inB (x.aB.f i).bt id=true then 1 else 0:=rfl
  have O:ar (x.aB.f i).bt.n (λk=>decide ((x.aB.f i).bt.f k=id))=true->oU ((lY x.aB id i:Int)+1)=(lY x.aB id (i+1):Nat):=λe=>by
   have e2:lY x.aB id (i+1)=lY x.aB id i+1:=by rw[hs,if_pos (show inB (x.aB.f i).bt id=true from e)]
   unfold aq at hn;rw[e2,wrap64 U U];rfl
  have h0:ar (x.aB.f i).bt.n (λk=>decide ((x.aB.f i).bt.f k=id))=false->lY x.aB id (i+1)=lY x.aB id i:=λe=>by rw[hs,if_neg (by unfold inB;rw[e];simp)];rfl
  refine ao xn L0 [1,2,4,5,9,10] [4,5] (let Z:=(↑(lY x.aB id i):Int);let V:=x.aB.f i;let aG:=(10,I<|oU<|(i:Int)+1);let aS:=[cM [(aY.cells x)] 3];(.d ((i:Int)<x.aB.n) (.g i x.aB.n<|.k (a2 (ak Int) bx) (V.bt,id) (V.bt.n<=140737488351232)<|.n (ar V.bt.n λuU=>decide (V.bt.f uU=id)) (bR (M 25 [(1,I id),(2,aT),(4,I 0),(5,I<|oU<|Z+1),(9,I x.aB.n),aG]) aS)<|bR (M 25 [(1,I id),(2,aT),(4,I 0),(5,I Z),(9,I x.aB.n),aG]) aS)<|fv 0 (M 25 [(4,I 0),(5,I Z)]) [])) ?_;have Y:=(di:False↔False)
  simp only[av,bK,bO]
  (repeat' with_reducible first|intro _|apply aNd_)<;>first|exact aM|exact hb i|(rw[O W,bZ (n:=x.aB.n) U hn];exact aW U rfl)|(rw[h0 W]at aW;rw[bZ (n:=x.aB.n) U hn];exact aW U rfl)|(have e:i=x.aB.n:=U;subst e;exact aR rfl)
 refine al xn (kR lp [1,2,4,5,9,10]) (jS lp qo<|.e<|I (↑(lY x.aB id x.aB.n):Int)) ?_;simp only[av]
 (repeat' with_reducible first|intro _|apply aNd_)<;>first|exact aM|exact absurd (show(ar x.aB.n λ_=>false)=true by assumption) (by rw[Nx];simp)
theorem Ee(c:UInt8):∀a:l_ UInt8,(∀b∈a,b≠c)->bS c a=[a]
 | [],_=>rfl
 |b::l,h=>by rw[lS,if_neg (h b ch),Ee c l λx hx=>h x (fh _ hx)]
theorem Ik(c:UInt8)(r:l_ UInt8):∀a:l_ UInt8,(∀b∈a,b≠c)->bS c (a++c::r)=a::bS c r
 | [],_=>by rw[nL,lS,if_pos rfl]
 |b::l,h=>by rw[AE,lS,if_neg (h b ch),Ik c r l λx hx=>h x (fh _ hx)]
def cutAt(p:y_)(i:Nat):Bool:=decide<|i=p.size\/(p.data.toList.getD i 0).toNat=47
def jV(p:y_):Nat->Nat
 |0=>0
 |i+1=>bif cutAt p i then i+1 else jV p i
def oe(p:y_):Nat->l_ y_
 |0=> []
 |i+1=>bif cutAt p i then oe p i++ [p.extract (jV p i) i]else oe p i
theorem Il(p:y_):∀i,jV p i<=i
 |0=>bE _
 |i+1=>by
  have:=Il p i;show(bif cutAt p i then i+1 else jV p i)<=_;cases cutAt p i
  .show jV p i<=_;omega
  .exact bE _
theorem XY(p:y_):∀i,(oe p i).length<=i
 |0=>bE _
 |i+1=>by
  have:=XY p i;show(bif cutAt p i then oe p i++ [p.extract (jV p i) i]else oe p i).length<=_;cases cutAt p i
  .show(oe p i).length<=_;omega
  .show(oe p i++ [p.extract (jV p i) i]).length<=_;rw[br];show _+1<=_;omega
def K2(p:y_)(a b:Nat):p.extract a b=B ((p.data.toList.take b).drop a):=by apply sK;rw[ByteArray.data_extract,<-EY];simp [B,List.drop_take]
def bL4(b:UInt8):b.toNat=47↔b=47:=⟨λh=>xF.1 h,λh=>by rw[h];rfl⟩
theorem Re(p:y_):∀i,i<=p.size->((oe p i).map λs=>s.data.toList)++bS 47 (p.data.toList.drop<|jV p i)=bS 47 p.data.toList/\∀j,jV p i<=j->j<i->p.data.toList[j]?≠some 47
 |0,_=>⟨rfl,λj O h2=>absurd h2 (jC _)⟩
 |i+1,hi=>by
  obtain⟨O,h2⟩:=Re p i U;have hf:=Il p i;have hl:i<p.data.toList.length:=by have:p.data.toList.length=p.size:=rfl;omega
  cases Y:cutAt p i with
  |false=>
   rw[show oe p (i+1)=oe p i by show(bif cutAt p i then _ else _)=_;rw[Y];rfl,show jV p (i+1)=jV p i by show(bif cutAt p i then _ else _)=_;rw[Y];rfl];refine⟨O,λj q1 q2=> ?_⟩;by_cases hj:j=i
   .subst hj;have:=fW Y;rw[bX hl];intro F;refine this<|.inr ?_;rw[cc,bX hl,ku F];rfl
   .exact h2 j q1 U
  |true=>
   have hb:p.data.toList[i]?=some 47:=by
    rcases cn Y with h|h
    .omega
    .rw[bX hl];rw[cc,bX hl]at h;exact ba some<|(bL4 _).1 h
   rw[show oe p (i+1)=oe p i++ [p.extract (jV p i) i] by show(bif cutAt p i then _ else _)=_;rw[Y];rfl,show jV p (i+1)=i+1 by show(bif cutAt p i then _ else _)=_;rw[Y];rfl];refine⟨?_,λj q1 q2=>U⟩;rw[<-O,mr,lG];congr 1;have hd:p.data.toList.drop (jV p i)=(p.data.toList.take i).drop (jV p i)++47::p.data.toList.drop (i+1):=by
    have e1:p.data.toList.drop i=47::p.data.toList.drop (i+1):=by rw[Fa hl];rw[bX hl]at hb;rw[ku hb]
    rw[<-e1];have e2:p.data.toList=p.data.toList.take i++p.data.toList.drop i:=sS
    conv=>lhs;rw[e2]
    rw[List.drop_append_of_le_length (by rw[im];omega)]
   rw[hd,Ik 47 _ _ λb hb2=> ?_]
   .rw[K2];rfl
   .intro F;subst F;obtain⟨j,hj,hjb⟩:=xJ hb2;have hj2:(p.data.toList.take i).drop (jV p i)=(p.data.toList.take i).drop (jV p i):=rfl;have hg:((p.data.toList.take i).drop<|jV p i)[j]?=some 47:=by grind
    rw[iO,LO]at hg;split at hg
    .exact h2 (jV p i+j) U W hg
    .cases hg
def aS7(p:y_):oe p (p.size+1)=(bS 47 p.data.toList).map B:=by
 obtain⟨O,h2⟩:=Re p p.size (bE _);have Y:cutAt p p.size=true:=cd (.inl rfl);rw[show oe p (p.size+1)=oe p p.size++ [p.extract (jV p p.size) p.size] by show(bif cutAt p p.size then _ else _)=_;rw[Y];rfl];have kZ:p.data.toList.length=p.size:=rfl;rw[Ee 47 _ λb hb F=>by
  subst F;obtain⟨j,hj,hjb⟩:=xJ hb;have hg:(p.data.toList.drop<|jV p p.size)[j]?=some 47:=by grind
  rw[iO]at hg;have:=(bm.1 hg).1;exact h2 _ U U hg]at O
 rw[<-O,mr,qP];congr 1
 .rw[show B∘(λs:y_=>s.data.toList)=id by funext s;rfl,xE]
 .rw[K2,<-kZ,Ao];rfl
def Rf(l:l_ (l_ UInt8))(w:World)(S':Nat->Prop)(v:Value)(N:cf w S' (.rf (l.map B).length λi=>(fk<|l.map B).getD i []) v):cf w S' (He l) v:=by unfold He;have e:(l.map B).length=l.length:=sS;rw[e]at N;refine fS (λi hi=> ?_) N;rw[zU _ _ (by rw[e];exact hi)];rw[cc,b9,cc,bX hi];rfl
def aS8(p:y_)(hp:p.size<=1024):Ok P 237 [S p] (He<|bS 47 p.data.toList):=by
 have hm:p.size+1<=aq:=by unfold aq;omega
 have hp0:Ok P 237 [S p] (.rf (oe p<|p.size+1).length λi=>(fk<|oe p<|p.size+1).getD i []):=by
  have lp:=qp f237 4 (p.size+1) (λ_=>false) (λi=>(M 32 [(0,S p),(2,.dF),(3,.bf 0 (oe p i).length),(4,I (jV p i:Nat)),(5,I i)])) (λi=> [⟨fk<|oe p i,0,[],1,true,false⟩]) (eR<|M 32 [(2,.dF),(3,.dF)]) (.ext 0,(M 32 [(2,.dF),(3,.bf 0 (oe p<|p.size+1).length)]),[⟨fk<|oe p<|p.size+1,0,[],1,true,false⟩]) λi hi lt aW az aR=>by
   have hf:=Il p i;have hl:=XY p i;have I5:=pn<|oe p i;have c1:cutAt p i=true->oe p (i+1)=oe p i++ [p.extract (jV p i) i]/\jV p (i+1)=i+1:=λY=>⟨by show(bif cutAt p i then _ else _)=_;rw[Y];rfl,by show(bif cutAt p i then _ else _)=_;rw[Y];rfl⟩
   have c0: ¬(i:Int)=p.size-> ¬((p.data.toList.getD i 0).toNat:Int)=47->oe p (i+1)=oe p i/\jV p (i+1)=jV p i:=λO h2=>by have Y:cutAt p i=false:=fq U;exact⟨by show(bif cutAt p i then _ else _)=_;rw[Y];rfl,by show(bif cutAt p i then _ else _)=_;rw[Y];rfl⟩
   have ca:(i:Int)=p.size->cutAt p i=true:=λh=>cd<|.inl U;have cb:((p.data.toList.getD i 0).toNat:Int)=47->cutAt p i=true:=λh=>cd<|.inr U;refine ao aw L0 [0,2,3,4,5] [2,3] (let V:=oe p i;let aG:=I (oU<|(i:Int)+1);let aS:=(↑(jV p i):Int);let bn:=(3,J.bf 0 V.length);let bH:=fk V;let Z:nV:=(.o [(0:Int)<=aS,aS<=(i:Int),(i:Int)<=(p.size:Int),V.length=bH.length,(V.length+1)*16<=140737488355328]<|.r true<|.r true<|bR (M 32 [(0,S p),(2,J.dF),(3,J.bf 0<|V.length+1),(4,aG),(5,aG)]) [dn (fk V++ [[S<|p.extract (jV p i) i]]) 1]);(.d ((i:Int)<=p.size) (.q i p.size Z<|.g i p.size<|.q (↑(p.data.toList.getD i 0).toNat:Int) 47 Z<|bR (M 32 [(0,S p),(2,J.dF),bn,(4,I aS),(5,aG)]) [dn bH 1])<|fv 0 (M 32 [(2,J.dF),bn]) [dn bH 1])) ?_;have Y:=(di:False↔False)
   simp only[av]
   (repeat' with_reducible first|intro _|apply aNd_)<;>first|exact aM|(rw[(c1<|ca W).1,(c1<|ca W).2,kr,br]at aW;rw[bZ (n:=p.size+1) U hm];exact aW U rfl)|(rw[(c1<|cb W).1,(c1<|cb W).2,kr,br]at aW;rw[bZ (n:=p.size+1) U hm];exact aW U rfl)|(rw[(c0 W W).1,(c0 W W).2]at aW;rw[bZ (n:=p.size+1) U hm];exact aW U rfl)|(have e:i=p.size+1:=U;subst e;exact aR rfl)
  have I5:=pn<|oe p<|p.size+1;refine al aw (ax2 lp [0,2,3,4,5] [(3,1)]) (let Z:=oe p (p.size+1);(jS lp (.e<|J.rf 0 λi=> [])<|.o [Z.length=(fk Z).length]<|.e<|J.rf Z.length λi=>(fk Z).getD i [])) ?_;simp only[av]
  (repeat' with_reducible first|intro _|apply aNd_)<;>first|exact aM|exact absurd (show(ar (p.size+1) λ_=>false)=true by assumption) (by rw[Nx];simp)
 rw[aS7]at hp0;exact hp0.res<|Rf _
def vM(o s:y_):Int:=if o=n_\/32<o.size then 25 else if 1024<s.size then 4 else 0
def mC(s:y_):Bool:=decide<|s.data.toList.getD 0 0=33/\0<s.size
def rn(l:bh aC):Nat->l_ aC
 |0=> []
 |i+1=>if mC (l.f i).name=true then rn l i else rn l i++ [l.f i]
theorem Im(l:bh aC):∀i,(rn l i).length<=i
 |0=>bE _
 |i+1=>by
  have:=Im l i;unfold rn;split
  .omega
  .rw[br];show _+1<=_;omega
def a0:aC:=⟨n_,n_,false⟩
def mc(l:bh aC):bh aC:=⟨(rn l l.n).length,λi=>(rn l l.n).getD i a0⟩
def bT(l:l_ aC):l_ (l_ J):=l.map aY.cells
def pq(l:l_ aC):(bT l).length=l.length:=by unfold bT;rw[gS]
def Rg(l:l_ aC)(s:aC):bT (l++ [s])=bT l++ [[S s.name,S s.value,Bo s.dq]]:=by unfold bT;rw[mr];rfl
def sr(l:l_ aC)(i:Nat)(h:i<l.length):(bT l).getD i []=aY.cells (l.getD i a0):=by unfold bT;rw[cc,b9,cc,bX h];rfl
def b04 {l:bh aC} {i:Nat}(h:mC (l.f i).name=true):rn l (i+1)=rn l i:=if_pos h
def b05 {l:bh aC} {i:Nat}(h:mC (l.f i).name=false):rn l (i+1)=rn l i++ [l.f i]:=if_neg (by rw[h];simp)
def cc0:Env:=aF 190 (bN (a1 aQ) λs=>Bo (mC s)) EN
def XZ:an P cc0:=ah aw λs _=>Kf s
def X3(l:bh aC)(h40:l.n*40<=aq):Ok P 122 [(ak aC).au l] ((ak aC).au<|mc l):=by
 have hs:l.n<=aq:=by unfold aq at*;omega
 have hp0:Ok P 122 [(ak aC).au l] (.rf (rn l l.n).length λi=>(bT<|rn l l.n).getD i []):=by
  have lp:=qp Tryz.f122 3 l.n (λ_=>false) (λi=>(M 26 [(0,(ak aC).au l),(2,.dF),(3,.bf 0 (rn l i).length),(4,I i)])) (λi=> [⟨bT<|rn l i,0,[],3,true,false⟩]) (eR<|M 26 [(2,.dF),(3,.dF)]) (.ext 0,(M 26 [(2,.dF),(3,.bf 0 (rn l l.n).length)]),[⟨bT<|rn l l.n,0,[],3,true,false⟩]) λi hi lt aW az aR=>by
   have hl:=Im l i;have I5:=pq<|rn l i;refine ao XZ L0 [0,2,3,4] [2,3] (let Z:=rn l i;let V:=(4,I<|oU<|(i:Int)+1);let aG:=bT Z;let aS:=(3,J.bf 0 Z.length);(.d ((i:Int)<l.n) (.g i l.n<|.v (a1 aQ) (l.f i).name<|.m (mC (l.f i).name) (.g i l.n<|.o [Z.length=aG.length,(Z.length+1)*40<=140737488355328]<|.r true<|.r true<|bR (M 26 [(0,(ak aC).au l),(2,J.dF),(3,J.bf 0<|Z.length+1),V]) [dn (bT Z++ [(aY.cells<|l.f i)]) 3])<|bR (M 26 [(0,(ak aC).au l),(2,J.dF),aS,V]) [dn aG 3])<|fv 0 (M 26 [(2,J.dF),aS]) [dn aG 3])) ?_;have Y:=(di:False↔False)
   simp only[av]
   (repeat' with_reducible first|intro _|apply aNd_)<;>first|exact aM|(unfold aq at h40;omega)|(rw[b04 W]at aW;rw[bZ (n:=l.n) U hs];exact aW U rfl)|(rw[b05 W,Rg,br]at aW;rw[bZ (n:=l.n) U hs];exact aW U rfl)|(have e:i=l.n:=U;subst e;exact aR rfl)
  have I5:=pq<|rn l l.n;refine al XZ (ax2 lp [0,2,3,4] [(3,3)]) (let Z:=rn l l.n;(jS lp (.e<|J.rf 0 λi=> [])<|.o [Z.length=(bT Z).length]<|.e<|J.rf Z.length λi=>(bT Z).getD i [])) ?_;simp only[av]
  (repeat' with_reducible first|intro _|apply aNd_)<;>first|exact aM|exact absurd (show(ar l.n λ_=>false)=true by assumption) (by rw[Nx];simp)
 exact hp0.res λ_ _ _ N=>fS (λi hi=>sr _ _ hi) N
end
end Go.Proofs.YtnpcbfcfcjdhlaaGreatDoor
namespace Go.PS
section
open Go.RowKit
def bm1(P:Program)(k:Nat)(id:Nat)(ops:Array Oper)(dr:Bool)(T:l_ J)(h:Hp):Option (l_ J×Hp×l_ Prop):=
 match id==k,dr,ops.toList with
 |true,false,[o1,o2]=>match o1.op,o2.op with
  | .move (.tmp t),.binOp .eql ty (.tmp x) (.const<|.slice none 0 0) _=>match T[t]?,P.underlying ty with
   |some (.rf n f),some (.slice _)=>some (put (put T o1.dst<|.rf n f) o2.dst<|.sc<|.bool false,h,[0<n,o1.guard.isNone=true,o2.guard.isNone=true,o1.dst=some x,x<T.length])
   |_,_=>none
  |_,_=>none
 |_,_,_=>none
def Rh {P:Program} {k id:Nat} {ops:Array Oper} {dr:Bool} {T:l_ J} {h:Hp} {T':l_ J} {h':Hp} {ob:l_ Prop}(hd:bm1 P k id ops dr T h=some (T',h',ob))(cJ:∀X∈ob,X):tz P id ops dr T h T' h':=by
 unfold bm1 at hd;split at hd
 .rename_i o1 o2 _ e0;split at hd
  .rename_i t ty x z e1 e2;split at hd
   .rename_i n f el e3 e4;cases hd;have g0:0<n:=cJ _ sS;have g1:=Option.isNone_iff_eq_none.1 (cJ (o1.guard.isNone=true) sS);have g2:=Option.isNone_iff_eq_none.1 (cJ (o2.guard.isNone=true) sS);have g3:o1.dst=some x:=cJ _ sS;have g4:=cJ (x<T.length) sS;intro w0 Sa a w Q hG iu hQ;obtain⟨S,m,hI,hT,Ak⟩:=iu;have cc1:ops= #[o1,o2]:=by grind
    subst cc1;have N:=hT.2 t _ e3;refine wp_region ?_;show wpOps P #[o1,o2] Q [0,1] a w;rw[wpOps_cons,show(wpOps P #[o1,o2] Q [1]:Act->World->Prop)=wpOp P #[o1,o2] Q 1 (wpOps P #[o1,o2] Q [])from funext λa=>funext λw=>wpOps_cons 1 [] a w];unfold wpOp;simp only[Region.wanted,g1,g2,sL,List.getElem?_cons_zero,List.getElem?_cons_succ,rH];refine .inl<|bQ (v':=a.eval (.tmp t)) (by simp [execOp,e1])<|.inl ?_;have Ov:SF w S m (put T o1.dst<|.rf n f) (a.put o1.dst<|a.eval<|.tmp t):=hT.put N;have hx:(put T o1.dst<|.rf n f)[x]?=some (.rf n f):=by rw[g3];simp [put,g4]
    have R8:=Ov.2 x _ hx;obtain⟨b,c,hv⟩:∃b c,(a.put o1.dst<|a.eval<|.tmp t).eval (.tmp x)= .slice (some b) n c:=by
     show∃b c,(a.put o1.dst<|a.eval<|.tmp t).tmps.getD x Go.undef= .slice (some b) n c;cases R8 with
     |st _ _ hs=>cases hs with
      |rf _ _ _ hs=>
       obtain⟨es,kC⟩:∃es,es=(List.range n).map f:=⟨_,rfl⟩
       rw[<-kC]at hs;have hl:es.length=n:=by rw[kC];simp
       generalize (a.put o1.dst<|a.eval<|.tmp t).tmps.getD x Go.undef=v at hs⊢;cases hs with
       |Fu a' c=>simp at hl;omega
       |ro es b o cap sz c et fz hS hb hz hn iq Y=>exact⟨⟨b,o,none⟩,cap,by rw[hl]⟩
    refine bQ (v':= .bool false) ?_<|hQ _ _ ⟨S,m,hI,Ov.put (.st _ _<|.sc _),by rw[put_defers,put_defers];exact Ak⟩;have hk:(a.put o1.dst<|a.eval<|.tmp t).eval (.const<|.slice none 0 0)= .slice none 0 0:=rfl;have hq:(Op.equalIn Op.maxDepth ty (.slice (some b) n c)<|.slice none 0 0).run P w= .ok false w:=by rw[show Op.maxDepth=(Op.maxDepth-1)+1 from rfl];unfold Op.equalIn;simp [bU e4]
    simp [execOp,e2,hv,hk,eqGuard,binOp,Op.equal,hq]
   .cases hd
  .cases hd
 .cases hd
end
end Go.PS
namespace Go.Proofs.YtnpcbfcfcjdhlaaGreatDoor
section
open Go.PS Wf
def bL5(E:Env)(k sl:Nat)(id:Nat)(ops:Array Oper)(dr:Bool)(T:l_ J)(h:Hp):Option (l_ J×Hp×l_ Prop):=match id==k with
 |true=>match rq P E ops dr T h []with
  |some (T',h',ob,[])=>match T'[sl]? with
   |some (.own i 0 len)=>match h'[i]? with
    |some B=>some (T'.set sl (.bf i len),h'.set i {B with sym:=true},(nc B.es=true)::ob.map Ob.holds)
    |none=>none
   |_=>none
  |_=>none
 |false=>none
def bm2 {E:Env}(hE:an P E)(N:E.r=λ_ _ _ _ _=>none)(k sl:Nat) {id:Nat} {ops:Array Oper} {dr:Bool} {T:l_ J} {h:Hp} {T':l_ J} {h':Hp} {ob:l_ Prop}(hd:bL5 E k sl id ops dr T h=some (T',h',ob))(cJ:∀X∈ob,X):tz P id ops dr T h T' h':=by
 unfold bL5 at hd;split at hd
 .split at hd
  .rename_i T1 O tX F;split at hd
   .rename_i i len hT;split at hd
    .rename_i B hB;cases hd;intro w0 Sa a w Q hG iu hQ;refine lN (E:=E) (L:=L0) (c:= .region id ops dr) (T':=T1) (h':=O) (s:=[]) (s':=[]) (o:= .norm) (ob:=tX) hE hG ?_ ?_ iu ?_
     .simp only[exec,N,F]
     .intro X hX;exact cJ _<|fh _<|jB.2 ⟨X,hX,rfl⟩
     .intro a' w' ko;have hs:=cJ _ ch;refine hQ a' w'<|wN (t:=sl) (z:=0) ?_ ko;unfold whole;simp only[hT,hB];exact if_pos (by rw[jA];exact .inr hs)
    .cases hd
   .cases hd
  .cases hd
 .cases hd
def bx9(id:Nat)(ops:Array Oper)(dr:Bool)(T:l_ J)(h:Hp):Option (l_ J×Hp×l_ Prop):=match bm1 P 1 id ops dr T h with
 |some x=>some x
 |none=>bL5 E0 3 2 id ops dr T h
def ECn:Env:=Pk bx9 EN
def bL6:an P ECn:=vq aw λ_ _ _ _ _ _ _ _ O h2=>by
 unfold bx9 at O;split at O
 .rename_i e;cases O;exact Rh e h2
 .exact bm2 (Ba P) rfl 3 2 O h2
def aj8(l:bh aC):nc ((List.range l.n).map λi=>aY.cells (l.f i))=true:=cU.2 λe F=>by obtain⟨i,_,rfl⟩:=jB.1 F;rfl
def bm3(l:bh aC):k8 3 ((List.range l.n).map λi=>aY.cells (l.f i))=true:=cU.2 λe F=>by obtain⟨i,_,rfl⟩:=jB.1 F;rfl
def aS9(l:bh aC)(h0:0<l.n)(hn:l.n*40<=aq):kD P 231 [(ak aC).au l] [] (.bf 0 l.n) [⟨(List.range l.n).map λi=>aY.cells (l.f i),0,[],3,true,false⟩]:=by
 have hl:((List.range l.n).map λi=>(aY.cells (l.f i):l_ J)).length=l.n:=sS;have N:(0+((List.range l.n).map λi=>(aY.cells (l.f i):l_ J)).length)*40<=pE:=by rw[hl];unfold aq at hn;unfold pE;omega
 have hh:dR (J.bf 0<|0+((List.range l.n).map λi=>(aY.cells (l.f i):l_ J)).length,[⟨[]++(List.range l.n).map λi=>aY.cells (l.f i),0,[],3,true,false⟩]) (.bf 0 l.n,[⟨(List.range l.n).map λi=>aY.cells (l.f i),0,[],3,true,false⟩]):=by rw[hl,eP];exact dR.of_eq rfl
 refine cK bL6 L0 (let Z:=List.range l.n;(.o [0<l.n]<|.r true<|.r true<|.r (some 3)<|.o [3<8,nc ([]++List.map (λi=>aY.cells (l.f i)) Z)=true,(Ob.xK<|(0+(List.map (λi=>aY.cells (l.f i)) Z).length)*40<=pE).holds,(Ob.xK<|k8 3 (List.map (λi=>aY.cells (l.f i)) Z)=true).holds]<|.s .fN<|.e (J.bf 0<|0+(List.map (λi=>aY.cells (l.f i)) Z).length,[dn ([]++List.map (λi=>aY.cells (l.f i)) Z) 3]))) ?_;simp only[av]
 (repeat' with_reducible first|intro _|apply aNd_)<;>first|exact aM|exact aj8 l|exact bm3 l
def X4(x:aC):Ok P 277 [(af aC).au x] (Bo<|mC x.name):=by
 have e:Lib.hasPrefix x.name.data.toList [33]=mC x.name:=by
  rw[WK 33 x.name 33 dD rfl];unfold mC;rw[oM];constructor
  .rintro⟨a,b⟩;exact⟨xF.1 b,a⟩
  .rintro⟨a,b⟩;exact⟨b,by rw[a];rfl⟩
 refine al az9 L0 (.v (a2 aQ aQ) (x.name,(⟨#[33]⟩:y_))<|.e<|Bo<|Lib.hasPrefix x.name.data.toList (#[33]:Array UInt8).toList) ?_;simp only[av]
 repeat' with_reducible first|intro _|apply aNd_
 all_goals exact ba Bo e
def sI(L:l_ aC)(k:Nat):Nat->l_ aC×Nat
 |0=>(L,k)
 |t+1=>if mC (L.getD (k+1+t) a0).name=true then sI L k t else((sI L k t).1.set (sI L k t).2 (L.getD (k+1+t) a0),(sI L k t).2+1)
theorem B1(L:l_ aC)(k:Nat):∀t,(sI L k t).1.length=L.length/\k<=(sI L k t).2/\(sI L k t).2<=k+t
 |0=>⟨rfl,bE _,bE _⟩
 |t+1=>by
  have:=B1 L k t;unfold sI;split
  .exact⟨this.1,this.2.1,U⟩
  .exact⟨by rw[<-this.1];exact nJ,by show k<=(sI L k t).2+1;omega,by show(sI L k t).2+1<=_;omega⟩
theorem X5(L:l_ aC)(k:Nat):∀t j,k+t<j->(sI L k t).1.getD j a0=L.getD j a0
 |0,_,_=>rfl
 |t+1,j,h=>by
  have O:=B1 L k t;have h2:=X5 L k t j U;unfold sI;split
  .exact h2
  .rw[<-h2];show((sI L k t).1.set (sI L k t).2 _).getD j a0=_;rw[cc,List.getElem?_set_ne U,<-cc]
theorem Ri(L:l_ aC)(k:Nat)(hk:k<L.length):∀t,k+1+t<=L.length->(sI L k t).1.take (sI L k t).2=L.take k++((L.drop<|k+1).take t).filter (λx=> !mC x.name)
 |0,_=>by simp [sI]
 |t+1,h=>by
  have O:=B1 L k t;have ih:=Ri L k hk t U;have hj:t<(L.drop<|k+1).length:=by rw[jX];omega
  have hg:(L.drop<|k+1)[t]=L.getD (k+1+t) a0:=by rw[LW,cc,bX U];rfl
  rw[AB,bX hj,LX,hg];unfold sI;generalize L.getD (k+1+t) a0=x;split
  .rename_i hs;rw[ih];simp [hs]
  .rename_i hs;have hs:mC x.name=false:=by grind
   show((sI L k t).1.set (sI L k t).2 _).take ((sI L k t).2+1)=_;rw[AB,List.take_set_of_le<|bE _,ih,List.getElem?_set_self U,<-lG];simp [hs]
def UK(L:l_ aC)(i:Nat)(x:aC):bT (L.set i x)=(bT L).set i [S x.name,S x.value,Bo x.dq]:=by unfold bT;rw[List.map_set];rfl
def K3(L:l_ aC)(i:Nat)(h:i<L.length):(bT L)[i]?=some [S (L.getD i a0).name,S (L.getD i a0).value,Bo (L.getD i a0).dq]:=by unfold bT;rw[b9,bX h,cc,bX h];rfl
def cc2 {L:l_ aC} {k t:Nat}(h:mC (L.getD (k+1+t) a0).name=true):sI L k (t+1)=sI L k t:=if_pos h
def cc3 {L:l_ aC} {k t:Nat}(h:mC (L.getD (k+1+t) a0).name=false):sI L k (t+1)=((sI L k t).1.set (sI L k t).2<|L.getD (k+1+t) a0,(sI L k t).2+1):=if_neg (by rw[h];exact dj)
def K4:J:= .sc<|.func (.func 277) #[] #[]
def EDl(L:l_ aC)(k t:Nat):Env:=vV (λid i _=>match id with
 |0=>some (.elem [S ((sI L k t).1.getD i a0).name,S ((sI L k t).1.getD i a0).value,Bo ((sI L k t).1.getD i a0).dq])
 |_=>none) (aF 277 (bN (a1 (af aC)) λx=>Bo (mC x.name)) EN)
def bL7(L:l_ aC)(k t:Nat):an P (EDl L k t):=j7<|ah aw λx _=>X4 x
def aH(L:l_ aC)(gV:Bool):Hp:=[⟨bT L,0,[],3,true,gV⟩]
def aT0(L:l_ aC)(k:Nat)(hk:k<L.length)(hn:L.length<=aq):
  aO P (aD Tryz.f276 5) (M 42 [(0,.bf 0 L.length),(1,K4),(5,I k),(6,I ((k+1+0:Nat):Int))]) (aH L true)
   (.out (.ext 0) (M 42 [(0,.bf 0 L.length),(5,I ((sI L k<|L.length-(k+1)).2:Nat))])<|aH (sI L k<|L.length-(k+1)).1 true):=by
 obtain⟨ci9,hN⟩:∃ci9,ci9=L.length-(k+1):=⟨_,rfl⟩
 rw[<-hN];have WY:ci9<=aq:=U;have lp:=qp Tryz.f276 5 ci9 (λ_=>false) (λt=>(M 42 [(0,.bf 0 L.length),(1,K4),(5,I ((sI L k t).2:Nat)),(6,I ((k+1+t:Nat):Int))])) (λt=>(aH (sI L k t).1 true)) (eR<|M 42 [(0,.bf 0 L.length)]) (.ext 0,(M 42 [(0,.bf 0 L.length),(5,I ((sI L k ci9).2:Nat))]),(aH (sI L k ci9).1 true)) λt ht ltt b06 cg9 b07=>by
  have hl:=B1 L k t;have hge:=X5 L k t (k+1+t) U;have e1:oU (((sI L k t).2:Int)+1)=(((sI L k t).2+1:Nat):Int):=by unfold aq at hn WY;rw[wrap64 U U];omega
  have e2:oU (((k+1+t:Nat):Int)+1)=((k+1+(t+1):Nat):Int):=by unfold aq at hn WY;rw[wrap64 U U];omega
  refine ao (bL7 L k t) L0 [0,1,5,6] [0,5] (let Z:=sI L k t;let V:=Z.fst.getD (0+(k+1+t)) a0;let aG:=Z.fst.getD (0+Z.snd) a0;let aS:=bT Z.fst;let bH:=(1,J.sc<|Value.func (Fn.func 277) #[] #[]);let cp:=(Z.snd:Int);let cu:=(0,J.bf 0 L.length);let dk:=[S V.name,S V.value,Bo V.dq];let bu:=[S aG.name,S aG.value,Bo aG.dq];let bC:=(↑(k+1+t):Int);let bn:=(6,I<|oU<|bC+1);(.d (bC<(L.length:Int)) (.g bC L.length<|.o [aS[0+(k+1+t)]?=some dk]<|.v (a1<|af aC) V<|.m (mC V.name) (.g cp L.length<|.o [aS[0+Z.snd]?=some bu]<|bR (M 42 [cu,bH,(5,I<|oU<|cp+1),bn]) [ox (aS.set (0+Z.snd)<|PS.splice bu 0 dk) 3])<|bR (M 42 [cu,bH,(5,I cp),bn]) [ox aS 3])<|fv 0 (M 42 [cu,(5,I cp)]) [ox aS 3])) ?_;have hct:=(di:False↔False)
  (simp only[eP,hge,e1,e2];clear e1 e2)
  simp only[av]
  (repeat' with_reducible first|intro _|apply aNd_)<;>first|exact aM|(rw[K3 _ _ U,hge];done)|exact K3 _ _ U|(have gg:=b06 U rfl;rw[cc3 W]at gg;unfold aH at gg;rw[UK]at gg;exact gg)|(have gg:=b06 U rfl;rw[cc2 W]at gg;exact gg)|(have e:t=ci9:=U;subst e;exact b07 rfl)
 exact lp.f<|bc.2 λ_ _=>rfl
def bL8(E:Env)(k sl:Nat)(id:Nat)(ops:Array Oper)(dr:Bool)(T:l_ J)(h:Hp):Option (l_ J×Hp×l_ Prop):=match id==k with
 |true=>match rq P E ops dr T h []with
  |some (T',h',ob,[])=>match T'[sl]? with
   |some (.own i 0 len)=>match h'[i]? with
    |some B=>some (T'.set sl (.bf i len),h'.set i {B with es:=B.es.take len},(B.st=0)::(B.par.isEmpty=true)::ob.map Ob.holds)
    |none=>none
   |_=>none
  |_=>none
 |false=>none
def bm4 {E:Env}(hE:an P E)(N:E.r=λ_ _ _ _ _=>none)(k sl:Nat) {id:Nat} {ops:Array Oper} {dr:Bool} {T:l_ J} {h:Hp} {T':l_ J} {h':Hp} {ob:l_ Prop}(hd:bL8 E k sl id ops dr T h=some (T',h',ob))(cJ:∀X∈ob,X):tz P id ops dr T h T' h':=by
 unfold bL8 at hd;split at hd
 .split at hd
  .rename_i T1 O tX F;split at hd
   .rename_i i len hT;split at hd
    .rename_i B hB;cases hd;intro w0 Sa a w Q hG iu hQ;refine lN (E:=E) (L:=L0) (c:= .region id ops dr) (T':=T1) (h':=O) (s:=[]) (s':=[]) (o:= .norm) (ob:=tX) hE hG ?_ ?_ iu ?_
     .simp only[exec,N,F]
     .intro X hX;exact cJ _<|fh _<|fh _<|jB.2 ⟨X,hX,rfl⟩
     .intro a' w' ko;have O:=cJ _ ch;have h2:=cJ (B.par.isEmpty=true) sS;exact hQ a' w'<|St.shrink ko (.inl hT) hB O<|LV.1 h2
    .cases hd
   .cases hd
  .cases hd
 .cases hd
def nG(cs:l_ J):aC:=aY.of cs
def bL9:l_ J->Option (J×l_ Prop)
 | [.rf n f,p]=>match ZK p with
  |some (g,[])=>match g==277 with
   |true=>some (I<|cZ n λi=>mC (nG<|f i).name,[n<=aq,∀i,i<n->f i=aY.cells (nG<|f i)])
   |false=>none
  |_=>none
 |_=>none
def aT1 {p:J} {g:Nat} {w:World} {S:Nat->Prop} {v:Value}(hf:ZK p=some (g,[]))(N:cf w S p v):cf w S (.qS g []) v:=by
 unfold ZK at hf;split at hf
 .cases hf;exact Wy N
 .cases hf;exact N
 .cases hf
def bm5 {E:Env}(hE:an P E):an P (aF 197 bL9 E):=gi hE λaa r ob O h2=>by
 unfold bL9 at O;split at O
 .rename_i n f p;split at O
  .rename_i g hf;split at O
   .rename_i hg;cases O;have hn:=h2 (n<=aq) sS;have F:=h2 (∀i,i<n->f i=aY.cells (nG<|f i)) sS;have hg:g=277:=by grind
    subst hg;have:=ZL ⟨n,λi=>nG (f i)⟩ 277 (λaa=>match aa with
     | [.agg cs]=>mC (nG cs).name
     |_=>false) hn λi hi=>by
      have e:nG (aY.cells<|nG<|f i)=nG (f i):=by grind
      show Ok P _ _ (Bo<|mC (nG<|aY.cells<|nG<|f i).name);rw[e];exact X4 _
    refine(this.Wx (λw S v N=>fS (λi hi=>F i hi) N) λw S v N=>aT1 hf N).res ?_;exact λw S v N=>N
   .cases O
  .cases O
 .cases O
def EDd:Env:=Pk (bL8 E0 12 4)<|aF 197 bL9 EN
def bM0:an P EDd:=vq (bm5 aw) λ_ _ _ _ _ _ _ _ O h2=>bm4 (Ba P) rfl 12 4 O h2
def UL(L:l_ aC)(i:Nat):Bool:=mC (nG<|(bT L).getD i []).name
def dlE(L:l_ aC):gD:=λ_=>([0,1,5,6],[],λ_ _=> .out (.ext 0) (M 42 [(0,.bf 0 L.length),(5,I ((sI L (aE L.length<|UL L)<|L.length-(aE L.length (UL L)+1)).2:Nat))]) (aH (sI L (aE L.length<|UL L)<|L.length-(aE L.length (UL L)+1)).1 true))
def sJ(L:l_ aC):l_ aC:=L.filter λx=> !mC x.name
def UM {L:l_ aC} {i:Nat}(h:i<L.length):UL L i=mC (L.getD i a0).name:=by unfold UL;rw[sr _ _ h];rfl
def aj9 {L:l_ aC}(h:ar L.length (UL L)=false):sJ L=L:=List.filter_eq_self.2 λx hx=>by obtain⟨i,hi,F⟩:=xJ hx;have:=bc.1 h i hi;rw[UM hi,cc,bX hi,F]at this;show(!mC x.name)=true;rw[show mC x.name=false from this];rfl
def ak0 {L:l_ aC} {k:Nat}(hk:k<L.length)(O:UL L k=true)(h2:∀j,j<k->UL L j=false):(sI L k<|L.length-(k+1)).1.take (sI L k<|L.length-(k+1)).2=sJ L:=by
 rw[Ri L k hk _ U];unfold sJ
 conv=>rhs;rw[<-wu k L,LX,Fa hk]
 have e1:(L.take k).filter (λx=> !mC x.name)=L.take k:=List.filter_eq_self.2 λx hx=>by
  obtain⟨i,hi,F⟩:=xJ hx;have hi':i<k:=by rw[im]at hi;omega
  have:=h2 i hi';rw[List.getElem_take]at F;rw[UM U,cc,bX U,F]at this;show(!mC x.name)=true;rw[show mC x.name=false from this];rfl
 have e2:mC (L[k]).name=true:=by rw[UM hk,cc,bX hk]at O;exact O
 rw[e1,List.filter_cons_of_neg<|by simp [e2],wq (l:=L.drop (k+1)) (by rw[jX];exact bE _)]
def aT2 {α:Type}(l:l_ α)(i m:Nat)(z:α)(r:l_ α)(h:i<=l.length):(l.take (0+i)++List.replicate m z++r).take (i-0)=l.take i:=by rw[eP,u3,lG,LF (by rw[im];omega),List.take_take,Nat.min_self]
def ak1(L:l_ aC)(hn:L.length*40<=aq):kD P 276 [.bf 0 L.length,K4] (aH L true) (.bf 0 (sJ L).length) (aH (sJ L) true):=by
 have hm:L.length<=aq:=by unfold aq at*;omega
 have I5:=pq L;have Y:∀i,i<L.length->(bT L).getD i []=aY.cells (nG<|(bT L).getD i []):=λi hi=>by rw[sr _ _ hi];rfl
 obtain⟨k,hk⟩:∃k,aE L.length (UL L)=k:=⟨_,rfl⟩
 obtain⟨q,hq⟩:∃q,sI L k (L.length-(k+1))=q:=⟨_,rfl⟩
 have hI:(cZ L.length λi=>mC (nG<|(bT L).getD i []).name)=if ar L.length (UL L)=true then(k:Int)else-1:=by rw[<-hk];rfl
 have hdl:=B1 L k<|L.length-(k+1);have hqc:=pq q.1;rw[hq]at hdl;have key:ar L.length (UL L)=true->k<L.length/\q.1.take q.2=sJ L:=λh=>by have O:=dw.2 h;have h0:=O;rw[hk]at O;refine⟨O,?_⟩;rw[<-hq];exact ak0 O (by rw[<-hk];exact dC h0) λj hj=>by rw[<-hk]at hj;exact gy hj
 refine cK bM0 (dlE L) (let Z:=sI L (aE L.length<|UL L) (L.length-(aE L.length (UL L)+1));let V:=(Z.snd:Int);let aG:=bT L;let aS:=(L.length:Int);let bn:=bT Z.fst;let bH:=Value.string (n_:y_);let cp:=L.length-Z.snd;let cu:=J.bf 0 L.length;(.o [L.length=aG.length,L.length<=140737488351232,∀(i:Nat),i<L.length->aG.getD i []=aY.cells (nG<|aG.getD i [])]<|.q (cZ L.length λi=>mC (nG<|aG.getD i []).name) (-1) (.e (cu,[ox aG 3]))<|.o [ax P (aD Tryz.f276 5) (M 42 [(0,cu),(1,J.sc<|Value.func (Fn.func 277) #[] #[]),(5,I<|cZ L.length λi=>mC (nG<|aG.getD i []).name),(6,I<|oU<|(cZ L.length λi=>mC (nG<|aG.getD i []).name)+1)]) [ox aG 3] (Out.ext 0) (M 42 [(0,cu),(5,I V)]) [ox bn 3],(0:Int)<=V,V<=aS,aS<=aS,0+Z.snd+cp<=bn.length,0=0]<|.r true<|.o [(Ob.xK<|0<=(↑0:Int)).holds,(Ob.xK<|(↑0:Int)<=V).holds,(Ob.xK<|V<=aS).holds]<|.e (J.bf 0<|Z.snd-0,[ox (List.take (Z.snd-0)<|List.take (0+Z.snd) bn++List.replicate cp (List.map cellOf (Value.agg #[bH,bH,Value.bool false]).cells.toList)++List.drop (0+Z.snd+cp) bn) 3]))) ?_;try dsimp only
 rw[hI];simp only[hk,hq];cases ha:ar L.length (UL L)with
 |false=>
  have hp:=aj9 ha;simp only[av,ev,jR]
  (repeat' with_reducible first|intro _|apply aNd_)<;>first|exact aM|exact Y _ W|(rw[hp];exact dR.of_eq rfl)
 |true=>
  obtain⟨k1,k2⟩:=key ha;have e1:oU ((k:Int)+1)=((k+1+0:Nat):Int):=by unfold aq at hm;rw[wrap64 U U];omega
  have lp:=aT0 L k k1 hm;rw[hq]at lp;have hf:dR (.bf 0 q.2,[⟨(bT q.1).take q.2,0,[],3,true,true⟩]) (.bf 0 (sJ L).length,aH (sJ L) true):=by
   have O:q.2=(sJ L).length:=by rw[<-k2,im];omega
   have h2:(bT q.1).take q.2=bT (sJ L):=by rw[<-k2];unfold bT;rw[Fp]
   rw[h2,O];exact dR.of_eq rfl
  simp only[av,ev,jR]
  (repeat' with_reducible first|intro _|apply aNd_)<;>first|exact aM|exact Y _ W|(rw[if_pos trivial,e1];exact lp.one)|exact AF 0|exact Int.natCast_nonneg _|(show(q.2:Int)<=_;omega)|(rw[aT2 _ _ _ _ _ U,u3];exact hf)
