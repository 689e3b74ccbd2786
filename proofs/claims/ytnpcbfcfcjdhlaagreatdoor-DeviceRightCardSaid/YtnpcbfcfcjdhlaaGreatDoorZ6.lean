/- Z6. -/
import Derived.Test.YtnpcbfcfcjdhlaaGreatDoorZ5
import Derived.OwnWalk
import Derived.Lib.SliceRun
set_option linter.all false
set_option linter.defProp false
set_option maxHeartbeats 9999999
open Go.Proofs.Tryz
noncomputable section
namespace Go.Proofs.YtnpcbfcfcjdhlaaGreatDoor
section
open Go.PS Wf
def rkC(l:bh (bh aC))(i:Nat):Bool:=decide<|tM (l.f i)=false\/cZ l.n (OB l<|nm<|mc<|l.f i)≠(i:Int)
def YE(l:bh (bh aC))(i:Nat):rkC l i=true↔(tM (l.f i)=false\/cZ l.n (OB l<|nm<|mc<|l.f i)≠(i:Int)):=bp
def Vx(x:bh aC):oc x x=true:=by unfold oc;exact cd ⟨rfl,bc.2 λi _=>by unfold neA;simp⟩
def bQ4(l:bh (bh aC)) {i:Nat}(hi:i<l.n):rkC l i=R9 l i:=by
 have hs:OB l (nm<|mc<|l.f i) i=true:=(X7 _ _ _).2<|Vx _;have hp:∀j,OB l (nm<|mc<|l.f i) j=Dm (l.f j) (l.f i):=λj=>by unfold OB Dm;rw[X9,rp,rp]
 rw[ea,YE];have ha:=cG.2 ⟨i,hi,hs⟩;have hx:cZ l.n (OB l<|nm<|mc<|l.f i)=aE l.n (OB l<|nm<|mc<|l.f i):=by unfold cZ;rw[if_pos ha]
 unfold R9;cases hk:tM (l.f i)with
 |false=>simp
 |true=>
  rw[Bool.not_true,Fc,hx,cG];constructor
  .intro h;have hl:=oT l.n (OB l<|nm<|mc<|l.f i);have O:=dw.2 ha;refine⟨aE l.n (OB l<|nm<|mc<|l.f i),?_,by rw[<-hp];exact dC O⟩;rcases rD (aE l.n<|OB l<|nm<|mc<|l.f i) i with q|q|q
   .exact q
   .rw[q]at h;rcases h with h|h
    .cases h
    .exact absurd rfl h
   .have:=gy q;rw[hs]at this;cases this
  .rintro⟨j,hj,hb⟩;refine .inr λe=> ?_;have e:aE l.n (OB l<|nm<|mc<|l.f i)=i:=U;have:=gy (n:=l.n) (b:=OB l (nm<|mc<|l.f i)) (j:=j) U;rw[hp,hb]at this;cases this
def nwO(o s:y_):y_:=if vM o s=0 then o else n_
def nwS(o s:y_):y_:=if vM o s=0 then s else n_
def nwN(o s:y_):Int:=if vM o s=0 then 1 else 0
def EAa:Env:=aF 119 (bN (a2 aQ aQ) λx=> .bg [.agg [S<|nwO x.1 x.2,S<|nwS x.1 x.2,.rf 0 λ_=> [],I<|nwN x.1 x.2,.rf 0 λ_=> [],I 0],I<|vM x.1 x.2])<|aF 120 (bN (a1<|ak aC) (λl=>Bo (tM l)) wf)<|aF 122 (bN (a1<|ak aC) (λx=>(ak aC).au (nm<|mc x)) λx=>x.n*40<=aq)<|aF 121 (bN (a2 (ak<|bh aC)<|ak aC) (λx=>I (cZ x.1.n<|OB x.1 x.2)) λx=>x.1.n<=aq/\∀i,i<x.1.n->(x.1.f i).n*40<=aq)<|aF 123 (bN (a1<|af dh) (λc=>Bo (sh c)) λc=>c.key.n<=aq)<|aF 124 (bN (a1<|af dh) (λc=>Bo (yW c)) wf) EN
def cf0(o s:y_):Ok P 119 [S o,S s] (.bg [.agg [S<|nwO o s,S<|nwS o s,.rf 0 λ_=> [],I<|nwN o s,.rf 0 λ_=> [],I 0],I<|vM o s]):=by
 have e:UP o s= .bg [.agg [S<|nwO o s,S<|nwS o s,.rf 0 λ_=> [],I<|nwN o s,.rf 0 λ_=> [],I 0],I<|vM o s]:=by
  unfold UP nwO nwS nwN;split
  .rename_i h;rw[h]
  .rfl
 rw[<-e];exact bm6 o s
def Vy:an P EAa:=ah (ah (ah (ah (ah (ah aw λc h=>US c h) λc h=>ak6 c h) λx h=>ak7 x.1 x.2 h.1 h.2) λx h=>by rw[rp];exact X3 x h) ah1) λx _=>cf0 x.1 x.2
def Vz(a:jU)(hk:Ro a.dv)(hn:a.eo.n<=aq)(Y:∀i,i<a.eo.n->wf (a.eo.f i)/\(a.eo.f i).key.n*40<=aq):Ok P 58 [(af jU).au a] (Bo<|JG a):=by
 have lk:=yM f58 7 a.dv.n (rkC a.dv) (λi=>(M 123 [(1,aT),(2,aP),(5,I i)])) [(cM [aY.cells a] 6)] (eR<|M 123 [(2,aP)]) (.ext 0,(M 123 [(1,aT),(2,aP)]),[(cM [aY.cells a] 6)]) λi hi lt aW az aR=>by
  have hki:=hk.2 i;have hpl:∀j,j<a.dv.n->(a.dv.f j).n*40<=aq:=λj hj=>(hk.2 j hj).2;refine ao Vy L0 [1,2,5] [2,10001] (let Z:=a.dv.f i;(.d ((i:Int)<a.dv.n) (.g i a.dv.n<|.k (a1<|ak aC) Z (wf Z)<|.m (tM Z) (eH az)<|.g i a.dv.n<|.k (a1<|ak aC) Z (Z.n*40<=140737488351232)<|.k (a2 (ak<|bh aC)<|ak aC) (a.dv,nm<|mc Z) (a.dv.n<=aq/\∀(i:Nat),i<a.dv.n->(a.dv.f i).n*40<=aq)<|.u (cZ a.dv.n<|OB a.dv<|nm<|mc Z) (i:Int) (eH az)<|bR (M 123 [(1,aT),(2,aP),(5,I<|oU<|(i:Int)+1)]) [cM [(aY.cells a)] 6])<|eY aR)) ?_;have Y:=YE a.dv i;simp only[av]
  (repeat' with_reducible first|intro _|apply aNd_)<;>first|exact aM|exact(hki U).1|exact(hki U).2|exact hk.1|exact hpl _ W|(rw[bZ (n:=a.dv.n) U hk.1];exact aW U (bF Y gG))
 have lc:=fF f58 12 a.eo.n (cvB a) (λj=>(M 123 [(1,aT),(2,aP),(6,I j)])) [(cM [aY.cells a] 6)] (eR<|M 123 [(2,aP)]) (ey 2<|M 123 [(2,aP)]) λj hj ltj nC nq lO=>by
  have hci:=Y j;refine ao Vy L0 [1,2,6] [2] (let V:=a.eo.f j;let aG:=oU ((j:Int)-1);let aS:=eH nq;let Z:nV:=(.k (a1<|af dh) V (V.key.n<=140737488351232)<|.m (sh V) (.k (a1<|af dh) V (wf V)<|.m (yW V) aS<|eG nC)<|eG nC);(.d ((j:Int)<a.eo.n) (.g j a.eo.n<|.d (V.id<1) aS<|.d (V.id>=a.next) aS<|.d ((j:Int)>0) (.g aG a.eo.n<|.d ((a.eo.f aG.toNat).id>=V.id) aS Z) Z)<|eY lO)) ?_;have JV:=Yb a j
  (have hiw:=lQ (k:=j) U;simp only[hiw,jF];clear hiw)
  simp only[av]
  (repeat' with_reducible first|intro _|apply aNd_)<;>first|exact aM|exact(hci U).1|exact(hci U).1.2.2.2.2.2.1.1|(exact nC U (bF JV<|by first|omega|assumption|(clear nC nq lO;grind)))
 have hke:vX a.dv=true↔a.dv.n<=64/\ar a.dv.n (rkC a.dv)=false:=by rw[ng λi hi=>bQ4 a.dv hi];unfold vX;rw[fG,gl,bp];exact And.comm
 refine al Vy (LOr 7 (kR lk [1,2,5]) 12<|kR lc [1,2,6]) (let Z:ix:=bI;(.v (a2 aQ aQ) (a.l0,a.zx)<|.u (vM a.l0 a.zx) 0 Z<|.d ((a.dv.n:Int)>64) Z<|.d ((a.eo.n:Int)>32) Z<|.d (a.next<1) Z<|.d (a.next>1048560) Z<|.d (a.count<0) Z<|.d (a.count>9007199254740991) Z<|jS lk Z<|jS lc Z fo)) ?_;simp only[av]
 repeat' with_reducible first|intro _|apply aNd_
 all_goals (refine ba Bo ?_;unfold JG;clear lk lc hk Y;generalize vX a.dv=kb at*;generalize ar a.dv.n (rkC a.dv)=kc at*;generalize ar a.eo.n (cvB a)=cb at*;generalize vM a.l0 a.zx=nw at*;rw[ea];simp only[bp];grind)
def ESV(pt:mP)(pe:nF)(re:tW):Env:=aF 52 (bN (a1<|af cq) (λd=>Bo (iM d)) wf)<|aF 53 (bN (a1<|af cQ) (λx=>Bo (my x)) wf)<|aF 54 (bN (a1<|af eX) (λx=>Bo (Ag x)) wf)<|aF 55 (bN (a1<|af mM) (λx=>Bo (vI x)) λx=>x.l.n<=aq)<|aF 56 (bN (a1<|af df) (λx=>Bo (HQ x)) wf)<|aF 57 (bN (a1<|af hJ) (λx=>Bo (mQ pt pe re x))<|Q2 pt)<|aF 58 (bN (a1<|af jU) (λx=>Bo (JG x)) og)<|aF 50 (bN (a1 aQ) (λs=>Bo (fj s)) λs=>s.size<=aq) EN
def bQ5(pt:mP)(pe:nF)(rt:UE)(re:tW)(hp:iL 118 pt pe)(ht:lB 116 rt re)(F:∀d,wf d->Ok P 52 [(af cq).au d] (Bo<|iM d)):an P (ESV pt pe re):=ah (ah (ah (ah (ah (ah (ah (ah aw λs h=>uv s h) λx h=>Vz x h.1 h.2.1 h.2.2) λx h=>RS pt pe rt re hp ht x h) λx h=>Vv x h) λx h=>a27 x h) λx h=>RN x h) λx h=>Hq x h) λd h=>F d h
def vS(pt:mP)(pe:nF)(re:tW)(w:oV)(d:cq):Prop:=(d.fe=1/\my d.bL=true)\/(d.fe=2/\Ag d.iF=true)\/(d.fe=3/\vI d.pM=true)\/(d.fe=4/\HQ d.fp=true)\/(d.fe=5/\mQ pt pe re d.gM=true)\/(d.fe=6/\JG d.fw=true)\/(d.fe=7/\fj d.fY=true)\/(d.fe=8/\ar w.mw.n (λi=>decide ((w.mw.f i).id=d.iN))=true)\/d.fe=9\/(d.fe=10/\0<=d.Ez/\d.Ez<32)
instance(pt:mP)(pe:nF)(re:tW)(w:oV)(d:cq):Decidable (vS pt pe re w d):=by unfold vS;infer_instance
def vT(pt:mP)(pe:nF)(re:tW)(w:oV)(d:cq):Bool:=decide<|iM d=true/\vS pt pe re w d
def El(pt:mP)(pe:nF)(re:tW)(w:oV)(d:cq):vT pt pe re w d=true↔(iM d=true/\vS pt pe re w d):=bp
def VA(w:oV)(d:cq)(i:Nat):decide ((w.mw.f i).id=d.iN)=true↔(w.mw.f i).id=d.iN:=bp
def bQ6(pt:mP)(pe:nF)(re:tW)(h:an P (ESV pt pe re):=by assumption):an P (ESV pt pe re):=h
def VB(pt:mP)(pe:nF)(rt:UE)(re:tW)(hp:iL 118 pt pe)(ht:lB 116 rt re)(F:∀d,wf d->Ok P 52 [(af cq).au d] (Bo<|iM d))(w:oV)(d:cq)(hw:wf w)(h:wf d)(ha:Ef pt d):Ok P 21 [(af oV).au w,(af cq).au d] (Bo<|vT pt pe re w d):=by
 have O:=h.2.1;have h6:=ha.1;have h2:=h.2.2.1;have h3:=h.2.2.2.1.2.1;have h4:=h.2.2.2.2.1;have h5:Q2 pt d.gM:=⟨h.2.2.2.2.2.1,ha.2⟩
 have h7:d.fY.size<=aq:=h.2.2.2.2.2.2.2.1;have h8:=hw.2.2.2.2.1;have lp:=fF Tryz.f21 20 w.mw.n (λi=>decide ((w.mw.f i).id=d.iN)) (λi=>(M 79 [(2,aT),(3,J.ptr 1 0 0),(4,aP),(8,aP),(10,I d.fe),(11,aP),(16,aP),(21,aP),(26,aP),(31,aP),(36,aP),(41,aP),(46,fZ),(50,I w.mw.n),(51,I i)])) [(cM [aY.cells w] 9),(cM [aY.cells d] 30)] (eR<|M 79 [(4,fZ)]) (ey 1<|M 79 [(4,aP)]) λi hi lt aW az aR=>by
  refine ao aw L0 [2,3,4,8,10,11,16,21,26,31,36,41,46,50,51] [4] (.d ((i:Int)<w.mw.n) (.g i w.mw.n<|.q ((w.mw.f i).id) d.iN (eH az)<|eG aW)<|eY aR) ?_;have Y:=VA w d i;simp only[av]
  repeat' with_reducible first|intro _|apply aNd_
  all_goals exact aM
 have hE:=bQ5 pt pe rt re hp ht F;refine al (bQ6 pt pe re) (kR lp [2,3,4,8,10,11,16,21,26,31,36,41,46,50,51]) (let Z:ix:=bI;(.k (a1<|af cq) d (wf d)<|.m (iM d) Z<|.q d.fe 1 (.k (a1<|af cQ) d.bL (wf d.bL)<|.e<|Bo<|my d.bL)<|.q d.fe 2 (.k (a1<|af eX) d.iF (wf d.iF)<|.e<|Bo<|Ag d.iF)<|.q d.fe 3 (.k (a1<|af mM) d.pM (d.pM.l.n<=140737488351232)<|.e<|Bo<|vI d.pM)<|.q d.fe 4 (.k (a1<|af df) d.fp (wf d.fp)<|.e<|Bo<|HQ d.fp)<|.q d.fe 5 (.k (a1<|af hJ) d.gM (Q2 pt d.gM)<|.e<|Bo<|mQ pt pe re d.gM)<|.q d.fe 6 (.k (a1<|af jU) d.fw (og d.fw)<|.e<|Bo<|JG d.fw)<|.q d.fe 7 (.k (a1 aQ) d.fY (d.fY.size<=140737488351232)<|.e<|Bo<|fj d.fY)<|.q d.fe 8 (jS lp fo Z)<|.q d.fe 9 fo<|.q d.fe 10 (.d (d.Ez>=0) (.e<|Bo<|decide<|d.Ez<32) Z) Z)) ?_;simp only[av]
 (repeat' with_reducible first|intro _|apply aNd_)<;>first|exact aM|(clear lp;clear hE hw h ha hp ht F O h2 h3 h4 h5 h6 h7 h8;refine ba Bo ?_;rw[ea,El];unfold vS;first|(simp [*];done)|(simp_all;done)|(simp_all<;>omega))
def ENs(dt:DbT)(de:Dr):Env:=aF 47 (bN (a2 (af km)<|af dQ) (λx=>Bo (qL x.1 x.2)) Ld)<|aF 46 (bN (a1<|ak jy) (λd=> .bg [S<|dt d,I<|de d]) wf) EN
def a29(dt:DbT)(de:Dr)(h:tT 46 dt de:=by assumption):an P (ENs dt de):=ah (ah aw h) λx h=>aV6 x.1 x.2 h.1 h.2
def N9(x:km)(i:Nat):Bool:=decide<|(x.aB.f i).id<=Eh x.aB i\/x.next<=(x.aB.f i).id\/qL x (x.aB.f i)=false
def VC(x:km)(i:Nat):N9 x i=true↔((x.aB.f i).id<=Eh x.aB i\/x.next<=(x.aB.f i).id\/qL x (x.aB.f i)=false):=bp
def Em(de:Dr)(x:km):Bool:=decide<|de x.db=0/\1<=x.next/\x.next<=1048576/\x.aB.n<=64/\ar x.aB.n (N9 x)=false
def VD(dt:DbT)(de:Dr)(hd:tT 46 dt de)(x:km)(h:wf x):Ok P 18 [(af km).au x] (Bo<|Em de x):=by
 have hn:=h.2.2.1;have hdb:=h.1;have hw:∀i,Ld (x,x.aB.f i):=λi=>⟨h,h.2.2.2 i⟩
 have lp:=yM f18 6 x.aB.n (N9 x) (λi=>(M 73 [(1,aT),(2,aP),(5,I<|Eh x.aB i),(33,I x.aB.n),(34,I i)])) [(cM [aY.cells x] 3)] (eR<|M 73 [(2,aP)]) (ey 0<|M 73 [(2,aP)]) λi hi lt aW az aR=>by
  refine ao (a29 dt de) L0 [1,2,5,33,34] [2] (let Z:=x.aB.f i;(.d ((i:Int)<x.aB.n) (.g i x.aB.n<|.d (Z.id<=Eh x.aB i) (eH az)<|.g i x.aB.n<|.d (Z.id>=x.next) (eH az)<|.g i x.aB.n<|.k (a2 (af km)<|af dQ) (x,x.aB.f i) (Ld (x,x.aB.f i))<|.m (qL x Z) (eH az)<|.g i x.aB.n<|bR (M 73 [(1,aT),(2,aP),(5,I Z.id),(33,I x.aB.n),(34,I<|oU<|(i:Int)+1)]) [cM [(aY.cells x)] 3])<|fv 0 (M 73 [(2,aP)]) [])) ?_;have Y:=VC x i;simp only[av]
  (repeat' with_reducible first|intro _|apply aNd_)<;>first|exact aM|exact hw _
 refine al (a29 dt de) (kR lp [1,2,5,33,34]) (let Z:ix:=bI;(.k (a1<|ak jy) x.db (wf x.db)<|.u (de x.db) 0 Z<|.d (x.next<1) Z<|.d (x.next>1048576) Z<|.d ((x.aB.n:Int)>64) Z<|jS lp Z fo)) ?_;simp only[av]
 (repeat' with_reducible first|intro _|apply aNd_)<;>first|exact aM|(clear lp h hw hdb;unfold Em;exact ga)
def a30(de de':Dr)(x:km)(hd:de x.db=0↔de' x.db=0):Em de' x=Rq de x:=by
 have e:ar x.aB.n (N9 x)=false↔(ar x.aB.n (NJ x)=false/\(ar x.aB.n λi=> !qL x (x.aB.f i))=false):=by
  rw[bc,bc,bc];constructor
  .intro h;refine⟨λi hi=>fq λq=>fW (h i hi) (q.elim .inl λq=> .inr (.inl q)),λi hi=> ?_⟩;cases q:qL x (x.aB.f i)with
   |true=>rfl
   |false=>exact absurd (.inr<|.inr q)<|fW<|h i hi
  .rintro⟨O,h2⟩ i hi;refine fq λq=> ?_;rcases q with q|q|q
   .exact fW (O i hi)<|.inl q
   .exact fW (O i hi)<|.inr q
   .have:=h2 i hi;rw[q]at this;cases this
 unfold Em Rq;rw[ea,bp,bp,e,hd]
def ERV(de:Dr)(pt:mP)(pe:nF)(re:tW):Env:=aF 21 (bN (a2 (af oV)<|af cq) (λq=>Bo (vT pt pe re q.1 q.2)) λq=>wf q.1/\wf q.2/\Ef pt q.2)<|aF 18 (bN (a1<|af km) (λx=>Bo (Em de x)) wf)<|aF 19 (bN (a1<|af ei) (λx=>Bo (pw x)) wf)<|aF 20 (bN (a1<|ak qE) (λx=>Bo (vY x)) wf) EN
def bQ7(dt:DbT)(de:Dr)(pt:mP)(pe:nF)(rt:UE)(re:tW)(hd:tT 46 dt de)(hp:iL 118 pt pe)(ht:lB 116 rt re)(F:∀d,wf d->Ok P 52 [(af cq).au d] (Bo<|iM d)):an P (ERV de pt pe re):=ah (ah (ah (ah aw λl h=>a06 l h) λp h=>RJ p h) λx h=>VD dt de hd x h) λq h=>VB pt pe rt re hp ht F q.1 q.2 h.1 h.2.1 h.2.2
def a34(de:Dr)(pt:mP)(pe:nF)(re:tW)(h:an P (ERV de pt pe re):=by assumption):an P (ERV de pt pe re):=h
def yu(pt:mP)(pe:nF)(re:tW)(w:oV)(i:Nat):Bool:= !vT pt pe re w (w.fP.f i)
def En(pt:mP)(pe:nF)(re:tW)(w:oV)(i:Nat):yu pt pe re w i=true↔vT pt pe re w (w.fP.f i)=false:=by unfold yu;rw[gl]
def a36(de:Dr)(w:oV):Prop:=0<=w.YQ/\w.YQ<=1099511627776/\w.fP.n<=32/\Em de w.x6=true/\pw w.qe=true/\vY w.mw=true
instance(de:Dr)(w:oV):Decidable (a36 de w):=by unfold a36;infer_instance
def yv(de:Dr)(pt:mP)(pe:nF)(re:tW)(w:oV):Bool:=decide<|a36 de w/\ar w.fP.n (yu pt pe re w)=false
def Ep(de:Dr)(pt:mP)(pe:nF)(re:tW)(w:oV):yv de pt pe re w=true↔((0<=w.YQ/\w.YQ<=1099511627776/\w.fP.n<=32/\Em de w.x6=true/\pw w.qe=true/\vY w.mw=true)/\ar w.fP.n (yu pt pe re w)=false):=bp
def VE(dt:DbT)(de:Dr)(pt:mP)(pe:nF)(rt:UE)(re:tW)(hd:tT 46 dt de)(hp:iL 118 pt pe)(ht:lB 116 rt re)(F:∀d,wf d->Ok P 52 [(af cq).au d] (Bo<|iM d))(w:oV)(hw:wf w)(ha:∀i,Ef pt (w.fP.f i)):Ok P 7 [(af oV).au w] (Bo<|yv de pt pe re w):=by
 have O:=hw.2.1.1;have h2:=hw.2.1.2;have h3:=hw.2.2.1;have h4:=hw.2.2.2.1;have h5:=hw.2.2.2.2;have hE:=bQ7 dt de pt pe rt re hd hp ht F;have lp:=fF Tryz.f7 4 w.fP.n (yu pt pe re w) (λi=>(M 51 [(1,aT),(2,aP),(35,aP),(38,I w.fP.n),(39,I i)])) [(cM [aY.cells w] 9)] (eR<|M 51 [(2,aP)]) (ey 0<|M 51 [(2,aP)]) λi hi lt aW az aR=>by
  refine ao (a34 de pt pe re) L0 [1,2,35,38,39] [2] (let Z:=w.fP.f i;(.d ((i:Int)<w.fP.n) (.g i w.fP.n<|.k (a2 (af oV)<|af cq) (w,w.fP.f i) (wf w/\wf Z/\Ef pt Z)<|.m (vT pt pe re w Z) (eH az)<|eG aW)<|eY aR)) ?_;have Y:=En pt pe re w i;have h2i:=h2 i;have hai:=ha i;simp only[];simp only[av]
  repeat' with_reducible first|intro _|apply aNd_
  all_goals exact aM
 refine al (a34 de pt pe re) (kR lp [1,2,35,38,39]) (let Z:ix:=bI;(.d (w.YQ<0) Z<|.d (w.YQ>1099511627776) Z<|.d ((w.fP.n:Int)>32) Z<|.k (a1<|af km) w.x6 (wf w.x6)<|.m (Em de w.x6) Z<|.k (a1<|af ei) w.qe (wf w.qe)<|.m (pw w.qe) Z<|.k (a1<|ak qE) w.mw (wf w.mw)<|.m (vY w.mw) Z<|jS lp Z fo)) ?_;simp only[av]
 (repeat' with_reducible first|intro _|apply aNd_)<;>first|exact aM|(clear lp;clear hE hw ha hd hp ht F O h2 h3 h4 h5;refine ba Bo ?_;rw[ea,Ep];first|(simp [*];done)|(simp [*]<;>omega)|(simp_all;done)|(simp_all<;>omega))
def VF(pt:mP)(pe:nF)(re:tW)(w:oV)(d:cq):vS pt pe re w d↔zW pt pe re w d:=by unfold vS zW;rw[ao0]
def VG(pt:mP)(pe:nF)(re:tW)(w:oV):yu pt pe re w=Dw pt pe re w:=funext λi=>by rw[ea,En,IP];have O:=El pt pe re w<|w.fP.f i;have h2:=Io pt pe re w<|w.fP.f i;rw[VF,<-h2]at O;cases hu:iM (w.fP.f i)<;>cases hs:zX pt pe re w (w.fP.f i)<;>cases N:vT pt pe re w (w.fP.f i)<;>simp_all
def VH(de:Dr)(pt:mP)(pe:nF)(re:tW)(w:oV):yv de pt pe re w=Af de pt pe re w:=by rw[ea,Ep,IQ,VG,a30 de de w.x6 di]
def Sd(l:bh aC):y_:=mK (if bV l≠0 then n_ else lh l l.n)
def a38(l:bh aC):Sd l=if bV l≠0 then n_ else lh l l.n:=ni _
def Lv(l:bh aC):tP l= .bg [S<|Sd l,I<|bV l]:=by
 unfold tP;rw[a38];by_cases h:bV l=0
 .rw[if_neg<|cI h,if_neg<|cI h,h]
 .rw[if_pos h,if_pos h]
def YF(l:bh aC):(Sd l).size<=131072:=by
 rw[a38];by_cases h:bV l=0
 .rw[if_neg<|cI h];have:=uP l h l.n<|bE _;have:=n32 l h;omega
 .rw[if_pos h];exact bJ _
def a42(x:Int×Int):Prop:=0<=x.1/\x.1<=9223372036854775807/\x.2=10
def Er(f:Nat)(nt:Int->y_):Prop:=∀x:Int×Int,a42 x->Ok P f [I x.1,I x.2] (S<|nt x.1)
def EPn(nt:Int->y_):Env:=aF 186 (bN (a1<|af dG) (λx=>I (fQ x)) wf)<|aF 96 (bN (a1<|ak aC) (λl=> .bg [S<|Sd l,I<|bV l]) wf)<|aF 187 (bN (a2 bx bx) (λx=>S (nt x.1)) a42) EN
def bQ8(nt:Int->y_)(h:Er 187 nt:=by assumption):an P (EPn nt):=ah (ah (ah aw h) λl hl=>by rw[<-Lv];exact K7 l hl) λx hx=>Uq x hx
def OF:y_:=⟨#[10]⟩
def IT(nt:Int->y_)(m:dG):y_:=m.src++OF++m.dst++OF++m.wo++OF++m.type++OF++Sd m.bw++OF++nt (m.data.size:Int)++OF++m.data
def RT(nt:Int->y_)(m:dG):J:=if fQ m≠0 then .bg [S n_,I<|fQ m]else .bg [S<|IT nt m,I 0]
def VI(nt:Int->y_)(hnt:∀n,(nt n).size<=64)(hq:Er 187 nt)(m:dG)(h:wf m):Ok P 118 [(af dG).au m] (RT nt m):=by
 have ha:=h.2.2.2.2.1;have w1:m.src.size<=140737488351232:=h.1;have w2:m.dst.size<=140737488351232:=h.2.1;have w3:m.wo.size<=140737488351232:=h.2.2.1;have w4:m.type.size<=140737488351232:=h.2.2.2.1;have w5:m.data.size<=140737488351232:=h.2.2.2.2.2;have hp:=YF m.bw;have hz:=hnt (m.data.size:Int);have e1:(⟨#[10]⟩:y_)=OF:=rfl;have z1:OF.size=1:=rfl;have z2:(⟨#[10]⟩:y_).size=1:=rfl;refine al (bQ8 nt) L0 (let Z:=(⟨#[10]⟩:y_);let V:=(m.data.size:Int);(.k (a1<|af dG) m (wf m)<|.u (fQ m) 0 (.e<|J.bg [S (n_:y_),I<|fQ m])<|.k (a1<|ak aC) m.bw (wf m.bw)<|.o [m.src.size+(Z).size<=9223372036854775807,(m.src++Z).size+m.dst.size<=9223372036854775807,(m.src++Z++m.dst).size+(Z).size<=9223372036854775807,(m.src++Z++m.dst++Z).size+m.wo.size<=9223372036854775807,(m.src++Z++m.dst++Z++m.wo).size+(Z).size<=9223372036854775807,(m.src++Z++m.dst++Z++m.wo++Z).size+m.type.size<=9223372036854775807,(m.src++Z++m.dst++Z++m.wo++Z++m.type).size+(Z).size<=9223372036854775807,(m.src++Z++m.dst++Z++m.wo++Z++m.type++Z).size+(Sd m.bw).size<=9223372036854775807,(m.src++Z++m.dst++Z++m.wo++Z++m.type++Z++Sd m.bw).size+(Z).size<=9223372036854775807]<|.k (a2 bx bx) (V,10) (a42 (V,10))<|.o [(m.src++Z++m.dst++Z++m.wo++Z++m.type++Z++Sd m.bw++Z).size+(nt V).size<=9223372036854775807,(m.src++Z++m.dst++Z++m.wo++Z++m.type++Z++Sd m.bw++Z++nt V).size+(Z).size<=9223372036854775807,(m.src++Z++m.dst++Z++m.wo++Z++m.type++Z++Sd m.bw++Z++nt V++Z).size+m.data.size<=9223372036854775807]<|.e<|J.bg [S<|m.src++Z++m.dst++Z++m.wo++Z++m.type++Z++Sd m.bw++Z++nt V++Z++m.data,I 0])) ?_;simp only[av]
 (repeat' with_reducible first|intro _|apply aNd_)<;>first|exact aM|(show(0:Int)<=_/\_/\_;exact⟨U,U,rfl⟩)|(simp only[fy,z2];omega)|(unfold RT;rw[if_pos W])|(unfold RT;rw[if_neg<|cI W];rfl)
def Oa(nt:Int->y_)(m:dG):bh y_:=⟨7,λi=>match i with|0=>m.src|1=>m.dst|2=>m.wo|3=>m.type|4=>Sd m.bw|5=>nt (m.data.size:Int)|6=>m.data|_=>default⟩
def a43(nt:Int->y_)(m:dG):cY OF (Oa nt m) 7=IT nt m:=rfl
def a47(nt:Int->y_)(m:dG)(i:Nat)(hi:i<7): [[J.sc<|Value.string m.src],[J.sc<|Value.string m.dst],[J.sc<|Value.string m.wo],[J.sc<|Value.string m.type],[J.sc<|Value.string<|Sd m.bw],[J.sc<|Value.string<|nt (m.data.size:Int)],[J.sc<|Value.string m.data]].getD i []=[S<|(Oa nt m).f i]:=by
 match i,hi with
 |0,_=>rfl
 |1,_=>rfl
 |2,_=>rfl
 |3,_=>rfl
 |4,_=>rfl
 |5,_=>rfl
 |6,_=>rfl
def bp9(nt:Int->y_)(m:dG):y_:=mK<|IT nt m
def Oc(nt:Int->y_)(m:dG):bp9 nt m=IT nt m:=ni _
def a48(nt:Int->y_)(m:dG):l_ J->Option (J×l_ Prop):=λaa=>match aa with
 | [.rf n f,.sc (.string sp)]=>some (S (bp9 nt m),[n=7,sp=OF,(∀i,i<n->f i=[S ((Oa nt m).f i)]),(IT nt m).size<=140737488355328])
 |_=>none
def a52 {E:Env}(nt:Int->y_)(m:dG)(hE:an P E):an P (aF 129 (a48 nt m) E):=gi hE λaa r ob O h2=>by
 unfold a48 at O;split at O
 .rename_i n f sp;cases O;have e1:=h2 (n=7) sS;have e2:=h2 (sp=OF) sS;have e3:=h2 (∀i,i<n->f i=[S<|(Oa nt m).f i]) sS;have e4:=h2 ((IT nt m).size<=140737488355328) sS;subst e1 e2;have ej:B (Lib.join (pO<|Oa nt m) OF.data.toList)=bp9 nt m:=by rw[Oc,<-a43];exact ss OF (Oa nt m) 7
  have hl:(Lib.join (pO<|Oa nt m) OF.data.toList).length=(IT nt m).size:=by rw[<-Oc,<-ej,jG]
  have k:=FD (Oa nt m) OF (by show 7<=_;omega) (by rw[hl];exact e4);rw[ej]at k;refine⟨k.ent,λw Sa vs hG hS hl ha=>k.run w Sa vs hG hS hl λi p v O h2=> ?_⟩
  match i with
  |0=>cases O;exact fS (λj hj=>(e3 j hj).trans rfl)<|ha 0 _ v rfl h2
  |1=>cases O;exact ha 1 _ v rfl h2
  |i+2=>cases O
 .cases O
def EPo(nt:Int->y_)(m:dG):Env:=aF 129 (a48 nt m)<|aF 273 (bN (a1<|af dG) (λx=>I (fQ x)) wf)<|aF 63 (bN (a1<|ak aC) (λl=> .bg [S<|Sd l,I<|bV l]) wf)<|aF 274 (bN (a2 bx bx) (λx=>S (nt x.1)) a42) EN
def bQ9(nt:Int->y_)(m:dG)(h:Er 274 nt:=by assumption):an P (EPo nt m):=a52 nt m<|ah (ah (ah aw h) λl hl=>by rw[<-Lv];exact Lb l hl) λx hx=>Ur x hx
def Od {m:dG}(h:fQ m=0):bV m.bw=0:=by
 unfold fQ at h;by_cases O:ar 4 (ptB m)=true
 .rw[if_pos O]at h;exact absurd h<|cn<|dC<|dw.2 O
 .rw[if_neg O]at h;by_cases h2:bV m.bw≠0
  .rw[if_pos h2]at h;exact absurd h h2
  .exact Fl.1 h2
def VJ(nt:Int->y_)(hq:Er 274 nt)(m:dG)(h:wf m)(kZ:fQ m=0->(IT nt m).size<=140737488355328):Ok P 224 [(af dG).au m] (RT nt m):=by
 have ha:=h.2.2.2.2.1;have w5:m.data.size<=140737488351232:=h.2.2.2.2.2;have e1:(⟨#[10]⟩:y_)=OF:=rfl;refine al (bQ9 nt m) L0 (let Z:=(m.data.size:Int);let V:=(n_:y_);(.k (a1<|af dG) m (wf m)<|.u (fQ m) 0 (.e<|J.bg [S V,I<|fQ m])<|.k (a1<|ak aC) m.bw (wf m.bw)<|.u (bV m.bw) 0 (.e<|J.bg [S V,I<|bV m.bw])<|.k (a2 bx bx) (Z,10) (a42 (Z,10))<|.o [7=7,(⟨#[10]⟩:y_)=OF,∀(i:Nat),i<7-> [[S m.src],[S m.dst],[S m.wo],[S m.type],[S<|Sd m.bw],[S<|nt Z],[S m.data]].getD i []=[S<|(Oa nt m).f i],(IT nt m).size<=140737488355328]<|.e<|J.bg [S<|bp9 nt m,I 0])) ?_;simp only[av]
 (repeat' with_reducible first|intro _|apply aNd_)<;>first|exact aM|exact a47 nt m _ W|(show(0:Int)<=_/\_/\_;exact⟨U,U,rfl⟩)|(unfold RT;rw[if_pos W])|(exact absurd (Od W) W)|(unfold RT;rw[if_neg<|cI W,<-Oc])
def ao3:Ok P 315 [I 10] (Bo true):=by exact al aw L0 (.s .fN<|.s .fN fo) ft
def ao4:Ok P 246 [I 10] (Bo true):=by exact al aw L0 (.s .fN<|.s .fN fo) ft
def bR0(u:Nat):(-(u:Int)).tdiv 10= -((u/10:Nat):Int):=by rw[Int.neg_tdiv];rfl
def bR1(u:Nat):(-(u:Int)).tmod 10= -((u%10:Nat):Int):=by rw[Int.neg_tmod];rfl
def Oe:l_ UInt8:=[48,49,50,51,52,53,54,55,56,57,97,98,99,100,101,102]
def b43:y_:=⟨#[48,49,50,51,52,53,54,55,56,57,97,98,99,100,101,102]⟩
def IU(u:Nat)(l:l_ UInt8):l_ UInt8:=if u=0/\l≠ []then l else Lib.decDigits u++l
def Lw(u:Nat)(l:l_ UInt8)(h:0<u\/l=[]):IU (u/10) (Oe.getD (u%10) 0::l)=IU u l:=by
 have hh:Oe.getD (u%10) 0=UInt8.ofNat (48+u%10):=by have key:∀k:Fin 10,Oe.getD k.val 0=UInt8.ofNat (48+k.val):=dD;exact key ⟨u%10,Au _ dD⟩
 have O:IU u l=Lib.decDigits u++l:=by
  unfold IU;rw[if_neg];rintro⟨q1,q2⟩;rcases h with h|h
  .omega
  .exact q2 h
 rw[O,hh];unfold IU;by_cases hs:u<10
 .rw[if_pos ⟨U,sS⟩,Lib.decDigits,dif_pos hs,LH hs];rfl
 .rw[if_neg (by rintro⟨q,_⟩;omega)]
  conv=>rhs;rw[Lib.decDigits,dif_neg hs]
  simp
def a56(k:Nat)(hk:k<10):b43.extract k (k+1)=B [Oe.getD k 0]:=by have key:∀k:Fin 10,b43.extract k.val (k.val+1)=B [Oe.getD k.val 0]:=dD;exact key ⟨k,hk⟩
def bq0(s:y_):s=n_↔s.data.toList=[]:=by
 constructor
 .intro h;rw[h]
 .intro h;obtain⟨⟨l⟩⟩:=s;have h:l=[]:=h;rw[h]
def bq1(u:Nat)(l:l_ UInt8):l_ J:=(M 27 [(0,I<|-(u:Int)),(1,I 10),(5,S<|B l)])
def RU(u:Nat)(l:l_ UInt8):LT:= .out (.ext 0) (M 27 [(5,S<|B<|IU u l)]) []
def bR2(u:Nat)(l:l_ UInt8)(O:u<=9223372036854775808)(hl:l.length<=100)(aW:0<u\/l=[]->aO P (aD f247 2) (bq1 (u/10) (Oe.getD (u%10) 0::l)) [] (RU u l)):aO P (aD f247 2) (bq1 u l) [] (RU u l):=by
 refine ao aw L0 [0,1,5] [5] (let V:=oU (0-(-(u:Int)).tmod 10)+1;let aG:=(⟨#[48,49,50,51,52,53,54,55,56,57,97,98,99,100,101,102]⟩:y_);let aS:=oU (0-(-(u:Int)).tmod 10);let Z:nV:=(.o [(0:Int)<=oU (0-(-(u:Int)).tmod 10),oU (0-(-(u:Int)).tmod 10)<=oU V,oU V<=16,(aG.extract aS.toNat (oU V).toNat).size+(B l).size<=9223372036854775807]<|bR (M 27 [(0,I<|oU<|(-(u:Int)).tdiv 10),(1,I 10),(5,S<|aG.extract aS.toNat (oU V).toNat++B l)]) []);(.d (-(u:Int)<0) Z<|.n (dN (B l) (n_:y_)) Z<|fv 0 (M 27 [(5,S<|B l)]) [])) ?_;have hk:=Au u (show 0<10 by decide);have hd:oU (0-(-(u:Int)).tmod 10)=((u%10:Nat):Int):=by rw[bR1,wrap64 U U];omega
 have hd1:oU (((u%10:Nat):Int)+1)=((u%10+1:Nat):Int):=by rw[wrap64 U U];omega
 have hq:oU ((-(u:Int)).tdiv 10)= -((u/10:Nat):Int):=by rw[bR0,wrap64 U U]
 have hx:(⟨#[48,49,50,51,52,53,54,55,56,57,97,98,99,100,101,102]⟩:y_).extract (u%10) (u%10+1)=B [Oe.getD (u%10) 0]:=a56 _ hk;have oS:B l=n_↔l=[]:=by rw[bq0,Th]
 have aR: ¬(0<u\/l=[])->IU u l=l:=λh=>if_pos ⟨U,λe=>h (.inr e)⟩;have kZ:(⟨#[48,49,50,51,52,53,54,55,56,57,97,98,99,100,101,102]⟩:y_).size=16:=rfl;try dsimp only
 simp only[hd,hd1,dL,hx,hq,jP];simp only[av,bK,bO,aL]
 (repeat' with_reducible first|intro _|apply aNd_)<;>first|exact aM|exact aW<|.inl U|exact aW<|.inr<|oS.1 W|(simp only[jG,List.length_singleton];omega)|(have nP: ¬(0<u\/l=[]):=λh=>h.elim (λh=>U) (λh=>absurd (oS.2 h) W);unfold RU;rw[aR nP];rfl)
theorem by6:∀(k u:Nat) (l:l_ UInt8),u<10^k->l≠ []->u<=9223372036854775808->l.length+k<=100->aO P (aD f247 2) (bq1 u l) [] (RU u l)
 |0,u,l,h,hl,hu,hk=>bR2 u l hu U λh2=>by
  have:u=0:=by simpa using h
  rcases h2 with h2|h2
  .omega
  .exact absurd h2 hl
 |k+1,u,l,h,hl,hu,hk=>bR2 u l hu U λh2=>by have:=by6 k (u/10) (Oe.getD (u%10) 0::l) (by rw[Fk]at h;omega) sS U (by simp;omega);unfold RU at this⊢;rw[Lw u l h2]at this;exact this
def cf1(u:Nat)(hu:u<=9223372036854775808):aO P (aD f247 2) (bq1 u []) [] (RU u []):=
 bR2 u [] hu sS λh2=>by have:=by6 20 (u/10) [Oe.getD (u%10) 0] U sS U sS;unfold RU at this⊢;rw[Lw u [] h2]at this;exact this
def L36(u:Nat):gD:=λ_=>([0,1,5],[],λ_ _=>RU u [])
def ao5(u:Nat)(hu:u<=9223372036854775808):Ok P 247 [I<|-(u:Int),I 10] (S<|B<|Lib.decDigits u):=by
 refine al aw (L36 u) (.o [ax P (aD f247 2) (M 27 [(0,I<|-(u:Int)),(1,I 10),(5,S (n_:y_))]) [] (Out.ext 0) (M 27 [(5,S<|B<|IU u [])]) []]<|.e<|S<|B<|IU u []) ?_;have c1:=cf1 u hu;have e:IU u []=Lib.decDigits u:=by unfold IU;simp
 simp only[av]
 (repeat' with_reducible first|intro _|apply aNd_)<;>first|exact aM|exact c1.one|exact ba S (by rw[e])
def bq2(v:Int->J)(p:Int->Prop):l_ J->Option (J×l_ Prop)
 | [.sc (.int .i64 n),.sc (.int .i64 10)]=>some (v n,[p n])
 |_=>none
def bq3:l_ J->Option (J×l_ Prop)
 | [.sc (.int .i64 10)]=>some (Bo true,[])
 |_=>none
def ENm:Env:=aF 315 bq3<|aF 246 bq3<|aF 247 (bq2 (λn=>S (B<|Lib.decDigits n.natAbs)) λn=>n<=0/\ -9223372036854775808<=n)<|aF 316 (bq2 (λn=>S (B<|Lib.itoa n)) λn=> -9223372036854775808<=n/\n<=9223372036854775807) EN
def a57:an P ENm:=
 gi (gi (gi (gi aw
  (λl r ob h ho=>by unfold bq2 at h;split at h<;>cases h;have q:=ho _ ch;exact MK _ q.1 q.2))
  (λl r ob h ho=>by unfold bq2 at h;split at h<;>cases h;rename_i n;obtain⟨O,h2⟩:n<=0/\ -9223372036854775808<=n:=ho _ ch;have e:n= -((n.natAbs:Nat):Int):=U;have:=ao5 n.natAbs U;rw[<-e]at this;exact this))
  (λl r ob h _=>by unfold bq3 at h;split at h<;>cases h;exact ao4))
  (λl r ob h _=>by unfold bq3 at h;split at h<;>cases h;exact ao3)
def ao6(n:Int):y_:=B<|Lib.itoa n
def a61:Er 274 ao6:=λx hx=>by obtain⟨n,b⟩:=x;obtain⟨h0,O,h2⟩:=hx;have h2:b=10:=h2;subst h2;have h0:0<=n:=h0;have O:n<=9223372036854775807:=O;exact al a57 L0 (.o [-9223372036854775808<=n/\n<=9223372036854775807]<|.s .fN<|.e<|S<|B<|Lib.itoa n) ft
theorem tV:∀(k u:Nat),u<10^(k+1)->(Lib.decDigits u).length<=k+1
 |0,u,h=>by
  rw[Lib.decDigits,dif_pos U];simp
 |k+1,u,h=>by
  rw[Lib.decDigits];split
  .simp
  .have:=tV k (u/10) (by rw[Fk]at h;omega);simp;omega
def ao7:Er 187 ao6:=λx hx=>by
 obtain⟨n,b⟩:=x;obtain⟨h0,O,h2⟩:=hx;have h2:b=10:=h2;subst h2;have h0:0<=n:=h0;have O:n<=9223372036854775807:=O;have hw:oU (0-n)= -n:=by rw[wrap64 U U];omega
 have hl:=tV 19 n.natAbs U;have hs:(⟨#[45]⟩:y_).size=1:=rfl;refine al a57 L0 (let Z:=Lib.decDigits n.natAbs;let V:=(⟨#[45]⟩:y_);(.s .fN<|.d (n<0) (.o [n<=0/\ -9223372036854775808<=n,(V).size+(B Z).size<=9223372036854775807]<|.e<|S<|V++B Z)<|.o [oU (0-n)<=0/\ -9223372036854775808<=oU (0-n)]<|.e<|S<|B<|Lib.decDigits (oU<|0-n).natAbs)) ?_;try dsimp only
 simp only[hw];simp only[av]
 (repeat' with_reducible first|intro _|apply aNd_)<;>first|exact aM|exact ba S (by unfold ao6 Lib.itoa;rw[if_neg U];congr 2;omega)
def Of(n:Int):y_:=if 0<=n/\n<=9223372036854775807 then ao6 n else n_
def YG {n:Int}(h0:0<=n)(O:n<=9223372036854775807):Of n=ao6 n:=if_pos ⟨h0,O⟩
def bR3:Er 274 Of:=λx hx=>by rw[YG hx.1 hx.2.1];exact a61 x hx
def bR4:Er 187 Of:=λx hx=>by rw[YG hx.1 hx.2.1];exact ao7 x hx
def RV(n:Int):(Of n).size<=64:=by
 unfold Of;split
 .rename_i h;unfold ao6 Lib.itoa;rw[if_neg U,jG];have:=tV 18 n.toNat (by have:=h.2;omega)
  first|omega|(have e:n.natAbs=n.toNat:=by omega);(rw[e];omega)
 .exact bJ _
def xq(m:dG):y_:=if fQ m≠0 then n_ else IT Of m
def a62(m:dG):RT Of m= .bg [S<|xq m,I<|fQ m]:=by
 unfold RT xq;by_cases h:fQ m=0
 .rw[if_neg<|cI h,if_neg<|cI h,h]
 .rw[if_pos h,if_pos h]
def ao8:iL 118 xq fQ:=λm h=>by have h:=h.1;rw[<-a62];exact VI Of RV bR4 m h
def VK:iL 224 xq fQ:=λm h=>by
 rw[<-a62];exact VJ Of bR3 m h.1 λq=>by have:=h.2;unfold xq at this;rw[if_neg<|cI q]at this;exact this
def a63:tT 46 om FX:=λd h=>UY d h
def ao9:lB 116 Yy FZ:=λl h=>am6 l h
theorem nzP {n:Nat}:((n:Int)>0)↔n≠0:=U
theorem nzL {n:Nat}:(¬n≠0)↔n=0:=U
section
variable (fi:cQ)(sn:eX)(pi:mM)(wi:df)(pl:hJ)(ag:jU)(ho:y_)(gr wr:Int)
def b3C:Bool->(ix->ix)->ix->ix
 |true,_,r=> .s .fN r
 |false,G,r=> .s .fN (G r)
def b3T(a b c d e f g h:Bool)(z:ix):ix:=b3C a (λr=> .d ((fi.ly.n:Int)>0) bI (.d ((fi.jf.n:Int)>0) bI<|.d ((fi.gm.n:Int)>0) bI<|.u fi.gu.next 0 bI (.d ((fi.gu.aj.n:Int)>0) bI<|r)))<|b3C b (λr=> .d ((sn.bL.ly.n:Int)>0) bI (.d ((sn.bL.jf.n:Int)>0) bI<|.d ((sn.bL.gm.n:Int)>0) bI<|.u sn.bL.gu.next 0 bI (.d ((sn.bL.gu.aj.n:Int)>0) bI<|.u sn.dS.cap 0 bI<|.d ((sn.dS.aU.n:Int)>0) bI<|.d ((sn.dp.n:Int)>0) bI<|r)))<|b3C c (λr=> .u pi.next 0 bI (.d ((pi.l.n:Int)>0) bI<|r))<|b3C d (λr=> .u wi.next 0 bI (.u wi.iG 0 bI<|.d ((wi.l.n:Int)>0) bI<|r))<|b3C e (λr=> .d ((pl.qN.n:Int)>0) bI (.d ((pl.dX.n:Int)>0) bI<|r))<|b3C f (λr=> .m (dN ag.l0 n_) bI (.d ((ag.dv.n:Int)>0) bI<|.u ag.next 0 bI (.d ((ag.eo.n:Int)>0) bI<|.u ag.count 0 bI<|.m (dN ag.zx n_) bI<|r)))<|b3C g (λr=> .n (dN ho n_) r bI)<|b3C h (λr=> .q gr 0 r bI)<|.s .fN z
def b3O(k:Int):Prop:=Ok P 52 [(af cq).au<|cq.mk k fi sn pi wi pl ag ho gr wr]<|Bo<|iM<|cq.mk k fi sn pi wi pl ag ho gr wr
theorem b3Z {p:Prop}(h:p:=by simp only[b3T,b3C,av,bK,bO,aL];(repeat' with_reducible first|intro _|apply aNd_)<;>(refine ba Bo ?_;simp only[nzL,nzP]at*;simp [iM,tg,Aa,IH,mS, *];try rfl)):p:=h
theorem a65:b3O fi sn pi wi pl ag ho gr wr 1:=al aw L0 (b3T fi sn pi wi pl ag ho gr true false false false false false false false<|.e<|Bo<|wr==0) b3Z
theorem a68:b3O fi sn pi wi pl ag ho gr wr 2:=al aw L0 (b3T fi sn pi wi pl ag ho gr false true false false false false false false<|.e<|Bo<|wr==0) b3Z
theorem a69:b3O fi sn pi wi pl ag ho gr wr 3:=al aw L0 (b3T fi sn pi wi pl ag ho gr false false true false false false false false<|.e<|Bo<|wr==0) b3Z
theorem a71:b3O fi sn pi wi pl ag ho gr wr 4:=al aw L0 (b3T fi sn pi wi pl ag ho gr false false false true false false false false<|.e<|Bo<|wr==0) b3Z
theorem a73:b3O fi sn pi wi pl ag ho gr wr 5:=al aw L0 (b3T fi sn pi wi pl ag ho gr false false false false true false false false<|.e<|Bo<|wr==0) b3Z
theorem a74:b3O fi sn pi wi pl ag ho gr wr 6:=al aw L0 (b3T fi sn pi wi pl ag ho gr false false false false false true false false<|.e<|Bo<|wr==0) b3Z
theorem a81:b3O fi sn pi wi pl ag ho gr wr 7:=al aw L0 (b3T fi sn pi wi pl ag ho gr false false false false false false true false<|.e<|Bo<|wr==0) b3Z
theorem a83:b3O fi sn pi wi pl ag ho gr wr 8:=al aw L0 (b3T fi sn pi wi pl ag ho gr false false false false false false false true<|.e<|Bo<|wr==0) b3Z
theorem ap0:b3O fi sn pi wi pl ag ho gr wr 10:=al aw L0 (b3T fi sn pi wi pl ag ho gr false false false false false false false false fo) b3Z
end
def RW(kn:Int)(fi:cQ)(sn:eX)(pi:mM)(wi:df)(pl:hJ)(ag:jU)(ho:y_)(gr wr:Int)(h:kn≠1/\kn≠2/\kn≠3/\kn≠4/\kn≠5/\kn≠6/\kn≠7/\kn≠8/\kn≠10):Ok P 52 [(af cq).au<|cq.mk kn fi sn pi wi pl ag ho gr wr] (Bo<|iM<|cq.mk kn fi sn pi wi pl ag ho gr wr):=by
 obtain⟨O,h2,h3,h4,h5,h6,h7,h8,h10⟩:=h;refine aZ6 aw L0 func52 (let Z:Ce:=(.jh (Bo false) []);let V:=(n_:y_);(.aN ((kn:Int) !=1) (.aN (decide<|(↑fi.ly.n:Int)>0) Z<|.aN (decide<|(↑fi.jf.n:Int)>0) Z<|.aN (decide<|(↑fi.gm.n:Int)>0) Z<|.aN ((fi.gu.next:Int) !=0) Z<|.aN (decide<|(↑fi.gu.aj.n:Int)>0) Z<|.aN ((kn:Int) !=2) (.aN (decide<|(↑sn.bL.ly.n:Int)>0) Z<|.aN (decide<|(↑sn.bL.jf.n:Int)>0) Z<|.aN (decide<|(↑sn.bL.gm.n:Int)>0) Z<|.aN ((sn.bL.gu.next:Int) !=0) Z<|.aN (decide<|(↑sn.bL.gu.aj.n:Int)>0) Z<|.aN ((sn.dS.cap:Int) !=0) Z<|.aN (decide<|(↑sn.dS.aU.n:Int)>0) Z<|.aN (decide<|(↑sn.dp.n:Int)>0) Z<|.aN ((kn:Int) !=3) (.aN ((pi.next:Int) !=0) Z<|.aN (decide<|(↑pi.l.n:Int)>0) Z<|.aN ((kn:Int) !=4) (.aN ((wi.next:Int) !=0) Z<|.aN ((wi.iG:Int) !=0) Z<|.aN (decide<|(↑wi.l.n:Int)>0) Z<|.aN ((kn:Int) !=5) (.aN (decide<|(↑pl.qN.n:Int)>0) Z<|.aN (decide<|(↑pl.dX.n:Int)>0) Z<|.aN ((kn:Int) !=6) (.aN (!dN ag.l0 V) Z<|.aN (decide<|(↑ag.dv.n:Int)>0) Z<|.aN ((ag.next:Int) !=0) Z<|.aN (decide<|(↑ag.eo.n:Int)>0) Z<|.aN ((ag.count:Int) !=0) Z<|.aN (!dN ag.zx V) Z<|.aN ((kn:Int)==7) (.dead)<|.aN (dN ho V) (.aN ((kn:Int)==8) (.dead)<|.aN ((gr:Int)==0) (.aN ((kn:Int)==10) (.dead)<|.jh (Bo<|wr==0) []) Z) Z)<|.dead)<|.dead)<|.dead)<|.dead)<|.dead)<|.dead)) kK ?_;try dsimp only
 simp only[TrD.j6,ow,bK,bO,ev,jR,rL,sN,gl,nM,aL]
 (repeat' with_reducible first|intro _|apply aNd_)<;>first|trivial|(refine ba Bo ?_;simp only[nzL,nzP]at*;simp [iM,tg,Aa,IH,mS, *];try rfl)
def ap1(d:cq)(h:wf d):Ok P 52 [(af cq).au d] (Bo<|iM d):=by
 obtain⟨kn,fi,sn,pi,wi,pl,ag,ho,gr,wr⟩:=d;by_cases O:kn=1
 .subst O;exact a65 fi sn pi wi pl ag ho gr wr
 by_cases h2:kn=2
 .subst h2;exact a68 fi sn pi wi pl ag ho gr wr
 by_cases h3:kn=3
 .subst h3;exact a69 fi sn pi wi pl ag ho gr wr
 by_cases h4:kn=4
 .subst h4;exact a71 fi sn pi wi pl ag ho gr wr
 by_cases h5:kn=5
 .subst h5;exact a73 fi sn pi wi pl ag ho gr wr
 by_cases h6:kn=6
 .subst h6;exact a74 fi sn pi wi pl ag ho gr wr
 by_cases h7:kn=7
 .subst h7;exact a81 fi sn pi wi pl ag ho gr wr
 by_cases h8:kn=8
 .subst h8;exact a83 fi sn pi wi pl ag ho gr wr
 by_cases h10:kn=10
 .subst h10;exact ap0 fi sn pi wi pl ag ho gr wr
 exact RW kn fi sn pi wi pl ag ho gr wr ⟨O,h2,h3,h4,h5,h6,h7,h8,h10⟩
def VL {m:dG}(h:fQ m=0):(∀i,i<4->(qx m i).size<=1024)/\bV m.bw=0/\m.data.size<=65536:=by
 unfold fQ at h;split at h
 .rename_i O;have h2:=dC<|dw.2 O;exact absurd h<|(FT m _).1 h2
 .rename_i O;have O:=bc.1 (jY.2 O);split at h
  .rename_i h2;exact absurd h h2
  .rename_i h2;split at h
   .cases h
   .split at h
    .cases h
    .refine⟨λi hi=> ?_,tr.1 h2,U⟩;have h3:=O i hi;have h4:kh (qx m i)=0:=by
      rcases Decidable.em (kh (qx m i)=0)with q|q
      .exact q
      .rw[(FT m i).2 q]at h3;cases h3
     exact((Iv _).1 h4).1
def RX(m:dG):(xq m).size<=140737488355328:=by
 unfold xq;split
 .exact bJ _
 .rename_i h;obtain⟨O,_,h3⟩:=VL<|tr.1 h;have a0:m.src.size<=1024:=O 0 U;have a1:m.dst.size<=1024:=O 1 U;have a2:m.wo.size<=1024:=O 2 U;have a3:m.type.size<=1024:=O 3 U;have a4:=RV (m.data.size:Int);have a5:(Sd m.bw).size<=131072:=YF _;have a6:OF.size=1:=rfl;unfold IT;simp only[fy];omega
def RY(w:oV)(hw:wf w)(ha:∀i,og (w.fP.f i).fw):Ok P 6 [(af oV).au w] (Bo<|Af FX xq fQ FZ w):=
 an9 om FX xq fQ Yy FZ Rr VK am7 w hw λi=>⟨ha i,λ_ _=>RX _⟩
def ap2(w:oV)(hw:wf w)(ha:∀i,og (w.fP.f i).fw):Ok P 7 [(af oV).au w] (Bo<|yv FX xq fQ FZ w):=
 VE om FX xq fQ Yy FZ a63 ao8 ao9 ap1 w hw λi=>⟨ha i,λ_ _=>RX _⟩
def Og {α:Type}(x:α):bh α:=⟨0,λ_=>x⟩
def b44:gQ:=⟨n_,n_,Og n_⟩
def RZ:aV:=⟨1,1,0,⟨#[47]⟩,2147484141,⟨#[97,100,109]⟩,⟨#[97,100,109]⟩,⟨#[97,100,109]⟩,0,0,n_⟩
def y9:ct:=⟨2,⟨1,λ_=>RZ⟩⟩
def R1:ct:=⟨0,Og RZ⟩
def YH(t:ct):cQ:=⟨Og b44,Og<|aY.of [],t,Og 0⟩
def devOf(k:Int)(t:ct):cq:=⟨k,YH t,⟨YH R1,⟨0,Og<|aY.of []⟩,Og<|aY.of []⟩,⟨0,Og<|aY.of []⟩,⟨0,0,Og<|aY.of []⟩,⟨Og<|aY.of [],Og<|aY.of []⟩,⟨n_,n_,Og<|Og<|aY.of [],0,Og<|aY.of [],0⟩,n_,0,0⟩
def by7:lP:=⟨1,0,1,⟨#[97,100,109]⟩,n_,1,1,1,⟨#[47]⟩,Og n_,n_,Og<|aY.of [],false⟩
def R2:oV:=⟨0,⟨2,λi=>if i=0 then devOf 1 y9 else devOf 10 R1⟩,⟨Og<|aY.of [],1,Og<|aY.of []⟩,⟨2,2,⟨1,λ_=>by7⟩⟩,Og<|aY.of []⟩
def VM:Af FX xq fQ FZ R2=true:=kK
end
end Go.Proofs.YtnpcbfcfcjdhlaaGreatDoor
namespace Go.PS
section
def by9:l8:=List.replicate 300 .fN
def IV:l_ Ob->Option (l_ Prop)
 | []=>some []
 | .dec _ _::_=>none
 | .same c b::r=>match IV r with
  |some l=>some ((c=b)::l)
  |none=>none
 | .xK X::r=>match IV r with
  |some l=>some (X::l)
  |none=>none
theorem Cf:∀ {l:l_ Ob} {q:l_ Prop},IV l=some q->(∀X∈q,X)->∀cj3∈l,cj3.holds
 | [],_,_,_,cj3,hY=>by cases hY
 | .dec _ _::_,_,h,_,_,_=>by cases h
 | .same c b::r,q,h,hq,cj3,hY=>by
  unfold IV at h;split at h
  .rename_i l hl;cases h;rcases fB.1 hY with rfl|hY
   .exact hq _ ch
   .exact Cf hl (λX hX=>hq X (fh _ hX)) cj3 hY
  .cases h
 | .xK X::r,q,h,hq,cj3,hY=>by
  unfold IV at h;split at h
  .rename_i l hl;cases h;rcases fB.1 hY with rfl|hY
   .exact hq _ ch
   .exact Cf hl (λX hX=>hq X (fh _ hX)) cj3 hY
  .cases h
def bR5(k f:Nat):J->J
 | .bg (p::l)=>match Nat.beq f k with
  |true=> .bg (.any::l)
  |false=> .bg (p::l)
 |p=>p
def bq4 {w:World} {S:Nat->Prop} {k f:Nat} {p:J} {v:Value}(h:cf w S p v):cf w S (bR5 k f p) v:=by
 unfold bR5;split
 .split
  .cases h with
   |bg _ vs hl Y=>
    refine .bg _ vs hl λi c v q1 q2=> ?_;cases i with
    |zero=>simp at q1;subst q1;exact .any v
    |succ i=>exact Y (i+1) c v q1 q2
  .exact h
 .exact h
def bR6(P:Program)(E:Env)(k f:Nat)(ci6:l_ J):Option (J×l_ Prop):=
 match P.funcs[f]? with
 |some fn=>match V6 P E L0 (ax P) fn ci6 by9 with
  |some (r,ob,_)=>match IV ob with
   |some l=>some (bR5 k f r,l)
   |none=>none
  |none=>none
 |none=>none
def bq5 {P:Program} {E:Env}(hE:an P E) {k f:Nat} {ci6:l_ J} {r:J} {l:l_ Prop}(h:bR6 P E k f ci6=some (r,l))(hl:∀X∈l,X):Ok P f ci6 r:=by
 unfold bR6 at h;split at h
 .rename_i fn hf;split at h
  .rename_i r0 ob s N;split at h
   .rename_i q hq;cases h;exact(Ph hE hf N<|Cf hq hl).res λw S v=>bq4
   .cases h
  .cases h
 .cases h
def runM(P:Program)(E:Env)(f:Nat)(ci6:l_ J)(h:Hp):Option (J×Hp×l_ Prop):=
 match P.funcs[f]? with
 |some fn=>match L7 P E L0 (ax P) fn ci6 h by9 with
  |some ((r,h'),ob,_)=>match IV ob with
   |some l=>some (r,h',l)
   |none=>none
  |none=>none
 |none=>none
def bq6 {P:Program} {E:Env}(hE:an P E) {f:Nat} {ci6:l_ J} {h h':Hp} {r:J} {l:l_ Prop}(N:runM P E f ci6 h=some (r,h',l))(hl:∀X∈l,X):kD P f ci6 h r h':=by
 unfold runM at N;split at N
 .rename_i fn hf;split at N
  .rename_i r0 h0 ob s F;split at N
   .rename_i q hq;cases N;exact S7 hE hf F<|Cf hq hl
   .cases N
  .cases N
 .cases N
def inL(f:Nat):l_ Nat->Bool
 | []=>false
 |x::r=>match Nat.beq f x with
  |true=>true
  |false=>inL f r
def ap3(P:Program)(B:Env)(k:Nat)(pl ml:l_ Nat):Nat->Env
 |0=>B
 |n+1=> {B with
   p:=λf ci6=>match inL f pl with
    |true=>bR6 P (ap3 P B k pl ml n) k f ci6
    |false=>B.p f ci6
   m:=λf ci6 h=>match inL f ml with
    |true=>runM P (ap3 P B k pl ml n) f ci6 h
    |false=>B.m f ci6 h}
theorem Oh {P:Program} {B:Env}(hB:an P B)(k:Nat)(pl ml:l_ Nat):∀n,an P (ap3 P B k pl ml n)
 |0=>hB
 |n+1=>by
  refine⟨λf ci6 r ob h cJ=> ?_,λf ci6 h r h' ob F cJ=> ?_,hB.r⟩
  .unfold ap3 at h;simp only at h;split at h
   .exact bq5 (Oh hB k pl ml n) h cJ
   .exact hB.p f ci6 r ob h cJ
  .unfold ap3 at F;simp only at F;split at F
   .exact bq6 (Oh hB k pl ml n) F cJ
   .exact hB.m f ci6 h r h' ob F cJ
end
section
def a84:Value->Value->Bool
 | .int k a,.int q b=>decide (k=q)&&decide (a=b)
 | .string s,.string t=>dN s t
 | .bool a,.bool b=>a==b
 |_,_=>false
def Oi {u v:Value}(h:a84 u v=true):u=v:=by
 unfold a84 at h;split at h
 .simp only[fG,bK]at h;rw[h.1,h.2]
 .rename_i s t;unfold dN at h;obtain⟨⟨a⟩⟩:=s;obtain⟨⟨b⟩⟩:=t;have:a=b:=cn h;rw[this]
 .rw[ev.1 h]
 .cases h
def bq7(n:Nat)(b:Nat->Bool):Bool:=match n with
 |0=>true
 |n+1=>b n&&bq7 n b
theorem YI:∀ {n:Nat} {b:Nat->Bool},bq7 n b=true->∀i,i<n->b i=true
 |n+1,b,h,i,hi=>by
  simp only[bq7,fG]at h;rcases LY.1 hi with q|rfl
  .exact YI h.2 i q
  .exact h.1
def ap4(f:J->J->Bool):l_ J->l_ J->Bool
 | [],[]=>true
 |p::ps,q::qs=>f p q&&ap4 f ps qs
 |_,_=>false
def eqv:Nat->J->J->Bool
 |0,_,_=>false
 |n+1,p,q=>match p,q with
  | .sc u,.sc v=>a84 u v
  | .bit b,.sc v=>a84 (.bool b) v
  | .sc v,.bit b=>a84 v<|.bool b
  | .agg ps,.agg qs=>ap4 (eqv n) ps qs
  | .rf k f,.rf m g=>decide (k=m)&&bq7 k λi=>ap4 (eqv n) (f i)<|g i
  |_,_=>false
theorem xr {f:J->J->Bool}:∀ {ps qs:l_ J},ap4 f ps qs=true->ps.length=qs.length/\∀(i:Nat) p q,ps[i]?=some p->qs[i]?=some q->f p q=true
 | [],[],_=>⟨rfl,λi p q h=>by simp at h⟩
 | [],_::_,h=>by cases h
 |_::_,[],h=>by cases h
 |p::ps,q::qs,h=>by
  simp only[ap4,fG]at h;obtain⟨O,h2⟩:=xr h.2;refine⟨by simp [O],λi a b q1 q2=> ?_⟩;cases i with
  |zero=>simp at q1 q2;subst q1;subst q2;exact h.1
  |succ i=>exact h2 i a b (by simpa using q1) (by simpa using q2)
theorem Oj {w:World} {S:Nat->Prop}:∀(n:Nat) {p q:J} {v:Value},eqv n p q=true->cf w S p v->cf w S q v
 |0,_,_,_,h,_=>by cases h
 |n+1,p,q,v,h,N=>by
  unfold eqv at h;split at h
  .rw[<-Oi h];exact N
  .cases N;rw[<-Oi h];exact .sc _
  .cases N;rw[Oi h];exact .bit _
  .rename_i ps qs;obtain⟨O,h2⟩:=xr h;cases N with
   |agg _ vs hl Y=>
    refine .agg _ vs (by rw[<-O];exact hl) λi c v q1 q2=> ?_;have hi:i<ps.length:=by rw[O];exact(bm.1 q1).1
    have q3:=bX hi;exact Oj n (h2 i _ c q3 q1)<|Y i _ v q3 q2
  .rename_i k f m g;simp only[fG,bK]at h;obtain⟨rfl,h2⟩:=h;have h2:=YI h2;cases N with
   |rf _ _ _ N=>
    refine .rf _ _ _ ?_;generalize kC:(List.range k).map f=es at N;have hl:es.length=k:=by rw[<-kC];simp
    cases N with
    |Fu a cap=>
     have:k=0:=by rw[<-hl];rfl
     subst this;exact .Fu a cap
    |ro es b o cap sz c et fz hS hb hz hn iq Y=>
     have hgl:((List.range k).map g).length=es.length:=by rw[hl];simp
     have hf:∀i,i<k->es[i]?=some (f i):=λi hi=>by rw[<-kC,b9,qh hi];rfl
     have hg:∀(i:Nat) e,((List.range k).map g)[i]?=some e->i<k/\e=g i:=λi e F=>by
      rw[b9]at F;by_cases hi:i<k
      .rw[qh hi]at F;exact⟨hi,(ku F).symm⟩
      .rw[gx (by simp;omega)]at F;cases F
     rw[<-hgl];refine .ro _ b o cap sz c et fz hS hb ?_ (by rw[hgl];exact hn) (by rw[hgl];exact iq) ?_
     .intro e F;obtain⟨i,hi⟩:=mY F;obtain⟨h3,rfl⟩:=hg i e hi;rw[<-(xr<|h2 i h3).1];exact hz _<|cw<|hf i h3
     .intro i j e p v q1 q2 q3;obtain⟨h3,rfl⟩:=hg i e q1;obtain⟨e1,e2⟩:=xr (h2 i h3);have hj:j<(f i).length:=by rw[e1];exact(bm.1 q2).1
      have q4:=bX hj;exact Oj n (e2 j _ p q4 q2)<|Y i j _ _ v (hf i h3) q4 q3
  .cases h
def Ol(f:Nat)(a0:l_ J)(r:J)(E:Env):Env:=aF f (λaa=>match ap4 (eqv 8) aa a0 with
 |true=>some (r,[])
 |false=>E.p f aa) E
def tj {P:Program} {f:Nat} {a0:l_ J} {r:J} {E:Env}(hE:an P E)(h:Ok P f a0 r):an P (Ol f a0 r E):=gi hE λaa r' ob O h2=>by
 split at O
 .rename_i F;cases O;obtain⟨e1,e2⟩:=xr F;exact h.conv e1 λi p p' q1 q2 w S v=>Oj 8<|e2 i p p' q1 q2
 .exact hE.p f aa r' ob O h2
end
end Go.PS
namespace Go.Proofs.YtnpcbfcfcjdhlaaGreatDoor
section
open Go.PS Wf Go.RowKit
def yw {f:Nat} {g:Nat->l_ J}(F:enters P f=true)(h:∀(a:Option Go.Addr) (c:Nat) (w:World),Calls P f #[.slice a 0 c] w λe w'=>∃a' c',e= .returned (.slice a' 0 c')/\Below w.heap.size w w'):Ok P f [.rf 0 g] (.rf 0 λ_=> []):=by
 refine⟨F,λw Sa vs hG hS hl ha=> ?_⟩
 match vs,hl with
 | [u],_=>
  have hu:=ha 0 _ u rfl rfl;obtain⟨a,c,rfl⟩:∃a c,u= .slice a 0 c:=by
   cases hu with
   |rf _ _ _ h=>
    cases h with
    |Fu a c=>exact⟨a,c,rfl⟩
    |ro _ b o cap=>exact⟨_,cap,rfl⟩
  refine(h a c w).mono ?_;rintro e w' ⟨a',c',O,h2⟩;exact⟨_,O,h2,.rf _ _ _<|.Fu a' c'⟩
def VN(g:Nat->l_ J):Ok P 61 [.rf 0 g] (.rf 0 λ_=> []):=by
 refine yw kK λa c w=> ?_;obtain⟨i0,hi,mE,hz1,hz2⟩:=info_parts (P:=P) (e:=113) (z:= .agg #[(.int .i64 0),(.int .i64 0),(.slice none 0 0)]) (size:=3) (bytes:=40) kK;have q:∀(w:World) (a:Option Go.Addr) (n c n' c':Nat),(binOp .eql 30 (.slice a n c)<|.slice none n' c').run P w= .ok (.bool a.isNone) w:=λw a n c n' c'=>Lib.run_eql_slice_nil w _ _ a n c n' c' underlying30;go_enter func61,ntmps61;cases a with
 |none=>
  go_wp2
  go_ret;exact⟨none,0,rfl,Below.refl _ _⟩
 |some a=>
  go_wp2_with (at_builtin;refine wpList_append_own _ rfl _ _ 30 rfl w.heap.size 113 i0 (.agg #[(.int .i64 0),(.int .i64 0),(.slice none 0 0)]) 3 40 underlying30 hi mE hz1 hz2 rfl dD _ _ _ rfl (World.ownsRow_made w #[] 0 (bE _) (bJ _) rfl) a 0 c [] rfl rfl (by intro j u hj;simp at hj) (by intro u hu;cases hu) (by unfold maxLen;omega) U sS ?_)
  intro v' w1 zy IW oS
  go_wp2
  go_ret;obtain⟨a',c',rfl⟩:∃a' c',v'= .slice a' 0 c':=by
   rcases zy.2 with⟨h,_⟩|⟨g,cap,_,h,_⟩
   .exact⟨none,0,h⟩
   .exact⟨_,cap,by simpa using h⟩
  exact⟨a',c',rfl,((Below.refl _ w).alloc (bE _) _).grown IW sS (by intro k hk;simp [Value.ownBlock]at hk;omega)⟩
def R3(g:Nat->l_ J):Ok P 434 [.rf 0 g] (.rf 0 λ_=> []):=by
 refine yw kK λa c w=> ?_;obtain⟨i0,hi,mE,hz1,hz2⟩:=info_parts (P:=P) (e:=238) (z:= .agg #[(.string {data:= #[]}),(.string {data:= #[]}),(.slice none 0 0)]) (size:=3) (bytes:=56) kK;have q:∀(w:World) (a:Option Go.Addr) (n c n' c':Nat),(binOp .eql 36 (.slice a n c)<|.slice none n' c').run P w= .ok (.bool a.isNone) w:=λw a n c n' c'=>Lib.run_eql_slice_nil w _ _ a n c n' c' underlying36;go_enter func434,ntmps434;cases a with
 |none=>
  go_wp2
  go_ret;exact⟨none,0,rfl,Below.refl _ _⟩
 |some a=>
  go_wp2_with (at_builtin;refine wpList_append_own _ rfl _ _ 36 rfl w.heap.size 238 i0 (.agg #[(.string {data:= #[]}),(.string {data:= #[]}),(.slice none 0 0)]) 3 56 underlying36 hi mE hz1 hz2 rfl dD _ _ _ rfl (World.ownsRow_made w #[] 0 (bE _) (bJ _) rfl) a 0 c [] rfl rfl (by intro j u hj;simp at hj) (by intro u hu;cases hu) (by unfold maxLen;omega) U sS ?_)
  intro v' w1 zy IW oS
  go_wp2
  go_ret;obtain⟨a',c',rfl⟩:∃a' c',v'= .slice a' 0 c':=by
   rcases zy.2 with⟨h,_⟩|⟨g,cap,_,h,_⟩
   .exact⟨none,0,h⟩
   .exact⟨_,cap,by simpa using h⟩
  exact⟨a',c',rfl,((Below.refl _ w).alloc (bE _) _).grown IW sS (by intro k hk;simp [Value.ownBlock]at hk;omega)⟩
def Om(g:Nat->l_ J):Ok P 437 [.rf 0 g] (.rf 0 λ_=> []):=by
 refine yw kK λa c w=> ?_;obtain⟨i0,hi,mE,hz1,hz2⟩:=info_parts (P:=P) (e:=241) (z:= .agg #[(.string {data:= #[]}),(.int .i64 0),(.int .i64 0)]) (size:=3) (bytes:=32) kK;have q:∀(w:World) (a:Option Go.Addr) (n c n' c':Nat),(binOp .eql 37 (.slice a n c)<|.slice none n' c').run P w= .ok (.bool a.isNone) w:=λw a n c n' c'=>Lib.run_eql_slice_nil w _ _ a n c n' c' underlying37;go_enter func437,ntmps437;cases a with
 |none=>
  go_wp2
  go_ret;exact⟨none,0,rfl,Below.refl _ _⟩
 |some a=>
  go_wp2_with (at_builtin;refine wpList_append_own _ rfl _ _ 37 rfl w.heap.size 241 i0 (.agg #[(.string {data:= #[]}),(.int .i64 0),(.int .i64 0)]) 3 32 underlying37 hi mE hz1 hz2 rfl dD _ _ _ rfl (World.ownsRow_made w #[] 0 (bE _) (bJ _) rfl) a 0 c [] rfl rfl (by intro j u hj;simp at hj) (by intro u hu;cases hu) (by unfold maxLen;omega) U sS ?_)
  intro v' w1 zy IW oS
  go_wp2
  go_ret;obtain⟨a',c',rfl⟩:∃a' c',v'= .slice a' 0 c':=by
   rcases zy.2 with⟨h,_⟩|⟨g,cap,_,h,_⟩
   .exact⟨none,0,h⟩
   .exact⟨_,cap,by simpa using h⟩
  exact⟨a',c',rfl,((Below.refl _ w).alloc (bE _) _).grown IW sS (by intro k hk;simp [Value.ownBlock]at hk;omega)⟩
def VO(g:Nat->l_ J):Ok P 438 [.rf 0 g] (.rf 0 λ_=> []):=by
 refine yw kK λa c w=> ?_;obtain⟨i0,hi,mE,hz1,hz2⟩:=info_parts (P:=P) (e:=3) (z:= .int .i64 0) (size:=1) (bytes:=8) kK;have q:∀(w:World) (a:Option Go.Addr) (n c n' c':Nat),(binOp .eql 41 (.slice a n c)<|.slice none n' c').run P w= .ok (.bool a.isNone) w:=λw a n c n' c'=>Lib.run_eql_slice_nil w _ _ a n c n' c' underlying41;go_enter func438,ntmps438;cases a with
 |none=>
  go_wp2
  go_ret;exact⟨none,0,rfl,Below.refl _ _⟩
 |some a=>
  go_wp2_with (at_builtin;refine wpList_append_own _ rfl _ _ 41 rfl w.heap.size 3 i0 (.int .i64 0) 1 8 underlying41 hi mE hz1 hz2 rfl dD _ _ _ rfl (World.ownsRow_made w #[] 0 (bE _) (bJ _) rfl) a 0 c [] rfl rfl (by intro j u hj;simp at hj) (by intro u hu;cases hu) (by unfold maxLen;omega) U sS ?_)
  intro v' w1 zy IW oS
  go_wp2
  go_ret;obtain⟨a',c',rfl⟩:∃a' c',v'= .slice a' 0 c':=by
   rcases zy.2 with⟨h,_⟩|⟨g,cap,_,h,_⟩
   .exact⟨none,0,h⟩
   .exact⟨_,cap,by simpa using h⟩
  exact⟨a',c',rfl,((Below.refl _ w).alloc (bE _) _).grown IW sS (by intro k hk;simp [Value.ownBlock]at hk;omega)⟩
end
section
open Go.PS Wf
def ap5(g:Nat->l_ J)(s:y_):Ok P 463 [.rf 0 g,S s] (.bg [.agg [S n_,S n_,.rf 0 λ_=> []],Bo false]):=by
 have lp:aO P (aD f463 2) (M 25 [(1,S s),(4,J.ptr 0 0 0),(5,.bit false),(8,.rf 0 g),(9,I 0),(10,I 0)]) [⟨[[S n_,S n_,.dF]],0,[],3,false,false⟩] (.out (.ext 0) (M 25 [(4,J.ptr 0 0 0),(5,.bit false)]) [⟨[[S n_,S n_,.dF]],0,[],3,false,false⟩]):=by exact ao aw L0 [1,4,5,8,9,10] [4,5] (let Z:=(n_:y_);(.s .fN<|fv 0 (M 25 [(4,aT),(5,aP)]) [cM [[S Z,S Z,J.dF]] 3])) ft
 exact al aw (λ_=>([1,4,5,8,9,10],[],λ_ h=> .out (.ext 0) (M 25 [(4,J.ptr 0 0 0),(5,.bit false)]) h)) (let Z:=S (n_:y_);let V:=[cM [[Z,Z,J.dF]] 3];(.o [ax P (aD f463 2) (M 25 [(1,S s),(4,aT),(5,aP),(8,J.rf 0 λi=>g i),(9,I 0),(10,I 0)]) V (Out.ext 0) (M 25 [(4,aT),(5,aP)]) V]<|.e<|J.bg [J.agg [Z,Z,J.rf 0 λi=> []],Bo false])) ft
def a86(x:ct)(g:Nat)(c0 c1:l_ J)(o0 o1:Nat)(bb:l_ J->Bool)(hx:x.aj.n<=aq)(h:∀i,i<x.aj.n->Ok P g ((.agg<|aY.cells<|x.aj.f i):: [.kj c0 o0,.kj c1 o1]) (Bo<|bb ((.agg<|aY.cells<|x.aj.f i):: [.kj c0 o0,.kj c1 o1]))):
  Ok P 211 [(af ct).au x,.qS g [.kj c0 o0,.kj c1 o1]] (I<|cZ x.aj.n λi=>bb ((.agg<|aY.cells<|x.aj.f i):: [.kj c0 o0,.kj c1 o1])):=by
 have lp:=fF f211 2 x.aj.n (λi=>bb ((.agg<|aY.cells<|x.aj.f i):: [.kj c0 o0,.kj c1 o1])) (λi=>(M 20 [(1,.qS g [.kj c0 o0,.kj c1 o1]),(4,I 0),(8,(ak aV).au x.aj),(9,I x.aj.n),(10,I i)])) [] (λi=>(.ret,(M 20 [(4,I i)]),[])) (ey 0<|M 20 [(4,I 0)]) λi hi lt aW az aR=>by refine ao (J7 P g bb) L0 [1,4,8,9,10] [4] (let V:=x.aj.f i;let Z:=[J.agg [I V.id,I V.bo,I V.vr,S V.name,I V.mode,S V.Sg,S V.Sf,S V.wR,I V.nz,I V.nA,S V.data],J.kj c0 o0,J.kj c1 o1];(.d ((i:Int)<x.aj.n) (.g i x.aj.n<|.o [g=g/\Ok P g Z (Bo<|bb Z)]<|.n (bb Z) (eH az)<|eG aW)<|eY aR)) ?_;exact ft
 refine al (J7 P g bb) (kR lp [1,4,8,9,10]) (jS lp (.e<|I (↑(aE x.aj.n λi=>bb [J.agg<|aY.cells<|x.aj.f i,J.kj c0 o0,J.kj c1 o1]):Int))<|.e<|I<|-1) ?_;simp only[av]
 (repeat' with_reducible first|intro _|apply aNd_)<;>first|(unfold cZ;rw[if_pos W])|(unfold cZ;rw[if_neg<|jY.1 W])
def bR7(l:bh aV)(wo:Int)(name:y_):Int:=cZ l.n λi=>(l.f i).bo==wo&&((l.f i).id !=1&&decide ((l.f i).name=name))
def VP(x:aV)(wo:Int)(name:y_):Ok P 456 [(af aV).au x,(k9 bx).au wo,(k9 aQ).au name] (Bo<|x.bo==wo&&(x.id !=1&&decide (x.name=name))):=by
 refine al aw L0 (.q x.bo wo (.u x.id 1 (.e<|Bo<|dN x.name name) bI) bI) ?_;simp only[av,aL]
 repeat' with_reducible first|intro _|apply aNd_
 all_goals (refine ba Bo ?_;simp [*])
def IX(E:Env):l_ J->Option (J×l_ Prop)
 | [t,.qS g [.kj c0 o0,.kj c1 o1]]=>some (I (cZ ((af ct).dec t).aj.n λi=>tF (E.p g [.agg (aY.cells (((af ct).dec t).aj.f i)),.kj c0 o0,.kj c1 o1])),[t=(af ct).au ((af ct).dec t),((af ct).dec t).aj.n<=aq,∀i,i<((af ct).dec t).aj.n->DU (E.p g [.agg (aY.cells (((af ct).dec t).aj.f i)),.kj c0 o0,.kj c1 o1])])
 |_=>none
def R4 {E:Env}(hE:an P E):an P (aF 211 (IX E) E):=gi hE λaa p ob O h2=>by
 unfold IX at O;split at O
 .rename_i t g c0 o0 c1 o1;cases O;have e1:=h2 _ ch;have e2:=h2 (((af ct).dec t).aj.n<=aq) sS;have e3:=h2 (∀i,i<((af ct).dec t).aj.n->DU (E.p g [.agg<|aY.cells<|((af ct).dec t).aj.f i,.kj c0 o0,.kj c1 o1])) sS;have:=a86 ((af ct).dec t) g c0 c1 o0 o1 (λaa=>tF (E.p g aa)) e2 λi hi=>G0 hE (e3 i hi)
  rwa [<-e1]at this
 .cases O
def bz0:Env:=aF 456 (bN (a3 (af aV) (k9 bx)<|k9 aQ) λx=>Bo (x.1.bo==x.2.1&&(x.1.id !=1&&decide (x.1.name=x.2.2)))) EN
def cf2:Env:=aF 211 (IX bz0) bz0
def bq8:an P cf2:=R4<|ah aw λx _=>VP x.1 x.2.1 x.2.2
def ap6(x:ct)(wo:Int)(name:y_)(h:x.aj.n<=aq):Ok P 446 [(af ct).au x,I wo,S name] (I<|bR7 x.aj wo name):=by exact al bq8 L0 (let Z:=a3 (af aV) (k9 bx) (k9 aQ);(.r ((af ct).au x)<|.o [x.aj.n<=140737488351232,∀(i:Nat),i<x.aj.n->Z.au (x.aj.f i,wo,name)=Z.au (x.aj.f i,wo,name)/\True/\True]<|.e<|I<|cZ x.aj.n λi=>(x.aj.f i).bo==wo&&((x.aj.f i).id !=1&&decide ((x.aj.f i).name=name)))) ft
def b45:Env:=Pk (bm1 P 1) EN
def YJ:an P b45:=vq aw λ_ _ _ _ _ _ _ _ O h2=>Rh O h2
def VQ(f:Nat->aV):Ok P 436 [(ak aV).au ⟨1,f⟩] ((ak aV).au ⟨1,f⟩):=by
 refine bB6 YJ L0 func436 (.say .fN<|.jh (J.rf 1 λi=> [[J.sc<|Value.int IntKind.i64 (f 0).id,J.sc<|Value.int IntKind.i64 (f 0).bo,J.sc<|Value.int IntKind.i64 (f 0).vr,J.sc<|Value.string (f 0).name,J.sc<|Value.int IntKind.i64 (f 0).mode,J.sc<|Value.string (f 0).Sg,J.sc<|Value.string (f 0).Sf,J.sc<|Value.string (f 0).wR,J.sc<|Value.int IntKind.i64 (f 0).nz,J.sc<|Value.int IntKind.i64 (f 0).nA,J.sc<|Value.string (f 0).data]].getD i []) [0<1,true=true,true=true,some 3=some 3,3<8,128<=140737488355328,true=true]) kK ?_;simp only[Tr.j6,ow]
 (repeat' with_reducible first|intro _|apply aNd_)<;>first|trivial|exact λw S v h=>fS (λi hi=>by obtain rfl:i=0:=(by have hi:i<1:=hi;omega);rfl) h
def cf3:Env:=aF 434 (λ| [.rf 0 _]=>some (.rf 0 λ_=> [],[])|_=>none)<|aF 437 (λ| [.rf 0 _]=>some (.rf 0 λ_=> [],[])|_=>none)<|aF 438 (λ| [.rf 0 _]=>some (.rf 0 λ_=> [],[])|_=>none)<|aF 436 (bN (a1<|ak aV) (λl=>(ak aV).au l) λl=>l.n=1) EN
def bq9 {f:Nat} {E:Env}(hE:an P E)(h:∀g,Ok P f [.rf 0 g] (.rf 0 λ_=> [])):an P (aF f (λ| [.rf 0 _]=>some (.rf 0 λ_=> [],[])|_=>none) E):=gi hE λaa r ob O _=>by
 split at O
 .cases O;exact h _
 .cases O
def YK:an P cf3:=bq9 (bq9 (bq9 (ah aw λl h=>by obtain⟨n,f⟩:=l;obtain rfl:n=1:=h;exact VQ f) VO) Om) R3
abbrev frH(g1 g2 g3:Nat->l_ J)(n:Int)(f:Nat->aV):Hp:=[⟨[[.rf 0 g1,.rf 0 g2,I n,(ak aV).au ⟨1,f⟩,.rf 0 g3]],0,[],5,false,false⟩,⟨[[.dF,.dF,I 0,.dF,.dF]],0,[],5,false,false⟩]
def ap7(g1 g2 g3:Nat->l_ J)(n:Int)(f:Nat->aV):Ok P 424 [.agg [.rf 0 g1,.rf 0 g2,I n,(ak aV).au ⟨1,f⟩,.rf 0 g3]] (.agg [.rf 0 λ_=> [],.rf 0 λ_=> [],I n,(ak aV).au ⟨1,f⟩,.rf 0 λ_=> []]):=by
 have lp:aO P (aD f424 3) (M 42 [(1,J.ptr 0 0 0),(2,J.ptr 1 0 0),(3,.rf 0 λ_=> []),(10,I 0),(11,I 0)]) (frH g1 g2 g3 n f) (.out (.ext 0) (M 42 [(1,J.ptr 0 0 0),(2,J.ptr 1 0 0),(3,.rf 0 λ_=> [])])<|frH g1 g2 g3 n f):=by exact ao YK L0 [1,2,3,10,11] [1,2,3] (.s .fN<|fv 0 (M 42 [(1,aT),(2,dK 1),(3,J.rf 0 λi=> [])]) [cM [[J.rf 0 λi=>g1 i,J.rf 0 λi=>g2 i,I n,J.rf 1 λi=>(aY.cells<|f i),J.rf 0 λi=>g3 i]] 5,cM [[J.dF,J.dF,I 0,J.dF,J.dF]] 5]) ft
 exact al YK (λ_=>([1,2,3,10,11],[],λ_ h=> .out (.ext 0) (M 42 [(1,J.ptr 0 0 0),(2,J.ptr 1 0 0),(3,.rf 0 λ_=> [])]) h)) (let Z:=cM [[J.dF,J.dF,I 0,J.dF,J.dF]] 5;(.o [ax P (aD f424 3) (M 42 [(1,aT),(2,dK 1),(3,J.rf 0 λi=> []),(10,I 0),(11,I 0)]) [cM [[J.rf 0 λi=>g1 i,J.rf 0 λi=>g2 i,I n,J.rf 1 λi=>(aY.cells<|f i),J.rf 0 λi=>g3 i]] 5,Z] (Out.ext 0) (M 42 [(1,aT),(2,dK 1),(3,J.rf 0 λi=> [])]) [cM [[J.rf 0 λi=>g1 i,J.rf 0 λi=>g2 i,I n,J.rf 1 λi=>(aY.cells<|f i),J.rf 0 λi=>g3 i]] 5,Z]]<|.k (a1<|ak aV) (bh.mk 1 f) (1=1)<|.e<|J.agg [J.rf 0 λi=> [],J.rf 0 λi=> [],I n,J.rf 1 λi=>(aY.cells<|f i),J.rf 0 λi=> []])) ft
def b46:Env:=Ol 6 [(af oV).au R2] (Bo true)<|Ol 424 [(af cQ).au<|YH y9] ((af cQ).au<|YH y9)<|Ol 81 [(af ct).au y9,I 1] (.bg [(af aV).au RZ,Bo true])<|Ol 446 [(af ct).au y9,I 1,S ⟨#[120]⟩] (I<|-1)<|Ol 59 [S ⟨#[97,100,109]⟩] (Bo true)<|Ol 59 [S ⟨#[97,110,110]⟩] (Bo true)<|Ol 59 [S ⟨#[65,100,109]⟩] (Bo false)<|Ol 43 [S ⟨#[120]⟩] (Bo true)<|aF 463 (λ| [.rf 0 _,.sc<|.string _]=>some (.bg [.agg [S ⟨#[]⟩,S ⟨#[]⟩,.rf 0 λ_=> []],Bo false],[])|_=>none)<|aF 61 (λ| [.rf 0 _]=>some (.rf 0 λ_=> [],[])|_=>none) b45
def z0:wf (0:Int):=⟨dD,dD⟩
def e0:wf (n_:y_):=bJ _
def b0:wf false:=trivial
def Lx(s:y_)(h:s.size<=aq):wf s:=h
def a88:wf RZ:=⟨⟨dD,dD⟩,⟨dD,dD⟩,⟨dD,dD⟩,Lx _ dD,⟨dD,dD⟩,Lx _ dD,Lx _ dD,Lx _ dD,⟨dD,dD⟩,⟨dD,dD⟩,e0⟩
def a89(k:Int)(t:ct)(hk:wf k)(ht:wf t):wf (devOf k t)/\og (devOf k t).fw:=by
 refine⟨?_,⟨bJ _,λi hi=>absurd hi (jC i)⟩,bJ _,λi hi=>absurd hi (jC i)⟩
 repeat' first|exact hk|exact ht|exact a88|exact z0|exact e0|exact b0|exact bJ _|apply aNd_|intro i
def YL:wf R2/\∀i,og (R2.fP.f i).fw:=by
 have hd:∀i,wf (R2.fP.f i)/\og (R2.fP.f i).fw:=λi=>by
  show wf (if i=0 then devOf 1 y9 else devOf 10 R1)/\og (if i=0 then devOf 1 y9 else devOf 10 R1).fw;split
  .exact a89 1 y9 ⟨dD,dD⟩ ⟨⟨dD,dD⟩,dD,λ_=>a88⟩
  .exact a89 10 R1 ⟨dD,dD⟩ ⟨⟨dD,dD⟩,dD,λ_=>a88⟩
 have ht:∀i,wf (R2.qe.l.f i):=λi=>by show wf by7;refine⟨⟨dD,dD⟩,⟨dD,dD⟩,⟨dD,dD⟩,Lx _ dD,e0,⟨dD,dD⟩,⟨dD,dD⟩,⟨dD,dD⟩,Lx _ dD,⟨bJ _,λ_=>e0⟩,e0,⟨bJ _,λ_=> ?_⟩,b0⟩;exact⟨z0,e0⟩
 refine⟨⟨⟨dD,dD⟩,⟨dD,λi=>(hd i).1⟩,?_,⟨⟨dD,dD⟩,⟨dD,dD⟩,dD,ht⟩,?_⟩,λi=>(hd i).2⟩;all_goals (repeat' first|exact z0|exact e0|exact b0|exact(⟨dD,dD⟩:wf (1:Int))|exact bJ _|apply aNd_|intro i)
def br0:an P b46:=by
 refine tj (tj (tj (tj (tj (tj (tj (tj (gi (bq9 YJ VN) λaa r ob O _=> ?_) ?_) ?_) ?_) ?_) ?_) ?_) ?_) ?_
 .split at O
  .cases O;exact ap5 _ _
  .cases O
 .exact uw ⟨#[120]⟩ dD
 .exact oX ⟨#[65,100,109]⟩ dD
 .exact oX ⟨#[97,110,110]⟩ dD
 .exact oX ⟨#[97,100,109]⟩ dD
 .exact ap6 y9 1 ⟨#[120]⟩ dD
 .exact P0 y9 1 dD
 .exact(ap7 _ _ _ 2 λ_=>RZ).res λw S v=>Oj 8 kK
 .have h:=RY R2 YL.1 YL.2
  rwa [VM]at h
def EAw:Env:=ap3 P b46 11 [9,10,12,11,22,23,418,416,423,422,421,425,439,432,453,461,433,444,431,451,452,25,426,440,441,443,82,144] [22,23,24,60,411,417] 9
def bR8:an P EAw:=Oh br0 _ _ _ _
def a90:Ok P 5 [] (Bo true):=by
 refine al bR8 L0 (.o [(0:Int)<=0,(0:Int)<2,(0:Int)<=1,(1:Int)<2,(0:Int)<=0,(0:Int)<2,(0:Int)<=0,(0:Int)<2,0<2]<|.r true<|.r true<|.r (some 3)<|.o [3<8,1040<=140737488355328]<|.r true<|.o [(0:Int)<=0,(0:Int)<2,(0:Int)<=1,(1:Int)<4,(0:Int)<=0,(0:Int)<2,(0:Int)<=0,(0:Int)<2,(0:Int)<=0,(0:Int)<2]<|.s .fN<|.s .fN<|.s .fN<|.s .fN<|.s .fN<|.s .fN<|.s .fN<|.s .fN<|.s .fN<|.s .fN fo) ?_;simp only[av]
 repeat' with_reducible first|intro _|apply aNd_
 all_goals exact aM
def xt(d:cq):Bool:=decide<|d.bL.ly.n<=20/\d.bL.jf.n<=20/\d.bL.gu.aj.n<=100/\d.bL.gm.n<=100/\d.iF.bL.ly.n<=20/\d.iF.bL.jf.n<=20/\d.iF.bL.gu.aj.n<=60/\d.iF.bL.gm.n<=60/\d.iF.dS.aU.n<=200/\d.iF.dp.n<=20/\d.pM.l.n<=64/\d.fp.l.n<=16/\d.gM.qN.n<=20/\d.gM.dX.n<=16/\d.fw.dv.n<=64/\d.fw.eo.n<=32
def a92(d:cq):Ok P 8 [(af cq).au d] (Bo<|xt d):=by
 refine al aw L0 (let Z:ix:=bI;(.d ((d.bL.ly.n:Int)<=20) (.d ((d.bL.jf.n:Int)<=20) (.d ((d.bL.gu.aj.n:Int)<=100) (.d ((d.bL.gm.n:Int)<=100) (.d ((d.iF.bL.ly.n:Int)<=20) (.d ((d.iF.bL.jf.n:Int)<=20) (.d ((d.iF.bL.gu.aj.n:Int)<=60) (.d ((d.iF.bL.gm.n:Int)<=60) (.d ((d.iF.dS.aU.n:Int)<=200) (.d ((d.iF.dp.n:Int)<=20) (.d ((d.pM.l.n:Int)<=64) (.d ((d.fp.l.n:Int)<=16) (.d ((d.gM.qN.n:Int)<=20) (.d ((d.gM.dX.n:Int)<=16) (.d ((d.fw.dv.n:Int)<=64) (.e<|Bo<|decide<|(d.fw.eo.n:Int)<=32) Z) Z) Z) Z) Z) Z) Z) Z) Z) Z) Z) Z) Z) Z) Z)) ?_;simp only[av]
 repeat' with_reducible first|intro _|apply aNd_
 all_goals (unfold xt;exact ga)
def cf4:Env:=aF 8 (bN (a1<|af cq) λd=>Bo (xt d)) EN
def YM:an P cf4:=ah aw λd _=>a92 d
def On(w:oV):Bool:=decide<|w.fP.n<=32/\w.x6.db.n<=50/\w.x6.aB.n<=64/\w.qe.l.n<=64/\w.mw.n<=64/\ar w.fP.n (λi=> !xt (w.fP.f i))=false
def a94(w:oV)(h:w.fP.n<=aq):Ok P 4 [(af oV).au w] (Bo<|On w):=by
 have lp:=fF Tryz.f4 4 w.fP.n (λi=> !xt (w.fP.f i)) (λi=>(M 49 [(1,aT),(2,aP),(37,I w.fP.n),(38,I i)])) [(cM [aY.cells w] 9)] (eR<|M 49 [(2,aP)]) (ey 0<|M 49 [(2,aP)]) λi hi lt aW az aR=>by
  refine ao YM L0 [1,2,37,38] [2] (.d ((i:Int)<w.fP.n) (.g i w.fP.n<|.v (a1<|af cq) (w.fP.f i)<|.m (xt<|w.fP.f i) (eH az)<|eG aW)<|eY aR) ?_;have Y:=(di:(!xt (w.fP.f i))=true↔(!xt (w.fP.f i))=true)
  simp only[av]
  repeat' with_reducible first|intro _|apply aNd_
  all_goals exact aM
 refine al YM (kR lp [1,2,37,38]) (let Z:ix:=bI;(.d ((w.fP.n:Int)>32) Z<|.d ((w.x6.db.n:Int)>50) Z<|.d ((w.x6.aB.n:Int)>64) Z<|.d ((w.qe.l.n:Int)>64) Z<|.d ((w.mw.n:Int)>64) Z<|jS lp Z fo)) ?_;simp only[av]
 repeat' with_reducible first|intro _|apply aNd_
 all_goals (unfold On;exact ga)
def cf5:Env:=aF 4 (bN (a1<|af oV) (λw=>Bo (On w)) λw=>w.fP.n<=aq)<|aF 5 (λ| []=>some (Bo true,[])|_=>none)<|aF 6 (bN (a1<|af oV) (λw=>Bo (Af FX xq fQ FZ w)) λw=>wf w/\∀i,og (w.fP.f i).fw)<|aF 7 (bN (a1<|af oV) (λw=>Bo (yv FX xq fQ FZ w)) λw=>wf w/\∀i,og (w.fP.f i).fw) EN
def br1:an P cf5:=ah (gi (ah (ah aw λw h=>ap2 w h.1 h.2) λw h=>RY w h.1 h.2) λaa r ob O _=>by
 split at O
 .cases O;exact a90
 .cases O) λw h=>a94 w h
def IY(w:oV)(hw:wf w)(ha:∀i,og (w.fP.f i).fw):Ok P 3 [(af oV).au w] (Bo true):=by
 have O:=hw.2.1.1;have h2:=VH FX xq fQ FZ w;refine al br1 L0 (let Z:=a1 (af oV);(.k Z w (w.fP.n<=140737488351232)<|.m (On w) fo<|.k Z w (wf w/\∀(i:Nat),og (w.fP.f i).fw)<|.k Z w (wf w/\∀(i:Nat),og (w.fP.f i).fw)<|.n (Af FX xq fQ FZ w==yv FX xq fQ FZ w) fo bI)) ?_;simp only[av,ev,jR]
 (repeat' with_reducible first|intro _|apply aNd_)<;>first|exact aM|(rw[h2]at*;simp_all)
def kyG(l:bh aC):Prop:=wf l/\l.n*40<=aq
def cvG(c:dh):Prop:=wf c/\c.key.n*40<=aq
def agG(a:jU):Prop:=wf a/\og a
def dvG(d:cq):Prop:=wf d/\og d.fw
def wdG(w:oV):Prop:=wf w/\∀i,og (w.fP.f i).fw
def jw:Lay 9 (λx:ByteArray=> [S x]) wf:=bn2 underlying9
def ja:Lay 3 (λx:Int=> [I x]) wf:=Yd underlying3
def a95:Lay 4 (λx:Bool=> [Bo x]) wf:=aU4 underlying4
def br2:Lay 68 (λx:bh ByteArray=> [(ak ByteArray).au x]) wf:=NA (α:=ByteArray) n_ e0 underlying68 (b:=16) kK dD jw
abbrev Ah(t:Nat)(α:Type)[aY α][Wf α]:=Lay t (aY.cells:α->l_ J) wf
def Oo {α:Type} [aY α] [Wf α] {t e:Nat}(hu:P.underlying t=some (.slice e))(h:Ah e α)(hd:wf (aY.of []:α):=by repeat' first|exact z0|exact e0|exact b0|exact Nat.zero_le _|apply aNd_|intro i)(h0:decide (0<P.bytesOf e)=true:=by kernel_rfl):Lay t (λx:bh α=> [(ak α).au x]) wf:=NA (aY.of []) hd hu rfl (of_decide_eq_true h0) h
def An {α β:Type} [aY β] {t:Nat} {fs:Array Field} {ts:l_ Nat} {c:α->l_ J} {G:α->Prop} {K:β->Prop}(hu:P.underlying t=some (.struct fs))(h:Rp ts c G)(Y:∀x,c x=aY.cells (aY.of (c x):β):=by intro _;kernel_rfl)(hg:∀x,G x->K (aY.of<|c x):=by exact λ_ h=>h)(ht:qn P 0 fs.toList (P.cellsOf t)=true:=by kernel_rfl)(hts:fs.toList.map (·.type)=ts:=by kernel_rfl):Lay t (aY.cells:β->l_ J) K:=Lay.st hu ht hts h (λx=>aY.of (c x)) Y hg
def bR9 {p:Prop}(h:p:=by repeat' first|exact z0|exact e0|exact b0|exact Nat.zero_le _|apply aNd_|intro i):p:=h
def br3:Ah 238 gQ:=An underlying238<|.cons jw<|.cons jw<|.one br2
def a96:Ah 241 iX:=An underlying241<|.cons jw<|.cons ja<|.one ja
def br4:Ah 67 aV:=An underlying67<|.cons ja<|.cons ja<|.cons ja<|.cons jw<|.cons ja<|.cons jw<|.cons jw<|.cons jw<|.cons ja<|.cons ja<|.one jw
def br5:Ah 40 ct:=An underlying40<|.cons ja<|.one<|Oo underlying38 br4
def IZ:Ah 43 cQ:=An underlying43<|.cons (Oo underlying36 br3)<|.cons (Oo underlying37 a96)<|.cons br5<|.one<|NA (α:=Int) 0 z0 underlying41 (b:=8) kK dD ja
def a97:Ah 249 eF:=An underlying249<|.cons jw<|.cons ja<|.one jw
def a98:Ah 46 ay:=An underlying46<|.cons ja<|.one<|Oo underlying44 a97
def br6:Ah 185 G2:=An underlying185<|.cons ja<|.one jw
def VR:Ah 49 eX:=An underlying49<|.cons IZ<|.cons a98<|.one<|Oo underlying47 br6
def YN:Ah 189 wb:=An underlying189<|.cons jw<|.cons ja<|.cons ja<|.one a95
def br7:Ah 192 jm:=An underlying192<|.cons ja<|.one<|Lay.arr underlying190 kK (ts:=[189,189]) kK<|.cons YN<|.one YN
def a99:Ah 52 mM:=An underlying52<|.cons ja<|.one<|Oo underlying50 br7
def br8:Ah 196 zt:=An underlying196<|.cons a95<|.cons jw<|.one br2
def ap8:Ah 198 iR:=An underlying198<|.cons ja<|.cons jw<|.cons br8<|.cons jw<|.cons ja<|.one a95
def VS:Ah 55 df:=An underlying55<|.cons ja<|.cons ja<|.one<|Oo underlying53 ap8
def VT:Ah 259 fE:=An underlying259<|.cons jw<|.cons jw<|.one jw
def br9:Ah 256 iS:=An underlying256<|.one<|Oo underlying254 VT
def F4:Ah 223 aC:=An underlying223<|.cons jw<|.cons jw<|.one a95
def Oq:wf (aY.of []:aC):=bR9
def ba0:Ah 216 dG:=An underlying216<|.cons jw<|.cons jw<|.cons jw<|.cons jw<|.cons (Oo underlying160 F4)<|.one jw
def bs0:Ah 204 wh:=An underlying204<|.cons jw<|.cons (Oo underlying202 ba0)<|.one ja
def VU:Ah 59 hJ:=An underlying59<|.cons (Oo underlying56 br9)<|.one<|Oo underlying57 bs0
def bs1:Lay 207 (aY.cells:dh->l_ J) cvG:=Lay.st underlying207 kK (ts:=[3,9,3,3,3,160,9,9,9,72]) kK (.cons ja<|.cons jw<|.cons ja<|.cons ja<|.cons ja<|.cons ((yk (α:=aC) (aY.of []) Oq underlying160 (b:=40) kK dD F4).imp (K:=kyG) λ_ q=>⟨⟨q.1,q.2.2⟩,q.2.1⟩)<|.cons jw<|.cons jw<|.cons jw<|.one<|Yd underlying72) (λx=>⟨x.1,x.2.1,x.2.2.1,x.2.2.2.1,x.2.2.2.2.1,x.2.2.2.2.2.1,x.2.2.2.2.2.2.1,x.2.2.2.2.2.2.2.1,x.2.2.2.2.2.2.2.2.1,x.2.2.2.2.2.2.2.2.2⟩) (λ_=>rfl) λ_ h=>⟨⟨h.1,h.2.1,h.2.2.1,h.2.2.2.1,h.2.2.2.2.1,h.2.2.2.2.2.1.1,h.2.2.2.2.2.2.1,h.2.2.2.2.2.2.2.1,h.2.2.2.2.2.2.2.2.1,h.2.2.2.2.2.2.2.2.2⟩,h.2.2.2.2.2.1.2⟩
def bs2:wf (aY.of []:dh):=bR9
def ba1:Lay 63 (aY.cells:jU->l_ J) agG:=Lay.st underlying63 kK (ts:=[9,9,60,3,61,3]) kK (.cons jw<|.cons jw<|.cons (yk (α:=bh aC) (G:=kyG) (aY.of []) ⟨⟨bJ _,λ_=>Oq⟩,dD⟩ underlying60 (b:=24) kK dD<|(yk (α:=aC) (aY.of []) Oq underlying160 (b:=40) kK dD F4).imp λ_ q=>⟨⟨q.1,q.2.2⟩,q.2.1⟩)<|.cons ja<|.cons (yk (α:=dh) (G:=cvG) (aY.of []) ⟨bs2,dD⟩ underlying61 (b:=128) kK dD bs1)<|.one ja) (λx=>⟨x.1,x.2.1,x.2.2.1,x.2.2.2.1,x.2.2.2.2.1,x.2.2.2.2.2⟩) (λ_=>rfl) λ_ h=>⟨⟨h.1,h.2.1,⟨h.2.2.1.1,λk=>(h.2.2.1.2.2 k).1⟩,h.2.2.2.1,⟨h.2.2.2.2.1.1,λk=>(h.2.2.2.2.1.2.2 k).1⟩,h.2.2.2.2.2⟩,⟨h.2.2.1.1,λk _=>h.2.2.1.2.2 k⟩,h.2.2.2.2.1.1,λk _=>h.2.2.2.2.1.2.2 k⟩
def ap9:Lay 65 (aY.cells:cq->l_ J) dvG:=Lay.st underlying65 kK (ts:=[3,43,49,52,55,59,63,9,3,3]) kK (.cons ja<|.cons IZ<|.cons VR<|.cons a99<|.cons VS<|.cons VU<|.cons ba1<|.cons jw<|.cons ja<|.one ja) (λx=>⟨x.1,x.2.1,x.2.2.1,x.2.2.2.1,x.2.2.2.2.1,x.2.2.2.2.2.1,x.2.2.2.2.2.2.1,x.2.2.2.2.2.2.2.1,x.2.2.2.2.2.2.2.2.1,x.2.2.2.2.2.2.2.2.2⟩) (λ_=>rfl) λ_ h=>⟨⟨h.1,h.2.1,h.2.2.1,h.2.2.2.1,h.2.2.2.2.1,h.2.2.2.2.2.1,h.2.2.2.2.2.2.1.1,h.2.2.2.2.2.2.2.1,h.2.2.2.2.2.2.2.2.1,h.2.2.2.2.2.2.2.2.2⟩,h.2.2.2.2.2.2.1.2⟩
def aq0:wf (aY.of []:cq):=bR9
def ba2:Ah 162 jy:=An underlying162<|.one<|Oo underlying160 F4
def YO:Ah 103 lE:=An underlying103<|.cons jw<|.cons jw<|.one jw
def bs3:Ah 105 dQ:=An underlying105<|.cons ja<|.cons jw<|.cons jw<|.cons ja<|.cons YO<|.cons YO<|.cons ja<|.cons jw<|.cons (NA (α:=Int) 0 z0 underlying41 (b:=8) kK dD ja)<|.one ja
def bS0:Ah 26 km:=An underlying26<|.cons (Oo underlying23 ba2)<|.cons ja<|.one<|Oo underlying24 bs3
def bs4:Ah 176 Td:=An underlying176<|.cons ja<|.one jw
def bs5:Ah 71 lP:=An underlying71<|.cons ja<|.cons ja<|.cons ja<|.cons jw<|.cons jw<|.cons ja<|.cons ja<|.cons ja<|.cons jw<|.cons br2<|.cons jw<|.cons (Oo underlying69 bs4)<|.one a95
def ba3:Ah 29 ei:=An underlying29<|.cons ja<|.cons ja<|.one<|Oo underlying27 bs5
def bS1:Ah 124 Var:=An underlying124<|.cons ja<|.cons jw<|.one br2
def bS2:Ah 113 qE:=An underlying113<|.cons ja<|.cons ja<|.one<|Oo underlying111 bS1
def bS3:Lay 32 (aY.cells:oV->l_ J) wdG:=Lay.st underlying32 kK (ts:=[3,22,26,29,30]) kK (.cons ja<|.cons (yk (α:=cq) (G:=dvG) (aY.of []) ⟨aq0,⟨bJ _,λi hi=>absurd hi (jC i)⟩,bJ _,λi hi=>absurd hi (jC i)⟩ underlying22 (b:=520) kK dD ap9)<|.cons bS0<|.cons ba3<|.one<|Oo underlying30 bS2) (λx=>⟨x.1,x.2.1,x.2.2.1,x.2.2.2.1,x.2.2.2.2⟩) (λ_=>rfl) λ_ h=>⟨⟨h.1,⟨h.2.1.1,λk=>(h.2.1.2.2 k).1⟩,h.2.2.1,h.2.2.2.1,h.2.2.2.2⟩,λk=>(h.2.1.2.2 k).2⟩
def EI(n:Nat)(ps:l_ J)(h:Ey P n 32 ps):Ok P 3 [.agg ps] (Bo true):=by
 obtain⟨w,⟨O,h2⟩,h3⟩:=bS3 n ps h;refine(IY w O h2).bt8 λcj2 Sx v N=> ?_;cases N with
 |agg _ vs hl Y=>
  refine .agg _ vs (by rw[<-h3.1];exact hl) λi c v q1 q2=> ?_;have hi:i<ps.length:=by rw[h3.1];exact(bm.1 q1).1
  have q3:=bX hi;exact h3.2 i _ c q3 q1 _ _ _<|Y i _ v q3 q2
