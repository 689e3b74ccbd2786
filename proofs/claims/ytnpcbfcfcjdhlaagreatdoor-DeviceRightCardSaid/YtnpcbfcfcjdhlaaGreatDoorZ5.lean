/- Z5. -/
import Derived.Test.YtnpcbfcfcjdhlaaGreatDoorZ4
import Derived.Shelf.Strings.BuilderK
set_option linter.all false
set_option linter.defProp false
set_option maxHeartbeats 9999999
open Go.Proofs.Tryz
noncomputable section
namespace Go.Proofs.YtnpcbfcfcjdhlaaGreatDoor
section
open Go.PS Wf
def UN(ci8:l_ (l_ J)):l_ aC:=mK<|ci8.map nG
def ak2(L:l_ aC):UN (bT L)=L:=by have h:UN (bT L)=(bT L).map nG:=ni _;rw[h];unfold bT;rw[qP];exact(EX λx _=>rfl).trans<|xE _
def X6:l_ J->Hp->Option (J×Hp×l_ Prop):=λaa h=>match aa,h with
 | [.rf n f],[]=>some (.bf 0 n,[⟨bT ((List.range n).map λi=>nG (f i)),0,[],3,true,false⟩],[0<n,n*40<=aq,.rf n f=(ak aC).au ((ak aC).dec (.rf n f))])
 |_,_=>none
def Rj {E:Env}(hE:an P E):an P (cF 231 X6 E):=fC hE λaa hp r h' ob O h2=>by
 unfold X6 at O;split at O
 .rename_i n f;cases O;have g0:=h2 (0<n) sS;have g1:=h2 (n*40<=aq) sS;have g2:=h2 (J.rf n f=(ak aC).au ((ak aC).dec<|.rf n f)) sS;have k:=aS9 ((ak aC).dec<|.rf n f) g0 g1;rw[<-g2]at k;have e:bT ((List.range n).map λi=>nG (f i))=(List.range n).map λi=>aY.cells (((ak aC).dec<|.rf n f).f i):=by unfold bT;rw[qP];rfl
  rw[e];exact k
 .cases O
def UO:l_ J->Hp->Option (J×Hp×l_ Prop):=λaa h=>match aa,h with
 | [.bf 0 n,p],[⟨ci8,0,[],3,true,true⟩]=>match ZK p with
  |some (g,[])=>match g==277 with
   |true=>some (.bf 0 (sJ<|UN ci8).length,aH (sJ<|UN ci8) true,[ci8=bT (UN ci8),n=(UN ci8).length,n*40<=aq,p=K4])
   |false=>none
  |_=>none
 |_,_=>none
def ak3 {E:Env}(hE:an P E):an P (cF 276 UO E):=fC hE λaa hp r h' ob O h2=>by
 unfold UO at O;split at O
 .rename_i n p ci8;split at O
  .split at O
   .cases O;have g0:=h2 (ci8=bT (UN ci8)) sS;have g1:=h2 (n=(UN ci8).length) sS;have g2:=h2 (n*40<=aq) sS;have g3:=h2 (p=K4) sS;have k:=ak1 (UN ci8) (by rw[<-g1];exact g2);unfold aH at k⊢;rw[<-g0,<-g1]at k;rw[g3];exact k
   .cases O
  .cases O
 .cases O
def EPu:Env:=cF 276 UO<|cF 231 X6 EN
def bM1:an P EPu:=ak3<|Rj aw
theorem Rk(l:bh aC):∀n,rn l n=sJ ((List.range n).map l.f)
 |0=>rfl
 |n+1=>by have ih:=Rk l n;show(if mC (l.f n).name=true then rn l n else rn l n++ [l.f n])=_;unfold sJ at ih⊢;rw[qi,mr,LX,<-ih];cases h:mC (l.f n).name<;>simp [h]
def bM2(l:bh aC)(h0:0<l.n)(h40:l.n*40<=aq):Ok P 229 [(ak aC).au l] ((ak aC).au<|mc l):=by
 obtain⟨L,hL⟩:∃L,(List.range l.n).map l.f=L:=⟨_,rfl⟩
 have hL':((List.range l.n).map λi=>nG (aY.cells<|l.f i))=L:=hL;have hLn:l.n=L.length:=by rw[<-hL];simp
 have hp:rn l l.n=sJ L:=by rw[Rk,hL]
 have hp0:Ok P 229 [(ak aC).au l] (.rf (sJ L).length λi=>(bT<|sJ L).getD i []):=by
  refine al bM1 L0 (let Z:=List.range l.n;let V:=l.n*40<=140737488351232;(.o [0<l.n,V]<|.r ((ak aC).au l)<|.o [bT (List.map (λi=>nG (aY.cells<|l.f i)) Z)=bT (UN<|bT<|List.map (λi=>nG (aY.cells<|l.f i)) Z),l.n=(UN<|bT<|List.map (λi=>nG (aY.cells<|l.f i)) Z).length,V,J.sc (Value.func (Fn.func 277) #[] #[])=K4,(sJ<|UN<|bT<|List.map (λi=>nG (aY.cells<|l.f i)) Z).length=(bT<|sJ<|UN<|bT<|List.map (λi=>nG (aY.cells<|l.f i)) Z).length]<|.e<|J.rf (sJ<|UN<|bT<|List.map (λi=>nG (aY.cells<|l.f i)) Z).length λi=>(bT<|sJ<|UN<|bT<|List.map (λi=>nG (aY.cells<|l.f i)) Z).getD i [])) ?_;try dsimp only
  simp only[hL',ak2];simp only[av]
  (repeat' with_reducible first|intro _|apply aNd_)<;>first|exact aM|exact(pq _).symm
 refine hp0.res λ_ _ _ N=> ?_;have:=fS (λi hi=>sr (sJ L) i hi) N;unfold mc;rw[hp];exact this
def UP(o s:y_):J:=if vM o s=0 then .bg [.agg [S o,S s,.rf 0 λ_=> [],I 1,.rf 0 λ_=> [],I 0],I 0]else .bg [.agg [S n_,S n_,.rf 0 λ_=> [],I 0,.rf 0 λ_=> [],I 0],I<|vM o s]
def bm6(o s:y_):Ok P 119 [S o,S s] (UP o s):=by
 have e1:o=n_\/32<o.size->vM o s=25:=λh=>if_pos h;have e2: ¬(o=n_\/32<o.size)->1024<s.size->vM o s=4:=λh h2=>by unfold vM;rw[if_neg h,if_pos h2]
 have e3: ¬(o=n_\/32<o.size)-> ¬1024<s.size->vM o s=0:=λh h2=>by unfold vM;rw[if_neg h,if_neg h2]
 refine al aw L0 (let Z:=(n_:y_);(.n (dN o Z) (.e<|J.bg [J.agg [S Z,S Z,J.rf 0 λi=> [],I 0,J.rf 0 λi=> [],I 0],I 25])<|.d ((o.size:Int)>32) (.e<|J.bg [J.agg [S Z,S Z,J.rf 0 λi=> [],I 0,J.rf 0 λi=> [],I 0],I 25])<|.d ((s.size:Int)>1024) (.e<|J.bg [J.agg [S Z,S Z,J.rf 0 λi=> [],I 0,J.rf 0 λi=> [],I 0],I 4])<|.e<|J.bg [J.agg [S o,S s,J.rf 0 λi=> [],I 1,J.rf 0 λi=> [],I 0],I 0])) ?_;simp only[av,bK,bO,aL]
 (repeat' with_reducible first|intro _|apply aNd_)<;>first|(unfold UP;rw[e1<|.inl W];rfl)|(unfold UP;rw[e1<|.inr U];rfl)|(unfold UP;rw[e2 (λq=>q.elim (λq1=>absurd q1 W) (λq2=>U)) U];rfl)|(unfold UP;rw[e3 (λq=>q.elim (λq1=>absurd q1 W) (λq2=>U)) U];rfl)
def b08:I4 Unit:=⟨λ_=> .rf 0 λ_=> [],λ_=>()⟩
def UQ:I4 Int:=⟨λi=> .agg [I i,S ⟨#[]⟩,I 0,I 0,I 0,.rf 0 λ_=> [],S ⟨#[]⟩,S ⟨#[]⟩,S ⟨#[]⟩,I 0],λ| .agg (.sc (.int _ n)::_)=>n|_=>0⟩
def ak4(l:bh aC)(hn:l.n<=aq):Ok P 189 [(ak aC).au l,.rf 0 λ_=> []] (Bo<|decide<|l.n=0):=by
 have h:=(HS l ⟨0,l.f⟩ hn).Wx (a:=(ak aC).au l) (b:= .rf 0 λ_=> []) (λ_ _ _ h=>h) λ_ _ _ h=>fS (λi hi=>absurd hi (jC i)) h;have e:oc l ⟨0,l.f⟩=decide (l.n=0):=by unfold oc;rw[ea,bp,bp];refine⟨λq=>q.1,λq=>⟨q,bc.2 λi hi=>absurd hi U⟩⟩
 rw[e]at h;exact h
def cc4:Env:=aF 189 (bN (a2 (ak aC) b08) (λx=>Bo (decide<|x.1.n=0)) λx=>x.1.n<=aq) EN
def bm7:an P cc4:=ah aw λx h=>ak4 x.1 h
def Rm(c:dh)(d:Int):Bool:=decide<|c.id=d/\sh c=true
def UR(c:dh):sh c=true↔(c.cg=n_/\c.ig=0/\c.phase=0/\c.jb=0/\c.key.n=0/\c.own=n_/\c.iV=n_/\c.gf=n_/\c.err=0):=bp
def ak5(c:dh)(d:Int)(h:c.key.n<=aq):Ok P 191 [(af dh).au c,UQ.au d] (Bo<|Rm c d):=by
 have hf:=UR c;refine al bm7 L0 (let Z:ix:=bI;let V:=(n_:y_);(.q c.id d (.n (dN c.cg V) (.q c.ig 0 (.q c.phase 0 (.q c.jb 0 (.k (a2 (ak aC) b08) (c.key,PUnit.unit) (c.key.n<=140737488351232)<|.d (c.key.n=0) (.n (dN c.own V) (.n (dN c.iV V) (.n (dN c.gf V) (.e<|Bo<|c.err==0) Z) Z) Z) Z) Z) Z) Z) Z) Z)) ?_;simp only[av,bK,bO,aL]
 (repeat' with_reducible first|intro _|apply aNd_)<;>first|exact aM|(refine ba Bo ?_;unfold Rm;grind)
def cc5:Env:=aF 191 (bN (a2 (af dh) UQ) (λx=>Bo (Rm x.1 x.2)) λx=>x.1.key.n<=aq) EN
def bm8:an P cc5:=ah aw λx h=>ak5 x.1 x.2 h
def ak6(c:dh)(h:c.key.n<=aq):Ok P 123 [(af dh).au c] (Bo<|sh c):=by
 refine al bm8 L0 (.k (a2 (af dh) UQ) (c,c.id) (c.key.n<=140737488351232)<|.e<|Bo<|Rm c c.id) ?_;simp only[av]
 (repeat' with_reducible first|intro _|apply aNd_)<;>first|exact aM|(refine ba Bo ?_;unfold Rm;grind)
def aT3(l:bh aC):(mc l).n<=l.n:=Im l l.n
def nm(x:bh aC):bh aC:=mK x
def rp(x:bh aC):nm x=x:=ni _
def OB(l:bh (bh aC))(q:bh aC)(i:Nat):Bool:=oc (nm<|mc<|l.f i) q
def X7(l:bh (bh aC))(q:bh aC)(i:Nat):OB l q i=true↔oc (nm<|mc<|l.f i) q=true:=di
def cc6:Env:=aF 122 (bN (a1<|ak aC) (λx=>(ak aC).au (nm<|mc x)) λx=>x.n*40<=aq)<|aF 189 (bN (a2 (ak aC)<|ak aC) (λx=>Bo (oc x.1 x.2)) λx=>x.1.n<=aq) EN
def X8:an P cc6:=ah (ah aw λx h=>HS x.1 x.2 h) λx h=>by rw[rp];exact X3 x h
def ak7(l:bh (bh aC))(q:bh aC)(hn:l.n<=aq)(hk:∀i,i<l.n->(l.f i).n*40<=aq):Ok P 121 [(ak<|bh aC).au l,(ak aC).au q] (I<|cZ l.n<|OB l q):=by
 have lp:=fF f121 2 l.n (OB l q) (λi=>(M 20 [(0,(ak<|bh aC).au l),(1,(ak aC).au q),(4,I 0),(5,I i)])) [] (λi=>(.ret,(M 20 [(4,I i)]),[])) (ey 0<|M 20 [(4,I 0)]) λi hi lt aW az aR=>by
  have hp:(nm<|mc<|l.f i).n<=(l.f i).n:=by rw[rp];exact aT3<|l.f i
  have hki:=hk i;refine ao X8 L0 [0,1,4,5] [4] (let Z:=mc (l.f i);(.d ((i:Int)<l.n) (.g i l.n<|.k (a1<|ak aC) (l.f i) ((l.f i).n*40<=140737488351232)<|.k (a2 (ak aC)<|ak aC) (nm Z,q) ((nm Z).n<=140737488351232)<|.n (oc (nm Z) q) (eH az)<|eG aW)<|eY aR)) ?_;have Y:=X7 l q i;simp only[av]
  (repeat' with_reducible first|intro _|apply aNd_)<;>first|exact aM|exact hk i U|(have:=hk i U;unfold aq at*;omega)
 refine al X8 (kR lp [0,1,4,5]) (jS lp (.e<|I (↑(aE l.n<|OB l q):Int))<|.e<|I<|-1) ?_;simp only[av]
 (repeat' with_reducible first|intro _|apply aNd_)<;>first|(unfold cZ;rw[if_pos W])|(unfold cZ;rw[if_neg<|jY.1 W])
def b09(x:Bool):Bool:=mK x
theorem X9(x:Bool):b09 x=x:=ni _
def Dm(a b:bh aC):Bool:=b09<|oc (mc a)<|mc b
def K5(a:bh aC):Prop:=0<a.n/\a.n*40<=aq
def EAk:Env:=aF 229 (bN (a1<|ak aC) (λx=>(ak aC).au (nm<|mc x)) K5)<|aF 228 (bN (a2 (ak aC)<|ak aC) (λx=>Bo (oc x.1 x.2)) λx=>x.1.n<=aq) EN
theorem bM3:an P EAk:=ah (ah aw λx h=>bH4 x.1 x.2 h) λx h=>by rw[rp];exact bM2 x h.1 h.2
theorem aT4(a b:bh aC)(ha:K5 a)(hb:K5 b):Ok P 160 [(ak aC).au a,(ak aC).au b] (Bo<|Dm a b):=by
 have hn:=aT3 a;have h2:=ha.2;have e:Dm a b=oc (nm<|mc a) (nm<|mc b):=by unfold Dm;rw[X9,rp,rp]
 have hm:(nm<|mc a).n<=aq:=by rw[rp];unfold aq at*;omega
 rw[e];exact al bM3 L0 (let Z:=ak aC;(.k (a1 Z) a (K5 a)<|.k (a1 Z) b (K5 b)<|.k (a2 Z Z) (nm<|mc a,nm<|mc b) ((nm<|mc a).n<=140737488351232)<|.e<|Bo<|oc (nm<|mc a)<|nm<|mc b)) ft
def EAl:Env:=aF 160 (bN (a2 (ak aC)<|ak aC) (λx=>Bo (Dm x.1 x.2)) λx=>K5 x.1/\K5 x.2) EN
theorem bM4:an P EAl:=ah aw λx h=>aT4 x.1 x.2 h.1 h.2
theorem aT5(a b:bh aC)(h:K5 a/\K5 b):Ok P 159 [(ak aC).au a,(k9<|ak aC).au b] (Bo<|Dm a b):=by exact al bM4 L0 (.k (a2 (ak aC)<|ak aC) (a,b) (K5 a/\K5 b)<|.e<|Bo<|Dm a b) ft
def EKy:Env:=Be<|aF 159 (bN (a2 (ak aC)<|k9<|ak aC) (λx=>Bo (Dm x.1 x.2)) λx=>K5 x.1/\K5 x.2)<|aF 157 (bN (a1<|ak aC) (λx=>Bo (tM x)) wf) EN
theorem aT6:an P EKy:=EA<|ah (ah aw λx h=>bj6 x h) λx h=>aT5 x.1 x.2 h
section
variable {c:Code}
theorem aT7 {n:Nat} {b:Nat->Bool} {st:Nat->l_ J} {h:Nat->Hp} {x:Nat->Out×l_ J×Hp} {y:Out×l_ J×Hp}
  (lp:∀i,i<=n->(∀j,j<i->b j=false)->∀lt,(i<n->b i=false->aO P c (st<|i+1) (h<|i+1) lt)->(i<n->b i=true->lt.ends (x i))->(i=n->lt.ends y)->aO P c (st i) (h i) lt):
  aO P c (st 0) (h 0) (.ite (ar n b) (.out (x<|aE n b).1 (x<|aE n b).2.1 (x<|aE n b).2.2)<|.out y.1 y.2.1 y.2.2):=by
 have key:∀k i,i+k=n->(∀j,j<i->b j=false)->aO P c (st i) (h i) (.ite (ar n b) (.out (x<|aE n b).1 (x<|aE n b).2.1 (x<|aE n b).2.2)<|.out y.1 y.2.1 y.2.2):=by
  intro k
  induction k with
  |zero=>
   intro i hi hj;have hn:ar n b=false:=bc.2 λj xO=>hj j U;refine lp i U hj _ (λh=>U) (λh=>U) λ_=>Mz hn rfl
  |succ k ih=>
   intro i hi hj;refine lp i U hj _ (λ_ hb=>ih (i+1) U λj xO=> ?_) (λO hb=> ?_) λh=>U
   .by_cases Pf:j=i
    .subst Pf;exact hb
    .exact hj j U
   .have hf:=ru O hb hj;refine GX (cG.2 ⟨i,O,hb⟩) ?_;rw[hf];rfl
 exact key n 0 U λj hj=>absurd hj<|jC _
end
def R9(l:bh (bh aC))(i:Nat):Bool:= !tM (l.f i)||ar i λj=>Dm (l.f j)<|l.f i
def vX(l:bh (bh aC)):Bool:= !(ar l.n<|R9 l)&&decide (l.n<=64)
theorem aT8 {l:bh aC}(h:tM l=true):0<l.n:=by unfold tM at h;have h:=(cn h).2.2;unfold qw at h;have O:=uI (cn h).1;obtain⟨i,hi,_⟩:=cG.1 O;omega
theorem bM5 {l:bh (bh aC)} {i:Nat}(h:R9 l i=false):tM (l.f i)=true:=by
 unfold R9 at h;cases hk:tM (l.f i)with
 |true=>rfl
 |false=>rw[hk]at h;cases h
theorem bm9(a:jU)(hw:∀i,i<a.dv.n->wf (a.dv.f i)/\(a.dv.f i).n*40<=aq)(hn:a.dv.n<=aq):Ok P 91 [(af jU).au a] (Bo<|vX a.dv):=by
 have lp:=aT7 (c:=aD f91 2) (n:=a.dv.n) (b:=R9 a.dv) (st:=λi=>(M 29 [(1,.ptr 0 0 0),(2,.bit false),(6,(ak<|bh aC).au a.dv),(7,I a.dv.n),(8,I i)])) (h:=λ_=> [⟨[aY.cells a],0,[],6,false,false⟩]) (x:=λ_=>(.ret,(M 29 [(2,.bit false)]),[])) (y:=(.ext 0,(M 29 [(1,.ptr 0 0 0),(2,.bit false)]),[⟨[aY.cells a],0,[],6,false,false⟩])) λi hi hb lt aW az aR=>by
  refine ao aT6 L0 [1,2,6,7,8] [2,10001] (let Z:=a.dv.f i;let V:=(Out.ret,(M 29 [(2,aP)]),[]);let aG:=ak aC;let aS:=[cM [(aY.cells a)] 6];(.d ((i:Int)<a.dv.n) (.g i a.dv.n<|.k (a1 aG) Z (wf Z)<|.m (tM Z) (.e V)<|.o [(0:Int)<=0,(0:Int)<=(i:Int),(i:Int)<=(a.dv.n:Int)]<|.r ((ak<|bh aC).au<|bh.mk i λi=>a.dv.f (0+i))<|.o [i-0<=140737488351232,∀(uU:Nat),uU<i-0->(a2 aG<|k9 aG).au (a.dv.f<|0+uU,a.dv.f i)=(a2 aG<|k9 aG).au (a.dv.f<|0+uU,a.dv.f i)/\(K5 (a.dv.f<|0+uU)/\K5 Z)/\True]<|.n (ar (i-0) λuU=>Dm (a.dv.f<|0+uU) Z) (.e V)<|bR (M 29 [(1,aT),(2,aP),(6,(ak<|bh aC).au a.dv),(7,I a.dv.n),(8,I<|oU<|(i:Int)+1)]) aS)<|fv 0 (M 29 [(1,aT),(2,aP)]) aS)) ?_;have hk:∀j,j<a.dv.n->tM (a.dv.f j)=true->K5 (a.dv.f j):=λj hj h=>⟨aT8 h,(hw j hj).2⟩
  have Sy:∀j,j<i->tM (a.dv.f j)=true:=λj hj=>bM5<|hb j hj;have b1:tM (a.dv.f i)=false->R9 a.dv i=true:=λh=>by unfold R9;rw[h];rfl
  have b2:tM (a.dv.f i)=true->(ar i λj=>Dm (a.dv.f j) (a.dv.f i))=true->R9 a.dv i=true:=λh h2=>by unfold R9;rw[h,h2];rfl
  have b3:tM (a.dv.f i)=true->(ar i λj=>Dm (a.dv.f j) (a.dv.f i))=false->R9 a.dv i=false:=λh h2=>by unfold R9;rw[h,h2];rfl
  try dsimp only
  simp only[u3,eP];simp only[av]
  (repeat' with_reducible first|intro _|apply aNd_)<;>first|exact aM|exact(hw i U).1|(unfold aq at hn;omega)|exact hk _ U<|Sy _ U|exact hk i U W|exact az U<|b1 W|exact az U<|b2 W W|(rw[bZ (n:=a.dv.n) U hn];exact aW U (b3 W W))
 refine al aT6 (iy [1,2,6,7,8] a.dv.n (R9 a.dv) (λ_=>(M 29 [(2,.bit false)])) (M 29 [(1,.ptr 0 0 0),(2,.bit false)]) (.ext 0) (λ_=> []) [⟨[aY.cells a],0,[],6,false,false⟩]) (let Z:=(M 29 [(1,aT),(2,aP),(6,(ak<|bh aC).au a.dv),(7,I a.dv.n),(8,I 0)]);let V:=[cM [(aY.cells a)] 6];(.n (ar a.dv.n<|R9 a.dv) (.o [ax P (aD f91 2) Z V (Out.ret) (M 29 [(2,aP)]) []] bI)<|.o [ax P (aD f91 2) Z V (Out.ext 0) (M 29 [(1,aT),(2,aP)]) V]<|.e<|Bo<|decide<|(a.dv.n:Int)<=64)) ?_;simp only[av]
 (repeat' with_reducible first|intro _|apply aNd_)<;>first|exact aM|(have q:ar a.dv.n (R9 a.dv)=true:=W;unfold vX;rw[q];rfl)|(have q:ar a.dv.n (R9 a.dv)=false:=W;unfold vX;rw[q,Bool.not_false,Az];exact ba Bo (oM.2 U))
def b10:Env:=aF 167 (bN (a1<|ak aC) (λl=>I (bV l)) wf)<|aF 196 (bN (a1<|ak aC) (λl=>S (iE l lX)) λl=>l.n<=aq)<|aF 249 (bN (a1<|ak aC) (λl=>S (iE l ma)) λl=>l.n<=aq) EN
def Ya:an P b10:=ah (ah (ah aw λl h=>bj4 l h) λl h=>aP0 l h) x7
def Ny(l:bh aC):Int:=if bV l≠0 then bV l else if qw l=true then 0 else 52
def aT9(l:bh aC)(h:wf l):Ok P 193 [(ak aC).au l] (I<|Ny l):=by
 have hn:=h.1;have hk:=zK l;refine al Ya L0 (let Z:=a1 (ak aC);let V:=(↑(iE l ma).size:Int);let aG:=(↑(iE l lX).size:Int);let aS:=l.n<=140737488351232;let bn:ix:=(.e<|I 52);(.k Z l (wf l)<|.u (bV l) 0 (.e<|I<|bV l)<|.k Z l aS<|.k Z l aS<|.d (aG<1) bn<|.d (aG>32) bn<|.d (V<1) bn<|.d (V>64) bn qo)) ?_;simp only[av]
 (repeat' with_reducible first|intro _|apply aNd_)<;>first|exact aM|(refine ba I ?_;unfold Ny;grind)
def cc7:Env:=aF 193 (bN (a1<|ak aC) (λl=>I (Ny l)) wf)<|aF 194 (bN (a1<|af dh) λc=>Bo (HT c))<|aF 195 (bN (a1<|af dh) λc=>I (Cm c<|kg c.cg))<|aF 192 (bN (a1 aQ) λs=>I (kg s)) b10
def bn0:an P cc7:=ah (ah (ah (ah Ya λs _=>QM s) λc _=>ag7 c) λc _=>ag9 c) aT9
def yW(c:dh):Bool:=decide (0<=c.id/\c.id<=1048575/\kg c.cg≠0/\(c.ig=1\/c.ig=2)/\c.own.size=32/\0<=c.jb/\c.jb<=kg c.cg/\Ny c.key=0/\(HT c=true->c.iV.size=32)/\(HT c=false->c.iV=n_)
 /\((Cm c (kg c.cg)=2/\c.phase=4->c.gf=n_/\c.err=28)/\(¬(Cm c (kg c.cg)=2/\c.phase=4)->c.phase=Cm c (kg c.cg)/\c.err=0/\(Cm c (kg c.cg)=3->c.gf=iE c.key lX)/\(Cm c (kg c.cg)≠3->c.gf=n_))))
def US(c:dh)(h:wf c):Ok P 124 [(af dh).au c] (Bo<|yW c):=by
 have hk:=h.2.2.2.2.2.1;have hn:=hk.1;refine al bn0 L0 (let aS:ix:=bI;let bH:=Cm c (kg c.cg);let cp:=(n_:y_);let aG:ix:=(.q bH 3 (.k (a1<|ak aC) c.key (c.key.n<=140737488351232)<|.q c.phase bH (.n (dN c.gf<|iE c.key lX) (.e<|Bo<|c.err==0) aS) aS)<|.q c.phase bH (.n (dN c.gf cp) (.e<|Bo<|c.err==0) aS) aS);let cu:=a1 (af dh);let Z:ix:=(.v cu c<|.q bH 2 (.q c.phase 4 (.s .fN<|.q c.phase 4 (.n (dN c.gf cp) (.e<|Bo<|c.err==28) aS) aS) aG) aG);let bn:ix:=(.v cu c<|.m (HT c) (.m (dN c.iV cp) aS Z) Z);let V:ix:=(.u c.own.size 32 aS<|.d (c.jb<0) aS<|.v (a1 aQ) c.cg<|.d (c.jb>kg c.cg) aS<|.k (a1<|ak aC) c.key (wf c.key)<|.u (Ny c.key) 0 aS<|.v cu c<|.n (HT c) (.u c.iV.size 32 aS bn) bn);(.d (c.id<0) aS<|.d (c.id>1048575) aS<|.v (a1 aQ) c.cg<|.q (kg c.cg) 0 aS<|.u c.ig 1 (.u c.ig 2 aS V) V)) ?_;simp only[av,bK,bO,aL]
 (repeat' with_reducible first|intro _|apply aNd_)<;>first|exact aM|(refine ba Bo ?_;clear h hk hn;unfold yW;generalize Cm c (kg c.cg)=p at*;generalize kg c.cg=mm at*;generalize HT c=rk at*;generalize Ny c.key=ke at*;generalize iE c.key lX=fu at*;generalize c.own.size=zo at*;rw[ea];simp only[bp,ev];first|omega|grind)
def nK:l_ J->Option (l_ J×Prop)
 | [p0,p1,p2,p3,p4,.rf n g,p6,p7,p8,p9]=>some ([p0,p1,p2,p3,p4,.rf n λi=>aY.cells (nG (g i)),p6,p7,p8,p9],∀i,i<n->g i=aY.cells (nG (g i)))
 |_=>none
def aU0 {cs ds:l_ J} {X:Prop}(h:nK cs=some (ds,X))(hX:X) {w:World} {S:Nat->Prop} {v:Value}(N:cf w S (.agg cs) v):cf w S (.agg ds) v:=by
 unfold nK at h;split at h
 .cases h;refine Pl ?_ (λi c d v q1 q2 N=> ?_) N
  .rfl
  match i with
  |0=>cases q1;cases q2;exact N
  |1=>cases q1;cases q2;exact N
  |2=>cases q1;cases q2;exact N
  |3=>cases q1;cases q2;exact N
  |4=>cases q1;cases q2;exact N
  |5=>cases q1;cases q2;exact fS (f:=_) (g:=_) hX N
  |6=>cases q1;cases q2;exact N
  |7=>cases q1;cases q2;exact N
  |8=>cases q1;cases q2;exact N
  |9=>cases q1;cases q2;exact N
  |i+10=>cases q1
 .cases h
def phF:l_ J->Option (J×l_ Prop)
 | [.agg cs]=>match nK cs with
  |some (ds,X)=>some (I<|Cm ((af dh).dec<|.agg ds)<|qk ((af dh).dec<|.agg ds).cg,[X,.agg ds=(af dh).au ((af dh).dec<|.agg ds)])
  |none=>none
 |_=>none
def bM6 {E:Env}(hE:an P E):an P (aF 232 phF E):=gi hE λaa r ob O h2=>by
 unfold phF at O;split at O
 .rename_i cs;split at O
  .rename_i ds X hk;cases O;have g0:=h2 X sS;have g1:=h2 (J.agg ds=(af dh).au ((af dh).dec<|.agg ds)) sS;have k:=ag6<|(af dh).dec<|.agg ds;rw[<-g1]at k;exact k.bt8 λw S v N=>aU0 hk g0 N
  .cases O
 .cases O
def vlF:l_ J->Option (J×l_ Prop)
 | [.agg cs,.sc (.string s)]=>match nK cs with
  |some (ds,X)=>some (S<|iE ((af dh).dec<|.agg ds).key s,[X,.agg ds=(af dh).au ((af dh).dec<|.agg ds),((af dh).dec<|.agg ds).key.n<=aq])
  |none=>none
 |_=>none
def bM7 {E:Env}(hE:an P E):an P (aF 233 vlF E):=gi hE λaa r ob O h2=>by
 unfold vlF at O;split at O
 .rename_i cs s;split at O
  .rename_i ds X hk;cases O;have g0:=h2 X sS;have g1:=h2 (J.agg ds=(af dh).au ((af dh).dec<|.agg ds)) sS;have k:=KP ((af dh).dec<|.agg ds) s<|h2 (_<=aq) sS;rw[<-g1]at k;exact k.Wx (λw S v N=>aU0 hk g0 N) λw S v N=>N
  .cases O
 .cases O
def ESe:Env:=cF 231 X6<|aF 232 phF<|aF 233 vlF EN
def bM8:an P ESe:=Rj<|bM6<|bM7 aw
def uN(c:dh):dh:= {c with phase:=Cm c (qk c.cg),gf:=if Cm c (qk c.cg)=3 then iE c.key lX else n_}
def Rn {n:Nat} {b c:Nat->Bool}(h:∀i,i<n->b i=c i):aE n b=aE n c:=by
 rcases fA (aE n c) n with hl|hl
 .exact ru hl (by rw[h _ hl];exact dC hl) λj hj=>by rw[h j U];exact gy hj
 .have:=oT n c;rw[show aE n c=n by omega];refine DV λj hj=> ?_;rw[h j hj];exact gy (n:=n) U
def ak8 {n:Nat} {f g:Nat->aC}(h:∀i,i<n->f i=g i)(s:y_):iE ⟨n,f⟩ s=iE ⟨n,g⟩ s:=by
 have hb:∀i,i<n->pd ⟨n,f⟩ s i=pd ⟨n,g⟩ s i:=λi hi=>by unfold pd;show _=_;simp only[h i hi]
 have O:HR ⟨n,f⟩ s=HR ⟨n,g⟩ s:=ng hb;have h2:=Rn hb;unfold iE;rw[O];split
 .rename_i q;have hl:aE n (pd ⟨n,g⟩ s)<n:=dw.2 q;show(f<|aE n<|pd ⟨n,f⟩ s).value=(g<|aE n<|pd ⟨n,g⟩ s).value;rw[h2,h _ hl]
 .rfl
def UT(c:dh)(hk:K5 c.key):Ok P 165 [(af dh).au c] ((af dh).au<|uN c):=by
 have hk1:=hk.1;have Cx:=hk.2;have I5:=pq<|(List.range c.key.n).map λi=>nG (aY.cells<|c.key.f i);rw[gS,uX]at I5;have hg:∀i,i<c.key.n->(bT<|(List.range c.key.n).map λi=>nG (aY.cells<|c.key.f i)).getD i []=aY.cells (c.key.f i):=λi hi=>by rw[sr _ _ (by rw[gS,uX];exact hi),cc,b9,qh hi];rfl
 generalize hgk:(λi=>(bT<|(List.range c.key.n).map λi=>nG (aY.cells<|c.key.f i)).getD i [])=gk;have hg':∀i,i<c.key.n->gk i=aY.cells (c.key.f i):=λi hi=>by rw[<-hgk];exact hg i hi
 have hv:iE ⟨c.key.n,λi=>nG ((bT<|(List.range c.key.n).map λi=>nG (aY.cells<|c.key.f i)).getD i [])⟩ ⟨#[117,115,101,114]⟩=iE c.key lX:=ak8 (λi hi=>by rw[hg i hi];rfl) lX;have hp0:Ok P 165 [(af dh).au c] (.agg [I c.id,S c.cg,I c.ig,I<|Cm c<|qk c.cg,I c.jb,.rf c.key.n gk,S c.own,S c.iV,S (uN c).gf,I c.err]):=by
  refine al bM8 L0 (let Z:=List.range c.key.n;let V:=qk c.cg;let aG:=(n_:y_);(.o [0<c.key.n,c.key.n*40<=140737488351232]<|.r ((ak aC).au c.key)<|.o [c.key.n=(bT<|List.map (λi=>nG (aY.cells<|c.key.f i)) Z).length,∀(i:Nat),i<c.key.n->(bT<|List.map (λi=>nG (aY.cells<|c.key.f i)) Z).getD i []=aY.cells (nG<|(bT<|List.map (λi=>nG (aY.cells<|c.key.f i)) Z).getD i [])]<|.r ((af dh).au<|dh.mk c.id c.cg c.ig c.phase c.jb (bh.mk c.key.n λi=>nG ((bT<|List.map (λi=>nG (aY.cells<|c.key.f i)) Z).getD i [])) c.own c.iV c.gf c.err)<|.o [c.key.n=(bT<|List.map (λi=>nG (aY.cells<|c.key.f i)) Z).length]<|.q (Cm (dh.mk c.id c.cg c.ig c.phase c.jb (bh.mk c.key.n λi=>nG ((bT<|List.map (λi=>nG (aY.cells<|c.key.f i)) Z).getD i [])) c.own c.iV c.gf c.err) V) 3 (.o [∀(i:Nat),i<c.key.n->(bT<|List.map (λi=>nG (aY.cells<|c.key.f i)) Z).getD i []=aY.cells (nG<|(bT<|List.map (λi=>nG (aY.cells<|c.key.f i)) Z).getD i [])]<|.r ((af dh).au<|dh.mk c.id c.cg c.ig (Cm (dh.mk c.id c.cg c.ig c.phase c.jb (bh.mk c.key.n λi=>nG ((bT<|List.map (λi=>nG (aY.cells<|c.key.f i)) Z).getD i [])) c.own c.iV c.gf c.err) V) c.jb (bh.mk c.key.n λi=>nG ((bT<|List.map (λi=>nG (aY.cells<|c.key.f i)) Z).getD i [])) c.own c.iV aG c.err)<|.o [c.key.n<=140737488351232,c.key.n=(bT<|List.map (λi=>nG (aY.cells<|c.key.f i)) Z).length]<|.e<|J.agg [I c.id,S c.cg,I c.ig,I<|Cm (dh.mk c.id c.cg c.ig c.phase c.jb (bh.mk c.key.n λi=>nG ((bT<|List.map (λi=>nG (aY.cells<|c.key.f i)) Z).getD i [])) c.own c.iV c.gf c.err) V,I c.jb,J.rf c.key.n λi=>(bT<|List.map (λi=>nG (aY.cells<|c.key.f i)) Z).getD i [],S c.own,S c.iV,S<|iE (bh.mk c.key.n λi=>nG ((bT<|List.map (λi=>nG (aY.cells<|c.key.f i)) Z).getD i [])) (⟨#[117,115,101,114]⟩:y_),I c.err])<|.e<|J.agg [I c.id,S c.cg,I c.ig,I<|Cm (dh.mk c.id c.cg c.ig c.phase c.jb (bh.mk c.key.n λi=>nG ((bT<|List.map (λi=>nG (aY.cells<|c.key.f i)) Z).getD i [])) c.own c.iV c.gf c.err) V,I c.jb,J.rf c.key.n λi=>(bT<|List.map (λi=>nG (aY.cells<|c.key.f i)) Z).getD i [],S c.own,S c.iV,S aG,I c.err])) ?_
  try dsimp only
  simp only[hv];simp only[av]
  (repeat' with_reducible first|intro _|apply aNd_)<;>first|exact aM|(rw[hg _ W];rfl)|(unfold aq at Cx;omega)|(rw[<-hgk];have q:Cm c (qk c.cg)=3:=W;unfold uN;dsimp only;rw[if_pos q];rfl)|(rw[<-hgk];have q: ¬Cm c (qk c.cg)=3:=W;unfold uN;dsimp only;rw[if_neg q];rfl)
 refine hp0.res λw S v N=>Pl ?_ (λi c' d v q1 q2 N=> ?_) N
 .rfl
 match i with
 |0=>cases q1;cases q2;exact N
 |1=>cases q1;cases q2;exact N
 |2=>cases q1;cases q2;exact N
 |3=>cases q1;cases q2;exact N
 |4=>cases q1;cases q2;exact N
 |5=>cases q1;cases q2;exact fS (n:=c.key.n) (f:=gk) (g:=λi=>aY.cells (c.key.f i)) hg' N
 |6=>cases q1;cases q2;exact N
 |7=>cases q1;cases q2;exact N
 |8=>cases q1;cases q2;exact N
 |9=>cases q1;cases q2;exact N
 |i+10=>cases q1
def cc8:Env:=aF 165 (bN (a1 (af dh)) (λc=>(af dh).au (uN c)) λc=>K5 c.key) (aF 166 (bN (a1 (af dh)) (λc=>Bo (C3 c)) λc=>c.key.n<=aq/\c.jb<=3) (aF 127 (bN (a1 (ak aC)) (λx=>I (bV x)) wf) (aF 163 (bN (a1 (ak aC)) (λl=>Bo (qw l)) λl=>l.n<=aq) (aF 164 (bN (a1 aQ) λs=>I (qk s)) (aF 161 (bN (a2 (ak y_) aQ) (λx=>Bo (ar x.1.n λi=>decide (x.1.f i=x.2))) λx=>x.1.n<=aq) (aF 162 (λaa=>match aa with
 | []=>some ((ak y_).au BQ,[])
 |_=>none) EN))))))
def bn1:an P cc8:=ah (ah (ah (ah (ah (ah (gi aw λaa r ob O h2=>by
 split at O
 .cases O;exact ag2
 .cases O) λx h=>KO x.1 x.2 h) λs _=>XL s) λl h=>ag5 l h) Bj) λc h=>ag8 c h.1 h.2) UT
def aU1 {s:y_}:(C0 s=true->qk s=kg s/\kg s≠0)/\(C0 s=false->kg s=0)/\qk s<=3:=by unfold C0 qk kg;have O: ¬oG=xg:=dD;have h2: ¬yE=xg:=dD;grind
def UU(c:dh)(h:wf c)(h40:c.key.n*40<=aq):Ok P 93 [(af dh).au c] (Bo<|yW c):=by
 have hk:=h.2.2.2.2.2.1;have hn:=hk.1;obtain⟨l1,l2,l3⟩:=aU1 (s:=c.cg);have hko:qw c.key=true->K5 c.key:=λq=>⟨by
  unfold qw at q;obtain⟨i,hi,_⟩:=cG.1 (uI (cn q).1);omega,h40⟩
 have hke:Ny c.key=0↔bV c.key=0/\qw c.key=true:=by unfold Ny;grind
 have hkn:=aP1 c;have hp:Cm c (qk c.cg)=(uN c).phase:=rfl;have hu:(uN c).gf=if(uN c).phase=3 then iE c.key lX else n_:=rfl
 have hpm:qk c.cg=kg c.cg->Cm c (kg c.cg)=(uN c).phase:=λq=>by rw[<-q];rfl
 have hpv:(uN c).phase=1\/(uN c).phase=2\/(uN c).phase=3:=by rw[<-hp];unfold Cm;grind
 clear hp;refine al bn1 L0 (let V:ix:=(.k (a1<|af dh) c (c.key.n<=aq/\c.jb<=3)<|.n (C3 c) (.e<|Bo<|(c.iV.size:Int)==32)<|.e<|Bo<|dN c.iV (n_:y_));let aG:ix:=bI;let bn:=dN c.gf (uN c).gf;let aS:ix:=(.m bn aG<|.n (!((uN c).phase==2)==(c.err==28)) aG<|.n (!(uN c).phase==2) (.u c.err 0 aG V) V);let Z:ix:=(.k (a1<|ak aC) c.key (wf c.key)<|.u (bV c.key) 0 aG<|.k (a1<|ak aC) c.key (c.key.n<=140737488351232)<|.m (qw c.key) aG<|.u c.own.size 32 aG<|.d (c.jb<0) aG<|.v (a1 aQ) c.cg<|.d (c.jb>qk c.cg) aG<|.k (a1<|af dh) c (K5 c.key)<|.q c.phase 4 (.n (!(uN c).phase==2) (.u c.phase ((uN c).phase) aG aS) aS)<|.s .fN<|.u c.phase ((uN c).phase) aG<|.m bn aG<|.n (!false==(c.err==28)) aG<|.s .fN<|.u c.err 0 aG V);(.d (c.id<0) aG<|.d (c.id>1048575) aG<|.k (a2 (ak y_) aQ) (bh.mk 3 BQ.f,c.cg) (3<=140737488351232)<|.m (ar 3 λi=>decide (BQ.f i=c.cg)) aG<|.u c.ig 1 (.u c.ig 2 aG Z) Z)) ?_;try dsimp only
 rw[Ul];simp only[av,bK,bO,ev,jR,rL,sN,gl,nM,aL]
 (repeat' with_reducible first|intro _|apply aNd_)<;>first|exact aM|exact hko W|(refine ba Bo ?_;unfold yW;clear h hk hn hko h40;generalize Cm c (kg c.cg)=pm at*;generalize (uN c).phase=ph at*;generalize (uN c).gf=us at*;generalize kg c.cg=mm at*;generalize qk c.cg=ll at*;generalize HT c=rk at*;generalize C3 c=kn at*;generalize Ny c.key=ke at*;generalize bV c.key=at_ at*;generalize qw c.key=ik at*;generalize iE c.key lX=fu at*;generalize c.own.size=zo at*;generalize C0 c.cg=pb at*;rw[ea];simp only[bp,ev];grind)
def cvB(a:jU)(i:Nat):Bool:=decide<|(a.eo.f i).id<1\/a.next<=(a.eo.f i).id\/(0<i/\(a.eo.f i).id<=(a.eo.f<|i-1).id)\/(sh (a.eo.f i)=false/\yW (a.eo.f i)=false)
def Yb(a:jU)(i:Nat):cvB a i=true↔((a.eo.f i).id<1\/a.next<=(a.eo.f i).id\/(0<i/\(a.eo.f i).id<=(a.eo.f<|i-1).id)\/(sh (a.eo.f i)=false/\yW (a.eo.f i)=false)):=bp
def Ro(l:bh (bh aC)):Prop:=l.n<=aq/\∀i,i<l.n->wf (l.f i)/\(l.f i).n*40<=aq
def EAg:Env:=aF 91 (bN (a1<|af jU) (λa=>Bo (vX a.dv)) λa=>Ro a.dv)<|aF 92 (bN (a1<|af dh) λc=>Bo (sh c))<|aF 93 (bN (a1<|af dh) (λc=>Bo (yW c)) λc=>wf c/\c.key.n*40<=aq) EN
def aU2:an P EAg:=ah (ah (ah aw λc h=>UU c h.1 h.2) λc _=>ah0 c) λa h=>bm9 a h.2 h.1
def JG(a:jU):Bool:=decide<|vM a.l0 a.zx=0/\1<=a.next/\a.next<=1048560/\0<=a.count/\a.count<=9007199254740991/\a.eo.n<=32/\vX a.dv=true/\ar a.eo.n (cvB a)=false
def UW(a:jU)(hk:Ro a.dv)(hn:a.eo.n<=aq)(Y:∀i,i<a.eo.n->wf (a.eo.f i)/\(a.eo.f i).key.n*40<=aq):Ok P 42 [(af jU).au a] (Bo<|JG a):=by
 have lp:=fF f42 6 a.eo.n (cvB a) (λi=>(M 100 [(1,aT),(2,aP),(56,(ak dh).au a.eo),(57,I a.eo.n),(58,I i)])) [(cM [aY.cells a] 6)] (eR<|M 100 [(2,aP)]) (ey 0<|M 100 [(2,aP)]) λi hi lt aW az aR=>by
  have hci:=Y i;refine ao aU2 L0 [1,2,56,57,58] [2] (let V:=a.eo.f i;let Z:nV:=(.v (a1<|af dh) V<|.m (sh V) (.k (a1<|af dh) V (wf V/\V.key.n*40<=aq)<|.m (yW V) (eH az)<|eG aW)<|eG aW);let aG:=oU ((i:Int)-1);(.d ((i:Int)<a.eo.n) (.g i a.eo.n<|.d (V.id<1) (eH az)<|.d (V.id>=a.next) (eH az)<|.d ((i:Int)>0) (.g aG a.eo.n<|.d (V.id<=(a.eo.f aG.toNat).id) (eH az) Z) Z)<|eY aR)) ?_;have Y:=Yb a i
  (have hiw:=lQ (k:=i) U;simp only[hiw,jF];clear hiw)
  simp only[av]
  (repeat' with_reducible first|intro _|apply aNd_)<;>first|exact aM|exact(hci U).1
 refine al aU2 (kR lp [1,2,56,57,58]) (let Z:ix:=bI;(.n (dN a.l0 (n_:y_)) Z<|.d ((a.l0.size:Int)>32) Z<|.d ((a.zx.size:Int)>1024) Z<|.d (a.next<1) Z<|.d (a.next>1048560) Z<|.d (a.count<0) Z<|.d (a.count>9007199254740991) Z<|.d ((a.eo.n:Int)>32) Z<|.d ((a.dv.n:Int)>64) Z<|.k (a1<|af jU) a (Ro a.dv)<|.m (vX a.dv) Z<|jS lp Z fo)) ?_;have hke:vX a.dv=true->a.dv.n<=64:=λh=>by unfold vX at h;rw[fG]at h;exact cn h.2
 have hnw:vM a.l0 a.zx=0↔ ¬a.l0=n_/\ ¬32<a.l0.size/\ ¬1024<a.zx.size:=by unfold vM;grind
 simp only[av,bK,bO,aL]
 (repeat' with_reducible first|intro _|apply aNd_)<;>first|exact aM|(refine ba Bo ?_;unfold JG;clear lp hk Y;generalize vX a.dv=kb at*;generalize ar a.eo.n (cvB a)=cb at*;generalize vM a.l0 a.zx=nw at*;rw[ea];simp only[bp];grind)
def ak9(g:qE)(d:cq):Ok P 45 [(af qE).au g,(uh cq).au d] (Bo<|decide<|g.id=d.iN):=by
 refine al aw L0 (.e<|Bo<|g.id==d.iN) ?_;simp only[av]
 repeat' with_reducible first|intro _|apply aNd_
 all_goals exact aM
def og(a:jU):Prop:=Ro a.dv/\a.eo.n<=aq/\∀i,i<a.eo.n->wf (a.eo.f i)/\(a.eo.f i).key.n*40<=aq
def Ef(pt:mP)(d:cq):Prop:=og d.fw/\∀i k,(pt<|(d.gM.dX.f i).fV.f k).size<=140737488355328
def EST(pt:mP)(pe:nF)(re:tW):Env:=Pp<|aF 45 (bN (a2 (af qE)<|uh cq) λq=>Bo (decide<|q.1.id=q.2.iN))<|aF 37 (bN (a1<|af cQ) (λx=>Bo (my x)) wf)<|aF 38 (bN (a1<|af eX) (λx=>Bo (HN x)) wf)<|aF 39 (bN (a1<|af mM) (λx=>Bo (vI x)) λx=>x.l.n<=aq)<|aF 40 (bN (a1<|af df) (λx=>Bo (HQ x)) wf)<|aF 41 (bN (a1<|af hJ) (λx=>Bo (mQ pt pe re x))<|Q2 pt)<|aF 42 (bN (a1<|af jU) (λx=>Bo (JG x)) og)<|aF 43 (bN (a1 aQ) (λs=>Bo (fj s)) λs=>s.size<=aq) EN
def bM9(pt:mP)(pe:nF)(rt:UE)(re:tW)(hp:iL 224 pt pe)(ht:lB 89 rt re):an P (EST pt pe re):=Pq<|ah (ah (ah (ah (ah (ah (ah (ah aw λs h=>uw s h) λx h=>UW x h.1 h.2.1 h.2.2) λx h=>UG pt pe rt re hp ht x h) λx h=>ag0 x h) λx h=>af3 x h) λx h=>Ue x h) λx h=>Kr x h) λq _=>ak9 q.1 q.2
def zW(pt:mP)(pe:nF)(re:tW)(w:oV)(d:cq):Prop:=(d.fe=1/\my d.bL=true)\/(d.fe=2/\HN d.iF=true)\/(d.fe=3/\vI d.pM=true)\/(d.fe=4/\HQ d.fp=true)\/(d.fe=5/\mQ pt pe re d.gM=true)\/(d.fe=6/\JG d.fw=true)\/(d.fe=7/\fj d.fY=true)\/(d.fe=8/\ar w.mw.n (λi=>decide ((w.mw.f i).id=d.iN))=true)\/d.fe=9\/(d.fe=10/\0<=d.Ez/\d.Ez<32)
instance(pt:mP)(pe:nF)(re:tW)(w:oV)(d:cq):Decidable (zW pt pe re w d):=by unfold zW;infer_instance
def zX(pt:mP)(pe:nF)(re:tW)(w:oV)(d:cq):Bool:=decide<|zW pt pe re w d
def Io(pt:mP)(pe:nF)(re:tW)(w:oV)(d:cq):zX pt pe re w d=true↔zW pt pe re w d:=bp
def aU3(pt:mP)(pe:nF)(rt:UE)(re:tW)(hp:iL 224 pt pe)(ht:lB 89 rt re)(w:oV)(d:cq)(hw:wf w)(h:wf d)(ha:Ef pt d):Ok P 17 [(af oV).au w,(af cq).au d] (Bo<|zX pt pe re w d):=by
 have O:=h.2.1;have h6:=ha.1;have h2:=h.2.2.1;have h3:=h.2.2.2.1.2.1;have h4:=h.2.2.2.2.1;have h5:Q2 pt d.gM:=⟨h.2.2.2.2.2.1,ha.2⟩
 have h7:d.fY.size<=aq:=h.2.2.2.2.2.2.2.1;have h8:=hw.2.2.2.2.1;refine al (bM9 pt pe rt re hp ht) L0 (let Z:=a2 (af qE) (uh cq);(.q d.fe 1 (.k (a1<|af cQ) d.bL (wf d.bL)<|.e<|Bo<|my d.bL)<|.q d.fe 2 (.k (a1<|af eX) d.iF (wf d.iF)<|.e<|Bo<|HN d.iF)<|.q d.fe 3 (.k (a1<|af mM) d.pM (d.pM.l.n<=140737488351232)<|.e<|Bo<|vI d.pM)<|.q d.fe 4 (.k (a1<|af df) d.fp (wf d.fp)<|.e<|Bo<|HQ d.fp)<|.q d.fe 5 (.k (a1<|af hJ) d.gM (Q2 pt d.gM)<|.e<|Bo<|mQ pt pe re d.gM)<|.q d.fe 6 (.k (a1<|af jU) d.fw (og d.fw)<|.e<|Bo<|JG d.fw)<|.q d.fe 7 (.k (a1 aQ) d.fY (d.fY.size<=140737488351232)<|.e<|Bo<|fj d.fY)<|.q d.fe 8 (.r ((ak qE).au w.mw)<|.o [w.mw.n<=140737488351232,∀(i:Nat),i<w.mw.n->Z.au (w.mw.f i,d)=Z.au (w.mw.f i,d)/\True/\True]<|.e<|Bo<|ar w.mw.n λi=>decide ((w.mw.f i).id=d.iN))<|.q d.fe 9 fo<|.q d.fe 10 (.d (d.Ez>=0) (.e<|Bo<|decide<|d.Ez<32) bI) bI)) ?_;simp only[av]
 (repeat' with_reducible first|intro _|apply aNd_)<;>first|exact aM|(clear hw h ha hp ht O h2 h3 h4 h5 h6 h7 h8;refine ba Bo ?_;rw[ea,Io];unfold zW;first|(simp [*];done)|(simp_all;done)|(simp_all<;>omega))
section
variable {α β:Type}{ts:l_ Nat}
def Yc(ps qs:l_ J):Prop:=ps.length=qs.length/\∀(i:Nat) p q,ps[i]?=some p->qs[i]?=some q->∀(w:World) (Sx:Nat->Prop) (v:Value),cf w Sx p v->cf w Sx q v
def Yc.append {a b c d:l_ J}(O:Yc a b)(h2:Yc c d):Yc (a++c) (b++d):=by
 refine⟨by simp [O.1,h2.1],λi p q q1 q2=> ?_⟩;by_cases hi:i<a.length
 .rw[dy hi]at q1;rw[dy (by rw[<-O.1];exact hi)]at q2;exact O.2 i p q q1 q2
 .rw[gj U]at q1;rw[gj (by rw[<-O.1];omega),<-O.1]at q2;exact h2.2 _ p q q1 q2
def Yc.one {p q:J}(h:∀(w:World) (Sx:Nat->Prop) (v:Value),cf w Sx p v->cf w Sx q v):Yc [p] [q]:=by
 refine⟨rfl,λi a b q1 q2=> ?_⟩;cases i with
 |zero=>simp at q1 q2;subst q1;subst q2;exact h
 |succ i=>simp at q1
def Lay(t:Nat)(c:α->l_ J)(G:α->Prop):Prop:=∀n ps,Ey P n t ps->∃x,G x/\Yc ps (c x)
def Nz(n:Nat):l_ Nat->l_ J->Prop
 | [],ps=>ps=[]
 |t::ts,ps=>Ey P n t (ps.take (P.cellsOf t))/\Nz n ts (ps.drop (P.cellsOf t))
def Rp(ts:l_ Nat)(c:α->l_ J)(G:α->Prop):Prop:=∀n ps,Nz n ts ps->∃x,G x/\Yc ps (c x)
def Rp.one {t:Nat} {c:α->l_ J} {G:α->Prop}(h:Lay t c G):Rp [t] c G:=λn ps hs=>by
 obtain⟨x,g,k⟩:=h n _ hs.1;refine⟨x,g,?_⟩;have h2:ps.drop (P.cellsOf t)=[]:=hs.2;have:=wu (P.cellsOf t) ps;rw[h2,List.append_nil]at this
 rwa [this]at k
def Rp.cons {t:Nat}{c:α->l_ J} {G:α->Prop} {d:β->l_ J} {K:β->Prop}(h:Lay t c G)(k:Rp ts d K):Rp (t::ts) (λx:α×β=>c x.1++d x.2) (λx=>G x.1/\K x.2):=λn ps hs=>by
 obtain⟨x,g1,c1⟩:=h n _ hs.1;obtain⟨y,g2,c2⟩:=k n _ hs.2;refine⟨(x,y),⟨g1,g2⟩,?_⟩;have:=c1.append c2
 rwa [wu]at this
theorem Ip {n:Nat} {ps:l_ J} {total:Nat}(hlen:ps.length=total):∀ {fs:l_ Field} {at_:Nat},qn P at_ fs total=true->(∀f∈fs,Ey P n f.type ((ps.drop f.offset).take<|P.cellsOf f.type))->Nz n (fs.map (·.type)) (ps.drop at_)
 | [],at_,ht,_=>by
  have:at_=total:=by simpa [qn]using ht
  exact Fg U
 |f::fs,at_,ht,hs=>by
  simp only[qn,fG]at ht;have bc4:f.offset=at_:=by grind
  have O:=hs f sS;rw[bc4]at O;refine⟨O,?_⟩;have:=Ip hlen ht.2 λg hg=>hs g (by simp [hg]);show Nz n (fs.map (·.type)) ((ps.drop at_).drop<|P.cellsOf f.type)
  rwa [xC]
def Lay.st {t:Nat} {fs:Array Field}{c:α->l_ J} {G:α->Prop} {d:β->l_ J} {K:β->Prop}(hu:P.underlying t=some (.struct fs))(ht:qn P 0 fs.toList (P.cellsOf t)=true)(hts:fs.toList.map (·.type)=ts)(h:Rp ts c G)(mk:α->β)(Y:∀x,c x=d (mk x))(hg:∀x,G x->K (mk x)):Lay t d K:=λn ps hs=>by
 cases n with
 |zero=>exact hs.elim
 |succ n=>
  unfold Ey at hs;rw[hu]at hs;obtain⟨O,h2⟩:=hs;have h3:=Ip O ht h2;rw[hts]at h3;obtain⟨x,g,k⟩:=h n ps h3;exact⟨mk x,hg x g,by rw[<-Y];exact k⟩
def Lay.arr {t k e:Nat}{c:α->l_ J} {G:α->Prop}(hu:P.underlying t=some (.array k e))(ht:qn P 0 (S9 e (P.cellsOf e) k 0) (P.cellsOf t)=true)(hts:(S9 e (P.cellsOf e) k 0).map (·.type)=ts)(h:Rp ts c G):Lay t c G:=λn ps hs=>by
 cases n with
 |zero=>exact hs.elim
 |succ n=>
  unfold Ey at hs;rw[hu]at hs;obtain⟨O,h2⟩:=hs;have h3:=Ip O ht h2;rw[hts]at h3;exact h n ps h3
def Yd {t:Nat}(hu:P.underlying t=some (.int .i64)):Lay t (λx:Int=> [I x]) wf:=λn ps hs=>by
 cases n with
 |zero=>exact hs.elim
 |succ n=>
  unfold Ey at hs;rw[hu]at hs;obtain⟨i,rfl,h2⟩:=hs;exact⟨i,wf_i64 h2,Yc.one λ_ _ _ h=>h⟩
def bn2 {t:Nat}(hu:P.underlying t=some .string):Lay t (λx:ByteArray=> [S x]) wf:=λn ps hs=>by
 cases n with
 |zero=>exact hs.elim
 |succ n=>
  unfold Ey at hs;rw[hu]at hs;obtain⟨s,rfl,h2⟩:=hs;exact⟨s,h2,Yc.one λ_ _ _ h=>h⟩
def aU4 {t:Nat}(hu:P.underlying t=some .bool):Lay t (λx:Bool=> [Bo x]) wf:=λn ps hs=>by
 cases n with
 |zero=>exact hs.elim
 |succ n=>
  unfold Ey at hs;rw[hu]at hs;obtain⟨b,rfl⟩:=hs;exact⟨b,trivial,Yc.one λ_ _ _ h=>h⟩
def bN0 {w:World} {Sx:Nat->Prop} {es:l_ (l_ J)} {g:Nat->l_ J} {v:Value}(h:∀(i:Nat) e,es[i]?=some e->Yc e (g i))(N:cf w Sx (.ro es) v):cf w Sx (.rf es.length g) v:=by
 refine .rf _ _ _ ?_;have hgl:((List.range es.length).map g).length=es.length:=sS;have hg:∀(i:Nat) e,((List.range es.length).map g)[i]?=some e->i<es.length/\e=g i:=λi e F=>by
  rw[b9]at F;by_cases hi:i<es.length
  .rw[qh hi]at F;exact⟨hi,(ku F).symm⟩
  .rw[gx (by simp;omega)]at F;cases F
 generalize (List.range es.length).map g=gs at hgl hg⊢;cases N with
 |Fu a cap=>
  obtain rfl:=oL hgl;exact .Fu a cap
 |ro es b o cap sz c et fz hS hb hz hn iq Y=>
  rw[<-hgl];refine .ro _ b o cap sz c et fz hS hb ?_ (by rw[hgl];exact hn) (by rw[hgl];exact iq) ?_
  .intro e F;obtain⟨i,hi⟩:=mY F;obtain⟨h3,rfl⟩:=hg i e hi;have h4:=bX h3;rw[<-(h i _ h4).1];exact hz _<|cw h4
  .intro i j e p v q1 q2 q3;obtain⟨h3,rfl⟩:=hg i e q1;have h4:=bX h3;have e1:=h i _ h4;have hj:j<es[i].length:=by rw[e1.1];exact(bm.1 q2).1
   have h5:=bX hj;exact e1.2 j _ p h5 q2 _ _ _<|Y i j _ _ v h4 h5 q3
def yk [aY α] [Wf α] {t e b:Nat} {G:α->Prop}(d:α)(hd:G d)(hu:P.underlying t=some (.slice e))(hb:P.bytesOf e=b)(h0:0<b)(h:Lay e (aY.cells:α->l_ J) G):Lay t (λx:bh α=> [(ak α).au x]) (λx=>x.n<=aq/\x.n*b<=aq/\∀i,G (x.f i)):=λn ps hs=>by
 cases n with
 |zero=>exact hs.elim
 |succ n=>
  unfold Ey at hs;rw[hu]at hs;obtain⟨es,rfl,h2,h3⟩:=hs;rw[hb]at h2;have key:∀i:Nat,∃x:α,G x/\∀y,es[i]?=some y->Yc y (aY.cells x):=λi=>by
   cases hi:es[i]? with
   |none=>exact⟨d,hd,λy hy=>by cases hy⟩
   |some y=>
    obtain⟨x,g,k⟩:=h n y<|h3 y<|cw hi;exact⟨x,g,λz hz=>by cases hz;exact k⟩
  have hle:es.length<=es.length*b:=Nat.le_mul_of_pos_right _ h0;refine⟨⟨es.length,λi=>(key i).choose⟩,⟨cm hle h2,h2,λi=>(key i).choose_spec.1⟩,Yc.one λw Sx v N=> ?_⟩;exact bN0 (λi y hy=>(key i).choose_spec.2 y hy) N
def Lay.imp {t:Nat} {c:α->l_ J} {G K:α->Prop}(h:Lay t c G)(hk:∀x,G x->K x):Lay t c K:=λn ps hs=>by obtain⟨x,g,k⟩:=h n ps hs;exact⟨x,hk x g,k⟩
def NA [aY α] [Wf α] {t e b:Nat}(d:α)(hd:wf d)(hu:P.underlying t=some (.slice e))(hb:P.bytesOf e=b)(h0:0<b)(h:Lay e (aY.cells:α->l_ J) wf):Lay t (λx:bh α=> [(ak α).au x]) wf:=
 (yk d hd hu hb h0 h).imp λ_ q=>⟨q.1,q.2.2⟩
end
end
end Go.Proofs.YtnpcbfcfcjdhlaaGreatDoor
namespace Go.PS
section
open Go.RowKit Go.Proofs.YtnpcbfcfcjdhlaaGreatDoor
section
variable {w:World}{v x y:Value}{p:J}
def NB {S:Nat->Prop} {α:Type} [aY α] {x:bh α} {v:Value}(N:cf w S ((ak α).au x) v):
  ∃a cap,v= .slice a x.n cap/\∀k,k<x.n->∃b o sz c et fz,a=some ⟨b,o,none⟩/\S b/\w.heap[b]?=some (.cells c et fz)/\(aY.cells<|x.f k).length=sz/\∀j p,(aY.cells<|x.f k)[j]?=some p->∃u,c[o+k*sz+j]?=some u/\cf w S p u:=by
 cases N with
 |rf n f _ N=>
  generalize kC:(List.range x.n).map (λi=>aY.cells (x.f i))=es at N;have hl:es.length=x.n:=by rw[<-kC];simp
  cases N with
  |Fu a cap=>
   have h0:x.n=0:=by rw[<-hl];rfl
   exact⟨a,cap,by rw[h0],λk hk=>absurd hk U⟩
  |ro es b o cap sz c et fz hS hb hz hn iq Y=>
   refine⟨some ⟨b,o,none⟩,cap,by rw[hl],λk hk=> ?_⟩;have Cl:es[k]?=some (aY.cells<|x.f k):=by rw[<-kC,b9,qh hk];rfl
   have hz':=hz _<|cw Cl;refine⟨b,o,sz,c,et,fz,rfl,hS,hb,hz',λj p hj=> ?_⟩;have Cj:j<sz:=by rw[<-hz'];exact(bm.1 hj).1
   have iH:o+k*sz+j<c.size:=by have O:(k+1)*sz<=es.length*sz:=il _ U;rw[ed,sO]at O;omega
   exact⟨c[o+k*sz+j],jc iH,Y k j _ p _ Cl hj<|jc iH⟩
def Ok.call {P:Program} {f:FuncId} {args:l_ J} {r:J}(h:Ok P f args r) {w w':World} {Sa:Nat->Prop}(vs:l_ Value)(hG:GI P w)(hS:∀b,Sa b->b<w.heap.size)(hb:Below w.heap.size w w')(hl:vs.length=args.length)(ha:∀(i:Nat) p v,args[i]?=some p->vs[i]?=some v->cf w Sa p v):
  Calls P f vs.toArray w' λe w2=>∃v S2,e= .returned v/\Below w'.heap.size w' w2/\cf w2 S2 r v:=by
 refine(h.2 w' Sa vs (hG.below hb) (λb q=>uY (hS b q) hb.size) hl λi p v q1 q2=>(ha i p v q1 q2).later (λ_ q=>q) λb q=>hb.block b (hS b q)).mono ?_;rintro e w2 ⟨v,O,h2,h3⟩;exact⟨v,_,O,h2,h3⟩
def yl {S:Nat->Prop} {u:Value}(h:cf w S (.sc u) v):v=u:=by cases h;rfl
def aU5 {S:Nat->Prop} {a b:Value}(h:cf w S (.bg [.sc a,.sc b]) v):v= .tuple #[a,b]:=by
 cases h with
 |bg _ vs hl Y=>
  obtain⟨l⟩:=vs
  match l,hl with
  | [x,y],_=>
   have h0:=yl<|Y 0 _ x rfl rfl;have O:=yl<|Y 1 _ y rfl rfl;rw[h0,O]
def Ok.K6 {P:Program} {f:FuncId}{b:Bool}(h:Ok P f [p] (.sc<|.bool b)) {w w':World} {Sa:Nat->Prop} {u:Value}(hG:GI P w)(hS:∀b,Sa b->b<w.heap.size)(hb:Below w.heap.size w w')(ha:cf w Sa p u):
  Calls P f #[u] w' λe w2=>e= .returned (.bool b)/\Below w'.heap.size w' w2:=by
 refine(h.call [u] hG hS hb rfl λi q v q1 q2=> ?_).mono ?_
 .match i with
  |0=>simp at q1 q2;subst q1;subst q2;exact ha
  |i+1=>simp at q1
 .rintro e w2 ⟨v,S2,O,h2,h3⟩;exact⟨by rw[O,yl h3],h2⟩
def Ok.by0 {P:Program} {f:FuncId}(h:Ok P f [p] (.bg [.sc x,.sc y])) {w w':World} {Sa:Nat->Prop} {u:Value}(hG:GI P w)(hS:∀b,Sa b->b<w.heap.size)(hb:Below w.heap.size w w')(ha:cf w Sa p u):
  Calls P f #[u] w' λe w2=>e= .returned (.tuple #[x,y])/\Below w'.heap.size w' w2:=by
 refine(h.call [u] hG hS hb rfl λi q v q1 q2=> ?_).mono ?_
 .match i with
  |0=>simp at q1 q2;subst q1;subst q2;exact ha
  |i+1=>simp at q1
 .rintro e w2 ⟨v,S2,O,h2,h3⟩;exact⟨by rw[O,aU5 h3],h2⟩
def ok_two {P:Program} {f:Nat}(F:enters P f=true)(h:∀(w:World) (Sa:Nat->Prop) u,GI P w->(∀b,Sa b->b<w.heap.size)->cf w Sa p u->Calls P f #[u] w λe w'=>e= .returned (.tuple #[x,y])/\Below w.heap.size w w'):Ok P f [p] (.bg [.sc x,.sc y]):=by
 refine⟨F,λw Sa vs hG hS hl ha=> ?_⟩
 match vs,hl with
 | [u],_=>
  refine(h w Sa u hG hS<|ha 0 p u rfl rfl).mono ?_;rintro e w' ⟨O,h2⟩;refine⟨_,O,h2,.bg _ _ rfl λi c v q1 q2=> ?_⟩
  match i with
  |0=>simp at q1 q2;subst q1;subst q2;exact .sc _
  |1=>simp at q1 q2;subst q1;subst q2;exact .sc _
  |i+2=>simp at q1
end
end
end Go.PS
namespace Go.Proofs.YtnpcbfcfcjdhlaaGreatDoor
section
open Go.PS Wf
def qy(s:y_):y_:=mK<|qt s
def uO(s:y_):qy s=qt s:=ni _
def zY(s:y_):(qt s).size<=2*s.size+2:=by
 unfold qt;split
 .have h:=Bl s.data.toList s.size;unfold Kl at h;rw[Lib.size_eq,Ao,<-Lib.size_eq]at h;rw[jG,iP,br,List.length_singleton];omega
 .omega
def by1(n:Nat):ar n (λ_=>false)=false:=bc.2 λ_ _=>rfl
def Ye(s:y_):Prop:=s.size<=1024
def EPr:Env:=aF 168 (bN (a1 aQ) (λs=>S (qy s)) Ye)<|aF 167 (bN (a1<|ak aC) (λl=>I (bV l)) wf) EN
def aU6:an P EPr:=ah (ah aw x7) λs h=>by rw[uO];exact ZU s h
def lh(l:bh aC):Nat->y_
 |0=>⟨#[]⟩
 |i+1=>if(l.f i).dq=true then(if 0<i then lh l i++⟨#[32]⟩else lh l i)++(l.f i).name++⟨#[63]⟩else(if 0<i then lh l i++⟨#[32]⟩else lh l i)++(l.f i).name++⟨#[61]⟩++qy (l.f i).value
def B3 {l:bh aC}(h:bV l=0)(i:Nat)(hi:i<l.n):i<32/\(l.f i).name.size<=64/\(l.f i).value.size<=1024:=by
 unfold bV at h;by_cases hb:ar l.n (ML l)=true
 .rw[if_pos hb]at h;exact absurd h<|cn<|dC<|dw.2 hb
 .have hb:=bc.1 (jY.2 hb) i hi;have Y:=Fl.1 (fW hb);unfold lf at Y;by_cases O:32<=i
  .rw[if_pos O]at Y;omega
  .rw[if_neg O]at Y;by_cases h2:qF (l.f i).name.data.toList=false
   .rw[if_pos h2]at Y;omega
   .rw[if_neg h2]at Y;split at Y
    .omega
    .split at Y
     .omega
     .rename_i h4;refine⟨U,?_,U⟩;have h2:qF (l.f i).name.data.toList=true:=by grind
      unfold qF gn at h2;have h3:=cn (Bool.and_eq_true_iff.1 h2).1;rw[Lib.size_eq];have h5:(l.f i).name.data.toList.length<=(Ke (l.f i).name.data.toList).length+1:=by
       unfold Ke;split
       .rw[jX];omega
       .omega
      omega
theorem uP(l:bh aC)(h:bV l=0):∀i,i<=l.n->(lh l i).size<=4096*i
 |0,_=>bJ _
 |i+1,hi=>by have ih:=uP l h i U;obtain⟨_,h2,h3⟩:=B3 h i U;have hq:=zY (l.f i).value;rw[<-uO]at hq;have z:∀b:UInt8,(⟨#[b]⟩:y_).size=1:=λ_=>rfl;unfold lh;split<;>split<;>simp only[fy,z]<;>omega
def tP(l:bh aC):J:=if bV l≠0 then .bg [S n_,I<|bV l]else .bg [S<|lh l l.n,I 0]
def K7(l:bh aC)(h:wf l):Ok P 96 [(ak aC).au l] (tP l):=by
 have hn:=h.1;have lp:bV l=0->_:=λh0=>by
  have lq:=yM f96 6 l.n (λ_=>false) (λi=>(M 51 [(0,(ak aC).au l),(5,S<|lh l i),(6,I i)])) [] (eR<|M 51 [(2,.dF),(3,.dF)]) (ey 0<|M 51 [(5,S<|lh l l.n)]) λi hi lt aW az aR=>by
   have hl:=uP l h0 i hi;have ha:=B3 h0 i;have hqq:=zY (l.f i).value;rw[<-uO]at hqq;have zb:∀b:UInt8,(⟨#[b]⟩:y_).size=1:=λ_=>rfl;have hs:i<l.n->lh l (i+1)=if(l.f i).dq=true then(if 0<i then lh l i++⟨#[32]⟩else lh l i)++(l.f i).name++⟨#[63]⟩else(if 0<i then lh l i++⟨#[32]⟩else lh l i)++(l.f i).name++⟨#[61]⟩++qy (l.f i).value:=λ_=>rfl
   refine ao aU6 L0 [0,5,6] [2,3,10005] (let Z:=(⟨#[32]⟩:y_);let V:=(⟨#[61]⟩:y_);let aG:=(6,I<|oU<|(i:Int)+1);let aS:=(⟨#[63]⟩:y_);let bn:=(0,(ak aC).au l);let bH:=lh l i++Z++(l.f i).name;let cp:=lh l i++(l.f i).name;let cu:=qy (l.f i).value;let dk:=Ye (l.f i).value;(.d ((i:Int)<l.n) (.d ((i:Int)>0) (.o [(lh l i).size+(Z).size<=9223372036854775807]<|.g i l.n<|.g i l.n<|.o [(lh l i++Z).size+(l.f i).name.size<=9223372036854775807]<|.n ((l.f i).dq) (.o [bH.size+(aS).size<=9223372036854775807]<|bR (M 51 [bn,(5,S<|lh l i++Z++(l.f i).name++aS),aG]) [])<|.o [bH.size+(V).size<=9223372036854775807]<|.g i l.n<|.k (a1 aQ) (l.f i).value dk<|.o [(lh l i++Z++(l.f i).name++V).size+cu.size<=9223372036854775807]<|bR (M 51 [bn,(5,S<|lh l i++Z++(l.f i).name++V++qy (l.f i).value),aG]) [])<|.g i l.n<|.g i l.n<|.o [(lh l i).size+(l.f i).name.size<=9223372036854775807]<|.n ((l.f i).dq) (.o [cp.size+(aS).size<=9223372036854775807]<|bR (M 51 [bn,(5,S<|lh l i++(l.f i).name++aS),aG]) [])<|.o [cp.size+(V).size<=9223372036854775807]<|.g i l.n<|.k (a1 aQ) (l.f i).value dk<|.o [(lh l i++(l.f i).name++V).size+cu.size<=9223372036854775807]<|bR (M 51 [bn,(5,S<|lh l i++(l.f i).name++V++qy (l.f i).value),aG]) [])<|fv 0 (M 51 [(5,S<|lh l i)]) [])) ?_;have Y:=(di:False↔False)
   simp only[av]
   (repeat' with_reducible first|intro _|apply aNd_)<;>first|exact aM|(show(l.f i).value.size<=1024;omega)|(simp only[fy,zb];omega)|(have q:(l.f i).dq=true:=W;have gg:=aW U rfl;rw[hs U,if_pos q,if_pos (show 0<i by omega)]at gg;rw[bZ (n:=l.n) U hn];exact gg)|(have q:(l.f i).dq=true:=W;have gg:=aW U rfl;rw[hs U,if_pos q,if_neg (show ¬0<i by omega)]at gg;rw[bZ (n:=l.n) U hn];exact gg)|(have q:(l.f i).dq=false:=W;have gg:=aW U rfl;rw[hs U,if_neg (show ¬(l.f i).dq=true from λe=>by rw[q]at e;cases e),if_pos (show 0<i by omega)]at gg;rw[bZ (n:=l.n) U hn];exact gg)|(have q:(l.f i).dq=false:=W;have gg:=aW U rfl;rw[hs U,if_neg (show ¬(l.f i).dq=true from λe=>by rw[q]at e;cases e),if_neg (show ¬0<i by omega)]at gg;rw[bZ (n:=l.n) U hn];exact gg)|(have e:i=l.n:=U;subst e;exact aR rfl)
  exact lq
 refine al aU6 (iy [0,5,6] (l.n) (λ_=>false) (λi=>(M 51 [(2,.dF),(3,.dF)])) (M 51 [(5,S<|lh l l.n)]) (.ext 0) (λi=> []) []) (let V:=(n_:y_);let Z:=(M 51 [(0,(ak aC).au l),(5,S V),(6,I 0)]);(.k (a1<|ak aC) l (wf l)<|.u (bV l) 0 (.e<|J.bg [S V,I<|bV l])<|.n (ar l.n λx=>false) (.o [ax P (aD f96 6) Z [] (Out.ret) (M 51 [(2,J.dF),(3,J.dF)]) []]<|.e<|J.bg [J.rf 0 λi=> [],J.rf 0 λi=> []])<|.o [ax P (aD f96 6) Z [] (Out.ext 0) (M 51 [(5,S<|lh l l.n)]) []]<|.e<|J.bg [S<|lh l l.n,I 0])) ?_;simp only[av]
 (repeat' with_reducible first|intro _|apply aNd_)<;>first|exact aM|(exact absurd (show(ar l.n λ_=>false)=true by assumption) (by rw[by1];simp))|(unfold tP;rw[if_pos W])|(unfold tP;rw[if_neg<|cI W])
section
variable {x:bh y_}
def tQ(x:bh y_):Nat->Nat
 |0=>0
 |i+1=>tQ x i+(x.f i).size
def cY(sep:y_)(x:bh y_):Nat->y_
 |0=>⟨#[]⟩
 |i+1=>(if i=0 then cY sep x i else cY sep x i++sep)++x.f i
theorem NC(h:∀i,(x.f i).size<=aq):∀i,tQ x i<=i*aq
 |0=>bJ _
 |i+1=>by have:=NC h i;have:=h i;rw[ed];show tQ x i+_<=_;omega
def al0(x:bh y_) {i j:Nat}(h:i<=j):tQ x i<=tQ x j:=by
 induction j with
 |zero=>rw[Nat.le_zero.1 h];exact bE _
 |succ j ih=>
  by_cases hj:i=j+1
  .rw[hj];exact bE _
  .have:=ih U;show _<=tQ x j+_;omega
theorem pv(sep:y_)(x:bh y_):∀i,(cY sep x<|i+1).size=tQ x (i+1)+i*sep.size
 |0=>by
  show((if(0:Nat)=0 then(n_:y_)else _)++x.f 0).size=0+(x.f 0).size+0*sep.size;rw[if_pos rfl,fy];simp;rfl
 |i+1=>by have:=pv sep x i;show((if i+1=0 then _ else cY sep x (i+1)++sep)++x.f (i+1)).size=tQ x (i+1)+(x.f (i+1)).size+(i+1)*sep.size;rw[if_neg U,fy,fy,this,ed];omega
theorem K8(sep a:l_ UInt8):∀l:l_ (l_ UInt8),l≠ []->Lib.join (l++ [a]) sep=Lib.join l sep++sep++a
 | [],h=>absurd rfl h
 | [b],_=>by simp [Lib.join,List.intercalate]
 |b::c::l,_=>by have:=K8 sep a (c::l) sS;unfold Lib.join at this⊢;rw[AE,AE,List.intercalate_cons_cons,<-AE,this,List.intercalate_cons_cons];simp [List.append_assoc]
theorem ss(sep:y_)(x:bh y_):∀i,B (Lib.join ((List.range i).map λj=>(x.f j).data.toList) sep.data.toList)=cY sep x i
 |0=>rfl
 |i+1=>by
  have ih:=ss sep x i;rw[qi,mr,List.map_cons,List.map_nil];show _=(if i=0 then cY sep x i else cY sep x i++sep)++x.f i;by_cases hi:i=0
  .subst hi;show B (Lib.join [(x.f 0).data.toList] sep.data.toList)=n_++x.f 0;rw[Lib.join_one];exact sK (by simp [B])
  .rw[K8 _ _ _<|by simp [hi],if_neg hi,<-ih,<-jP,<-jP];rfl
def EJ:Env:=aF 129 (bN (a2 (ak y_) aQ) (λx=>S (B<|Lib.join (pO x.1) x.2.data.toList)) λx=>x.1.n<=140737488355328/\(Lib.join (pO x.1) x.2.data.toList).length<=140737488355328) E16
def Iq:an P EJ:=ah bH9 λx h=>FD x.1 x.2 h.1 h.2
def JH(x:bh y_)(i:Nat):Bool:=(x.f i).data.toList.contains 0
def B4(x:bh y_)(i:Nat):Bool:=decide<|(65536:Int)<(x.n:Int)-1+(tQ x (i+1):Nat)
def Dn(x:bh y_)(i:Nat):B4 x i=true↔(65536:Int)<(x.n:Int)-1+(tQ x (i+1):Nat):=bp
def qc(x:bh y_):Int:=if x.n=0 then 1 else if 256<x.n then 22 else if ar x.n (JH x)=true then 2 else if ar x.n (B4 x)=true then 4 else 0
def ED(x:bh y_):y_:=if qc x=0 then cY ⟨#[0]⟩ x x.n else n_
def K9(h:0<x.n):ar x.n (B4 x)=decide (65536<tQ x x.n+(x.n-1)):=by
 rw[ea,bp,cG];constructor
 .rintro⟨i,O,h2⟩;have:=(Dn x i).1 h2;have:=al0 x (show i+1<=x.n by omega);omega
 .intro O;refine⟨x.n-1,U,(Dn x _).2 ?_⟩;rw[show x.n-1+1=x.n by omega];omega
def ND {k:Int}(h:qc x=k)(hk:k≠0):J.bg [S n_,I k]=J.bg [S<|ED x,I<|qc x]:=by subst h;unfold ED;rw[if_neg hk]
def Yf(h:qc x=0):J.bg [S<|cY ⟨#[0]⟩ x x.n,I 0]=J.bg [S<|ED x,I<|qc x]:=by unfold ED;rw[h,if_pos rfl]
def bn3(h0:0<x.n)(h:ar x.n (B4 x)=false):(cY ⟨#[0]⟩ x x.n).size<=65536:=by rw[K9 h0,bO]at h;have:=pv ⟨#[0]⟩ x<|x.n-1;rw[show x.n-1+1=x.n by omega,show(⟨#[0]⟩:y_).size=1 from rfl]at this;omega
def UX(x:bh y_)(h:wf x):Ok P 77 [(ak y_).au x] (.bg [S<|ED x,I<|qc x]):=by
 have hn:=h.1;by_cases OT:x.n<=256
 .have hw:∀i,i<=x.n->oU ((x.n:Int)-1+(tQ x i:Nat)+((x.f i).size:Nat))=(x.n:Int)-1+(tQ x (i+1):Nat):=by
   intro i hi;have O:=NC h.2 i;have h2:(x.f i).size<=aq:=h.2 i;have h3:=il aq (show i<=256 by omega);unfold aq at O h2 h3;rw[wrap64 U U];show _=(x.n:Int)-1+((tQ x i+(x.f i).size:Nat):Int)
   omega
  have lp:=yM f77 9 x.n (B4 x) (λi=>(M 36 [(0,(ak y_).au x),(2,S n_),(3,I 0),(4,I<|(x.n:Int)-1+(tQ x i:Nat)),(21,(ak y_).au x),(22,I x.n),(23,I i)])) [] (eR<|M 36 [(0,(ak y_).au x),(2,S n_),(3,I 4)]) (ey 1<|M 36 [(0,(ak y_).au x),(2,S n_),(3,I 0)]) λi hi lt aW az aR=>by refine ao Iq L0 [0,2,3,4,21,22,23] [0,2,3] (let Z:=(x.n:Int)-1+(↑(tQ x i):Int)+(↑(x.f i).size:Int);let V:=(ak y_).au x;let aG:=(2,S (n_:y_));(.d ((i:Int)<x.n) (.g i x.n<|.d (oU Z>65536) (eH az)<|bR (M 36 [(0,V),aG,(3,I 0),(4,I<|oU Z),(21,V),(22,I x.n),(23,I<|oU<|(i:Int)+1)]) [])<|fv 1 (M 36 [(0,V),aG,(3,I 0)]) [])) ?_;have Y:=Dn x i;simp only[hw i hi];exact ft
  rw[show(x.n:Int)-1+(tQ x 0:Nat)=oU ((x.n:Int)-1)from by rw[lQ hn];exact Int.add_zero _]at lp;refine al Iq (kR lp [0,2,3,4,21,22,23]) (let Z:=S (n_:y_);let V:=Lib.join (pO x) (#[0]:Array UInt8).toList;(.q x.n 0 (.e<|J.bg [Z,I 1])<|.d ((x.n:Int)>256) (.e<|J.bg [Z,I 22])<|.r ((ak y_).au x)<|.o [x.n<=140737488351232,∀(i:Nat),i<x.n->(a1 aQ).au (x.f i)=(a1 aQ).au (x.f i)/\True/\True]<|.n (ar x.n λi=>(x.f i).data.toList.contains 0) (.e<|J.bg [Z,I 2])<|jS lp (.e<|J.bg [Z,I 4])<|.k (a2 (ak y_) aQ) (x,(⟨#[0]⟩:y_)) (x.n<=140737488355328/\V.length<=140737488355328)<|.e<|J.bg [S<|B V,I 0])) ?_;have hj:=ss ⟨#[0]⟩ x x.n;have Cj:x.n≠0->ar x.n (B4 x)=false->(Lib.join (pO x) (⟨#[0]⟩:y_).data.toList).length<=140737488355328:=λO h2=>by have:=bn3 U h2;rw[<-hj,jG]at this;exact cm this dD
  have h0:ar x.n (JH x)=ar x.n λi=>(x.f i).data.toList.contains 0:=rfl;simp only[av,bK,bO,ev,jR]
  (repeat' with_reducible first|intro _|apply aNd_)<;>first|exact aM|exact Cj U W|exact ND (by unfold qc;rw[h0];exact spL) dD|exact(ba (λs=>J.bg [S s,I 0]) hj).trans<|Yf (by unfold qc;rw[h0];exact spL)
 .have hE:qc x=22:=by unfold qc;rw[if_neg U,if_pos U]
  have hT:ED x=n_:=by unfold ED;rw[hE];rfl
  rw[hE,hT];exact al Iq (ax1 [0,2,3,4,21,22,23] (x.n) (B4 x) (λi=>(M 36 [(0,(ak y_).au x),(2,S n_),(3,I 4)])) (M 36 [(0,(ak y_).au x),(2,S n_),(3,I 0)])<|.ext 1) (let V:=S (n_:y_);let aG:=ak y_;let aS:=Lib.join (pO x) (#[0]:Array UInt8).toList;let bn:=(0,aG.au x);let Z:=(M 36 [bn,(2,V),(3,I 0),(4,I<|oU<|(x.n:Int)-1),(21,aG.au x),(22,I x.n),(23,I 0)]);(.q x.n 0 (.e<|J.bg [V,I 1])<|.d ((x.n:Int)>256) (.e<|J.bg [V,I 22])<|.r (aG.au x)<|.o [x.n<=140737488351232,∀(i:Nat),i<x.n->(a1 aQ).au (x.f i)=(a1 aQ).au (x.f i)/\True/\True]<|.n (ar x.n λi=>(x.f i).data.toList.contains 0) (.e<|J.bg [V,I 2])<|.n (ar x.n<|B4 x) (.o [ax P (aD f77 9) Z [] (Out.ret) (M 36 [bn,(2,V),(3,I 4)]) []]<|.e<|J.bg [V,I 4])<|.o [ax P (aD f77 9) Z [] (Out.ext 1) (M 36 [bn,(2,V),(3,I 0)]) []]<|.k (a2 aG aQ) (x,(⟨#[0]⟩:y_)) (x.n<=140737488355328/\aS.length<=140737488355328)<|.e<|J.bg [S<|B aS,I 0])) ft
end
def wrd(x:aC):y_:=if x.dq=true then x.name++⟨#[63]⟩else x.name++⟨#[61]⟩++qy x.value
def NF(l:bh aC):bh y_:=⟨l.n,λi=>wrd (l.f i)⟩
def Yg:y_:=⟨#[32]⟩
def al1(l:bh aC):y_:=mK<|cY Yg (NF l) l.n
def NG(l:bh aC):al1 l=cY Yg (NF l) l.n:=ni _
def rC(a b c:y_):a++b++c=a++(b++c):=by apply sK;simp [ByteArray.data_append]
theorem Ir(l:bh aC):∀i,lh l i=cY Yg (NF l) i
 |0=>rfl
 |i+1=>by
  have ih:=Ir l i;unfold lh;rw[ih];show _=(if i=0 then cY Yg (NF l) i else cY Yg (NF l) i++Yg)++wrd (l.f i);unfold wrd Yg;by_cases h0:i=0
  .rw[if_neg (show ¬0<i by omega),if_pos h0];cases hq:(l.f i).dq with
   |true=>rw[if_pos rfl,if_pos rfl,rC]
   |false=>rw[if_neg dj,if_neg dj,rC,rC,rC]
  .rw[if_pos (show 0<i by omega),if_neg h0];cases hq:(l.f i).dq with
   |true=>rw[if_pos rfl,if_pos rfl,rC (_++_) _ _]
   |false=>rw[if_neg dj,if_neg dj];simp only[rC]
def cc9(l:bh aC)(i:Nat):((List.range i).map λk=> [S<|wrd<|l.f k]).length=i:=by rw[gS,uX]
def aU7(l:bh aC):l_ J->Option (J×l_ Prop):=λaa=>match aa with
 | [.rf n f,.sc (.string sp)]=>some (S (al1 l),[n=l.n,sp=Yg,(∀i,i<n->f i=[S (wrd (l.f i))]),bV l=0])
 |_=>none
def aU8(l:bh aC)(h:bV l=0):(al1 l).size<=4096*l.n:=by rw[NG,<-Ir];exact uP l h l.n<|bE _
def n32(l:bh aC)(h:bV l=0):l.n<=32:=by
 rcases ER l.n with q|q
 .omega
 .have:=(B3 h (l.n-1) U).1;omega
def aU9 {E:Env}(l:bh aC)(hE:an P E):an P (aF 129 (aU7 l) E):=gi hE λaa r ob O h2=>by
 unfold aU7 at O;split at O
 .rename_i n f sp;cases O;have e1:=h2 (n=l.n) sS;have e2:=h2 (sp=Yg) sS;have e3:=h2 (∀i,i<n->f i=[S<|wrd<|l.f i]) sS;have e4:=h2 (bV l=0) sS;subst e1 e2;have ej:B (Lib.join (pO<|NF l) Yg.data.toList)=al1 l:=by rw[NG];exact ss Yg (NF l) l.n
  have hl:(Lib.join (pO<|NF l) Yg.data.toList).length=(al1 l).size:=by rw[<-ej,jG]
  have k:=FD (NF l) Yg (by show l.n<=_;have:=n32 l e4;omega) (by rw[hl];have:=aU8 l e4;have:=n32 l e4;omega);rw[ej]at k;refine⟨k.ent,λw Sa vs hG hS hl ha=>k.run w Sa vs hG hS hl λi p v O h2=> ?_⟩
  match i with
  |0=>cases O;exact fS (λj hj=>(e3 j hj).trans rfl)<|ha 0 _ v rfl h2
  |1=>cases O;exact ha 1 _ v rfl h2
  |i+2=>cases O
 .cases O
def EPw(l:bh aC):Env:=aF 129 (aU7 l)<|aF 128 (bN (a1 aQ) (λs=>S (qy s)) Ye)<|aF 127 (bN (a1<|ak aC) (λl=>I (bV l)) wf) EN
def aV0(l:bh aC):an P (EPw l):=aU9 l (ah (ah aw Bj) λs h=>by rw[uO];exact az7 s h)
def uQ(l:bh aC)(i:Nat):l_ (l_ J):=(List.range i).map λk=> [S<|wrd<|l.f k]
def La(l:bh aC)(i:Nat):(uQ l i).length=i:=cc9 l i
def Is(l:bh aC)(i:Nat):uQ l (i+1)=uQ l i++ [[S<|wrd<|l.f i]]:=by unfold uQ;rw[qi,mr];rfl
def al2(l:bh aC)(n i:Nat)(h:i<n):(uQ l n).getD i []=[S<|wrd<|l.f i]:=by unfold uQ;rw[cc,b9,qh h];rfl
def b11 {x:aC}(h:x.dq=true):wrd x=x.name++⟨#[63]⟩:=if_pos h
def b12 {x:aC}(h:x.dq=false):wrd x=x.name++⟨#[61]⟩++qy x.value:=if_neg (by rw[h];simp)
def wK(l:bh aC)(i:Nat):dW:=⟨uQ l i,0,[],1,true,false⟩
def Lb(l:bh aC)(h:wf l):Ok P 63 [(ak aC).au l] (tP l):=by
 have hn:=h.1;have lp:bV l=0->_:=λh0=>by
  have h32:=n32 l h0;have lq:=qp f63 6 l.n (λ_=>false) (λi=>(M 43 [(5,.bf 0 i),(16,(ak aC).au l),(17,I l.n),(18,I i)])) (λi=> [wK l i]) (eR<|M 43 [(2,.dF),(3,.dF)]) (.ext 0,(M 43 [(5,.bf 0 l.n)]),[wK l l.n]) λi hi lt aW az aR=>by
   have ha:=B3 h0 i;have hqq:=zY (l.f i).value;rw[<-uO]at hqq;have zb:∀b:UInt8,(⟨#[b]⟩:y_).size=1:=λ_=>rfl;refine ao (aV0 l) L0 [5,16,17,18] [2,3,10005] (let Z:=M 43 [(5,J.bf 0<|i+1),(16,(ak aC).au l),(17,I l.n),(18,I<|oU<|(i:Int)+1)];let V:=(⟨#[61]⟩:y_);let aG:=(i+1)*16<=140737488355328;let aS:=(⟨#[63]⟩:y_);(.d ((i:Int)<l.n) (.g i l.n<|.n ((l.f i).dq) (.o [(l.f i).name.size+(aS).size<=9223372036854775807,i=(uQ l i).length,aG]<|.r true<|.r true<|bR Z [dn (uQ l i++ [[S<|(l.f i).name++aS]]) 1])<|.o [(l.f i).name.size+(V).size<=9223372036854775807]<|.k (a1 aQ) (l.f i).value (Ye (l.f i).value)<|.o [((l.f i).name++V).size+(qy (l.f i).value).size<=9223372036854775807,i=(uQ l i).length,aG]<|.r true<|.r true<|bR Z [dn (uQ l i++ [[S<|(l.f i).name++V++qy (l.f i).value]]) 1])<|fv 0 (M 43 [(5,J.bf 0 i)]) [dn (uQ l i) 1])) ?_;have Y:=(di:False↔False)
   simp only[av]
   (repeat' with_reducible first|intro _|apply aNd_)<;>first|exact aM|(show(l.f i).value.size<=1024;omega)|(simp only[fy,zb];omega)|exact(La l i).symm|(have gg:=aW U rfl;unfold wK at gg;rw[Is,b11 W]at gg;rw[bZ (n:=l.n) U hn];exact gg)|(have gg:=aW U rfl;unfold wK at gg;rw[Is,b12 W]at gg;rw[bZ (n:=l.n) U hn];exact gg)|(have e:i=l.n:=U;subst e;exact aR rfl)
  exact lq
 refine al (aV0 l) (tI [5,16,17,18] [(5,1)] (l.n) (λ_=>false) (λi=>(M 43 [(2,.dF),(3,.dF)])) (M 43 [(5,.bf 0 l.n)]) (.ext 0) (λi=> []) [wK l l.n]) (let Z:=(M 43 [(5,J.bf 0 0),(16,(ak aC).au l),(17,I l.n),(18,I 0)]);let V:=uQ l l.n;(.k (a1<|ak aC) l (wf l)<|.u (bV l) 0 (.e<|J.bg [S (n_:y_),I<|bV l])<|.o [(0:Int)<=0,(0:Int)<=(l.n:Int),(l.n:Int)*(↑16:Int)<=140737488355328]<|.n (ar l.n λx=>false) (.o [ax P (aD f63 6) Z [dn [] 1] (Out.ret) (M 43 [(2,J.dF),(3,J.dF)]) []]<|.e<|J.bg [J.rf 0 λi=> [],J.rf 0 λi=> []])<|.o [ax P (aD f63 6) Z [dn [] 1] (Out.ext 0) (M 43 [(5,J.bf 0 l.n)]) [dn V 1],l.n=V.length]<|.r l.n<|.o [(⟨#[32]⟩:y_)=Yg,∀(i:Nat),i<l.n->V.getD i []=[S<|wrd<|l.f i],bV l=0]<|.e<|J.bg [S<|al1 l,I 0])) ?_;simp only[av]
 (repeat' with_reducible first|intro _|apply aNd_)<;>first|exact aM|(have:=n32 l W;omega)|exact(La l l.n).symm|exact al2 l _ _ W|(exact absurd (show(ar l.n λ_=>false)=true by assumption) (by rw[by1];simp))|(unfold tP;rw[if_pos W])|(unfold tP;rw[if_neg<|cI W,Ir,<-NG])
def oh(l:bh aC):Int:=if l.n=0\/pR l=true then 2 else bV l
def su(d:bh jy)(i:Nat):Bool:=decide<|oh (d.f i).bw≠0
def FX(d:bh jy):Int:=if 256<d.n then 22 else if ar d.n (su d)=true then oh (d.f<|aE d.n<|su d).bw else 0
def JI(d:bh jy):Nat->y_
 |0=>⟨#[]⟩
 |i+1=>JI d i++lh (d.f i).bw (d.f i).bw.n++⟨#[10]⟩
def om(d:bh jy):y_:=if FX d=0 then JI d d.n else n_
def b13(x:y_):y_:=mK x
def Yh(x:y_):b13 x=x:=ni _
def EE(l:bh aC):y_:=b13 (if bV l≠0 then n_ else lh l l.n)
def Iu(l:bh aC):tP l= .bg [S<|EE l,I<|bV l]:=by
 unfold tP EE;rw[Yh];split
 .rfl
 .rename_i h;rw[tr.1 h]
def NH {l:bh aC}(h:bV l=0):EE l=lh l l.n:=by unfold EE;rw[Yh,if_neg<|cI h]
theorem NI(d:bh jy):∀i,(∀j,j<i->su d j=false)->(JI d i).size<=131073*i
 |0,_=>bJ _
 |i+1,h=>by
  have ih:=NI d i λj hj=>h j U;have h2:=tr.1<|fW<|h i U;unfold oh at h2;split at h2
  .omega
  .have h3:=uP (d.f i).bw h2 _<|bE _;have h4:=n32 _ h2;unfold JI;rw[fy,fy];show _+_+1<=_;omega
def B5 {l:bh aC}(h:bV l=0):(EE l).size<=131072:=by rw[NH h];have h3:=uP l h _<|bE _;have h4:=n32 _ h;omega
def EDt:Env:=aF 96 (bN (a1<|ak aC) (λl=> .bg [S<|EE l,I<|bV l]) wf)<|aF 95 (bN (a1<|ak aC) (λl=>Bo (pR l)) λl=>l.n<=aq) EN
def aV1:an P EDt:=ah (ah aw λl h=>az5 l h) λl h=>by rw[<-Iu];exact K7 l h
def al3(d:bh jy)(i:Nat):su d i=true↔oh (d.f i).bw≠0:=bp
def UY(d:bh jy)(h:wf d):Ok P 46 [(ak jy).au d] (.bg [S<|om d,I<|FX d]):=by
 have hn:=h.1;have lp:d.n<=256->_:=λci4=>aT7 (c:=aD Tryz.f46 5) (n:=d.n) (b:=su d) (st:=λi=>(M 49 [(0,(ak jy).au d),(4,S<|JI d i),(5,I i)])) (h:=λ_=> []) (x:=λi=>(.ret,(M 49 [(2,S n_),(3,I<|oh (d.f i).bw)]),[])) (y:=(.ext 0,(M 49 [(4,S<|JI d d.n)]),[])) λi hi hb lt aW az aR=>by
  have hci:=h.2 i;have hcn:=(show(d.f i).bw.n<=aq/\_ from h.2 i).1;have hl:=NI d i hb;have d1:(d.f i).bw.n=0->oh (d.f i).bw=2:=λq=>if_pos<|.inl q;have d2:pR (d.f i).bw=true->oh (d.f i).bw=2:=λq=>if_pos<|.inr q;have d3:(d.f i).bw.n≠0->pR (d.f i).bw=false->oh (d.f i).bw=bV (d.f i).bw:=λq1 q2=>if_neg λq=>q.elim (λq=>q1 q) λq=>by rw[q2]at q;cases q
  have b1:oh (d.f i).bw≠0->su d i=true:=λq=>cd q;have b0:oh (d.f i).bw=0->su d i=false:=λq=>fq<|cI q;refine ao aV1 L0 [0,4,5] [2,3,10004] (let V:=(2,S (n_:y_));let Z:=(Out.ret,(M 49 [V,(3,I 2)]),[]);let aG:=bV (d.f i).bw;let aS:=(⟨#[10]⟩:y_);(.d ((i:Int)<d.n) (.g i d.n<|.q (↑(d.f i).bw.n:Int) 0 (.e Z)<|.g i d.n<|.k (a1<|ak aC) (d.f i).bw ((d.f i).bw.n<=140737488351232)<|.n (pR (d.f i).bw) (.e Z)<|.g i d.n<|.k (a1<|ak aC) (d.f i).bw (wf (d.f i).bw)<|.u aG 0 (kG (M 49 [V,(3,I aG)]) [])<|.o [(JI d i).size+(EE (d.f i).bw).size<=9223372036854775807,(JI d i++EE (d.f i).bw).size+(aS).size<=9223372036854775807]<|bR (M 49 [(0,(ak jy).au d),(4,S<|JI d i++EE (d.f i).bw++aS),(5,I<|oU<|(i:Int)+1)]) [])<|fv 0 (M 49 [(4,S<|JI d i)]) [])) ?_;try dsimp only
  simp only[av]
  (repeat' with_reducible first|intro _|apply aNd_)<;>first|exact aM|(have q:=B5 (l:=(d.f i).bw) W;omega)|(have q:=B5 (l:=(d.f i).bw) W;rw[fy];show _+_+1<=_;omega)|(have e:=d1 U;rw[e]at az;exact az U (b1 (by rw[e];decide)))|(have e:=d2 W;rw[e]at az;exact az U (b1 (by rw[e];decide)))|(have e:=d3 U W;have gg:=az U (b1 (by rw[e];assumption));rw[e]at gg;exact gg)|(have e:=d3 U W;have q:bV (d.f i).bw=0:=W;have gg:=aW U (b0 (by rw[e];exact q));unfold JI at gg;rw[bZ (n:=d.n) U hn,NH q];exact gg)|(have e:i=d.n:=U;subst e;exact aR rfl)
 refine al aV1 (iy [0,4,5] d.n (su d) (λi=>(M 49 [(2,S n_),(3,I<|oh (d.f i).bw)])) (M 49 [(4,S<|JI d d.n)]) (.ext 0) (λ_=> []) []) (let Z:=S (n_:y_);let V:=(M 49 [(0,(ak jy).au d),(4,Z),(5,I 0)]);let aG:=oh (d.f<|aE d.n<|su d).bw;(.d ((d.n:Int)>256) (.e<|J.bg [Z,I 22])<|.n (ar d.n<|su d) (.o [ax P (aD Tryz.f46 5) V [] (Out.ret) (M 49 [(2,Z),(3,I aG)]) []]<|.e<|J.bg [Z,I aG])<|.o [ax P (aD Tryz.f46 5) V [] (Out.ext 0) (M 49 [(4,S<|JI d d.n)]) []]<|.e<|J.bg [S<|JI d d.n,I 0])) ?_;simp only[av]
 (repeat' with_reducible first|intro _|apply aNd_)<;>first|exact aM|(have e:FX d=22:=(if_pos U);unfold om;rw[e];rfl)|(have q:ar d.n (su d)=true:=W;have e:FX d=oh (d.f<|aE d.n<|su d).bw:=((if_neg U).trans<|if_pos q);have k:=(al3 d _).1 (dC<|dw.2 q);unfold om;rw[e,if_neg k])|(have q:ar d.n (su d)=false:=W;have e:FX d=0:=((if_neg U).trans<|if_neg (by rw[q];exact dj));unfold om;rw[e,if_pos rfl])
def cAt(x:km)(t:dQ)(i:Nat):dQ:=x.aB.f (jj x<|t.bt.f i).toNat
def aV2(x:km)(t:dQ)(i:Nat):Prop:=jj x (t.bt.f i)<0\/ar i (λk=>decide (t.bt.f k=t.bt.f i))=true\/(cAt x t i).fY≠t.fY\/((cAt x t i).dZ≠3/\(cAt x t i).dZ≠4)\/(cAt x t i).fa≠0
instance(x:km)(t:dQ)(i:Nat):Decidable (aV2 x t i):=by unfold aV2;infer_instance
def Yi(x:km)(t:dQ)(i:Nat):Bool:=decide<|aV2 x t i
def Lc(x:km)(t:dQ)(i:Nat):Yi x t i=true↔(jj x (t.bt.f i)<0\/ar i (λk=>decide (t.bt.f k=t.bt.f i))=true\/(x.aB.f (jj x<|t.bt.f i).toNat).fY≠t.fY\/((x.aB.f (jj x<|t.bt.f i).toNat).dZ≠3/\(x.aB.f (jj x<|t.bt.f i).toNat).dZ≠4)\/(x.aB.f (jj x<|t.bt.f i).toNat).fa≠0):=bp
def oC(x:km)(t:dQ):Bool:=decide<|(0<t.bt.n->t.dZ=2)/\t.bt.n<=8/\ar t.bt.n (Yi x t)=false
def bn4(x:km)(t:dQ)(h:wf x)(ht:wf t):Ok P 67 [(af km).au x,(af dQ).au t] (Bo<|oC x t):=by
 have hn:=h.2.2.1;have hb:=ht.2.2.2.2.2.2.2.2.1.1;have hl:=λid=>@BZ x id;have lp:=fF f67 4 t.bt.n (Yi x t) (λi=>(M 71 [(2,aT),(3,J.ptr 1 0 0),(4,aP),(25,(ak Int).au t.bt),(26,I t.bt.n),(27,I i)])) [(cM [aY.cells x] 3),(cM [aY.cells t] 14)] (eR<|M 71 [(4,aP)]) (ey 0<|M 71 [(4,aP)]) λi hi lt aW az aR=>by
  refine ao xn L0 [2,3,4,25,26,27] [4] (let aG:=t.bt.f i;let Z:=x.aB.f (jj x aG).toNat;let V:nV:=(.u (Z.fa) 0 (eH az)<|eG aW);(.d ((i:Int)<t.bt.n) (.g i t.bt.n<|.k (a2 (af km) bx) (x,t.bt.f i) (x.aB.n<=140737488351232)<|.d (jj x aG<0) (eH az)<|.o [(0:Int)<=0,(0:Int)<=(i:Int),(i:Int)<=(t.bt.n:Int)]<|.k (a2 (ak Int) bx) (bh.mk i λi=>t.bt.f (0+i),t.bt.f i) (i<=140737488351232)<|.n (ar i λuU=>decide (t.bt.f (0+uU)=t.bt.f i)) (eH az)<|.g (jj x aG) x.aB.n<|.m (dN Z.fY t.fY) (eH az)<|.u (Z.dZ) 3 (.u (Z.dZ) 4 (eH az) V) V)<|eY aR)) ?_;have Y:=Lc x t i
  (try simp only[eP])
  simp only[av,bK,bO,aL]
  (repeat' with_reducible first|intro _|apply aNd_)<;>first|exact aM|exact cm hi hb|exact hl _ W|(exact aW U (bF Y gG))
 refine al xn (kR lp [2,3,4,25,26,27]) (let V:ix:=bI;let Z:ix:=(.d ((t.bt.n:Int)>8) V<|jS lp V fo);(.d ((t.bt.n:Int)>0) (.u t.dZ 2 V Z) Z)) ?_;simp only[av]
 repeat' with_reducible first|intro _|apply aNd_
 all_goals (clear lp hl h ht;unfold oC;exact ga)
def aV3(x:km)(t:dQ)(h:wf x)(ht:wf t):Ok P 100 [(af km).au x,(af dQ).au t] (Bo<|oC x t):=by
 have hn:=h.2.2.1;have hb:=ht.2.2.2.2.2.2.2.2.1.1;have hl:=λid=>@BZ x id;have lp:=fF f100 4 t.bt.n (Yi x t) (λi=>(M 76 [(2,aT),(3,J.ptr 1 0 0),(4,aP),(25,I t.bt.n),(26,I i)])) [(cM [aY.cells x] 3),(cM [aY.cells t] 14)] (eR<|M 76 [(4,aP)]) (ey 0<|M 76 [(4,aP)]) λi hi lt aW az aR=>by
  refine ao xn L0 [2,3,4,25,26] [4] (let V:=t.bt.f i;let Z:=x.aB.f (jj x V).toNat;(.d ((i:Int)<t.bt.n) (.g i t.bt.n<|.k (a2 (af km) bx) (x,t.bt.f i) (x.aB.n<=140737488351232)<|.d (jj x V<0) (eH az)<|.o [(0:Int)<=0,(0:Int)<=(i:Int),(i:Int)<=(t.bt.n:Int)]<|.g i t.bt.n<|.k (a2 (ak Int) bx) (bh.mk i λi=>t.bt.f (0+i),t.bt.f i) (i<=140737488351232)<|.n (ar i λuU=>decide (t.bt.f (0+uU)=t.bt.f i)) (eH az)<|.g (jj x V) x.aB.n<|.m (dN Z.fY t.fY) (eH az)<|.u (Z.fa) 0 (eH az)<|.u (Z.dZ) 3 (.u (Z.dZ) 4 (eH az)<|eG aW)<|eG aW)<|eY aR)) ?_;have Y:=Lc x t i
  (try simp only[eP])
  simp only[av,bK,bO,aL]
  (repeat' with_reducible first|intro _|apply aNd_)<;>first|exact aM|exact cm hi hb|exact hl _ W|(exact aW U (bF Y gG))
 refine al xn (kR lp [2,3,4,25,26]) (let Z:ix:=bI;let V:ix:=(jS lp Z fo);(.d ((t.bt.n:Int)>8) Z<|.u t.dZ 2 (.d ((t.bt.n:Int)>0) Z V) V)) ?_;simp only[av]
 repeat' with_reducible first|intro _|apply aNd_
 all_goals (clear lp hl h ht;unfold oC;exact ga)
def al4(x t:dQ):Ok P 69 [(af dQ).au x,(uh dQ).au t] (Bo<|x.id !=t.id):=by exact al aw L0 (.e<|Bo<|x.id !=t.id) ft
def b14:Env:=aF 69 (bN (a2 (af dQ)<|uh dQ) λx=>Bo (x.1.id !=x.2.id)) EN
def Yj:an P b14:=ah aw λx _=>al4 x.1 x.2
def Dp:I4 dQ:=⟨λt=> .qS 69 [(uh dQ).au t],λ| .qS _ [p]=>(uh dQ).dec p|_=>(uh dQ).dec .any⟩
def Dq(x t:dQ)(fY:y_)(a:lE):Bool:=decide<|x.fY=fY/\x.dZ=2/\x.Cg.x6=a.x6/\x.Cg.lC=a.lC/\x.id≠t.id
def aV4(x t:dQ)(fY:y_)(a:lE):Ok P 133 [(af dQ).au x,(k9 aQ).au fY,(uh lE).au a,(k9 Dp).au t] (Bo<|Dq x t fY a):=by
 refine al Yj L0 (let Z:ix:=bI;(.n (dN x.fY fY) (.q x.dZ 2 (.n (dN x.Cg.x6 a.x6) (.n (dN x.Cg.lC a.lC) (.v (a2 (af dQ)<|uh dQ) (x,t)<|.e<|Bo<|x.id !=t.id) Z) Z) Z) Z)) ?_;simp only[av,bK,bO,aL]
 repeat' with_reducible first|intro _|apply aNd_
 all_goals (refine ba Bo ?_;unfold Dq;rw[ea];simp only[bp,rL];grind)
def EF5:Env:=CD<|aF 133 (bN (a4 (af dQ) (k9 aQ) (uh lE)<|k9 Dp) λx=>Bo (Dq x.1 x.2.2.2 x.2.1 x.2.2.1)) b14
def bN1:an P EF5:=Bd<|ah Yj λx _=>aV4 x.1 x.2.2.2 x.2.1 x.2.2.1
def bn5(x:km)(fY:y_)(a:lE)(t:dQ)(h:x.aB.n<=aq):Ok P 70 [(af km).au x,S fY,(af lE).au a,Dp.au t] (I<|cZ x.aB.n λi=>Dq (x.aB.f i) t fY a):=by exact al bN1 L0 (let Z:=a4 (af dQ) (k9 aQ) (uh lE) (k9 Dp);(.r ((ak dQ).au x.aB)<|.o [x.aB.n<=140737488351232,∀(i:Nat),i<x.aB.n->Z.au (x.aB.f i,fY,a,t)=Z.au (x.aB.f i,fY,a,t)/\True/\True]<|.e<|I<|cZ x.aB.n λi=>Dq (x.aB.f i) t fY a)) ft
def EF6:Env:=aF 70 (bN (a4 (af km) aQ (af lE) Dp) (λx=>I (cZ x.1.aB.n λi=>Dq (x.1.aB.f i) x.2.2.2 x.2.1 x.2.2.1)) λx=>x.1.aB.n<=aq)<|aF 67 (bN (a2 (af km)<|af dQ) (λx=>Bo (oC x.1 x.2)) λx=>wf x.1/\wf x.2)<|aF 71 (bN (a2 (af km) bx) (λx=>I (lY x.1.aB x.2 x.1.aB.n:Nat)) λx=>wf x.1) EF1
def bN2:an P EF6:=ah (ah (ah Nv λx h=>aS5 x.1 x.2 h) λx h=>bn4 x.1 x.2 h.1 h.2) λx h=>bn5 x.1 x.2.1 x.2.2.1 x.2.2.2 h
def EF7:Env:=aF 97 (bN (a3 (af km) (af dQ)<|af lE) (λx=>Bo (ar x.1.aB.n<|Ra x.1 x.2.1 x.2.2)) λx=>x.1.aB.n<=aq)<|aF 100 (bN (a2 (af km)<|af dQ) (λx=>Bo (oC x.1 x.2)) λx=>wf x.1/\wf x.2)<|aF 98 (bN (a2 (af km) bx) (λx=>I (lY x.1.aB x.2 x.1.aB.n:Nat)) λx=>wf x.1)<|aF 99 (bN (a2 (af km)<|af dQ) (λx=>Bo (Dl x.1 x.2)) λx=>x.1.aB.n<=aq) EF1
def bN3:an P EF7:=ah (ah (ah (ah Nv λx h=>aj6 x.1 x.2 h) λx h=>aS6 x.1 x.2 h) λx h=>aV3 x.1 x.2 h.1 h.2) λx h=>bl9 x.1 x.2.1 x.2.2 h
def bN4(x:km)(t:dQ):(0<=cZ x.aB.n λi=>Dq (x.aB.f i) t t.fY t.Cg)↔ar x.aB.n (Ra x t t.Cg)=true:=by
 rw[<-iw,bp];rw[show(λi=>Dq (x.aB.f i) t t.fY t.Cg)=Ra x t t.Cg by
  funext i;rw[ea,Rb];unfold Dq;rw[bp];grind]
def qL(x:km)(t:dQ):Bool:=decide<|1<=t.dZ/\t.dZ<=4/\0<=t.fa/\t.fa<=9007199254740991/\t.data.size<=8192/\t.l0.size<=32/\(t.dZ<=2->t.data=n_)/\oC x t=true/\Dl x t=true/\(t.dZ=2->t.Cg.fY=t.fY/\ar x.aB.n (Ra x t t.Cg)=false)/\(0<t.fa->lY x.aB t.id x.aB.n=0)/\(t.fa=0->lY x.aB t.id x.aB.n=1)
def aV5(x:km)(t:dQ)(h:wf x)(ht:wf t):Ok P 29 [(af km).au x,(af dQ).au t] (Bo<|qL x t):=by
 have hn:=h.2.2.1;have hl:=λid=>@BZ x id;have ha:=bN4 x t;have hp:Dl x t=true↔_:=bp;refine al bN2 L0 (let V:ix:=bI;let aG:=x.aB.n<=140737488351232;let bH:=dN t.Cg.fY t.fY;let cp:=jj x t.iV;let bn:=x.aB.f cp.toNat;let cu:=(x,t.fY,t.Cg,t);let dk:=af km;let aS:=a4 dk aQ (af lE) Dp;let bu:=(↑(lY x.aB t.id x.aB.n):Int);let bC:=a2 dk bx;let Z:ix:=(.k bC (x,t.id) (wf x)<|.d (t.fa>0) (.e<|Bo<|bu==0)<|.e<|Bo<|bu==1);(.d (t.dZ<1) V<|.d (t.dZ>4) V<|.d (t.fa<0) V<|.d (t.fa>9007199254740991) V<|.d ((t.data.size:Int)>8192) V<|.d ((t.l0.size:Int)>32) V<|.d (t.dZ<=2) (.m (dN t.data (n_:y_)) V<|.k (a2 dk<|af dQ) (x,t) (wf x/\wf t)<|.m (oC x t) V<|.q t.dZ 3 (.k bC (x,t.iV) aG<|.d (jj x t.iV<0) V<|.q t.iV t.id V<|.g cp x.aB.n<|.u (bn.dZ) 3 V<|.g cp x.aB.n<|.u (bn.iV) t.id V<|.q t.dZ 2 (.m bH V<|.k aS cu aG<|.d ((cZ x.aB.n λi=>Dq (x.aB.f i) t t.fY t.Cg)>=0) V Z) Z)<|.u t.iV 0 V<|.q t.dZ 2 (.m bH V<|.k aS cu aG<|.d ((cZ x.aB.n λi=>Dq (x.aB.f i) t t.fY t.Cg)>=0) V Z) Z)<|.k (a2 dk<|af dQ) (x,t) (wf x/\wf t)<|.m (oC x t) V<|.q t.dZ 3 (.k bC (x,t.iV) aG<|.d (jj x t.iV<0) V<|.q t.iV t.id V<|.g cp x.aB.n<|.u (bn.dZ) 3 V<|.g cp x.aB.n<|.u (bn.iV) t.id V<|.q t.dZ 2 (.m bH V<|.k aS cu aG<|.d ((cZ x.aB.n λi=>Dq (x.aB.f i) t t.fY t.Cg)>=0) V Z) Z)<|.u t.iV 0 V<|.q t.dZ 2 (.m bH V<|.k aS cu aG<|.d ((cZ x.aB.n λi=>Dq (x.aB.f i) t t.fY t.Cg)>=0) V Z) Z)) ?_;simp only[av,bK,bO,aL]
 (repeat' with_reducible first|intro _|apply aNd_)<;>first|exact aM|exact hl _ W|(clear hl h ht;unfold qL;exact ga)
def aV6(x:km)(t:dQ)(h:wf x)(ht:wf t):Ok P 47 [(af km).au x,(af dQ).au t] (Bo<|qL x t):=by
 have hn:=h.2.2.1;have hz:=pP t.data;refine al bN3 L0 (let aG:ix:=bI;let aS:=(↑(lY x.aB t.id x.aB.n):Int);let bn:ix:=(.q t.fa 0 (.e<|Bo<|aS==1) aG);let bH:=x.aB.n<=140737488351232;let cp:=a2 (af km) (af dQ);let Z:ix:=(.k (a2 (af km) bx) (x,t.id) (wf x)<|.k cp (x,t) bH<|.n (Dl x t) (.k cp (x,t) (wf x/\wf t)<|.n (oC x t) (.d (t.fa>0) (.q aS 0 fo bn) bn) aG) aG);let V:ix:=(.q t.dZ 2 (.m (dN t.Cg.fY t.fY) aG<|.k (a3 (af km) (af dQ)<|af lE) (x,t,t.Cg) bH<|.n (ar x.aB.n<|Ra x t t.Cg) aG Z) Z);(.d ((t.l0.size:Int)>32) aG<|.d (t.dZ<1) aG<|.d (t.dZ>4) aG<|.d (t.fa<0) aG<|.d (t.fa>9007199254740991) aG<|.d ((t.data.size:Int)>8192) aG<|.d ((t.data.size:Int)>0) (.d (t.dZ<3) aG V) V)) ?_;simp only[av,bK,bO,aL]
 (repeat' with_reducible first|intro _|apply aNd_)<;>first|exact aM|(clear h ht;unfold qL;exact ga)
def Ld(x:km×dQ):Prop:=wf x.1/\wf x.2
def UZ(x:dQ×km):Prop:=wf x.2/\wf x.1
def cd0:Env:=aF 29 (bN (a2 (af km)<|af dQ) (λx=>Bo (qL x.1 x.2)) Ld) EN
def bn6:an P cd0:=ah aw λx h=>aV5 x.1 x.2 h.1 h.2
def U0(t:dQ)(n:km)(h:Ld (n,t)):Ok P 28 [(af dQ).au t,(uh km).au n] (Bo<|!qL n t):=by exact al bn6 L0 (.k (a2 (af km)<|af dQ) (n,t) (Ld (n,t))<|.e<|Bo !qL n t) ft
abbrev DbT:=bh jy->y_
abbrev Dr:=bh jy->Int
def tT(f:Nat)(dt:DbT)(de:Dr):Prop:=∀d:bh jy,wf d->Ok P f [(ak jy).au d] (.bg [S<|dt d,I<|de d])
def ENr(dt:DbT)(de:Dr):Env:=J8<|aF 28 (bN (a2 (af dQ)<|uh km) (λx=>Bo (!qL x.2 x.1)) UZ)<|aF 26 (bN (a1<|ak jy) (λd=> .bg [S<|dt d,I<|de d]) wf) EN
def aV7(dt:DbT)(de:Dr)(h:tT 26 dt de:=by assumption):an P (ENr dt de):=MC<|ah (ah aw h) λx h=>U0 x.1 x.2 h
def Eh(f:bh dQ):Nat->Int
 |0=>0
 |i+1=>(f.f i).id
def NJ(x:km)(i:Nat):Bool:=decide<|(x.aB.f i).id<=Eh x.aB i\/x.next<=(x.aB.f i).id
def U1(x:km)(i:Nat):NJ x i=true↔((x.aB.f i).id<=Eh x.aB i\/x.next<=(x.aB.f i).id):=bp
def Rq(de:Dr)(x:km):Bool:=decide<|de x.db=0/\1<=x.next/\x.next<=1048576/\x.aB.n<=64/\ar x.aB.n (NJ x)=false/\(ar x.aB.n λi=> !qL x (x.aB.f i))=false
def al5(dt:DbT)(de:Dr)(hd:tT 26 dt de)(x:km)(h:wf x):Ok P 13 [(af km).au x] (Bo<|Rq de x):=by
 have hn:=h.2.2.1;have hdb:=h.1;have hw:∀i,UZ (x.aB.f i,x):=λi=>⟨h,h.2.2.2 i⟩
 have lp:=yM f13 6 x.aB.n (NJ x) (λi=>(M 58 [(1,aT),(2,aP),(5,I<|Eh x.aB i),(33,(ak dQ).au x.aB),(34,I x.aB.n),(35,I i)])) [(cM [aY.cells x] 3)] (eR<|M 58 [(2,aP)]) (.ext 0,(M 58 [(1,aT),(2,aP)]),[(cM [aY.cells x] 3)]) λi hi lt aW az aR=>by refine ao (aV7 dt de) L0 [1,2,5,33,34,35] [2,10001] (let Z:=x.aB.f i;let V:=[cM [(aY.cells x)] 3];(.d ((i:Int)<x.aB.n) (.g i x.aB.n<|.d (Z.id<=Eh x.aB i) (eH az)<|.d (Z.id>=x.next) (eH az)<|bR (M 58 [(1,aT),(2,aP),(5,I Z.id),(33,(ak dQ).au x.aB),(34,I x.aB.n),(35,I<|oU<|(i:Int)+1)]) V)<|fv 0 (M 58 [(1,aT),(2,aP)]) V)) ?_;have Y:=U1 x i;exact ft
 refine al (aV7 dt de) (kR lp [1,2,5,33,34,35]) (let Z:ix:=bI;let V:=a2 (af dQ) (uh km);(.k (a1<|ak jy) x.db (wf x.db)<|.u (de x.db) 0 Z<|.d (x.next<1) Z<|.d (x.next>1048576) Z<|.d ((x.aB.n:Int)>64) Z<|jS lp Z<|.r ((ak dQ).au x.aB)<|.o [x.aB.n<=140737488351232,∀(i:Nat),i<x.aB.n->V.au (x.aB.f i,x)=V.au (x.aB.f i,x)/\UZ (x.aB.f i,x)/\True]<|.e<|Bo !ar x.aB.n λi=> !qL x (x.aB.f i))) ?_;simp only[av]
 (repeat' with_reducible first|intro _|apply aNd_)<;>first|exact aM|exact hw _|(clear lp h hw hdb;unfold Rq;exact ga)
end
section
open Go.PS Wf Go.RowKit
def aV8(d:bh jy)(i:Nat)(h:bV (d.f i).bw=0):(JI d i).data.toList++(EE (d.f i).bw++⟨#[10]⟩).data.toList=(JI d<|i+1).data.toList:=by rw[NH h];show _=(JI d i++lh (d.f i).bw (d.f i).bw.n++⟨#[10]⟩).data.toList;simp [ByteArray.data_append]
def Ds {b:Nat} {l:l_ UInt8} {w w':World}(h:TH b l w)(hb:Below w.heap.size w w'):TH b l w':=by
 have key:∀p,Lib.BuilderAt 159 5 b b p (Lib.byteCells l) w->Lib.BuilderAt 159 5 b b p (Lib.byteCells l) w':=by
  rintro p ⟨O,v,h2,⟨h3,h4⟩,h5⟩;refine⟨O,v,(hb.block b<|lt_of_block h2).trans h2,⟨h3,?_⟩,h5⟩;rcases h4 with q|⟨g,cap,cur,q1,q2,q3,q4⟩
  .exact .inl q
  .exact .inr ⟨g,cap,cur,q1,q2,(hb.block g<|lt_of_block q3).trans q3,q4⟩
 exact h.imp (key _)<|key _
set_option maxRecDepth 1000000 in
def JJ(d:bh jy)(hd:wf d)(w:World)(Sa:Nat->Prop)(u:Value)(hG:GI P w)(hS:∀b,Sa b->b<w.heap.size)(hu:cf w Sa ((ak jy).au d) u):
  Calls P 26 #[u] w λe w'=>e= .returned (.tuple #[.string<|om d,.int .i64<|FX d])/\Below w.heap.size w w':=by
 obtain⟨a,cap,rfl,hat⟩:=NB hu;have Hat:=Any.hidU hat;clear hat hu;have e64:∀args w,(callFunc 64 args).run P w= .ok (.enter 64 args) w:=sS;have e65:∀args w,(callFunc 65 args).run P w= .ok (.enter 65 args) w:=sS;have e62:∀args w,(callFunc 62 args).run P w= .ok (.enter 62 args) w:=sS;have e63:∀args w,(callFunc 63 args).run P w= .ok (.enter 63 args) w:=sS;go_enter func26,ntmps26;by_cases hn:256<d.n
 .have yP:((d.n:Int)>256):=U;have eE:FX d=22:=if_pos hn;have eT:om d=n_:=by unfold om;rw[if_neg (by rw[eE];decide)]
  have HE:=Any.hidU<|And.intro eE eT;clear eE eT
  go_wp2
  go_ret2;rw[HE.out.1,HE.out.2];exact⟨rfl,Below.refl _ _⟩
 .have yP: ¬((d.n:Int)>256):=U;have z0:w.heap.size<=(w.alloc<|.cells #[.pointer none,.slice none 0 0] 159).heap.size:=sS;have f0:=Lib.fresh_isBuilder 159 5 w;have b0:=(Below.refl w.heap.size w).alloc (bE _) (.cells #[.pointer none,.slice none 0 0] 159);generalize hW0:w.alloc (.cells #[.pointer none,.slice none 0 0] 159)=W0 at z0 f0 b0
  go_wp2
  clear hW0
  go_loopw [14] (λv wr=>∃k:Nat,k<=d.n/\v= .int .i64 k/\Hid (∀j,j<k->su d j=false)/\TH w.heap.size (JI d k).data.toList wr/\Below w.heap.size w wr) (λv _=>d.n-(intOf v).toNat)
  case atStart=>exact⟨0,bJ _,rfl,Any.hidU λj hj=>absurd hj (jC j),f0,b0⟩
  case round=>
   obtain⟨k,hk,rfl,gZ,ik,bk⟩:=hrel;have zk:=bk.size;by_cases iH:k<d.n
   .obtain⟨b,o,sz,c,et,fz,rfl,hSb,hcb,kZ,wx⟩:=Hat.out k iH;have kZ:1=sz:=kZ;subst kZ;obtain⟨u,hu1,Wd⟩:=wx 0 _ rfl;clear wx;have Zv:=hS b hSb;have hce:wr.cell? ⟨b,o+k,none⟩=some u:=by rw[bk.cell (p:=⟨b,o+k,none⟩) Zv];unfold World.cell?;simp only[hcb];rw[<-hu1,xy];rfl
    obtain⟨a2,wC,rfl,_⟩:=NB Wd;have GR:wf (d.f k).bw:=hd.2 k;have hn2:=GR.1;have cA:=be2 (d.f k).bw hn2;have cP:=Lb (d.f k).bw GR;rw[Iu]at cP;have bA:=bk.alloc zk (.cells #[.slice a2 (d.f k).bw.n wC] 162);have iA:=Ds ik ((Below.refl wr.heap.size wr).alloc (bE _)<|.cells #[.slice a2 (d.f k).bw.n wC] 162);have cl:(wr.alloc<|.cells #[.slice a2 (d.f k).bw.n wC] 162).cell? ⟨wr.heap.size,0,none⟩=some (.slice a2 (d.f k).bw.n wC):=sS;have lA:wr.heap.size<(wr.alloc<|.cells #[.slice a2 (d.f k).bw.n wC] 162).heap.size:=sS;have qd:=Any.hidU (And.intro cl (And.intro lA (And.intro bA (And.intro iA (And.intro cA (And.intro cP Wd))))));clear cl lA bA iA cA cP Wd ik;have out:∀W2,Below (wr.alloc<|.cells #[.slice a2 (d.f k).bw.n wC] 162).heap.size (wr.alloc<|.cells #[.slice a2 (d.f k).bw.n wC] 162) W2->Below w.heap.size w W2:=λW2 q=>qd.out.2.2.1.trans (q.mono qd.out.2.2.1.size);have bad:oh (d.f k).bw≠0->FX d=oh (d.f k).bw/\om d=n_:=λq=>by
     have hf:=ru iH (cd q) gZ.out;have e1:=dw.1 (by rw[hf];exact iH);have e2:FX d=oh (d.f k).bw:=by unfold FX;rw[if_neg hn,if_pos e1,hf]
     exact⟨e2,by unfold om;rw[if_neg (by rw[e2];exact q)]⟩
    by_cases h0:(d.f k).bw.n=0
    .have hz:(((d.f k).bw.n:Int)==0)=true:=by rw[h0];rfl
     have er:oh (d.f k).bw=2:=if_pos<|.inl h0;have hB:=bad (by rw[er];decide);rw[er]at hB;clear bad er h0;have HB:=Any.hidU hB;clear hB
     go_wp2
     go_ret2;rw[HB.out.1,HB.out.2];refine⟨rfl,?_⟩;exact out _<|Below.refl _ _
    .have hz:(((d.f k).bw.n:Int)==0)=false:=by rw[jR];omega
     cases hq:pR (d.f k).bw with
     |true=>
      have er:oh (d.f k).bw=2:=if_pos<|.inr hq;have hB:=bad (by rw[er];decide);rw[er]at hB;clear bad er;have HB:=Any.hidU hB;clear hB
      go_wp2_with (go_at_call 62;refine(qd.out.2.2.2.2.1.K6 hG hS qd.out.2.2.1 qd.out.2.2.2.2.2.2).mono ?_;rintro e W2 ⟨rfl,b2⟩;rw[hq];have c2:=(b2.cell (p:=⟨wr.heap.size,0,none⟩) qd.out.2.1).trans qd.out.1)
      go_ret2;rw[HB.out.1,HB.out.2];exact⟨rfl,out _ b2⟩
     |false=>
      have er:oh (d.f k).bw=bV (d.f k).bw:=if_neg λq=>q.elim (λq=>h0 q) λq=>by rw[hq]at q;cases q
      rw[er]at bad;by_cases F:bV (d.f k).bw=0
      .have wD: ¬9223372036854775807<(EE (d.f k).bw).size+1:=by have:=B5 F;omega
       have hl:=NI d k gZ.out;have hc3:(JI d k).data.toList.length+(EE (d.f k).bw++⟨#[10]⟩).size<=140737488355328:=by rw[<-Lib.size_eq,fy];have:=B5 F;show _+(_+1)<=_;omega
       have Hc3:=Any.hidU hc3;have Hn:=Any.hidU<|aV8 d k F;have Hbb:=Any.hidU (show su d k=false from fq (cI<|er.trans F));clear hc3 hl bad er
       go_wp2_with (first|(go_at_call 62;refine(qd.out.2.2.2.2.1.K6 hG hS qd.out.2.2.1 qd.out.2.2.2.2.2.2).mono ?_;rintro e W2 ⟨rfl,b2⟩;rw[hq];have c2:=(b2.cell (p:=⟨wr.heap.size,0,none⟩) qd.out.2.1).trans qd.out.1)|(go_at_call 63;refine(qd.out.2.2.2.2.2.1.by0 hG hS (qd.out.2.2.1.trans<|b2.mono qd.out.2.2.1.size) qd.out.2.2.2.2.2.2).mono ?_;rintro e W3 ⟨rfl,b3⟩)|(go_at_call 64;refine(wV w.heap.size (JI d k).data.toList _ W3 (Ds (Ds qd.out.2.2.2.1 b2) b3) Hc3.out<|cm (out _ b2).size b3.size).mono ?_;rintro e W4 ⟨rfl,i4,b4⟩;rw[Hn.out]at i4))
       go_roundw
       case rel=>exact⟨k+1,U,by go_num,Any.hidU (λj hj=>by rcases LY.1 hj with q|q;exact gZ.out j q;exact q▸Hbb.out),i4,((out _ b2).trans<|b3.mono (out _ b2).size).trans b4⟩
       case measure=>first|(show _-((k:Int)+1).toNat<_-(k:Int).toNat;omega)|(simp [RowKit.intOf];omega)
      .have hB:=bad F;clear bad er;have HB:=Any.hidU hB;clear hB;have nP:=rL.2 F
       go_wp2_with (first|(go_at_call 62;refine(qd.out.2.2.2.2.1.K6 hG hS qd.out.2.2.1 qd.out.2.2.2.2.2.2).mono ?_;rintro e W2 ⟨rfl,b2⟩;rw[hq];have c2:=(b2.cell (p:=⟨wr.heap.size,0,none⟩) qd.out.2.1).trans qd.out.1)|(go_at_call 63;refine(qd.out.2.2.2.2.2.1.by0 hG hS (qd.out.2.2.1.trans<|b2.mono qd.out.2.2.1.size) qd.out.2.2.2.2.2.2).mono ?_;rintro e W3 ⟨rfl,b3⟩))
       go_ret2;rw[HB.out.1,HB.out.2];exact⟨rfl,(out _ b2).trans<|b3.mono (out _ b2).size⟩
   .have hke:k=d.n:=U;subst hke;have e0:FX d=0:=by unfold FX;rw[if_neg hn,if_neg (by rw[bc.2 gZ.out];exact dj)]
    have e1:om d=JI d d.n:=if_pos e0;have HE:=Any.hidU<|And.intro e0 e1;clear e0 e1
    go_wp2_with (go_at_call 65;refine(Ku w.heap.size _ _ ik zk).mono ?_;rintro e W4 ⟨rfl,b4⟩)
    go_ret2;rw[HE.out.1,HE.out.2,ZM];exact⟨rfl,bk.trans b4⟩
def Rr:tT 26 om FX:=λd hd=>
 ok_two kK λw Sa u hG hS hu=>JJ d hd w Sa u hG hS hu
end
section
open Go.PS Wf
abbrev RxQ:=y_->Nat×(Nat->l_ J)×Int×Int
abbrev Yk:=y_->Int
def aV9(f:Nat)(q:RxQ)(e:Yk):Prop:=∀s:y_,Ok P f [S s] (.bg [.agg [.rf (q s).1 (q s).2.1,I (q s).2.2.1],I (q s).2.2.2,I<|e s])
def aW0(s:y_):Prop:=s.size<=aq
def cd1(q:RxQ)(e:Yk):Env:=aF 285 (bN (a1 aQ) λs=> .bg [.agg [.rf (q s).1 (q s).2.1,I (q s).2.2.1],I (q s).2.2.2,I<|e s])<|aF 245 (bN (a1 aQ) (λs=>I (kh s)) aW0)<|aF 284 (bN (a1 aQ) λs=>Bo (nj s)) EN
def bn7(q:RxQ)(e:Yk)(h:aV9 285 q e:=by assumption):an P (cd1 q e):=ah (ah (ah aw λs _=>ai2 s) QO) λs _=>h s
def JK(e:Yk)(p:fE):Bool:=decide<|p.yH≠n_/\kh p.yH=0/\(((p.lD=vIs\/p.lD=Ia)/\(nj p.cO=true\/p.cO=xm))\/(p.lD=Ib/\nj p.cO=true)\/(p.lD=wg/\nj p.cO=true/\e p.yH=0)\/((p.lD=JE\/p.lD=JF)/\p.cO=xm)\/(p.lD=vTo/\p.cO=nk))
def bN5(q:RxQ)(e:Yk)(hq:aV9 285 q e)(p:fE)(h:wf p):Ok P 244 [(af fE).au p] (Bo<|JK e p):=by
 have ha:aW0 p.yH:=h.2.2;have c1:(⟨#[97,116,116,114]⟩:y_)=xm:=rfl;have c2:(⟨#[112,108,117,109,98]⟩:y_)=nk:=rfl;have c3:(⟨#[105,115]⟩:y_)=vIs:=rfl;have c4:(⟨#[105,115,110]⟩:y_)=Ia:=rfl;have c5:(⟨#[109,97,116,99,104,101,115]⟩:y_)=wg:=rfl;have c6:(⟨#[115,101,116]⟩:y_)=Ib:=rfl;have c7:(⟨#[97,100,100]⟩:y_)=JE:=rfl;have c8:(⟨#[100,101,108,101,116,101]⟩:y_)=JF:=rfl;have c9:(⟨#[116,111]⟩:y_)=vTo:=rfl;have n1:vIs≠Ib/\vIs≠wg/\vIs≠JE/\vIs≠JF/\vIs≠vTo/\Ia≠Ib/\Ia≠wg/\Ia≠JE/\Ia≠JF/\Ia≠vTo/\Ib≠wg/\Ib≠JE/\Ib≠JF/\Ib≠vTo/\wg≠JE/\wg≠JF/\wg≠vTo/\JE≠vTo/\JF≠vTo:=dD;refine al (bn7 q e) L0 (let Z:ix:=(.e<|Bo<|dN p.cO (⟨#[97,116,116,114]⟩:y_));let aG:ix:=bI;let aS:=nj p.cO;let V:ix:=(.v (a1 aQ) p.cO<|.n aS fo Z);(.n (dN p.yH (n_:y_)) aG<|.k (a1 aQ) p.yH (aW0 p.yH)<|.u (kh p.yH) 0 aG<|.n (dN p.lD (⟨#[105,115]⟩:y_)) V<|.n (dN p.lD (⟨#[105,115,110]⟩:y_)) V<|.n (dN p.lD (⟨#[115,101,116]⟩:y_)) (.v (a1 aQ) p.cO<|.e<|Bo aS)<|.n (dN p.lD (⟨#[109,97,116,99,104,101,115]⟩:y_)) (.v (a1 aQ) p.yH<|.v (a1 aQ) p.cO<|.n aS (.e<|Bo<|e p.yH==0) aG)<|.n (dN p.lD (⟨#[97,100,100]⟩:y_)) Z<|.n (dN p.lD (⟨#[100,101,108,101,116,101]⟩:y_)) Z<|.n (dN p.lD (⟨#[116,111]⟩:y_)) (.e<|Bo<|dN p.cO (⟨#[112,108,117,109,98]⟩:y_)) aG)) ?_;simp only[c1,c2,c3,c4,c5,c6,c7,c8,c9];clear c1 c2 c3 c4 c5 c6 c7 c8 c9;simp only[av,bK,bO,aL]
 (repeat' with_reducible first|intro _|apply aNd_)<;>first|exact aM|(clear hq h ha;unfold JK;exact ga)
def EVr(e:Yk):Env:=aF 244 (bN (a1<|af fE) (λp=>Bo (JK e p)) wf) EN
def aW1 {q:RxQ}(e:Yk)(h:aV9 285 q e:=by assumption):an P (EVr e):=ah aw λp hp=>bN5 q e h p hp
def U2(e:Yk)(l:bh fE)(i:Nat):Prop:=JK e (l.f i)=false\/ ¬((l.f i).cO=nk↔(i:Int)=(l.n:Int)-1)
instance(e:Yk)(l:bh fE)(i:Nat):Decidable (U2 e l i):=by unfold U2;infer_instance
def NK(e:Yk)(l:bh fE)(i:Nat):Bool:=decide<|U2 e l i
def zZ(e:Yk)(l:bh fE)(i:Nat):NK e l i=true↔(JK e (l.f i)=false\/ ¬((l.f i).cO=nk↔(i:Int)=(l.n:Int)-1)):=bp
def NL(e:Yk)(r:iS):Bool:=decide<|1<=r.bD.n/\r.bD.n<=32/\ar r.bD.n (NK e r.bD)=false
def U3(q:RxQ)(e:Yk)(hq:aV9 285 q e)(r:iS)(hw:wf r):Ok P 185 [(af iS).au r] (Bo<|NL e r):=by
 have h:=hw.1;have hsx:r.bD.n<=140737488351232:=h;have hwi:=hw.2;have ep:(⟨#[112,108,117,109,98]⟩:y_)=nk:=rfl;have ew:1<=r.bD.n->oU ((r.bD.n:Int)-1)=(r.bD.n:Int)-1:=λq=>wrap64 U U;have lp:1<=r.bD.n->_:=λO=>by
  have ew:=ew O;have lq:=fF f185 5 r.bD.n (NK e r.bD) (λi=>(M 40 [(1,aT),(2,aP),(3,I r.bD.n),(4,I i)])) [(cM [aY.cells r] 1)] (eR<|M 40 [(2,aP)]) (ey 0<|M 40 [(2,aP)]) λi hi lt aW az aR=>by
   refine ao (aW1 e) L0 [1,2,3,4] [2] (let Z:=r.bD.f i;(.d ((i:Int)<r.bD.n) (.g i r.bD.n<|.k (a1<|af fE) Z (wf Z)<|.m (JK e Z) (eH az)<|.g i r.bD.n<|.n (!dN Z.cO (⟨#[112,108,117,109,98]⟩:y_)==((i:Int)==oU ((r.bD.n:Int)-1))) (eH az)<|eG aW)<|eY aR)) ?_;have Y:=zZ e r.bD i
   (try simp only[ew])
   simp only[av,bK,bO,ev,jR,gl,nM,aL]
   (repeat' with_reducible first|intro _|apply aNd_)<;>first|exact aM|exact hwi _
  exact lq
 refine al (aW1 e) (bc7 lp [1,2,3,4]) (let Z:ix:=bI;(.d ((r.bD.n:Int)<1) Z<|.d ((r.bD.n:Int)>32) Z<|lpC lp Z fo)) ?_;simp only[av]
 (repeat' with_reducible first|intro _|apply aNd_)<;>first|exact aM|(clear lp h hw hwi hq;unfold NL;exact ga)
def bN6(o v:y_):(ar (vbH o).n λi=>decide ((vbH o).f i=v))=true↔v∈mB o:=by
 rw[UD,cG];show(∃i,i<(mB o).length/\decide ((mB o).getD i default=v)=true)↔_;rw[xI];constructor
 .rintro⟨i,hi,h⟩;have h:=cn h;rw[cc,bX hi]at h;exact⟨i,hi,h⟩
 .rintro⟨i,hi,h⟩;exact⟨i,hi,cd (by rw[cc,bX hi];exact h)⟩
def aW2 {o:y_}(h:nj o=true):o≠xm/\o≠nk:=by rcases cn h with h|h|h|h|h<;>subst h<;>decide
def bN7(o v:y_):v∈mB o↔(((v=vIs\/v=Ia)/\(nj o=true\/o=xm))\/(v=Ib/\nj o=true)\/(v=wg/\nj o=true)\/((v=JE\/v=JF)/\o=xm)\/(v=vTo/\o=nk)):=by
 unfold mB;by_cases O:nj o=true
 .have n:=aW2 O;rw[if_pos O];simp only[fB,tu,qQ];grind
 .rw[if_neg O];by_cases h2:o=xm
  .have n:xm≠nk:=dD;rw[if_pos h2];simp only[fB,tu,qQ];grind
  .rw[if_neg h2];by_cases h3:o=nk
   .rw[if_pos h3];simp only[fB,tu,qQ];grind
   .rw[if_neg h3];simp only[tu];grind
def Iv(s:y_):kh s=0↔(s.size<=1024/\s.data.toList.contains 10=false):=by
 unfold kh;rw[KR];by_cases h:1024<s.size
 .rw[if_pos h];exact⟨λq=>absurd q dD,λq=>absurd q.1 U⟩
 .rw[if_neg h];cases s.data.toList.contains 10 with
  |true=>exact⟨λq=>absurd q dD,λq=>by cases q.2⟩
  |false=>exact⟨λ_=>⟨U,rfl⟩,λ_=>rfl⟩
def Le(e:Yk)(F:∀s,e s=0↔cmE s=0)(r:iS):NL e r=qJ r:=by
 have hp:∀p,JK e p=qb p:=λp=>by unfold JK qb;rw[ea,bp,bp,bN6,bN7,Iv,F,aR8];have n:wg≠vIs/\wg≠Ia/\wg≠Ib/\wg≠JE/\wg≠JF/\wg≠vTo:=dD;grind
 have hb:NK e r.bD=XW r.bD:=by funext i;rw[ea,zZ,K0,hp]
 unfold NL qJ;rw[hb]
structure jo where
 a:Nat
 g:Nat
 bad:Bool
 d:l_ Inst
def uR(t:jo)(k:Nat):J:= .agg [.bf k t.d.length,I t.a,I t.g,Bo t.bad]
def aW3(t:jo)(i:Inst)(hd:t.d.length<=cz):kD P 322 [uR t 0,(af Inst).au i] [iB t.d true] (.agg [.bf 1<|t.d.length+1,I t.a,I t.g,Bo t.bad]) [gI,iB (t.d++ [i]) false]:=by
 have hl:=iZ t.d;unfold cz at hd;refine cK aw L0 (let Z:=[List.take 6 [I i.op,U8 i.c,S i.set,Bo i.neg,I i.x,I i.y]];(.o [t.d.length=(aK t.d).length,(t.d.length+1)*56<=140737488355328]<|.r true<|.r true<|.e (J.agg [J.bf 1<|t.d.length+ Z.length,I t.a,I t.g,Bo t.bad],[js 6,dn (aK t.d++ Z) 6]))) ?_;simp only[av]
 (repeat' with_reducible first|intro _|apply aNd_)<;>first|exact aM|(unfold iB;rw[pg];exact dR.of_eq rfl)
def isR(s:y_)(t:jo)(c:Int):Bool:= !t.bad&&jI s t.a c
def bN8(s:y_)(t:jo)(c:Int):kD P 351 [S s,uR t 0,U8 c] [iB t.d true] (Bo<|isR s t c) [iB t.d true]:=by
 refine cK aw L0 (let Z:=[ox (aK t.d) 6];(.m t.bad (.d ((t.a:Int)<s.size) (.g t.a s.size<|.e (Bo<|(↑(s.data.toList.getD t.a 0).toNat:Int)==c,Z))<|.e (aP,Z))<|.e (aP,Z))) ?_;simp only[av]
 (repeat' with_reducible first|intro _|apply aNd_)<;>first|exact aM|(have b:t.bad=false:=W;have h:t.a<s.size:=U;have e:isR s t c=(((s.data.toList.getD t.a 0).toNat:Int)==c):=(by unfold isR jI dx;rw[b,ea];simp [h]);rw[e];exact dR.of_eq rfl)|(have h: ¬t.a<s.size:=U;have e:isR s t c=false:=(by unfold isR jI;simp [h]);rw[e];exact dR.norm rfl rfl rfl)|(have b:t.bad=true:=W;have e:isR s t c=false:=(by unfold isR;rw[b];rfl);rw[e];exact dR.norm rfl rfl rfl)
def spB(c:Int):Bool:=decide<|c=40\/c=41\/c=124\/c=42\/c=43\/c=63\/c=46\/c=94\/c=36\/c=91\/c=92
def tU(d:l_ Inst)(k:Nat)(i:Inst)(j:Nat):l_ Inst:=d.take k++ [i]++((d.drop k).take j).map BU
def Rs(d:l_ Inst)(k:Nat)(i:Inst)(j:Nat)(h:k+j<=d.length):(tU d k i j).length=k+1+j:=by unfold tU;simp only[br,im,gS,jX,iP,qj];omega
def Dt(d:l_ Inst)(k:Nat)(i:Inst)(j:Nat)(h:k+j<d.length):tU d k i (j+1)=tU d k i j++ [BU<|d.getD (k+j) i0]:=by
 unfold tU;have hj:j<(d.drop k).length:=by rw[jX];omega
 rw[AB,bX hj,mr,<-lG];congr 1;show [BU<|(d.drop k)[j]]=[BU<|d.getD (k+j) i0]
 rw[LW,cc,bX h];rfl
def b15(z:Inst)(h:z.op=6):BU z=⟨z.op,z.c,z.set,z.neg,oU<|z.x+1,oU<|z.y+1⟩:=if_pos h
def b16(z:Inst)(h:z.op=7):BU z=⟨z.op,z.c,z.set,z.neg,oU<|z.x+1,z.y⟩:=(if_neg U).trans<|if_pos h
def b17(z:Inst)(h:z.op≠6)(h2:z.op≠7):BU z=⟨z.op,z.c,z.set,z.neg,z.x,z.y⟩:=(if_neg h).trans<|if_neg h2
def ERi(d:l_ Inst):Env:=vV (λid i _=>match id with
 |0=>some (.elem [I (d.getD i i0).op,U8 (d.getD i i0).c,S (d.getD i i0).set,Bo (d.getD i i0).neg,I (d.getD i i0).x,I (d.getD i i0).y])
 |_=>none) EN
def bN9(d:l_ Inst):an P (ERi d):=j7 aw
def al6(t:jo)(k:Nat)(i:Inst)(hk:k<=t.d.length)(hd:t.d.length<=cz):
  aO P (aD f352 5) (M 59 [(3,.ptr 1 0 0),(6,.ptr 2 0 0),(7,.bf 3 (tU t.d k i 0).length),(8,I k)]) [iB t.d true,⟨[[.bf 0 t.d.length,I t.a,I t.g,Bo t.bad]],0,[],4,false,false⟩,⟨[[.dF,I 0,I 0,.bit false]],0,[],4,false,false⟩,iB (tU t.d k i 0) false]
   (.out (.ext 0) (M 59 [(3,.ptr 1 0 0),(6,.ptr 2 0 0),(7,.bf 3 (tU t.d k i<|t.d.length-k).length)]) [iB t.d true,⟨[[.bf 0 t.d.length,I t.a,I t.g,Bo t.bad]],0,[],4,false,false⟩,⟨[[.dF,I 0,I 0,.bit false]],0,[],4,false,false⟩,iB (tU t.d k i<|t.d.length-k) false]):=by
 obtain⟨ci9,hN⟩:∃ci9,ci9=t.d.length-k:=⟨_,rfl⟩
 rw[<-hN];have WY:ci9<=aq:=by unfold cz at hd;unfold aq;omega
 have lp:=qp f352 5 ci9 (λ_=>false) (λj=>(M 59 [(3,.ptr 1 0 0),(6,.ptr 2 0 0),(7,.bf 3 (tU t.d k i j).length),(8,I ((k+j:Nat):Int))])) (λj=> [iB t.d true,(cM [[.bf 0 t.d.length,I t.a,I t.g,Bo t.bad]] 4),(cM [[.dF,I 0,I 0,aP]] 4),iB (tU t.d k i j) false]) (eR<|M 59 [(3,.ptr 1 0 0),(6,.ptr 2 0 0)]) (.ext 0,(M 59 [(3,.ptr 1 0 0),(6,.ptr 2 0 0),(7,.bf 3 (tU t.d k i ci9).length)]),[iB t.d true,(cM [[.bf 0 t.d.length,I t.a,I t.g,Bo t.bad]] 4),(cM [[.dF,I 0,I 0,aP]] 4),iB (tU t.d k i ci9) false]) λj hj ltj nC nq lO=>by
  have e1:oU (((k+j:Nat):Int)+1)=((k+(j+1):Nat):Int):=by unfold cz at hd;rw[wrap64 U U];omega
  have N:=uK t.d<|k+j;have oR:=Rs t.d k i j U;have Fy:=iZ<|tU t.d k i j;refine ao (bN9 t.d) L0 [3,6,7,8] [3,6,7] (let V:=t.d.getD (0+(k+j)) i0;let aS:=cM [[J.bf 0 t.d.length,I t.a,I t.g,Bo t.bad]] 4;let bn:=tU t.d k i j;let bH:=cM [[J.dF,I 0,I 0,aP]] 4;let cu:=ox (aK t.d) 6;let dk:=oU (V.y+1);let bu:=oU (V.x+1);let bC:=(↑(k+j):Int);let aG:=M 59 [(3,dK 1),(6,dK 2),(7,J.bf 3<|bn.length+1),(8,I<|oU<|bC+1)];let bP:=Bo V.neg;let Z:nV:=(.q (V.op) 6 (bR aG [cu,aS,bH,dn (aK bn++ [[I V.op,U8 V.c,S V.set,bP,I bu,I dk]]) 6])<|bR aG [cu,aS,bH,dn (aK bn++ [[I V.op,U8 V.c,S V.set,bP,I bu,I V.y]]) 6]);let cp:=[I V.op,U8 V.c,S V.set,bP,I V.x,I V.y];(.d (bC<(t.d.length:Int)) (.g bC t.d.length<|.o [(aK t.d)[0+(k+j)]?=some cp,bn.length=(aK bn).length,(bn.length+1)*56<=140737488355328]<|.r true<|.r true<|.q (V.op) 6 Z<|.q (V.op) 7 Z<|.q (V.op) 6 (bR aG [cu,aS,bH,dn (aK bn++ [[I V.op,U8 V.c,S V.set,bP,I V.x,I dk]]) 6])<|bR aG [cu,aS,bH,dn (aK bn++ [cp]) 6])<|fv 0 (M 59 [(3,dK 1),(6,dK 2),(7,J.bf 3 bn.length)]) [cu,aS,bH,dn (aK bn) 6])) ?_;have JV:=(di:False↔False)
  (simp only[e1,eP];clear e1)
  simp only[av]
  (repeat' with_reducible first|intro _|apply aNd_)<;>first|exact aM|exact N U|(unfold cz at hd;omega)|(have n:=Dt t.d k i j U;have gg:=nC U rfl;unfold iB at gg;rw[n,pg,b15 _ W,br]at gg;exact gg)|(have n:=Dt t.d k i j U;have gg:=nC U rfl;unfold iB at gg;rw[n,pg,b16 _ W,br]at gg;exact gg)|(have n:=Dt t.d k i j U;have gg:=nC U rfl;unfold iB at gg;rw[n,pg,b17 _ W W,br]at gg;exact gg)|(have e:j=ci9:=U;subst e;exact lO rfl)
 exact lp.f<|bc.2 λ_ _=>rfl
def Am(d:l_ Inst)(k:Nat)(i:Inst):l_ Inst:=tU d k i<|d.length-k
def te(d:l_ Inst)(k:Nat)(i:Inst)(h:k<=d.length):(Am d k i).length=d.length+1:=by unfold Am;rw[Rs _ _ _ _ U];omega
def bn8(d:l_ Inst):k8 6 (aK d)=true:=cU.2 λe F=>by obtain⟨x,_,rfl⟩:=FV F;rfl
def bn9(d:l_ Inst):nc (aK d)=true:=cU.2 λe F=>by obtain⟨x,_,rfl⟩:=FV F;rfl
def cd2(t:jo)(k:Nat)(i:Inst):gD:=λ_=>([3,6,7,8],[(7,6)],λ_ _=> .out (.ext 0) (M 59 [(3,.ptr 1 0 0),(6,.ptr 2 0 0),(7,.bf 3 (tU t.d k i<|t.d.length-k).length)]) [iB t.d true,⟨[[.bf 0 t.d.length,I t.a,I t.g,Bo t.bad]],0,[],4,false,false⟩,⟨[[.dF,I 0,I 0,.bit false]],0,[],4,false,false⟩,iB (tU t.d k i<|t.d.length-k) false])
def U4(t:jo)(k:Nat)(i:Inst)(hk:k<=t.d.length)(hd:t.d.length<=cz):kD P 352 [uR t 0,I k,(af Inst).au i] [iB t.d true] (.agg [.bf 1 (Am t.d k i).length,I t.a,I t.g,Bo t.bad]) [iB t.d true,iB (Am t.d k i) false]:=by
 have lp:=al6 t k i hk hd;have hl:=iZ t.d;have e0:tU t.d k i 0=t.d.take k++ [i]:=by unfold tU;simp
 rw[e0,show(t.d.take k++ [i]).length=k+1 by rw[br,im];show min k _+1=_;omega]at lp;have htk:List.take k (aK t.d)=aK (t.d.take k):=by unfold aK;rw[Fp]
 have AU:(aK<|t.d.take k).length=k:=by rw[iZ,im];omega
 unfold iB at lp;rw[pg]at lp;unfold cz at hd;refine cK aw (cd2 t k i) (let V:=tU t.d k i (t.d.length-k);let aG:=cM [[J.bf 0 t.d.length,I t.a,I t.g,Bo t.bad]] 4;let aS:=aK t.d;let Z:=List.take (k-0) (List.drop 0 aS);let bn:=cM [[J.dF,I 0,I 0,aP]] 4;(.o [(0:Int)<=0,(0:Int)<=(k:Int),(k:Int)<=(t.d.length:Int),Z.length*56<=140737488355328,k8 6 Z=true,nc Z=true,0+0+(k-0)<=aS.length]<|.r (Z.length)<|.o [(Z.length+1)*56<=140737488355328]<|.r true<|.r true<|.o [ax P (aD f352 5) (M 59 [(3,dK 1),(6,dK 2),(7,J.bf 3<|Z.length+1),(8,I k)]) [ox aS 6,aG,bn,dn (List.take (k-0) (List.drop 0 aS)++ [[I i.op,U8 i.c,S i.set,Bo i.neg,I i.x,I i.y]]) 6] (Out.ext 0) (M 59 [(3,dK 1),(6,dK 2),(7,J.bf 3 V.length)]) [ox aS 6,aG,bn,dn (aK V) 6]]<|.e (J.agg [J.bf 1 V.length,I t.a,I t.g,Bo t.bad],[ox aS 6,dn (aK V) 6]))) ?_;try dsimp only
 simp only[u3,eP,xu,htk,AU];simp only[av]
 (repeat' with_reducible first|intro _|apply aNd_)<;>first|exact aM|exact bn8 _|exact bn9 _|exact dR.of_eq rfl
section
variable {h h':Hp}{E:Env}{s:y_}{cs cs':l_ J}
def Lg {f:FuncId} {l:l_ J}{r:J}(hk:kD P f (l.map jK) h r h'):kD P f l h r h':=XR hk sS λi a b O h2 w S m v N=>by rw[b9,O]at h2;cases h2;exact FW N
def NM(s:y_)(R:jo->jo)(pre:jo->Prop):l_ J->Hp->Option (J×Hp×l_ Prop):=λaa h=>match aa.map jK,h with
 | [.sc (.string s'),.agg [.bf 0 n,.sc (.int .i64 a),.sc (.int .i64 g),.sc (.bool b)]],[⟨L,0,[],6,true,true⟩]=>some (uR (R ⟨a.toNat,g.toNat,b,ff L⟩) 1,[gI,iB (R ⟨a.toNat,g.toNat,b,ff L⟩).d false],[s'=s,a=(a.toNat:Int),g=(g.toNat:Int),L=aK (ff L),n=(ff L).length,pre ⟨a.toNat,g.toNat,b,ff L⟩])
 |_,_=>none
def vN {f:FuncId}{R:jo->jo} {pre:jo->Prop}(hE:an P E)(h:∀t,pre t->kD P f [S s,uR t 0] [iB t.d true] (uR (R t) 1) [gI,iB (R t).d false]):an P (cF f (NM s R pre) E):=fC hE λaa hp r h' ob O h2=>by
 unfold NM at O;split at O
 .rename_i s' n a g b L e0;cases O;have k:=h _<|h2 (pre ⟨a.toNat,g.toNat,b,ff L⟩) sS;have f1:=h2 (s'=s) sS;have f2:=h2 (a=(a.toNat:Int)) sS;have f3:=h2 (g=(g.toNat:Int)) sS;have f4:=h2 (L=aK (ff L)) sS;have f5:=h2 (n=(ff L).length) sS;refine Lg ?_;rw[e0];dsimp only[uR,iB]at k⊢;rw[<-f2,<-f3,<-f4,<-f5]at k;subst f1;exact k
 .cases O
def Lh:l_ J->Hp->Option (J×Hp×l_ Prop):=λaa h=>match aa.map jK,h with
 | [.agg [.bf 0 n,.sc (.int .i64 a),.sc (.int .i64 g),.sc (.bool b)],i],[⟨L,0,[],6,true,true⟩]=>some (.agg [.bf 1 ((ff L).length+1),I a,I g,Bo b],[gI,iB (ff L++ [dm i]) false],[a=(a.toNat:Int),g=(g.toNat:Int),L=aK (ff L),n=(ff L).length,i=(af Inst).au (dm i),(ff L).length<=cz])
 |_,_=>none
def B6(hE:an P E):an P (cF 322 Lh E):=fC hE λaa hp r h' ob O h2=>by
 unfold Lh at O;split at O
 .rename_i n a g b i L e0;cases O;have k:=aW3 ⟨a.toNat,g.toNat,b,ff L⟩ (dm i)<|h2 (_<=cz) sS;have f2:=h2 (a=(a.toNat:Int)) sS;have f3:=h2 (g=(g.toNat:Int)) sS;have f4:=h2 (L=aK (ff L)) sS;have f5:=h2 (n=(ff L).length) sS;have f6:=h2 (i=(af Inst).au (dm i)) sS;refine Lg ?_;rw[e0];dsimp only[uR,iB]at k⊢;rw[<-f2,<-f3,<-f4,<-f6]at k;rw[f5];exact k
 .cases O
def Yl:l_ J->Hp->Option (J×Hp×l_ Prop):=λaa h=>match aa.map jK,h with
 | [.agg [.bf 0 n,.sc (.int .i64 a),.sc (.int .i64 g),.sc (.bool b)],.sc (.int .i64 k),i],[⟨L,0,[],6,true,true⟩]=>some (.agg [.bf 1 (Am (ff L) k.toNat (dm i)).length,I a,I g,Bo b],[⟨L,0,[],6,true,true⟩,iB (Am (ff L) k.toNat (dm i)) false],[a=(a.toNat:Int),g=(g.toNat:Int),L=aK (ff L),n=(ff L).length,i=(af Inst).au (dm i),(ff L).length<=cz,k=(k.toNat:Int),k.toNat<=(ff L).length])
 |_,_=>none
def Rt(hE:an P E):an P (cF 352 Yl E):=fC hE λaa hp r h' ob O h2=>by
 unfold Yl at O;split at O
 .rename_i n a g b z i L e0;cases O;have k:=U4 ⟨a.toNat,g.toNat,b,ff L⟩ z.toNat (dm i) (h2 (z.toNat<=(ff L).length) sS)<|h2 (_<=cz) sS;have f2:=h2 (a=(a.toNat:Int)) sS;have f3:=h2 (g=(g.toNat:Int)) sS;have f4:=h2 (L=aK (ff L)) sS;have f5:=h2 (n=(ff L).length) sS;have f6:=h2 (i=(af Inst).au (dm i)) sS;have f7:=h2 (z=(z.toNat:Int)) sS;refine Lg ?_;rw[e0];dsimp only[uR,iB]at k⊢;rw[<-f2,<-f3,<-f4,<-f6,<-f7]at k;rw[f5];exact k
 .cases O
def bo0(c:Int):ar 11 (λi=>decide (dx ⟨#[40,41,124,42,43,63,46,94,36,91,92]⟩ i=c))=spB c:=by
 rw[ea,cG];unfold spB;rw[bp];constructor
 .rintro⟨i,hi,h⟩;have h:=cn h;have h0:i=0\/i=1\/i=2\/i=3\/i=4\/i=5\/i=6\/i=7\/i=8\/i=9\/i=10:=U;rcases h0 with rfl|rfl|rfl|rfl|rfl|rfl|rfl|rfl|rfl|rfl|rfl<;>subst h<;>decide
 .rintro(rfl|rfl|rfl|rfl|rfl|rfl|rfl|rfl|rfl|rfl|rfl)
  .exact⟨0,U,rfl⟩
  .exact⟨1,U,rfl⟩
  .exact⟨2,U,rfl⟩
  .exact⟨3,U,rfl⟩
  .exact⟨4,U,rfl⟩
  .exact⟨5,U,rfl⟩
  .exact⟨6,U,rfl⟩
  .exact⟨7,U,rfl⟩
  .exact⟨8,U,rfl⟩
  .exact⟨9,U,rfl⟩
  .exact⟨10,U,rfl⟩
def cd3:y_:=⟨#[40,41,124,42,43,63,46,94,36,91,92]⟩
def U5(c:Int):Ok P 389 [U8 c] (Bo<|spB c):=by
 have h11:11<=aq:=dD;obtain⟨ci8,hM⟩:∃ci8:Nat,ci8=11:=⟨_,rfl⟩
 have hMx:ci8<=aq:=U;obtain⟨A,hA⟩:∃A:y_,A=cd3:=⟨_,rfl⟩
 have hAs:A.size=ci8:=by rw[hA,hM];rfl
 have lp:=fF f389 3 ci8 (λi=>decide (dx A i=c)) (λi=>(M 16 [(0,U8 c),(2,aP),(3,S A),(4,I i)])) [] (eR<|M 16 [(2,fZ)]) (ey 0<|M 16 [(2,aP)]) λi hi lt aW az aR=>by
  refine ao aw L0 [0,2,3,4] [2] (.d ((i:Int)<A.size) (.g i A.size<|.q (↑(A.data.toList.getD i 0).toNat:Int) c (eH az)<|eG aW)<|eY aR) ?_;have Y:=@decide_eq_true_iff (dx A i=c) _;simp only[av]
  repeat' with_reducible first|intro _|apply aNd_
  all_goals exact aM
 rw[<-bo0 c];refine al aw (iy [0,2,3,4] (ci8) (λi=>decide (dx A i=c)) (λi=>(M 16 [(2,.bit true)])) (M 16 [(2,.bit false)]) (.ext 0) (λi=> []) []) (let Z:=(M 16 [(0,U8 c),(2,aP),(3,S (⟨#[40,41,124,42,43,63,46,94,36,91,92]⟩:y_)),(4,I 0)]);(.n (ar ci8 λi=>decide (dx A i=c)) (.o [ax P (aD f389 3) Z [] (Out.ret) (M 16 [(2,fZ)]) []] fo)<|.o [ax P (aD f389 3) Z [] (Out.ext 0) (M 16 [(2,aP)]) []] bI)) ?_;simp only[av]
 (repeat' with_reducible first|intro _|apply aNd_)<;>first|exact aM|(subst hA;exact(lp.t W).one)|(subst hA;exact(lp.f W).one)|(have h:(ar ci8 λi=>decide (dx A i=c))=true:=W;rw[hM,hA]at h;exact ba Bo h.symm)|(have h:(ar ci8 λi=>decide (dx A i=c))=false:=W;rw[hM,hA]at h;exact ba Bo h.symm)
def EF(s:y_)(t:jo):jo×Int:=
 if dx s t.a≠92 then({t with a:=t.a+1},dx s t.a)
 else if ¬t.a+1<s.size then({t with a:=t.a+1,bad:=true},0)
 else({t with a:=t.a+2},HZ<|dx s<|t.a+1)
def aW4 {t:jo}(h:dx s t.a≠92):EF s t=({t with a:=t.a+1},dx s t.a):=if_pos h
def aW5 {t:jo}(h:dx s t.a=92)(h2: ¬t.a+1<s.size):EF s t=({t with a:=t.a+1,bad:=true},0):=(if_neg<|cI h).trans<|if_pos h2
def NN {t:jo}(h:dx s t.a=92)(h2:t.a+1<s.size):EF s t=({t with a:=t.a+2},HZ<|dx s<|t.a+1):=(if_neg<|cI h).trans<|if_neg<|cI h2
def psK(t q:jo):J:= .agg [.bf 0 t.d.length,I q.a,I q.g,Bo q.bad]
def bO0 {w:World} {S:Nat->Prop} {m:Mp}{v:Value}(h:cv w S m (.bg cs) v):cv w S m (.bg<|cs.map jK) v:=by
 have key:∀vs:Array Value,cs.length=vs.size->(∀(i:Nat) c v,cs[i]?=some c->vs[i]?=some v->cv w S m c v)->cv w S m (.bg<|cs.map jK) (.tuple vs):=λvs hl Y=> .bg _ _ (by rw[gS];exact hl) λi c v O h2=>by
  rw[b9]at O;cases hq:cs[i]? with
  |none=>rw[hq]at O;cases O
  |some p=>rw[hq]at O;cases O;exact FW<|Y i p v hq h2
 cases h with
 |st _ _ h=>cases h with
  |bg _ vs hl Y=>exact key vs hl λi c v O h2=> .st _ _<|Y i c v O h2
 |bg _ vs hl Y=>exact key vs hl Y
def bO1(O:cs.map jK=cs')(h2:h=h'):dR (.bg cs,h) (.bg cs',h'):=by subst O h2;exact λ_ _ _ m _ _ q1 q2=>⟨m,q1,bO0 q2⟩
def aW6(O:cs.map cj=cs')(h2:h=h'):dR (.agg cs,h) (.agg cs',h'):=by subst O h2;exact λ_ _ _ m _ _ q1 q2=>⟨m,q1,FW q2⟩
def aW7(s:y_)(t:jo)(ha:t.a<s.size)(hs:s.size<=aq):kD P 390 [S s,uR t 0] [iB t.d true] (.bg [psK t (EF s t).1,U8 (EF s t).2]) [iB t.d true]:=by
 have e1:oU ((t.a:Int)+1)=((t.a+1:Nat):Int):=by unfold aq at hs;rw[wrap64 U U];omega
 have e2:t.a+1<s.size->oU (((t.a+1:Nat):Int)+1)=((t.a+2:Nat):Int):=λh=>by unfold aq at hs;rw[wrap64 U U];omega
 refine cK aw L0 (let V:=oU ((t.a:Int)+1);let aG:=(↑(s.data.toList.getD V.toNat 0).toNat:Int);let aS:=[ox (aK t.d) 6];let bn:=(↑(s.data.toList.getD t.a 0).toNat:Int);let bH:=J.bf 0 t.d.length;let Z:=J.agg [bH,I<|oU<|oU ((t.a:Int)+1)+1,I t.g,Bo t.bad];(.g t.a s.size<|.u bn 92 (.e (J.bg [J.agg [bH,I V,I t.g,Bo t.bad],U8 bn],aS))<|.q V (s.size:Int) (.e (J.bg [J.agg [bH,I V,I t.g,fZ],U8 0],aS))<|.g V s.size<|.q aG 110 (.e (J.bg [Z,U8 10],aS))<|.q aG 116 (.e (J.bg [Z,U8 9],aS))<|.e (J.bg [Z,U8 aG],aS))) ?_;try dsimp only
 simp only[e1,dL];clear e1;simp only[av]
 (repeat' with_reducible first|intro _|apply aNd_)<;>first|exact aM|(have q:dx s t.a≠92:=W;rw[aW4 q];exact dR.of_eq rfl)|(have q:dx s t.a=92:=W;rw[aW5 q U];exact bO1 rfl rfl)|(have q:dx s t.a=92:=W;have h:t.a+1<s.size:=U;have k:HZ (dx s<|t.a+1)=10:=(if_pos W);rw[NN q h,e2 h,k];exact dR.of_eq rfl)|(have q:dx s t.a=92:=W;have h:t.a+1<s.size:=U;have k:HZ (dx s<|t.a+1)=9:=((if_neg W).trans<|if_pos W);rw[NN q h,e2 h,k];exact dR.of_eq rfl)|(have q:dx s t.a=92:=W;have h:t.a+1<s.size:=U;have k:HZ (dx s<|t.a+1)=dx s (t.a+1):=((if_neg W).trans<|if_neg W);rw[NN q h,e2 h,k];exact dR.of_eq rfl)
end
section
variable {α:Type}{s:y_}{a:Nat}{E:Env}
def aW8(x:α):α:=mK x
def me(x:α):aW8 x=x:=ni _
def cA(s:y_)(a:Nat):Nat:=aW8 (EF s ⟨a,0,false,[]⟩).1.a
def cB(s:y_)(a:Nat):Bool:=aW8 (EF s ⟨a,0,false,[]⟩).1.bad
def cC(s:y_)(a:Nat):Int:=aW8 (EF s ⟨a,0,false,[]⟩).2
def bo1(s:y_)(a g:Nat)(d:l_ Inst):EF s ⟨a,g,false,d⟩=(⟨cA s a,g,cB s a,d⟩,cC s a):=by
 unfold cA cB cC;rw[me,me,me];unfold EF;dsimp only;split
 .rfl
 .split<;>rfl
def Ym(s:y_)(a:Nat):a<cA s a/\cA s a<=a+2:=by
 unfold cA;rw[me];unfold EF;dsimp only;split
 .exact⟨rK _,sQ _⟩
 .split
  .exact⟨rK _,sQ _⟩
  .exact⟨by show a<a+2;omega,bE _⟩
def aW9(h:a<s.size):a<cA s a/\cA s a<=s.size:=by
 unfold cA;rw[me];unfold EF;dsimp only;split
 .exact⟨rK _,h⟩
 .split
  .exact⟨rK _,h⟩
  .rename_i q;exact⟨by show a<a+2;omega,by show a+2<=_;omega⟩
def oJ(s:y_)(a:Nat)(b:Bool)(c:Int):Bool:=aW8<|!b&&jI s a c
def z7(s:y_)(a:Nat)(b:Bool)(c:Int):oJ s a b c=(!b&&jI s a c):=me _
def qM{b:Bool} {c:Int}(h:oJ s a b c=true):b=false/\a<s.size/\dx s a=c:=by rw[z7,fG,gl]at h;exact⟨h.1,cn h.2⟩
def aX0(s:y_):l_ J->Hp->Option (J×Hp×l_ Prop):=λaa h=>match aa.map jK,h with
 | [.sc (.string s'),.agg [.bf 0 n,.sc (.int .i64 a),.sc (.int .i64 g),.sc (.bool b)]],[⟨L,0,[],6,true,true⟩]=>some (.bg [.agg [.bf 0 n,I (cA s a.toNat:Nat),I g,Bo (cB s a.toNat)],U8 (cC s a.toNat)],[⟨L,0,[],6,true,true⟩],[s'=s,a=(a.toNat:Int),g=(g.toNat:Int),b=false,L=aK (ff L),n=(ff L).length,a.toNat<s.size])
 |_,_=>none
def aX1(hs:s.size<=aq)(hE:an P E):an P (cF 390 (aX0 s) E):=fC hE λaa hp r h' ob O h2=>by
 unfold aX0 at O;split at O
 .rename_i s' n a g b L e0;cases O;have k:=aW7 s ⟨a.toNat,g.toNat,b,ff L⟩ (h2 (a.toNat<s.size) sS) hs;have f1:=h2 (s'=s) sS;have f2:=h2 (a=(a.toNat:Int)) sS;have f3:=h2 (g=(g.toNat:Int)) sS;have f6:=h2 (b=false) sS;have f4:=h2 (L=aK (ff L)) sS;have f5:=h2 (n=(ff L).length) sS;refine Lg ?_;rw[e0];subst f6;rw[bo1]at k;dsimp only[uR,psK,iB]at k⊢;rw[<-f2,<-f3,<-f4,<-f5]at k;subst f1;exact k
 .cases O
def Ru(s:y_):l_ J->Hp->Option (J×Hp×l_ Prop):=λaa h=>match aa.map jK,h with
 | [.sc (.string s'),.agg [.bf 0 n,.sc (.int .i64 a),.sc (.int .i64 g),.sc (.bool b)],.sc (.int .u8 c)],[⟨L,0,[],6,true,true⟩]=>some (Bo (oJ s a.toNat b c),[⟨L,0,[],6,true,true⟩],[s'=s,a=(a.toNat:Int),g=(g.toNat:Int),L=aK (ff L),n=(ff L).length])
 |_,_=>none
def Iw(hE:an P E):an P (cF 351 (Ru s) E):=fC hE λaa hp r h' ob O h2=>by
 unfold Ru at O;split at O
 .rename_i s' n a g b c L e0;cases O;have k:=bN8 s ⟨a.toNat,g.toNat,b,ff L⟩ c;have f1:=h2 (s'=s) sS;have f2:=h2 (a=(a.toNat:Int)) sS;have f3:=h2 (g=(g.toNat:Int)) sS;have f4:=h2 (L=aK (ff L)) sS;have f5:=h2 (n=(ff L).length) sS;refine Lg ?_;rw[e0];dsimp only[uR,iB]at k⊢;rw[show isR s ⟨a.toNat,g.toNat,b,ff L⟩ c=oJ s a.toNat b c from(z7 s a.toNat b c).symm,<-f2,<-f3,<-f4,<-f5]at k;subst f1;exact k
 .cases O
def ERc(s:y_):Env:=cF 322 Lh<|cF 351 (Ru s)<|cF 390 (aX0 s) EN
def NO(s:y_)(hs:s.size<=aq:=by assumption):an P (ERc s):=B6<|Iw<|aX1 hs aw
end
section
variable {s:y_}{a:Nat}
def kN(s:y_)(a:Nat):Bool×Nat×Int×Int×Bool:=
 if dx s a=93\/dx s a=45 then(false,a,0,0,true)
 else if oJ s (cA s a) (cB s a) 45=true then
  (if ¬cA s a+1<s.size\/dx s (cA s a+1)=93\/dx s (cA s a+1)=45 then(false,cA s a+1,0,0,true)
  else if cB s (cA s a+1)=true then(false,cA s<|cA s a+1,0,0,false)
  else if cC s (cA s a+1)<cC s a then(false,max (cA s a+1)<|cA s (cA s a+1)-1,0,0,true)
  else(true,cA s (cA s a+1),cC s a,cC s (cA s a+1),false))
 else if cB s a=true then(false,cA s a,0,0,false)
 else(true,cA s a,cC s a,cC s a,false)
def Yn(h:dx s a=93\/dx s a=45):kN s a=(false,a,0,0,true):=if_pos h
def Ix(h: ¬(dx s a=93\/dx s a=45))(O:oJ s (cA s a) (cB s a) 45=true)(h2: ¬cA s a+1<s.size\/dx s (cA s a+1)=93\/dx s (cA s a+1)=45):kN s a=(false,cA s a+1,0,0,true):=(if_neg h).trans<|(if_pos O).trans<|if_pos h2
def aX2(h: ¬(dx s a=93\/dx s a=45))(O:oJ s (cA s a) (cB s a) 45=true)(h2: ¬(¬cA s a+1<s.size\/dx s (cA s a+1)=93\/dx s (cA s a+1)=45))(h3:cB s (cA s a+1)=true):kN s a=(false,cA s<|cA s a+1,0,0,false):=(if_neg h).trans<|(if_pos O).trans<|(if_neg h2).trans<|if_pos h3
def aX3(h: ¬(dx s a=93\/dx s a=45))(O:oJ s (cA s a) (cB s a) 45=true)(h2: ¬(¬cA s a+1<s.size\/dx s (cA s a+1)=93\/dx s (cA s a+1)=45))(h3:cB s (cA s a+1)=false)(h4:cC s (cA s a+1)<cC s a):kN s a=(false,max (cA s a+1)<|cA s (cA s a+1)-1,0,0,true):=(if_neg h).trans<|(if_pos O).trans<|(if_neg h2).trans<|(if_neg (by rw[h3];exact dj)).trans<|if_pos h4
def aX4(h: ¬(dx s a=93\/dx s a=45))(O:oJ s (cA s a) (cB s a) 45=true)(h2: ¬(¬cA s a+1<s.size\/dx s (cA s a+1)=93\/dx s (cA s a+1)=45))(h3:cB s (cA s a+1)=false)(h4: ¬cC s (cA s a+1)<cC s a):kN s a=(true,cA s<|cA s a+1,cC s a,cC s<|cA s a+1,false):=(if_neg h).trans<|(if_pos O).trans<|(if_neg h2).trans<|(if_neg (by rw[h3];exact dj)).trans<|if_neg h4
def aX5(h: ¬(dx s a=93\/dx s a=45))(O:oJ s (cA s a) (cB s a) 45=false)(h2:cB s a=true):kN s a=(false,cA s a,0,0,false):=(if_neg h).trans<|(if_neg (by rw[O];exact dj)).trans<|if_pos h2
def aX6(h: ¬(dx s a=93\/dx s a=45))(O:oJ s (cA s a) (cB s a) 45=false)(h2:cB s a=false):kN s a=(true,cA s a,cC s a,cC s a,false):=(if_neg h).trans<|(if_neg (by rw[O];exact dj)).trans<|if_neg (by rw[h2];exact dj)
def tB(a g:Nat)(d:l_ Inst):dW:=⟨[[.bf 0 d.length,I a,I g,Bo false]],0,[],4,false,false⟩
def zBl:dW:=⟨[[.dF,I 0,I 0,Bo false]],0,[],4,false,false⟩
def xB(neg:Bool):dW:=⟨[[I 3,U8 0,S n_,Bo neg,I 0,I 0]],0,[],6,false,false⟩
def yB(ci8:l_ (l_ J)):dW:=⟨ci8,0,[],1,true,false⟩
def fbC:Bool->J
 |true=> .bit true
 |false=>Bo true
def qB1(a g:Nat)(d:l_ Inst)(p:J):dW:=⟨[[.bf 0 d.length,I a,I g,p]],0,[],4,false,false⟩
def aO.wholeAt {c:Code} {T T':l_ J} {h h':Hp} {lt:LT}(t z:Nat)(hw:whole t z T h=some (T',h'))(hl:aO P c T' h' lt):aO P c T h lt:=by obtain⟨x,O,n,h2⟩:=hl;exact⟨x,O,n,λw0 Sa a w Q hG iu hQ=>h2 w0 Sa a w Q hG (wN hw iu) hQ⟩
end
def aX7 (s:y_) (a g:Nat) (d:l_ Inst) (hs:s.size<=256) (neg:Bool) (ci8:l_ (l_ J)) (hM:ci8.length<=1024) (hM0:0<ci8.length) (ha:a<=s.size) (lt:LT)
  (so: ¬(a<s.size/\dx s a≠93)->lt.ends (.ext 0,(M 139 [(0,S s),(3,.ptr 1 0 0),(4,.ptr 2 0 0),(5,.ptr 3 0 0),(6,.bf 4 ci8.length)]),[iB d true,tB a g d,zBl,xB neg,yB ci8]))
  (gZ:a<s.size->dx s a≠93->(kN s a).1=false->lt.ends (.ret,(M 139 [(4,.ptr 1 0 0)]),[iB d true,qB1 (kN s a).2.1 g d<|fbC (kN s a).2.2.2.2]))
  (aW:a<s.size->dx s a≠93->(kN s a).1=true->aO P (aD f388 7) (M 139 [(0,S s),(3,.ptr 1 0 0),(4,.ptr 2 0 0),(5,.ptr 3 0 0),(6,.bf 4 (ci8++ [[U8 (kN s a).2.2.1],[U8 (kN s a).2.2.2.1]]).length)]) [iB d true,tB (kN s a).2.1 g d,zBl,xB neg,yB<|ci8++ [[U8 (kN s a).2.2.1],[U8 (kN s a).2.2.2.1]]] lt):
  aO P (aD f388 7) (M 139 [(0,S s),(3,.ptr 1 0 0),(4,.ptr 2 0 0),(5,.ptr 3 0 0),(6,.bf 4 ci8.length)]) [iB d true,tB a g d,zBl,xB neg,yB ci8] lt:=by
 have vd:s.size<=aq:=by unfold aq;omega
 have u1:=Ym s a;have u2:=Ym s<|cA s a+1;have e1:oU ((cA s a:Int)+1)=((cA s a+1:Nat):Int):=by rw[wrap64 U U];omega
 have e2:oU ((cA s (cA s a+1):Int)-1)=((cA s (cA s a+1)-1:Nat):Int):=by rw[wrap64 U U];omega
 have e3:(if((cA s (cA s a+1)-1:Nat):Int)>((cA s a+1:Nat):Int)then((cA s (cA s a+1)-1:Nat):Int)else((cA s a+1:Nat):Int))=((max (cA s a+1) (cA s (cA s a+1)-1):Nat):Int):=by split<;>omega
 have hq:oJ s (cA s a) (cB s a) 45=true->cB s a=false/\cA s a<s.size:=λh=>⟨(qM h).1,(qM h).2.1⟩
 refine ao (NO s) L0 [0,3,4,5,6] [4,10000,10003,10004,10005,10006] (let bH:=J.bf 0 d.length;let cp:=cM [[I 3,U8 0,S (n_:y_),Bo neg,I 0,I 0]] 6;let cu:=M 139 [(4,dK 1)];let dk:=ox (aK d) 6;let bu:=(↑(cA s a):Int);let V:=oU (bu+1);let bn:nV:=(kG cu [dk,cM [[bH,I V,I g,fZ]] 4]);let bC:=M 139 [(0,S s),(3,dK 1),(4,dK 2),(5,dK 3),(6,J.bf 4<|ci8.length+2)];let bP:=(↑(s.data.toList.getD a 0).toNat:Int);let bY:=(↑(cA s V.toNat):Int);let cN:=cM [[J.dF,I 0,I 0,Bo false]] 4;let aS:=(Out.ext 0,(M 139 [(0,S s),(3,dK 1),(4,dK 2),(5,dK 3),(6,J.bf 4 ci8.length)]),[dk,cM [[bH,I a,I g,Bo false]] 4,cN,cp,dn ci8 1]);let dE:=ff (aK d);let dV:=(Out.ret,cu,[dk,cM [[bH,I a,I g,fZ]] 4]);let eu:=(↑(s.data.toList.getD V.toNat 0).toNat:Int);let fI:=cB s V.toNat;let ia:=d.length=dE.length;let iz:=cM [[bH,I bu,I g,Bo<|cB s a]] 4;let iC:=[(ci8.length+2)*1<=140737488355328];let jn:=cM [[bH,I bY,I g,Bo fI]] 4;let iD:=aK d=aK dE;let ka:=[U8<|cC s a];let aG:nV:=(.n fI (kG cu [dk,jn])<|.r ci8.length<|.o iC<|.r true<|.r true<|bR bC [dk,jn,cN,cp,dn (ci8++ [ka,[U8<|cC s V.toNat]]) 1]);let Z:nV:=(.g a s.size<|.q bP 93 (.e dV)<|.g a s.size<|.q bP 45 (.e dV)<|.r s<|.r (a:Int)<|.r (g:Int)<|.r false<|.o [iD,ia,a<s.size]<|.r s<|.r bu<|.r (g:Int)<|.o [iD,ia]<|.n (oJ s (cA s a) (cB s a) 45) (.q V (s.size:Int) bn<|.g V s.size<|.q eu 93 bn<|.g V s.size<|.q eu 45 bn<|.r s<|.o [oU (bu+1)=(V.toNat:Int)]<|.r (g:Int)<|.o [cB s a=false,iD,ia,V.toNat<s.size]<|.m fI (.d (cC s V.toNat<cC s a) (kG cu [dk,cM [[bH,I (if oU (bY-1)>oU (bu+1)then oU (bY-1) else oU (bu+1)),I g,fZ]] 4]) aG) aG)<|.n (cB s a) (kG cu [dk,iz])<|.r ci8.length<|.o iC<|.r true<|.r true<|bR bC [dk,iz,cN,cp,dn (ci8++ [ka,ka]) 1]);(.d ((a:Int)<s.size) (.g a s.size<|.u bP 93 Z<|.q ci8.length 0 Z<|.e aS)<|.e aS)) ?_;try dsimp only
 simp only[dL,fT,e1,e2,e3];clear e1 e2 e3;simp only[av]
 (repeat' with_reducible first|intro _|apply aNd_)<;>first|exact aM|(have k1:cB s (cA s a+1)=true:=W;have k2:cB s (cA s a+1)=false:=W;rw[k1]at k2;cases k2)|exact(hq W).1|(have q:=(hq W).2;omega)|(have e:=Yn (s:=s) (a:=a) (.inr W);rw[e]at gZ;exact gZ U W rfl)|(have e:=Ix (s:=s) (a:=a) (not_or.2 ⟨W,W⟩) W (.inl U);rw[e]at gZ;exact gZ U W rfl)|(have e:=Ix (s:=s) (a:=a) (not_or.2 ⟨W,W⟩) W (.inr<|.inl W);rw[e]at gZ;exact gZ U W rfl)|(have e:=Ix (s:=s) (a:=a) (not_or.2 ⟨W,W⟩) W (.inr<|.inr W);rw[e]at gZ;exact gZ U W rfl)|(have k:cB s (cA s a+1)=true:=W;have e:=aX2 (s:=s) (a:=a) (not_or.2 ⟨W,W⟩) W (not_or.2 ⟨cI (by have q:=(hq W).2;omega),not_or.2 ⟨W,W⟩⟩) k;rw[e]at gZ;rw[k];exact gZ U W rfl)|(have e:=aX3 (s:=s) (a:=a) (not_or.2 ⟨W,W⟩) W (not_or.2 ⟨cI (by have q:=(hq W).2;omega),not_or.2 ⟨W,W⟩⟩) W W;rw[e]at gZ;exact gZ U W rfl)|(have k:cB s (cA s a+1)=false:=W;have e:=aX4 (s:=s) (a:=a) (not_or.2 ⟨W,W⟩) W (not_or.2 ⟨cI (by have q:=(hq W).2;omega),not_or.2 ⟨W,W⟩⟩) k W;rw[e]at aW;rw[k];(have gg:=aW U W rfl;rw[br]at gg;exact aO.norm rfl rfl gg))|(have k:cB s a=true:=W;have e:=aX5 (s:=s) (a:=a) (not_or.2 ⟨W,W⟩) W k;rw[e]at gZ;rw[k];exact gZ U W rfl)|(have k:cB s a=false:=W;have e:=aX6 (s:=s) (a:=a) (not_or.2 ⟨W,W⟩) W k;rw[e]at aW;rw[k];(have gg:=aW U W rfl;rw[br]at gg;exact aO.norm rfl rfl gg))|exact so λq=>q.2 W|exact so λq=>absurd q.1 U
def aX8 (s:y_) (a g:Nat) (d:l_ Inst) (hs:s.size<=256) (neg:Bool) (ha:a<=s.size) (lt:LT)
  (so: ¬a<s.size->lt.ends (.ext 0,(M 139 [(0,S s),(3,.ptr 1 0 0),(4,.ptr 2 0 0),(5,.ptr 3 0 0),(6,.dF)]),[iB d true,tB a g d,zBl,xB neg]))
  (gZ:a<s.size->(kN s a).1=false->lt.ends (.ret,(M 139 [(4,.ptr 1 0 0)]),[iB d true,qB1 (kN s a).2.1 g d<|fbC (kN s a).2.2.2.2]))
  (aW:a<s.size->(kN s a).1=true->aO P (aD f388 7) (M 139 [(0,S s),(3,.ptr 1 0 0),(4,.ptr 2 0 0),(5,.ptr 3 0 0),(6,.own 4 0 2)]) [iB d true,tB (kN s a).2.1 g d,zBl,xB neg,⟨[[U8 (kN s a).2.2.1],[U8 (kN s a).2.2.2.1]],0,[],1,false,false⟩] lt):
  aO P (aD f388 7) (M 139 [(0,S s),(3,.ptr 1 0 0),(4,.ptr 2 0 0),(5,.ptr 3 0 0),(6,.dF)]) [iB d true,tB a g d,zBl,xB neg] lt:=by
 have vd:s.size<=aq:=by unfold aq;omega
 have u1:=Ym s a;have u2:=Ym s<|cA s a+1;have e1:oU ((cA s a:Int)+1)=((cA s a+1:Nat):Int):=by rw[wrap64 U U];omega
 have e2:oU ((cA s (cA s a+1):Int)-1)=((cA s (cA s a+1)-1:Nat):Int):=by rw[wrap64 U U];omega
 have e3:(if((cA s (cA s a+1)-1:Nat):Int)>((cA s a+1:Nat):Int)then((cA s (cA s a+1)-1:Nat):Int)else((cA s a+1:Nat):Int))=((max (cA s a+1) (cA s (cA s a+1)-1):Nat):Int):=by split<;>omega
 have hq:oJ s (cA s a) (cB s a) 45=true->cB s a=false/\cA s a<s.size:=λh=>⟨(qM h).1,(qM h).2.1⟩
 refine ao (NO s) L0 [0,3,4,5,6] [4,10000,10003,10004,10005,10006] (let bn:=J.bf 0 d.length;let bH:=cM [[I 3,U8 0,S (n_:y_),Bo neg,I 0,I 0]] 6;let cp:=M 139 [(4,dK 1)];let cu:=ox (aK d) 6;let dk:=(↑(cA s a):Int);let V:=oU (dk+1);let aS:nV:=(kG cp [cu,cM [[bn,I V,I g,fZ]] 4]);let bu:=(↑(s.data.toList.getD a 0).toNat:Int);let bC:=M 139 [(0,S s),(3,dK 1),(4,dK 2),(5,dK 3),(6,J.own 4 0 2)];let bP:=(↑(cA s V.toNat):Int);let bY:=cM [[J.dF,I 0,I 0,Bo false]] 4;let cN:=ff (aK d);let dE:=(Out.ret,cp,[cu,cM [[bn,I a,I g,fZ]] 4]);let dV:=(↑(s.data.toList.getD V.toNat 0).toNat:Int);let eu:=cB s V.toNat;let fI:=d.length=cN.length;let ia:=cM [[bn,I dk,I g,Bo<|cB s a]] 4;let iz:=cM [[bn,I bP,I g,Bo eu]] 4;let iC:=aK d=aK cN;let jn:=[U8<|cC s a];let aG:nV:=(.n eu (kG cp [cu,iz])<|.o [2<=140737488355328]<|.r true<|bR bC [cu,iz,bY,bH,cM [jn,[U8<|cC s V.toNat]] 1]);let Z:nV:=(.q bu 93 (.e dE)<|.g a s.size<|.q bu 45 (.e dE)<|.r s<|.r (a:Int)<|.r (g:Int)<|.r false<|.o [iC,fI,a<s.size]<|.r s<|.r dk<|.r (g:Int)<|.o [iC,fI]<|.n (oJ s (cA s a) (cB s a) 45) (.q V (s.size:Int) aS<|.g V s.size<|.q dV 93 aS<|.g V s.size<|.q dV 45 aS<|.r s<|.o [oU (dk+1)=(V.toNat:Int)]<|.r (g:Int)<|.o [cB s a=false,iC,fI,V.toNat<s.size]<|.m eu (.d (cC s V.toNat<cC s a) (kG cp [cu,cM [[bn,I (if oU (bP-1)>oU (dk+1)then oU (bP-1) else oU (dk+1)),I g,fZ]] 4]) aG) aG)<|.n (cB s a) (kG cp [cu,ia])<|.o [2<=140737488355328]<|.r true<|bR bC [cu,ia,bY,bH,cM [jn,jn] 1]);(.d ((a:Int)<s.size) (.g a s.size<|.g a s.size<|.u bu 93 Z<|.s .fN Z)<|fv 0 (M 139 [(0,S s),(3,dK 1),(4,dK 2),(5,dK 3),(6,J.dF)]) [cu,cM [[bn,I a,I g,Bo false]] 4,bY,bH])) ?_;try dsimp only
 simp only[dL,fT,e1,e2,e3];clear e1 e2 e3;simp only[av]
 (repeat' with_reducible first|intro _|apply aNd_)<;>first|exact aM|(have k1:cB s (cA s a+1)=true:=W;have k2:cB s (cA s a+1)=false:=W;rw[k1]at k2;cases k2)|exact(hq W).1|(have q:=(hq W).2;omega)|(have e:=Yn (s:=s) (a:=a) (.inr W);rw[e]at gZ;exact gZ U rfl)|(have e:=Yn (s:=s) (a:=a) (.inl W);rw[e]at gZ;exact gZ U rfl)|(have e:=Ix (s:=s) (a:=a) (not_or.2 ⟨W,W⟩) W (.inl U);rw[e]at gZ;exact gZ U rfl)|(have e:=Ix (s:=s) (a:=a) (not_or.2 ⟨W,W⟩) W (.inr<|.inl W);rw[e]at gZ;exact gZ U rfl)|(have e:=Ix (s:=s) (a:=a) (not_or.2 ⟨W,W⟩) W (.inr<|.inr W);rw[e]at gZ;exact gZ U rfl)|(have k:cB s (cA s a+1)=true:=W;have e:=aX2 (s:=s) (a:=a) (not_or.2 ⟨W,W⟩) W (not_or.2 ⟨cI (by have q:=(hq W).2;omega),not_or.2 ⟨W,W⟩⟩) k;rw[e]at gZ;rw[k];exact gZ U rfl)|(have e:=aX3 (s:=s) (a:=a) (not_or.2 ⟨W,W⟩) W (not_or.2 ⟨cI (by have q:=(hq W).2;omega),not_or.2 ⟨W,W⟩⟩) W W;rw[e]at gZ;exact gZ U rfl)|(have k:cB s (cA s a+1)=false:=W;have e:=aX4 (s:=s) (a:=a) (not_or.2 ⟨W,W⟩) W (not_or.2 ⟨cI (by have q:=(hq W).2;omega),not_or.2 ⟨W,W⟩⟩) k W;rw[e]at aW;rw[k];exact aO.norm rfl rfl (aW U rfl))|(have k:cB s a=true:=W;have e:=aX5 (s:=s) (a:=a) (not_or.2 ⟨W,W⟩) W k;rw[e]at gZ;rw[k];exact gZ U rfl)|(have k:cB s a=false:=W;have e:=aX6 (s:=s) (a:=a) (not_or.2 ⟨W,W⟩) W k;rw[e]at aW;rw[k];exact aO.norm rfl rfl (aW U rfl))|exact so U
theorem Iy {s:y_} {a:Nat}(h:a<s.size):a<=(kN s a).2.1/\(kN s a).2.1<=s.size/\((kN s a).1=true->a<(kN s a).2.1):=by
 have O:=aW9 h;unfold kN;split
 .exact⟨bE _,Fq h,λq=>by cases q⟩
 .split
  .rename_i q;have q1:=(qM q).2.1;split
   .exact⟨by show a<=cA s a+1;omega,q1,λq=>by cases q⟩
   .rename_i q2;have h2:=aW9 (s:=s) (a:=cA s a+1) U;split
    .exact⟨by show a<=cA s (cA s a+1);omega,h2.2,λq=>by cases q⟩
    .split
     .exact⟨by show a<=max (cA s a+1) _;omega,by show max (cA s a+1) (cA s (cA s a+1)-1)<=_;omega,λq=>by cases q⟩
     .exact⟨by show a<=cA s (cA s a+1);omega,h2.2,λ_=>by show a<cA s (cA s a+1);omega⟩
  .split
   .exact⟨Fq O.1,O.2,λq=>by cases q⟩
   .exact⟨Fq O.1,O.2,λ_=>O.1⟩
def mR(s:y_)(a:Nat):l_ (l_ J):=[[U8 (kN s a).2.2.1],[U8 (kN s a).2.2.2.1]]
def vO(s:y_):Nat->Nat->l_ (l_ J)->Bool×Nat×l_ (l_ J)×Bool
 |0,a,ci8=>(false,a,ci8,false)
 |n+1,a,ci8=>if ¬(a<s.size/\dx s a≠93)then(true,a,ci8,false)else if(kN s a).1=false then(false,(kN s a).2.1,ci8,(kN s a).2.2.2.2)else vO s n (kN s a).2.1 (ci8++mR s a)
theorem U6(s:y_):∀n a ci8,a<=s.size->a<=(vO s n a ci8).2.1/\(vO s n a ci8).2.1<=s.size
 |0,_,_,h=>⟨bE _,h⟩
 |n+1,a,ci8,h=>by
  unfold vO;split
  .exact⟨bE _,h⟩
  .rename_i q;have hl:=Iy (s:=s) (a:=a) U;split
   .exact⟨hl.1,hl.2.1⟩
   .have:=U6 s n (kN s a).2.1 (ci8++mR s a) hl.2.1;exact⟨U,this.2⟩
theorem aX9(s:y_):∀n a ci8,va ci8=true->va (vO s n a ci8).2.2.1=true
 |0,_,_,h=>h
 |n+1,a,ci8,h=>by
  unfold vO;split
  .exact h
  .split
   .exact h
   .refine aX9 s n _ _ ?_;unfold va at h⊢;rw[List.all_append,h];rfl
theorem aO.tt {c:Code} {T:l_ J} {h:Hp} {b:Bool} {t f:LT}(hl:aO P c T h t)(hb:b=true):aO P c T h (.ite b t f):=let⟨x,O,h2⟩:=hl;⟨x,GX hb O,h2⟩
theorem Yo(T:l_ J)(d:l_ Inst)(a g:Nat)(b:Bool):LT.ends (.ite b (.out .ret T [iB d true,qB1 a g d<|fbC true])<|.out .ret T [iB d true,qB1 a g d<|fbC false]) (.ret,T,[iB d true,qB1 a g d<|fbC b]):=by
 cases b
 .exact⟨(λh=>by cases h),λ_=>rfl⟩
 .exact⟨λ_=>rfl,(λh=>by cases h)⟩
def clX(s:y_)(g:Nat)(d:l_ Inst)(neg:Bool)(r:Bool×Nat×l_ (l_ J)×Bool):LT:= .ite r.1 (.out (.ext 0) (M 139 [(0,S s),(3,.ptr 1 0 0),(4,.ptr 2 0 0),(5,.ptr 3 0 0),(6,.bf 4 r.2.2.1.length)]) [iB d true,tB r.2.1 g d,zBl,xB neg,yB r.2.2.1])<|.ite r.2.2.2 (.out .ret (M 139 [(4,.ptr 1 0 0)]) [iB d true,qB1 r.2.1 g d<|fbC true])<|.out .ret (M 139 [(4,.ptr 1 0 0)]) [iB d true,qB1 r.2.1 g d<|fbC false]
theorem Ei(s:y_)(g:Nat)(d:l_ Inst)(hs:s.size<=256)(neg:Bool):∀n a ci8,a<=s.size->s.size<a+n->ci8.length<=2*a->0<ci8.length->aO P (aD f388 7) (M 139 [(0,S s),(3,.ptr 1 0 0),(4,.ptr 2 0 0),(5,.ptr 3 0 0),(6,.bf 4 ci8.length)]) [iB d true,tB a g d,zBl,xB neg,yB ci8] (clX s g d neg<|vO s n a ci8)
 |0,a,ci8,ha,hn,_,_=>U
 |n+1,a,ci8,ha,hn,hM,hM0=>by
  refine aX7 s a g d hs neg ci8 U hM0 ha _ ?_ ?_ ?_
  .intro q;unfold vO;rw[if_pos q];exact⟨λ_=>rfl,(λh=>by cases h)⟩
  .intro q1 q2 q3;unfold vO;rw[if_neg<|by simp [q1,q2],if_pos q3];exact⟨(λh=>by cases h),λ_=>Yo _ _ _ _ _⟩
  .intro q1 q2 q3;have hl:=Iy q1;have:=hl.2.2 q3;have ih:=Ei s g d hs neg n (kN s a).2.1 (ci8++mR s a) hl.2.1 U (by rw[br];show _+2<=_;omega) (by rw[br];omega)
   conv=>rhs;unfold vO
   rw[if_neg<|by simp [q1,q2],if_neg (by rw[q3];exact Bool.noConfusion)];exact ih
def JL(s:y_)(t:jo)(a:Nat)(neg:Bool):jo:=
 if ¬a<s.size then {t with a:=a,bad:=true}
 else if(kN s a).1=false then {t with a:=(kN s a).2.1,bad:=true}
 else if(vO s (s.size+1) (kN s a).2.1<|mR s a).1=false then {t with a:=(vO s (s.size+1) (kN s a).2.1<|mR s a).2.1,bad:=true}
 else if ¬(vO s (s.size+1) (kN s a).2.1<|mR s a).2.1<s.size then {t with a:=(vO s (s.size+1) (kN s a).2.1<|mR s a).2.1,bad:=true}
 else⟨(vO s (s.size+1) (kN s a).2.1<|mR s a).2.1+1,t.g,false,t.d++ [⟨3,0,dA (vO s (s.size+1) (kN s a).2.1<|mR s a).2.2.1,neg,0,0⟩]⟩
def B7(s:y_)(a:Nat):Nat:=if oJ s (a+1) false 94=true then a+2 else a+1
def lj(s:y_)(t:jo):jo:=JL s t (B7 s t.a)<|oJ s (t.a+1) false 94
def Yp(s:y_)(t:jo):Prop:=t.a<s.size/\t.bad=false/\t.d.length<=4096
def clY(s:y_)(a g:Nat)(d:l_ Inst)(neg:Bool):LT:= .ite (decide<|a<s.size) (.ite (kN s a).1 (clX s g d neg<|vO s (s.size+1) (kN s a).2.1<|mR s a)<|.ite (kN s a).2.2.2.2 (.out .ret (M 139 [(4,.ptr 1 0 0)]) [iB d true,qB1 (kN s a).2.1 g d<|fbC true])<|.out .ret (M 139 [(4,.ptr 1 0 0)]) [iB d true,qB1 (kN s a).2.1 g d<|fbC false])<|.out (.ext 0) (M 139 [(0,S s),(3,.ptr 1 0 0),(4,.ptr 2 0 0),(5,.ptr 3 0 0),(6,.dF)]) [iB d true,tB a g d,zBl,xB neg]
theorem U7(s:y_)(a g:Nat)(d:l_ Inst)(hs:s.size<=256)(neg:Bool)(ha:a<=s.size)(O:0<a):aO P (aD f388 7) (M 139 [(0,S s),(3,.ptr 1 0 0),(4,.ptr 2 0 0),(5,.ptr 3 0 0),(6,.dF)]) [iB d true,tB a g d,zBl,xB neg] (clY s a g d neg):=by
 refine aX8 s a g d hs neg ha _ ?_ ?_ ?_
 .intro q;exact⟨λh=>absurd (cn h) q,λ_=>rfl⟩
 .intro q1 q3;exact⟨λ_=>⟨λh=>(by rw[q3]at h;cases h),λ_=>Yo _ _ _ _ _⟩,λh=>absurd q1 (fW h)⟩
 .intro q1 q3;have hl:=Iy q1;have:=hl.2.2 q3;have ih:=Ei s g d hs neg (s.size+1) (kN s a).2.1 (mR s a) hl.2.1 U (by show 2<=_;omega) (by show 0<2;omega);exact aO.wholeAt 6 1 rfl<|aO.tt (aO.tt ih q3)<|cd q1
def cd4(h:Hp):Bool:=match(h[3]?:Option dW)with
 |some ⟨[[_,_,_,.bit b,_,_]],_,_,_,_,_⟩=>b
 |some ⟨[[_,_,_,.sc (.bool b),_,_]],_,_,_,_,_⟩=>b
 |_=>false
def clE(s:y_)(a g:Nat)(d:l_ Inst):gD:=λ_=>([0,3,4,5,6],[],λ_ h=>match cd4 h with
 |true=>clY s (a+2) g d true
 |false=>clY s (a+1) g d false)
theorem kO(d:l_ Inst)(x g:Nat)(p:J)(hp:p= .bit true\/p=Bo true):dR (.agg [.bf 0 d.length,I x,I g,p],[⟨aK d,0,[],6,true,true⟩]) (uR ⟨x,g,true,d⟩ 1,[gI,iB d false]):=by
 have h:dR (.agg [.bf 0 d.length,I x,I g,p],[⟨aK d,0,[],6,true,true⟩]) (.agg [.bf 0 d.length,I x,I g,Bo true],[⟨aK d,0,[],6,true,true⟩]):=by
  rcases hp with rfl|rfl
  .exact aW6 rfl rfl
  .exact dR.of_eq rfl
 exact dR.trans h<|dR.move 0 rfl rfl rfl rfl
theorem aY0(d:l_ Inst)(x g:Nat)(i:Inst)(hx:x<=256):dR (.agg [.bf 1<|d.length+1,I<|oU<|(x:Nat)+1,I g,Bo false],[⟨[],2,[],6,true,true⟩,⟨aK<|d++ [i],0,[],6,true,false⟩]) (uR ⟨x+1,g,false,d++ [i]⟩ 1,[gI,iB (d++ [i]) false]):=by
 have e:oU ((x:Int)+1)=((x+1:Nat):Int):=by rw[wrap64 U U];omega
 rw[e];unfold uR;rw[br];exact dR.of_eq rfl
theorem vP {s:y_} {a g:Nat} {d:l_ Inst}(h:oJ s (a+1) false 94=true):lj s ⟨a,g,false,d⟩=JL s ⟨a,g,false,d⟩ (a+2) true:=by unfold lj B7;rw[if_pos h];dsimp only;rw[h]
theorem vQ {s:y_} {a g:Nat} {d:l_ Inst}(h:oJ s (a+1) false 94=false):lj s ⟨a,g,false,d⟩=JL s ⟨a,g,false,d⟩ (a+1) false:=by unfold lj B7;dsimp only;rw[h,if_neg dj]
section
variable {s:y_} {t:jo} {a:Nat} {neg:Bool}
theorem aY1(h: ¬a<s.size):JL s t a neg= {t with a:=a,bad:=true}:=if_pos h
theorem NP(h:a<s.size)(O:(kN s a).1=false):JL s t a neg= {t with a:=(kN s a).2.1,bad:=true}:=(if_neg<|cI h).trans<|if_pos O
theorem NQ(h:a<s.size)(O:(kN s a).1=true)(h2:(vO s (s.size+1) (kN s a).2.1<|mR s a).1=false):JL s t a neg= {t with a:=(vO s (s.size+1) (kN s a).2.1<|mR s a).2.1,bad:=true}:=(if_neg<|cI h).trans<|(if_neg (by rw[O];exact Bool.noConfusion)).trans<|if_pos h2
theorem aY2(h:a<s.size)(O:(kN s a).1=true)(h2:(vO s (s.size+1) (kN s a).2.1<|mR s a).1=true)(h3: ¬(vO s (s.size+1) (kN s a).2.1<|mR s a).2.1<s.size):JL s t a neg= {t with a:=(vO s (s.size+1) (kN s a).2.1<|mR s a).2.1,bad:=true}:=(if_neg<|cI h).trans<|(if_neg (by rw[O];exact Bool.noConfusion)).trans<|(if_neg (by rw[h2];exact Bool.noConfusion)).trans<|if_pos h3
theorem aY3(h:a<s.size)(O:(kN s a).1=true)(h2:(vO s (s.size+1) (kN s a).2.1<|mR s a).1=true)(h3:(vO s (s.size+1) (kN s a).2.1<|mR s a).2.1<s.size):JL s t a neg=⟨(vO s (s.size+1) (kN s a).2.1<|mR s a).2.1+1,t.g,false,t.d++ [⟨3,0,dA (vO s (s.size+1) (kN s a).2.1<|mR s a).2.2.1,neg,0,0⟩]⟩:=(if_neg<|cI h).trans<|(if_neg (by rw[O];exact Bool.noConfusion)).trans<|(if_neg (by rw[h2];exact Bool.noConfusion)).trans<|if_neg<|cI h3
end
theorem Iz(s:y_)(a g:Nat)(d:l_ Inst)(hs:s.size<=256)(neg:Bool)(ha:a<=s.size)(O:0<a):aO P (aD f388 7) (M 139 [(0,S s),(3,.ptr 1 0 0),(4,.ptr 2 0 0),(5,.ptr 3 0 0),(6,.dF)]) [⟨aK d,0,[],6,true,true⟩,⟨[[.bf 0 d.length,I a,I g,Bo false]],0,[],4,false,false⟩,⟨[[.dF,I 0,I 0,.bit false]],0,[],4,false,false⟩,⟨[[I 3,U8 0,S n_,.bit neg,I 0,I 0]],0,[],6,false,false⟩] (clY s a g d neg):=aO.norm rfl rfl<|U7 s a g d hs neg ha O
theorem ym {s:y_} {a n:Nat}(h:a<s.size):(vO s n (kN s a).2.1<|mR s a).2.1<=s.size:=(U6 s n _ _ (Iy h).2.1).2
theorem al7(s:y_)(t:jo)(hs:s.size<=256)(ht:Yp s t):kD P 388 [S s,uR t 0] [iB t.d true] (uR (lj s t) 1) [gI,iB (lj s t).d false]:=by
 have vd:s.size<=aq:=by unfold aq;omega
 obtain⟨a,g,b,d⟩:=t;obtain⟨p1,p2,p3⟩:=ht;have q1:a<s.size:=p1;have q3:d.length<=4096:=p3;have q2:b=false:=p2;subst q2;have e1:oU ((a:Int)+1)=((a+1:Nat):Int):=by rw[wrap64 U U];omega
 have e2:oU (((a+1:Nat):Int)+1)=((a+2:Nat):Int):=by rw[wrap64 U U];omega
 have l2:oJ s (a+1) false 94=true->aO P _ _ _ (clY s (a+2) g d true):=λh=>Iz s (a+2) g d hs true (by have:=(qM h).2.1;omega) U;have l1:oJ s (a+1) false 94=false->aO P _ _ _ (clY s (a+1) g d false):=λ_=>Iz s (a+1) g d hs false U U;have hn2:oJ s (a+1) false 94=true->a+2<=s.size:=λh=>by have:=(qM h).2.1;omega
 refine cK (NO s) (clE s a g d) (let bn:=(M 139 [(0,S s),(3,dK 1),(4,dK 2),(5,dK 3),(6,J.dF)]);let bH:=J.bf 0 d.length;let cp:=ff (aK d);let cu:=aD f388 7;let dk:=(M 139 [(4,dK 1)]);let bP:=ox (aK d) 6;let bY:=[ox (aK d) 6];let dV:=cj (J.agg [I 3,U8 0,S<|dA [],Bo false,I 0,I 0]);let eu:=S (n_:y_);let fI:=cj (J.agg [I 3,U8 0,S<|dA [],Bo true,I 0,I 0]);let ia:=cM [[J.dF,I 0,I 0,Bo false]] 4;let jn:=d.length=cp.length;let ka:=J.bf 1 (cp.length+1);let kV:=(↑(a+2):Int);let lg:=(↑(a+1):Int);let mA:=cp.length<=1048576;let lT:=aK d=aK cp;let r9:=cM [[I 3,U8 0,eu,Bo false,I 0,I 0]] 6;let vD:=cM [[I 3,U8 0,eu,Bo true,I 0,I 0]] 6;let IA:=(s.size:Int);let B9:=kN s (a+2);let V:=vO s (s.size+1) B9.snd.fst (mR s<|a+2);let bu:=(V.snd.fst:Int);let dE:=cj (J.agg [I 3,U8 0,S<|dA V.snd.snd.fst,Bo true,I 0,I 0]);let iz:=I B9.snd.fst;let NR:=(J.agg [bH,I bu,I g,fZ],bY);let JM:=kN s (a+1);let aG:=vO s (s.size+1) JM.snd.fst (mR s<|a+1);let bC:=(aG.snd.fst:Int);let cN:=cj (J.agg [I 3,U8 0,S<|dA aG.snd.snd.fst,Bo false,I 0,I 0]);let iC:=I JM.snd.fst;let Rv:=(J.agg [bH,I bC,I g,fZ],bY);let IB:=Out.ext 0;let JN:=oU (bu+1);let bo2:=af Inst;let b18:=oU (kV+1);let b19:=oU (bC+1);let b20:=oU (lg+1);let b21:=cM [[J.dF,I 0,I 0,aP]] 4;let bO2:=(a:Int)+1;let Z:=[bP,cM [[bH,I<|oU<|oU bO2+1,I g,Bo false]] 4,b21,cM [[I 3,U8 0,eu,fZ,I 0,I 0]] 6];let iD:=oU bO2;let aS:=[bP,cM [[bH,I iD,I g,Bo false]] 4,b21,cM [[I 3,U8 0,eu,aP,I 0,I 0]] 6];let b22:=[bH,I bu,I g,Bo true];let b23:=[bH,I bC,I g,Bo true];(.r s<|.o [oU bO2=(iD.toNat:Int)]<|.r (g:Int)<|.o [lT,jn]<|.n (oJ s iD.toNat false 94) (.d (a+2<s.size) (.n (B9.fst) (.n (V.fst) (.o [ax P cu bn Z IB (M 139 [(0,S s),(3,dK 1),(4,dK 2),(5,dK 3),(6,J.bf 4 V.snd.snd.fst.length)]) [bP,cM [[bH,I bu,I g,Bo false]] 4,ia,vD,dn V.snd.snd.fst 1]]<|.q bu IA (.e NR)<|.o [va V.snd.snd.fst=true]<|.r (V.snd.snd.fst.length)<|.o [oU (bu+1)=(JN.toNat:Int)]<|.r (g:Int)<|.o [lT,jn,jK dE=bo2.au (dm<|jK dE),mA]<|.e (J.agg [ka,I JN,I g,Bo false],[js 6,dn (aK<|ff (aK d)++ [dm<|jK dE]) 6]))<|.n (V.snd.snd.snd) (.o [ax P cu bn Z (Out.ret) dk [bP,cM [[bH,I bu,I g,fZ]] 4]]<|.e NR)<|.o [ax P cu bn Z (Out.ret) dk [bP,cM [b22] 4]]<|.e (J.agg b22,bY))<|.n (B9.snd.snd.snd.snd) (.o [ax P cu bn Z (Out.ret) dk [bP,cM [[bH,iz,I g,fZ]] 4]]<|.e (J.agg [bH,iz,I g,fZ],bY))<|.o [ax P cu bn Z (Out.ret) dk [bP,cM [[bH,iz,I g,Bo true]] 4]]<|.e (J.agg [bH,iz,I g,Bo true],bY))<|.o [ax P cu bn Z IB bn [bP,cM [[bH,I kV,I g,Bo false]] 4,ia,vD]]<|.q kV IA (.e (J.agg [bH,I kV,I g,fZ],bY))<|.r true<|.o [oU (kV+1)=(b18.toNat:Int)]<|.r (g:Int)<|.o [lT,jn,jK fI=bo2.au (dm<|jK fI),mA]<|.e (J.agg [ka,I b18,I g,Bo false],[js 6,dn (aK<|ff (aK d)++ [dm<|jK fI]) 6]))<|.d (a+1<s.size) (.n (JM.fst) (.n (aG.fst) (.o [ax P cu bn aS IB (M 139 [(0,S s),(3,dK 1),(4,dK 2),(5,dK 3),(6,J.bf 4 aG.snd.snd.fst.length)]) [bP,cM [[bH,I bC,I g,Bo false]] 4,ia,r9,dn aG.snd.snd.fst 1]]<|.q bC IA (.e Rv)<|.o [va aG.snd.snd.fst=true]<|.r (aG.snd.snd.fst.length)<|.o [oU (bC+1)=(b19.toNat:Int)]<|.r (g:Int)<|.o [lT,jn,jK cN=bo2.au (dm<|jK cN),mA]<|.e (J.agg [ka,I b19,I g,Bo false],[js 6,dn (aK<|ff (aK d)++ [dm<|jK cN]) 6]))<|.n (aG.snd.snd.snd) (.o [ax P cu bn aS (Out.ret) dk [bP,cM [[bH,I bC,I g,fZ]] 4]]<|.e Rv)<|.o [ax P cu bn aS (Out.ret) dk [bP,cM [b23] 4]]<|.e (J.agg b23,bY))<|.n (JM.snd.snd.snd.snd) (.o [ax P cu bn aS (Out.ret) dk [bP,cM [[bH,iC,I g,fZ]] 4]]<|.e (J.agg [bH,iC,I g,fZ],bY))<|.o [ax P cu bn aS (Out.ret) dk [bP,cM [[bH,iC,I g,Bo true]] 4]]<|.e (J.agg [bH,iC,I g,Bo true],bY))<|.o [ax P cu bn aS IB bn [bP,cM [[bH,I lg,I g,Bo false]] 4,ia,r9]]<|.q lg IA (.e (J.agg [bH,I lg,I g,fZ],bY))<|.r true<|.o [oU (lg+1)=(b20.toNat:Int)]<|.r (g:Int)<|.o [lT,jn,jK dV=bo2.au (dm<|jK dV),mA]<|.e (J.agg [ka,I b20,I g,Bo false],[js 6,dn (aK<|ff (aK d)++ [dm<|jK dV]) 6]))) ?_
 try dsimp only
 simp only[dL,fT,e1,e2,cj];simp only[av]
 (repeat' with_reducible first|intro _|apply aNd_)<;>first|exact aM|exact((((l2 W).t<|cd W).t W).t W).one|exact(((((l2 W).t<|cd W).t W).f W).t W).one|exact(((((l2 W).t<|cd W).t W).f W).f W).one|exact((((l2 W).t<|cd W).f W).t W).one|exact((((l2 W).t<|cd W).f W).f W).one|exact((l2 W).f<|fq W).one|(rw[vP W,NQ W W W];exact kO _ _ _ _ (.inl rfl))|(rw[vP W,NP W W];exact kO _ _ _ _ (.inl rfl))|(rw[vP W,NQ W W W];exact kO _ _ _ _ (.inr rfl))|(rw[vP W,NP W W];exact kO _ _ _ _ (.inr rfl))|(have q:=ym (s:=s) (a:=a+2) (n:=s.size+1) W;rw[vP W,aY2 W W W U];exact kO _ _ _ _ (.inl rfl))|(have q:=ym (s:=s) (a:=a+2) (n:=s.size+1) W;rw[vP W,aY3 W W W U];exact aY0 _ _ _ _ U)|(have q:=ym (s:=s) (a:=a+2) (n:=s.size+1) W;rw[wrap64 U U];omega)|(rw[vP W,aY1 W];exact kO _ _ _ _ (.inl rfl))|(have q:=hn2 W;omega)|exact((((l1 W).t<|cd W).t W).t W).one|exact(((((l1 W).t<|cd W).t W).f W).t W).one|exact(((((l1 W).t<|cd W).t W).f W).f W).one|exact((((l1 W).t<|cd W).f W).t W).one|exact((((l1 W).t<|cd W).f W).f W).one|exact((l1 W).f<|fq W).one|(rw[vQ W,NQ W W W];exact kO _ _ _ _ (.inl rfl))|(rw[vQ W,NP W W];exact kO _ _ _ _ (.inl rfl))|(rw[vQ W,NQ W W W];exact kO _ _ _ _ (.inr rfl))|(rw[vQ W,NP W W];exact kO _ _ _ _ (.inr rfl))|(have q:=ym (s:=s) (a:=a+1) (n:=s.size+1) W;rw[vQ W,aY2 W W W U];exact kO _ _ _ _ (.inl rfl))|(have q:=ym (s:=s) (a:=a+1) (n:=s.size+1) W;rw[vQ W,aY3 W W W U];exact aY0 _ _ _ _ U)|(have q:=ym (s:=s) (a:=a+1) (n:=s.size+1) W;rw[wrap64 U U];omega)|(rw[vQ W,aY1 W];exact kO _ _ _ _ (.inl rfl))|exact aX9 s _ _ _ rfl
abbrev RQ:=jo->jo
def qC(s:y_)(t:jo):Prop:=t.a<=s.size/\t.g<=9/\t.d.length<=2*t.a+1/\t.bad=false
def xo(s:y_)(t q:jo):Prop:=q.a<=s.size/\q.g<=9/\q.d.length<=2*q.a+1/\t.a<=q.a/\t.d.length<=q.d.length
def Sb(s:y_)(f:Nat)(R:RQ):Prop:=∀t:jo,qC s t/\s.size<t.a+f->kD P 321 [S s,uR t 0] [iB t.d true] (uR (R t) 1) [gI,iB (R t).d false]
def NS(s:y_)(f:Nat)(R:RQ):Prop:=∀t:jo,qC s t->s.size<t.a+f->xo s t (R t)
def spF:l_ J->Option (J×l_ Prop)
 | [.sc (.int .u8 c)]=>some (Bo (spB c),[])
 |_=>none
theorem bO3 {E:Env}(hE:an P E):an P (aF 389 spF E):=gi hE λaa r ob O h2=>by
 unfold spF at O;split at O
 .cases O;exact U5 _
 .cases O
def EAr(s:y_)(f:Nat)(R:RQ):Env:=aF 389 spF<|cF 388 (NM s (lj s)<|Yp s)<|cF 321 (NM s R λt=>qC s t/\s.size<t.a+f)<|ERc s
theorem bO4(s:y_)(f:Nat)(R:RQ)(hs:s.size<=256:=by assumption)(h:Sb s f R:=by assumption):an P (EAr s f R):=
 have vd:s.size<=aq:=cm hs dD
 bO3 (vN (vN (NO s) h) λt ht=>al7 s t hs ht)
def psA(t:jo)(i:Inst):jo:= {t with a:=t.a+1,d:=t.d++ [i]}
def gR(t:jo):jo:= {t with a:=t.a+1,g:=t.g+1,d:=t.d++ [sv<|2*((t.g+1:Nat):Int)]}
def Rw(s:y_)(t u:jo):jo:=if oJ s u.a u.bad 41=false then {u with bad:=true}else {u with a:=u.a+1,d:=u.d++ [sv<|2*((t.g+1:Nat):Int)+1]}
def lZ(s:y_)(R:RQ)(t:jo):jo:=
 if dx s t.a=40 then(if 9<=t.g then {t with bad:=true}else Rw s t (R<|gR t))
 else if dx s t.a=46 then psA t (Oz 2)
 else if dx s t.a=94 then psA t (Oz 4)
 else if dx s t.a=36 then psA t (Oz 5)
 else if dx s t.a=91 then lj s t
 else if spB (dx s t.a)=true/\dx s t.a≠92 then {t with bad:=true}
 else if cB s t.a=true then⟨cA s t.a,t.g,true,t.d⟩
 else⟨cA s t.a,t.g,t.bad,t.d++ [chI<|cC s t.a]⟩
theorem FY(a b:Int)(c:y_)(d:Bool)(x y:Int):dm (jK<|.agg [.sc<|.int .i64 a,.sc<|.int .u8 b,.sc<|.string c,.bit d,.sc<|.int .i64 x,.sc<|.int .i64 y])=⟨a,b,c,d,x,y⟩:=rfl
theorem yn(d:l_ Inst)(x g:Nat)(b:Bool)(i:Inst):dR (.agg [.bf 1<|d.length+1,I x,I g,Bo b],[⟨[],2,[],6,true,true⟩,⟨aK<|d++ [i],0,[],6,true,false⟩]) (uR ⟨x,g,b,d++ [i]⟩ 1,[gI,iB (d++ [i]) false]):=by unfold uR;rw[br];exact dR.of_eq rfl
theorem bo3(d:l_ Inst)(x g:Nat):dR (.agg [.bf 1 d.length,I x,I g,.bit true],[⟨[],2,[],6,true,true⟩,⟨aK d,0,[],6,true,false⟩]) (uR ⟨x,g,true,d⟩ 1,[gI,iB d false]):=aW6 rfl rfl
section
variable {s:y_} {R:RQ} {a g:Nat} {b:Bool} {d:l_ Inst}
theorem bo4(h:dx s a=40)(hg:9<=g):lZ s R ⟨a,g,b,d⟩=⟨a,g,true,d⟩:=(if_pos h).trans<|if_pos hg
theorem Yq(h:dx s a=40)(hg: ¬9<=g):lZ s R ⟨a,g,b,d⟩=Rw s ⟨a,g,b,d⟩ (R<|gR ⟨a,g,b,d⟩):=(if_pos h).trans<|if_neg hg
theorem bo5(h:dx s a=46):lZ s R ⟨a,g,b,d⟩=⟨a+1,g,b,d++ [Oz 2]⟩:=(if_neg (show ¬dx s a=40 by omega)).trans<|if_pos h
theorem bo6(h:dx s a=94):lZ s R ⟨a,g,b,d⟩=⟨a+1,g,b,d++ [Oz 4]⟩:=(if_neg (show ¬dx s a=40 by omega)).trans<|(if_neg (show ¬dx s a=46 by omega)).trans<|if_pos h
theorem bo7(h:dx s a=36):lZ s R ⟨a,g,b,d⟩=⟨a+1,g,b,d++ [Oz 5]⟩:=(if_neg (show ¬dx s a=40 by omega)).trans<|(if_neg (show ¬dx s a=46 by omega)).trans<|(if_neg (show ¬dx s a=94 by omega)).trans<|if_pos h
theorem bo8(h:dx s a=91):lZ s R ⟨a,g,b,d⟩=lj s ⟨a,g,b,d⟩:=(if_neg (show ¬dx s a=40 by omega)).trans<|(if_neg (show ¬dx s a=46 by omega)).trans<|(if_neg (show ¬dx s a=94 by omega)).trans<|(if_neg (show ¬dx s a=36 by omega)).trans<|if_pos h
theorem NT(O:dx s a≠40)(h2:dx s a≠46)(h3:dx s a≠94)(h4:dx s a≠36)(h5:dx s a≠91):lZ s R ⟨a,g,b,d⟩=if spB (dx s a)=true/\dx s a≠92 then⟨a,g,true,d⟩else if cB s a=true then⟨cA s a,g,true,d⟩else⟨cA s a,g,b,d++ [chI<|cC s a]⟩:=(if_neg O).trans<|(if_neg h2).trans<|(if_neg h3).trans<|(if_neg h4).trans<|if_neg h5
end
theorem aY4(s:y_)(f:Nat)(R:RQ)(hs:s.size<=256)(h:Sb s f R)(hp:NS s f R)(a g:Nat)(d:l_ Inst)(ht:qC s ⟨a,g,false,d⟩)(ha:a<s.size)(hf:s.size<a+1+f):kD P 376 [S s,uR ⟨a,g,false,d⟩ 0] [iB d true] (uR (lZ s R ⟨a,g,false,d⟩) 1) [gI,iB (lZ s R ⟨a,g,false,d⟩).d false]:=by
 have vd:s.size<=aq:=by unfold aq;omega
 obtain⟨p1,p2,p3,p4⟩:=ht;have q2:g<=9:=p2;have q3:d.length<=2*a+1:=p3;have e1:oU ((a:Int)+1)=((a+1:Nat):Int):=by rw[wrap64 U U];omega
 have e2:oU ((g:Int)+1)=((g+1:Nat):Int):=by rw[wrap64 U U];omega
 have e3:oU (2*((g+1:Nat):Int))=2*((g+1:Nat):Int):=wrap64 U U;have e4:oU (2*((g+1:Nat):Int)+1)=2*((g+1:Nat):Int)+1:=wrap64 U U;obtain⟨u,hu⟩:∃u,R (gR ⟨a,g,false,d⟩)=u:=⟨_,rfl⟩
 have hu':R ⟨a+1,g+1,false,d++ [⟨8,0,n_,false,2*((g+1:Nat):Int),0⟩]⟩=u:=hu;have hqp: ¬9<=g->qC s (gR ⟨a,g,false,d⟩):=λq=>⟨ha,by show g+1<=9;omega,by show(d++ [_]).length<=2*(a+1)+1;rw[br];show _+1<=_;omega,rfl⟩
 have sq: ¬9<=g->xo s (gR ⟨a,g,false,d⟩) u:=λq=>by rw[<-hu];exact hp _ (hqp q) (by show s.size<a+1+f;omega)
 have hua: ¬9<=g->u.a<=s.size/\u.d.length<=1048576:=λq=>⟨(sq q).1,by have q1:=(sq q).1;have q2:=(sq q).2.2.1;omega⟩
 have hdl:∀i:Inst,d.length+1=(d++ [i]).length:=λi=>by rw[br];rfl
 have e5:u.a<=s.size->oU ((u.a:Int)+1)=((u.a+1:Nat):Int):=λq=>by rw[wrap64 U U];omega
 refine cK (bO4 s f R) L0 (let V:=cellOf (Value.int IntKind.i64 0);let aG:=cellOf (Value.string (n_:y_));let bH:=cellOf (Value.int IntKind.u8 0);let cp:=cellOf (Value.bool false);let cu:=ff (aK d);let bu:=(↑(s.data.toList.getD a 0).toNat:Int);let bC:=oU ((a:Int)+1);let dE:=d.length=cu.length;let dV:=cj (J.agg [I 1,U8<|cC s a,aG,cp,V,V]);let fI:=cj (J.agg [I 2,bH,aG,cp,V,V]);let ia:=cj (J.agg [I 4,bH,aG,cp,V,V]);let iz:=cj (J.agg [I 5,bH,aG,cp,V,V]);let jn:=aK d=aK cu;let iD:=cu.length<=1048576;let ka:=(J.agg [J.bf 0 d.length,I a,I g,fZ],[ox (aK d) 6]);let kV:=oU ((a:Int)+1)=(bC.toNat:Int);let lg:=(g:Int)+1;let bn:=cj (J.agg [I 8,bH,aG,cp,I<|oU<|2*oU lg,V]);let dk:=cj (J.agg [I 8,bH,aG,cp,I<|oU<|oU (2*oU lg)+1,V]);let eu:=ff (aK d)++ [dm<|jK bn];let r9:=af Inst;let vD:=ff (aK eu);let NR:=(↑(cA s a):Int);let B9:=oU lg;let Z:=jo.mk bC.toNat B9.toNat false vD;let iC:=oU lg=(B9.toNat:Int);let mA:=(↑(R Z).a:Int);let lT:=(↑(R Z).g:Int);let IA:=aK (R Z).d;let cN:=ff IA;let Rv:=(R Z).d.length=cN.length;let JM:=aK (R Z).d=aK cN;let IB:=jo.mk a g false cu;let bP:=lj s IB;let JN:=J.bf 1 (cu.length+1);let aS:TcH:=(.r s<|.r (a:Int)<|.r (g:Int)<|.r false<|.o [jn,dE,a<s.size]<|.n (cB s a) (.e (J.agg [J.bf 0 d.length,I NR,I g,Bo<|cB s a],[ox (aK d) 6]))<|.r NR<|.r (g:Int)<|.o [jn,dE,jK dV=r9.au (dm<|jK dV),iD]<|.e (J.agg [JN,I NR,I g,Bo<|cB s a],[js 6,dn (aK<|ff (aK d)++ [dm<|jK dV]) 6]));let bY:=J.agg [JN,I bC,I g,Bo false];(.g a s.size<|.q bu 40 (.d ((g:Int)>=9) (.e ka)<|.o [kV,iC,jn,dE,jK bn=r9.au (dm<|jK bn),iD]<|.r s<|.o [kV,iC,aK eu=aK vD,cu.length+1=vD.length,qC s Z/\s.size<bC.toNat+f]<|.r s<|.r mA<|.r lT<|.o [JM,Rv]<|.m (oJ s (R Z).a (R Z).bad 41) (.e (J.agg [J.bf 1 (R Z).d.length,I mA,I lT,fZ],[js 6,dn IA 6]))<|.r mA<|.r lT<|.o [JM,Rv,jK dk=r9.au (dm<|jK dk),cN.length<=1048576]<|.e (J.agg [J.bf 1<|cN.length+1,I<|oU<|mA+1,I lT,Bo (R Z).bad],[js 6,dn (aK<|ff IA++ [dm<|jK dk]) 6]))<|.q bu 46 (.r (a:Int)<|.r (g:Int)<|.o [jn,dE,jK fI=r9.au (dm<|jK fI),iD]<|.e (bY,[js 6,dn (aK<|ff (aK d)++ [dm<|jK fI]) 6]))<|.q bu 94 (.r (a:Int)<|.r (g:Int)<|.o [jn,dE,jK ia=r9.au (dm<|jK ia),iD]<|.e (bY,[js 6,dn (aK<|ff (aK d)++ [dm<|jK ia]) 6]))<|.q bu 36 (.r (a:Int)<|.r (g:Int)<|.o [jn,dE,jK iz=r9.au (dm<|jK iz),iD]<|.e (bY,[js 6,dn (aK<|ff (aK d)++ [dm<|jK iz]) 6]))<|.q bu 91 (.r s<|.r (a:Int)<|.r (g:Int)<|.o [jn,dE,Yp s IB]<|.e (J.agg [J.bf 1 bP.d.length,I bP.a,I bP.g,Bo bP.bad],[js 6,dn (aK bP.d) 6]))<|.n (spB bu) (.u bu 92 (.e ka) aS) aS)) ?_
 try dsimp only
 simp only[dL,fT,e1,e2,e3,e4,cellOf,cj,FY,hu'];clear e1 e2 e3 e4;simp only[av]
 (repeat' with_reducible first|intro _|apply aNd_)<;>first|exact aM|exact hdl _|exact hqp U|exact⟨ha,rfl,by show d.length<=4096;omega⟩|(rw[bo4 W U];exact kO _ _ _ _ (.inl rfl))|(rw[Yq W U,hu,Rw,if_pos W];exact bo3 _ _ _)|(have q:=(hua U).1;have k:oJ s u.a u.bad 41=true:=W;rw[Yq W U,hu,Rw,if_neg (by rw[k];exact Bool.noConfusion),e5 q];exact yn _ _ _ _ _)|(rw[bo5 W];exact yn _ _ _ _ _)|(rw[bo6 W];exact yn _ _ _ _ _)|(rw[bo7 W];exact yn _ _ _ _ _)|(rw[bo8 W];exact dR.of_eq rfl)|(rw[NT W W W W W,if_pos ⟨W,W⟩];exact kO _ _ _ _ (.inl rfl))|(have k:cB s a=true:=W;rw[NT W W W W W,if_neg λq=>by first|exact absurd q.2 (cI W)|(have z:spB (dx s a)=false:=W;rw[z]at q;exact Bool.noConfusion q.1),if_pos k,k];exact kO _ _ _ _ (.inr rfl))|(have k:cB s a=false:=W;rw[NT W W W W W,if_neg λq=>by first|exact absurd q.2 (cI W)|(have z:spB (dx s a)=false:=W;rw[z]at q;exact Bool.noConfusion q.1),if_neg (by rw[k];exact dj),k];exact yn _ _ _ _ _)
theorem al8 {s:y_} {t:jo}(h:Yp s t):t.a<(lj s t).a/\(lj s t).a<=s.size/\(lj s t).g=t.g/\t.d.length<=(lj s t).d.length/\(lj s t).d.length<=t.d.length+1:=by
 have hn:t.a<B7 s t.a/\B7 s t.a<=s.size:=by
  have O:=h.1;unfold B7;split
  .rename_i q;have:=(qM q).2.1;omega
  .omega
 unfold lj JL;split
 .exact⟨hn.1,hn.2,rfl,bE _,sQ _⟩
 .rename_i q;have F:=Iy (s:=s) (a:=B7 s t.a) U;split
  .exact⟨by show t.a<(kN s<|B7 s t.a).2.1;omega,F.2.1,rfl,bE _,sQ _⟩
  .have Y:=U6 s (s.size+1) (kN s<|B7 s t.a).2.1 (mR s<|B7 s t.a) F.2.1;split
   .exact⟨by show t.a<(vO s (s.size+1) (kN s<|B7 s t.a).2.1<|mR s<|B7 s t.a).2.1;omega,Y.2,rfl,bE _,sQ _⟩
   .split
    .exact⟨by show t.a<(vO s (s.size+1) (kN s<|B7 s t.a).2.1<|mR s<|B7 s t.a).2.1;omega,Y.2,rfl,bE _,sQ _⟩
    .refine⟨by show t.a<(vO s (s.size+1) (kN s<|B7 s t.a).2.1<|mR s<|B7 s t.a).2.1+1;omega,by show(vO s (s.size+1) (kN s<|B7 s t.a).2.1<|mR s<|B7 s t.a).2.1+1<=_;omega,rfl,?_,?_⟩
     .show _<=(t.d++ [_]).length;rw[br];omega
     .show(t.d++ [_]).length<=_;rw[br];exact bE _
theorem Yr {s:y_} {f:Nat} {R:RQ}(hp:NS s f R) {t:jo}(ht:qC s t)(ha:t.a<s.size)(hf:s.size<t.a+1+f)(hs:s.size<=256):xo s t (lZ s R t)/\((lZ s R t).bad=false->t.a<(lZ s R t).a):=by
 obtain⟨p1,p2,p3,p4⟩:=ht;have app:∀i:Inst,(t.d++ [i]).length=t.d.length+1:=λi=>by rw[br];rfl
 have one:∀(x:Nat) (b:Bool) (i:Inst),t.a<x->x<=s.size->xo s t ⟨x,t.g,b,t.d++ [i]⟩/\(b=false->t.a<x):=λx b i O h2=>⟨⟨h2,p2,by show(t.d++ [i]).length<=2*x+1;rw[app];omega,by show t.a<=x;omega,by show _<=(t.d++ [i]).length;rw[app];omega⟩,λ_=>O⟩
 have two:∀x:Nat,t.a<=x->x<=s.size->xo s t ⟨x,t.g,true,t.d⟩/\(true=false->t.a<x):=λx O h2=>⟨⟨h2,p2,by show t.d.length<=2*x+1;omega,O,bE _⟩,λq=>by cases q⟩
 unfold lZ;split
 .split
  .exact two _ (bE _) p1
  .rename_i hg;have sq:xo s (gR t) (R<|gR t):=hp _ ⟨ha,by show t.g+1<=9;omega,by show(t.d++ [_]).length<=2*(t.a+1)+1;rw[app];omega,p4⟩ (by show s.size<t.a+1+f;omega);obtain⟨o1,o2,o3,o4,o5⟩:=sq;have o4':t.a+1<=(R<|gR t).a:=o4;have Uy:(t.d++ [sv<|2*((t.g+1:Nat):Int)]).length<=(R<|gR t).d.length:=o5;rw[app]at Uy;unfold Rw;split
   .exact⟨⟨o1,o2,o3,by show t.a<=(R<|gR t).a;omega,by show _<=(R<|gR t).d.length;omega⟩,λq=>by cases q⟩
   .rename_i q;have q:oJ s (R<|gR t).a (R<|gR t).bad 41=true:=by grind
    have q1:=(qM q).2.1;refine⟨⟨q1,o2,?_,by show t.a<=(R<|gR t).a+1;omega,?_⟩,λ_=>by show t.a<(R<|gR t).a+1;omega⟩
    .show((R<|gR t).d++ [_]).length<=2*((R<|gR t).a+1)+1;rw[br];show _+1<=_;omega
    .show _<=((R<|gR t).d++ [_]).length;rw[br];show _<=_+1;omega
 .have Y:=aW9 ha;split
  .exact one _ _ _ (rK _) ha
  .split
   .exact one _ _ _ (rK _) ha
   .split
    .exact one _ _ _ (rK _) ha
    .split
     .have:=al8 (s:=s) (t:=t) ⟨ha,p4,U⟩;exact⟨⟨this.2.1,by rw[this.2.2.1];exact p2,U,U,this.2.2.2.1⟩,λ_=>this.1⟩
     .split
      .exact two _ (bE _) p1
      .split
       .exact two _ U Y.2
       .exact one _ _ _ Y.1 Y.2
def NU(d:l_ Inst)(k:Nat):l_ Inst:=lz (Am d k (Di<|Al k)++ [jpI (k:Nat)]) k ((Am d k (Di<|Al k)++ [jpI (k:Nat)]).length:Nat)
def NV(d:l_ Inst)(k:Nat):l_ Inst:=d++ [⟨6,0,n_,false,(k:Nat),Al d.length⟩]
def Ys(d:l_ Inst)(k:Nat):l_ Inst:=lz (Am d k<|Di<|Al k) k ((Am d k<|Di<|Al k).length:Nat)
def pcR(s:y_)(t u:jo):jo:=
 if oJ s u.a u.bad 42=true then⟨u.a+1,u.g,u.bad,NU u.d t.d.length⟩
 else if oJ s u.a u.bad 43=true then⟨u.a+1,u.g,u.bad,NV u.d t.d.length⟩
 else if oJ s u.a u.bad 63=true then⟨u.a+1,u.g,u.bad,Ys u.d t.d.length⟩
 else u
def kP(s:y_)(R:RQ)(t:jo):jo:=pcR s t<|lZ s R t
def IC(s:y_)(f:Nat)(t:jo):Prop:=qC s t/\t.a<s.size/\s.size<t.a+1+f
theorem al9(s:y_)(f:Nat)(R:RQ)(hs:s.size<=256)(h:Sb s f R)(hp:NS s f R)(t:jo)(ht:IC s f t):kD P 376 [S s,uR t 0] [iB t.d true] (uR (lZ s R t) 1) [gI,iB (lZ s R t).d false]:=by obtain⟨a,g,b,d⟩:=t;obtain⟨O,h2,h3⟩:=ht;have hb:b=false:=O.2.2.2;subst hb;exact aY4 s f R hs h hp a g d O h2 h3
def by2(E:Env):Env:=vV (λid _ _=>match id with
 |0=>none
 |1=>none
 |2=>none
 |_=>some (.cell cj4)) E
def cd5(s:y_)(f:Nat)(R:RQ):Env:=by2<|cF 376 (NM s (lZ s R)<|IC s f)<|cF 352 Yl<|cF 322 Lh<|cF 351 (Ru s) EN
theorem bo9(s:y_)(f:Nat)(R:RQ)(hs:s.size<=256:=by assumption)(h:Sb s f R:=by assumption)(hp:NS s f R:=by assumption):an P (cd5 s f R):=
 j7 (vN (Rt<|B6<|Iw aw) λt ht=>al9 s f R hs h hp t ht)
theorem Rx(D:l_ Inst)(k n x g:Nat)(b:Bool)(v v':Int)(h:k<D.length)(hn:n=D.length)(hv:v=v'):dR (.agg [.bf 1 n,I x,I g,Bo b],[⟨[],2,[],6,true,true⟩,⟨(aK D).set k<|PS.splice ((aK D).getD k []) 5 [I v],0,[],6,true,false⟩]) (uR ⟨x,g,b,lz D k v'⟩ 1,[gI,iB (lz D k v') false]):=by rw[Dj v h,hn,hv];unfold uR;rw[fm];exact dR.of_eq rfl
section
variable {s:y_} {t u:jo}
theorem b24(h:oJ s u.a u.bad 42=true):pcR s t u=⟨u.a+1,u.g,u.bad,NU u.d t.d.length⟩:=if_pos h
theorem b25(h:oJ s u.a u.bad 42=false)(h2:oJ s u.a u.bad 43=true):pcR s t u=⟨u.a+1,u.g,u.bad,NV u.d t.d.length⟩:=(if_neg (by rw[h];exact dj)).trans<|if_pos h2
theorem b26(h:oJ s u.a u.bad 42=false)(h2:oJ s u.a u.bad 43=false)(h3:oJ s u.a u.bad 63=true):pcR s t u=⟨u.a+1,u.g,u.bad,Ys u.d t.d.length⟩:=(if_neg (by rw[h];exact dj)).trans<|(if_neg (by rw[h2];exact dj)).trans<|if_pos h3
theorem b27(h:oJ s u.a u.bad 42=false)(h2:oJ s u.a u.bad 43=false)(h3:oJ s u.a u.bad 63=false):pcR s t u=u:=(if_neg (by rw[h];exact dj)).trans<|(if_neg (by rw[h2];exact dj)).trans<|if_neg (by rw[h3];exact dj)
end
theorem am0(s:y_)(f:Nat)(R:RQ)(hs:s.size<=256)(h:Sb s f R)(hp:NS s f R)(a g:Nat)(d:l_ Inst)(ht:IC s f ⟨a,g,false,d⟩):kD P 366 [S s,uR ⟨a,g,false,d⟩ 0] [iB d true] (uR (kP s R ⟨a,g,false,d⟩) 1) [gI,iB (kP s R ⟨a,g,false,d⟩).d false]:=by
 have vd:s.size<=aq:=by unfold aq;omega
 have sq:=(Yr hp ht.1 ht.2.1 ht.2.2 hs).1;obtain⟨u,hu⟩:∃u,lZ s R ⟨a,g,false,d⟩=u:=⟨_,rfl⟩
 rw[hu]at sq;obtain⟨o1,o2,o3,o4,o5⟩:=sq;have Uy:d.length<=u.d.length:=o5;have e5:oU ((u.a:Int)+1)=((u.a+1:Nat):Int):=by rw[wrap64 U U];omega
 have hR:(Am u.d d.length ⟨6,0,n_,false,oU<|(d.length:Nat)+1,0⟩).length=u.d.length+1:=te _ _ _ Uy;have hR2:(Am u.d d.length ⟨6,0,n_,false,oU<|(d.length:Nat)+1,0⟩++ [(⟨7,0,n_,false,(d.length:Nat),0⟩:Inst)]).length=u.d.length+2:=by rw[br,hR];rfl
 have hp':kP s R ⟨a,g,false,d⟩=pcR s ⟨a,g,false,d⟩ u:=by rw[<-hu];rfl
 have s1:=vK (D:=Am u.d d.length ⟨6,0,n_,false,oU<|(d.length:Nat)+1,0⟩) (k:=d.length) U;have s2:=vK (D:=Am u.d d.length ⟨6,0,n_,false,oU<|(d.length:Nat)+1,0⟩++ [(⟨7,0,n_,false,(d.length:Nat),0⟩:Inst)]) (k:=d.length) U
 refine cK (bo9 s f R) L0 (let bY:=cellOf (Value.string (n_:y_));let dV:=cellOf (Value.int IntKind.u8 0);let eu:=cellOf (Value.bool false);let iz:=ff (aK d);let jn:=cellOf (Value.int IntKind.i64 0);let aG:=cj (J.agg [I 7,dV,bY,eu,I d.length,jn]);let iD:=(d.length:Int);let aS:=cj (J.agg [I 6,dV,bY,eu,I<|oU<|iD+1,jn]);let mA:=jo.mk a g false iz;let V:=lZ s R mA;let bn:=cj (J.agg [I 6,dV,bY,eu,I d.length,I<|oU<|(V.d.length:Int)+1]);let dk:=(V.g:Int);let dE:=(V.a:Int);let cp:=oU (dE+1);let bu:=[oU (dE+1)=(cp.toNat:Int)];let lT:=Bo V.bad;let r9:=aK V.d;let bH:=ff r9;let Z:=Am bH d.length (dm<|jK aS);let cN:=aK Z;let cu:=aK (ff cN++ [dm<|jK aG]);let fI:=V.d.length=bH.length;let iC:=aK V.d=aK bH;let bC:=[iC,fI,jK aS=(af Inst).au (dm<|jK aS),bH.length<=1048576];let bP:=[iC,fI];let ka:=cN.getD (0+d.length) [];let kV:=cu.getD (0+d.length) [];let lg:=ff cN;let ia:=lg.length+1;(.r s<|.r (a:Int)<|.r (g:Int)<|.o [aK d=aK iz,d.length=iz.length,IC s f mA]<|.r s<|.r dE<|.r dk<|.o bP<|.n (oJ s V.a V.bad 42) (.o bu<|.r dk<|.o bC<|.r iD<|.o [d.length<=bH.length,oU (dE+1)=(cp.toNat:Int)]<|.r dk<|.o [aK Z=aK lg,Z.length=lg.length,jK aG=(af Inst).au (dm<|jK aG),lg.length<=1048576]<|.g d.length (ia:Int)<|.o [0+d.length<cu.length,6<=kV.length]<|.e (J.agg [J.bf 1 ia,I cp,I dk,lT],[js 6,dn (cu.set (0+d.length)<|PS.splice kV (5) [I ia]) 6]))<|.r s<|.r dE<|.r dk<|.o bP<|.n (oJ s V.a V.bad 43) (.o bu<|.r dk<|.o [iC,fI,jK bn=(af Inst).au (dm<|jK bn),bH.length<=1048576]<|.e (J.agg [J.bf 1<|bH.length+1,I cp,I dk,lT],[js 6,dn (aK<|ff r9++ [dm<|jK bn]) 6]))<|.r s<|.r dE<|.r dk<|.o bP<|.n (oJ s V.a V.bad 63) (.o bu<|.r dk<|.o bC<|.r iD<|.o [d.length<=bH.length]<|.g d.length (Z.length:Int)<|.o [0+d.length<cN.length,6<=ka.length]<|.e (J.agg [J.bf 1 Z.length,I cp,I dk,lT],[js 6,dn (cN.set (0+d.length)<|PS.splice ka (5) [I Z.length]) 6]))<|.e (J.agg [J.bf 1 V.d.length,I dE,I dk,lT],[js 6,dn r9 6]))) ?_
 try dsimp only
 simp only[dL,fT,cellOf,cj,FY,hu,e5,eP];rw[hp'];simp only[av]
 (repeat' with_reducible first|intro _|apply aNd_)<;>first|exact aM|(rw[b24 W];exact Rx _ _ _ _ _ _ _ _ (by rw[hR2];omega) (by rw[hR2,hR]) (ba Nat.cast (by show _=(Am u.d d.length ⟨6,0,n_,false,oU<|(d.length:Nat)+1,0⟩++ [(⟨7,0,n_,false,(d.length:Nat),0⟩:Inst)]).length;rw[hR2,hR])))|(rw[b25 W W];exact yn _ _ _ _ _)|(rw[b26 W W W];exact Rx _ _ _ _ _ _ _ _ (by rw[hR];omega) rfl rfl)|(rw[b27 W W W];exact dR.of_eq rfl)
section
variable {s:y_}{R:RQ}
def aY5 {f:Nat}(hp:NS s f R) {t:jo}(ht:qC s t)(ha:t.a<s.size)(hf:s.size<t.a+1+f)(hs:s.size<=256):xo s t (kP s R t)/\((kP s R t).bad=false->t.a<(kP s R t).a):=by
 obtain⟨⟨o1,o2,o3,o4,o5⟩,o6⟩:=Yr hp ht ha hf hs;unfold kP;generalize lZ s R t=u at*;have key:∀D:l_ Inst,u.a<s.size->D.length<=u.d.length+2->u.d.length<=D.length->xo s t ⟨u.a+1,u.g,u.bad,D⟩/\(u.bad=false->t.a<u.a+1):=λD q0 q1 q2=>⟨⟨q0,o2,by show D.length<=2*(u.a+1)+1;omega,by show t.a<=u.a+1;omega,by show t.d.length<=D.length;omega⟩,λ_=>U⟩
 unfold pcR;split
 .rename_i n;refine key _ (qM n).2.1 ?_ ?_
  .unfold NU;rw[fm,br,te _ _ _ o5];exact bE _
  .unfold NU;rw[fm,br,te _ _ _ o5];omega
 .split
  .rename_i n;refine key _ (qM n).2.1 ?_ ?_
   .unfold NV;rw[br];show _+1<=_;omega
   .unfold NV;rw[br];omega
  .split
   .rename_i n;refine key _ (qM n).2.1 ?_ ?_
    .unfold Ys;rw[fm,te _ _ _ o5];omega
    .unfold Ys;rw[fm,te _ _ _ o5];omega
   .exact⟨⟨o1,o2,o3,o4,o5⟩,o6⟩
def U9(s:y_)(f:Nat)(R:RQ)(hs:s.size<=256)(h:Sb s f R)(hp:NS s f R)(t:jo)(ht:IC s f t):kD P 366 [S s,uR t 0] [iB t.d true] (uR (kP s R t) 1) [gI,iB (kP s R t).d false]:=by obtain⟨a,g,b,d⟩:=t;have hb:b=false:=ht.1.2.2.2;subst hb;exact am0 s f R hs h hp a g d ht
def EBq(s:y_)(f:Nat)(R:RQ):Env:=cF 366 (NM s (kP s R)<|IC s f) EN
def bO5(s:y_)(f:Nat)(R:RQ)(hs:s.size<=256:=by assumption)(h:Sb s f R:=by assumption)(hp:NS s f R:=by assumption):an P (EBq s f R):=
 vN aw λt ht=>U9 s f R hs h hp t ht
def bqH(t:jo):Hp:=[gI,⟨[[.bf 3 t.d.length,I t.a,I t.g,Bo t.bad]],0,[],4,false,false⟩,⟨[[.dF,I 0,I 0,.bit false]],0,[],4,false,false⟩,iB t.d false]
def stQ(s:y_)(t:jo):Bool:=decide<|t.bad=true\/ ¬t.a<s.size\/dx s t.a=124\/dx s t.a=41
def Ry (s:y_) (f:Nat) (R:RQ) (hs:s.size<=256) (h:Sb s f R) (hp:NS s f R) (a g:Nat) (b:Bool) (d:l_ Inst) (ht:b=false->qC s ⟨a,g,b,d⟩/\s.size<a+1+f) (lt:LT)
  (so:stQ s ⟨a,g,b,d⟩=true->lt.ends (.ext 0,(M 33 [(3,.ptr 1 0 0),(4,.ptr 2 0 0)]),bqH ⟨a,g,b,d⟩))
  (aW:stQ s ⟨a,g,b,d⟩=false->aO P (aD f350 1) (M 33 [(0,S s),(3,.ptr 1 0 0),(4,.ptr 2 0 0)]) (bqH<|kP s R ⟨a,g,b,d⟩) lt):aO P (aD f350 1) (M 33 [(0,S s),(3,.ptr 1 0 0),(4,.ptr 2 0 0)]) (bqH ⟨a,g,b,d⟩) lt:=by
 have vd:s.size<=aq:=by unfold aq;omega
 have n1:b=true\/ ¬a<s.size\/dx s a=124\/dx s a=41->stQ s ⟨a,g,b,d⟩=true:=λq=>cd q;have n0:b=false->a<s.size->dx s a≠124->dx s a≠41->stQ s ⟨a,g,b,d⟩=false:=λq1 q2 q3 q4=>fq λq=>by
  rcases q with q|q|q|q
  .rw[show b=true from q]at q1;cases q1
  .exact q q2
  .exact q3 q
  .exact q4 q
 refine ao (bO5 s f R) L0 [0,3,4] [10003,10004] (let aG:=(↑(s.data.toList.getD a 0).toNat:Int);let aS:=ff (aK d);let V:=kP s R (jo.mk a g b aS);let bn:=cM [[J.dF,I 0,I 0,aP]] 4;let Z:nV:=(fv 0 (M 33 [(3,dK 1),(4,dK 2)]) [js 6,cM [[J.bf 3 d.length,I a,I g,Bo b]] 4,bn,dn (aK d) 6]);(.m b (.d ((a:Int)<s.size) (.g a s.size<|.u aG 124 (.g a s.size<|.u aG 41 (.r s<|.r (a:Int)<|.r (g:Int)<|.o [aK d=aK aS,d.length=aS.length,IC s f<|jo.mk a g b aS]<|bR (M 33 [(0,S s),(3,dK 1),(4,dK 2)]) [js 6,cM [[J.bf 3 V.d.length,I V.a,I V.g,Bo V.bad]] 4,bn,dn (aK V.d) 6]) Z) Z) Z) Z)) ?_;try dsimp only
 simp only[fT];simp only[av]
 (repeat' with_reducible first|intro _|apply aNd_)<;>first|exact aM|exact⟨(ht W).1,(by show a<s.size;omega),(ht W).2⟩|exact so<|n1<|.inr<|.inl U|exact so<|n1<|.inl W|exact so<|n1<|.inr<|.inr<|.inl W|exact so<|n1<|.inr<|.inr<|.inr W|exact aW<|n0 W U W W
def OC(s:y_)(R:RQ):Nat->jo->jo
 |0,t=> {t with bad:=true}
 |n+1,t=>if stQ s t=true then t else OC s R n (kP s R t)
def bO6 {t:jo}(h:stQ s t=false):t.bad=false/\t.a<s.size/\dx s t.a≠124/\dx s t.a≠41:=by
 have h:=fW h;refine⟨?_,?_,?_,?_⟩
 .cases hb:t.bad with
  |false=>rfl
  |true=>exact absurd (.inl hb) h
 .exact tr.1 λq=>h<|.inr<|.inl q
 .exact λq=>h<|.inr<|.inr<|.inl q
 .exact λq=>h<|.inr<|.inr<|.inr q
def bLT(t:jo):LT:= .out (.ext 0) (M 33 [(3,.ptr 1 0 0),(4,.ptr 2 0 0)])<|bqH t
def aY6(s:y_)(f n:Nat)(t:jo):Prop:=1<=n/\(t.bad=false->qC s t/\s.size<t.a+n/\s.size<t.a+1+f)
def Li {f n:Nat}(hp:NS s f R)(hs:s.size<=256) {t:jo}(h:aY6 s f (n+1) t)(hq:stQ s t=false):aY6 s f n (kP s R t)/\xo s t (kP s R t):=by obtain⟨b1,b2,_,_⟩:=bO6 hq;obtain⟨i1,i2,i3⟩:=h.2 b1;have sq:=aY5 hp i1 b2 i3 hs;obtain⟨⟨o1,o2,o3,o4,o5⟩,o6⟩:=sq;refine⟨⟨U,λq=> ?_⟩,o1,o2,o3,o4,o5⟩;have:=o6 q;exact⟨⟨o1,o2,o3,q⟩,U,U⟩
theorem Ca(s:y_)(f:Nat)(R:RQ)(hs:s.size<=256)(h:Sb s f R)(hp:NS s f R):∀n t,aY6 s f n t->aO P (aD f350 1) (M 33 [(0,S s),(3,.ptr 1 0 0),(4,.ptr 2 0 0)]) (bqH t) (bLT<|OC s R n t)
 |0,t,hi=>absurd hi.1 (Nat.not_succ_le_zero 0)
 |n+1,t,hi=>by
  obtain⟨a,g,b,d⟩:=t;refine Ry s f R hs h hp a g b d (λq=>⟨(hi.2 q).1,(hi.2 q).2.2⟩) _ ?_ ?_
  .intro q;unfold OC;rw[if_pos q];exact rfl
  .intro q;have ih:=Ca s f R hs h hp n _ (Li hp hs hi q).1;unfold OC;rw[if_neg (by rw[q];exact dj)];exact ih
theorem NW {f:Nat}(hp:NS s f R)(hs:s.size<=256):∀n t,aY6 s f n t->t.a<=s.size/\t.g<=9/\t.d.length<=2*t.a+1->xo s t (OC s R n t)/\((OC s R n t).bad=false->stQ s (OC s R n t)=true)
 |0,t,hi,_=>absurd hi.1 (Nat.not_succ_le_zero 0)
 |n+1,t,hi,⟨t1,t2,t3⟩=>by
  unfold OC;split
  .rename_i q;exact⟨⟨t1,t2,t3,bE _,bE _⟩,λ_=>q⟩
  .rename_i q;have q:stQ s t=false:=by grind
   obtain⟨i1,o1,o2,o3,o4,o5⟩:=Li hp hs hi q;have ih:=NW hp hs n _ i1 ⟨o1,o2,o3⟩;obtain⟨⟨r1,r2,r3,r4,r5⟩,r6⟩:=ih;exact⟨⟨r1,r2,r3,U,U⟩,r6⟩
def fU(s:y_)(R:RQ)(t:jo):jo:=OC s R (s.size+1) t
def NX {f:Nat} {t:jo}(ht:qC s t)(hf:s.size<t.a+1+f):aY6 s f (s.size+1) t:=⟨U,λ_=>⟨ht,U,hf⟩⟩
def bqE(t:jo):gD:=λ_=>([0,3,4],[],λ_ _=>bLT t)
def Va(s:y_)(f:Nat)(R:RQ)(hs:s.size<=256)(h:Sb s f R)(hp:NS s f R)(a g:Nat)(d:l_ Inst)(ht:qC s ⟨a,g,false,d⟩)(hf:s.size<a+1+f):kD P 350 [S s,uR ⟨a,g,false,d⟩ 0] [iB d true] (uR (fU s R ⟨a,g,false,d⟩) 1) [gI,iB (fU s R ⟨a,g,false,d⟩).d false]:=by
 have lp:=aR4 (T:=(M 33 [(0,S s),(3,.ptr 1 0 0),(4,.ptr 2 0 0)])) (h:=[iB d true,⟨[[.bf 0 d.length,I a,I g,Bo false]],0,[],4,false,false⟩,⟨[[.dF,I 0,I 0,.bit false]],0,[],4,false,false⟩]) (dR.move 0 rfl rfl rfl rfl) rfl<|Ca s f R hs h hp (s.size+1) ⟨a,g,false,d⟩<|NX ht hf;refine cK aw (bqE<|OC s R (s.size+1) ⟨a,g,false,d⟩) (let Z:=OC s R (s.size+1) (jo.mk a g false d);let V:=cM [[J.dF,I 0,I 0,aP]] 4;(.o [ax P (aD f350 1) (M 33 [(0,S s),(3,dK 1),(4,dK 2)]) [ox (aK d) 6,cM [[J.bf 0 d.length,I a,I g,Bo false]] 4,V] (Out.ext 0) (M 33 [(3,dK 1),(4,dK 2)]) [js 6,cM [[J.bf 3 Z.d.length,I Z.a,I Z.g,Bo Z.bad]] 4,V,dn (aK Z.d) 6]]<|.e (J.agg [J.bf 1 Z.d.length,I Z.a,I Z.g,Bo Z.bad],[js 6,dn (aK Z.d) 6]))) ?_;simp only[av]
 (repeat' with_reducible first|intro _|apply aNd_)<;>first|exact aM|exact dR.of_eq rfl
end
def Rz(s:y_)(f:Nat)(R:RQ)(hs:s.size<=256)(h:Sb s f R)(hp:NS s f R)(t:jo)(ht:qC s t/\s.size<t.a+1+f):kD P 350 [S s,uR t 0] [iB t.d true] (uR (fU s R t) 1) [gI,iB (fU s R t).d false]:=by obtain⟨a,g,b,d⟩:=t;have hb:b=false:=ht.1.2.2.2;subst hb;exact Va s f R hs h hp a g d ht.1 ht.2
def ERq(s:y_)(f:Nat)(R:RQ):Env:=by2<|cF 350 (NM s (fU s R) λt=>qC s t/\s.size<t.a+1+f)<|cF 321 (NM s R λt=>qC s t/\s.size<t.a+f)<|cF 352 Yl<|cF 322 Lh<|cF 351 (Ru s) EN
def bO7(s:y_)(f:Nat)(R:RQ)(hs:s.size<=256:=by assumption)(h:Sb s f R:=by assumption)(hp:NS s f R:=by assumption):an P (ERq s f R):=
 j7 (vN (vN (Rt<|B6<|Iw aw) h) λt ht=>Rz s f R hs h hp t ht)
def Yt(d:l_ Inst)(k:Nat):l_ Inst:=Am d k (Di<|Al k)++ [jpI 0]
def sw(u:jo)(k:Nat):jo:=⟨u.a+1,u.g,u.bad,lz (Yt u.d k) k ((Am u.d k<|Di<|Al k).length+1:Nat)⟩
def by3(v:jo)(j:Nat):jo:= {v with d:=od v.d j (v.d.length:Nat)}
def yX(s:y_)(R:RQ)(t:jo):jo:=
 if oJ s (fU s R t).a (fU s R t).bad 124=false then fU s R t
 else by3 (R<|sw (fU s R t) t.d.length) (Am (fU s R t).d t.d.length<|Di<|Al t.d.length).length
def b28(v:jo)(n j:Nat)(w:Int)(hn:n=v.d.length):dR (.agg [.bf 1 n,I v.a,I v.g,Bo v.bad],[⟨[],2,[],6,true,true⟩,⟨aK<|od v.d j w,0,[],6,true,false⟩]) (uR {v with d:=od v.d j w} 1,[gI,iB (od v.d j w) false]):=by rw[hn,<-rA v.d j w];exact dR.of_eq rfl
def am1(s:y_)(f:Nat)(R:RQ)(hs:s.size<=256)(h:Sb s f R)(hp:NS s f R)(a g:Nat)(d:l_ Inst)(ht:qC s ⟨a,g,false,d⟩)(hf:s.size<a+1+f):kD P 321 [S s,uR ⟨a,g,false,d⟩ 0] [iB d true] (uR (yX s R ⟨a,g,false,d⟩) 1) [gI,iB (yX s R ⟨a,g,false,d⟩).d false]:=by
 have vd:s.size<=aq:=by unfold aq;omega
 have sq:=(NW hp hs (s.size+1) _ (NX ht hf) ⟨ht.1,ht.2.1,ht.2.2.1⟩).1;obtain⟨u,hu⟩:∃u,fU s R ⟨a,g,false,d⟩=u:=⟨_,rfl⟩
 rw[show OC s R (s.size+1) ⟨a,g,false,d⟩=u from hu]at sq;obtain⟨o1,o2,o3,o4,o5⟩:=sq;have Uy:d.length<=u.d.length:=o5;obtain⟨v,hv⟩:∃v,R (sw u d.length)=v:=⟨_,rfl⟩
 have e5:oU ((u.a:Int)+1)=((u.a+1:Nat):Int):=by rw[wrap64 U U];omega
 have hR:(Am u.d d.length ⟨6,0,n_,false,oU<|(d.length:Nat)+1,0⟩).length=u.d.length+1:=te _ _ _ Uy;have hR2:(Am u.d d.length ⟨6,0,n_,false,oU<|(d.length:Nat)+1,0⟩++ [(⟨7,0,n_,false,0,0⟩:Inst)]).length=u.d.length+2:=by rw[br,hR];rfl
 have s2:=vK (D:=Am u.d d.length ⟨6,0,n_,false,oU<|(d.length:Nat)+1,0⟩++ [(⟨7,0,n_,false,0,0⟩:Inst)]) (k:=d.length) U;have hl:(lz (Am u.d d.length ⟨6,0,n_,false,oU<|(d.length:Nat)+1,0⟩++ [(⟨7,0,n_,false,0,0⟩:Inst)]) d.length (((Am u.d d.length ⟨6,0,n_,false,oU<|(d.length:Nat)+1,0⟩).length+1:Nat):Int)).length=u.d.length+2:=by rw[fm,hR2]
 have I3:R ⟨u.a+1,u.g,u.bad,lz (Am u.d d.length ⟨6,0,n_,false,oU<|(d.length:Nat)+1,0⟩++ [⟨7,0,n_,false,0,0⟩]) d.length (((Am u.d d.length ⟨6,0,n_,false,oU<|(d.length:Nat)+1,0⟩).length+1:Nat):Int)⟩=v:=hv;have hq:oJ s u.a u.bad 124=true->qC s (sw u d.length):=λq=>by obtain⟨q1,q2,_⟩:=qM q;exact⟨q2,o2,by show(lz _ _ _).length<=2*(u.a+1)+1;rw[show(lz (Yt u.d d.length) d.length (((Am u.d d.length<|Di<|Al d.length).length+1:Nat):Int)).length=u.d.length+2 from hl];omega,q1⟩
 have o4':a<=u.a:=o4;have hvo:oJ s u.a u.bad 124=true->u.d.length+2<=v.d.length:=λq=>by have O:=hp (sw u d.length) (hq q) (by show s.size<u.a+1+f;omega);rw[hv]at O;have h2:=O.2.2.2.2;rw[show(sw u d.length).d.length=u.d.length+2 from hl]at h2;exact h2
 have s3:oJ s u.a u.bad 124=true->_:=λq=>vK (D:=v.d) (k:=(Am u.d d.length ⟨6,0,n_,false,oU<|(d.length:Nat)+1,0⟩).length) (by rw[hR];have:=hvo q;omega);have cy:yX s R ⟨a,g,false,d⟩=if oJ s u.a u.bad 124=false then u else by3 v (Am u.d d.length ⟨6,0,n_,false,oU<|(d.length:Nat)+1,0⟩).length:=by rw[<-hv,<-hu];rfl
 refine cK (bO7 s f R) L0 (let bP:=cellOf (Value.int IntKind.i64 0);let dV:=cellOf (Value.string (n_:y_));let fI:=ff (aK d);let iz:=cellOf (Value.int IntKind.u8 0);let jn:=jo.mk a g false fI;let aG:=fU s R jn;let dk:=ff (aK aG.d);let bY:=(aG.a:Int);let cu:=oU (bY+1);let cN:=(aG.g:Int);let dE:=[oU (bY+1)=(cu.toNat:Int)];let ka:=cellOf (Value.bool false);let aS:=cj (J.agg [I 7,iz,dV,ka,bP,bP]);let bH:=cj (J.agg [I 6,iz,dV,ka,I<|oU<|(d.length:Int)+1,bP]);let V:=Am dk d.length (dm<|jK bH);let cp:=aK (ff (aK V)++ [dm<|jK aS]);let bC:=ff (aK V);let iC:=cp.getD (0+d.length) [];let kV:=(↑(bC.length+1):Int);let bu:=PS.splice iC (5) [I kV];let Z:=ff (cp.set (0+d.length) bu);let bn:=jo.mk cu.toNat aG.g aG.bad Z;let eu:=aK (R bn).d;let ia:=eu.getD (0+V.length) [];let iD:=(↑(R bn).d.length:Int);let lg:=aG.d.length=dk.length;(.r s<|.r (a:Int)<|.r (g:Int)<|.o [aK d=aK fI,d.length=fI.length,qC s jn/\s.size<a+1+f]<|.r s<|.r bY<|.r cN<|.o [aK aG.d=aK dk,lg]<|.m (oJ s aG.a aG.bad 124) (.e (J.agg [J.bf 1 aG.d.length,I bY,I cN,Bo aG.bad],[js 6,dn (aK aG.d) 6]))<|.o dE<|.r cN<|.o [aK aG.d=aK dk,lg,jK bH=(af Inst).au (dm<|jK bH),dk.length<=1048576]<|.r (d.length:Int)<|.o [d.length<=dk.length,oU (bY+1)=(cu.toNat:Int)]<|.r cN<|.o [aK V=aK bC,V.length=bC.length,jK aS=(af Inst).au (dm<|jK aS),bC.length<=1048576]<|.g d.length kV<|.o [0+d.length<cp.length,6<=iC.length]<|.r s<|.o dE<|.r cN<|.o [cp.set (0+d.length) bu=aK Z,bC.length+1=Z.length,qC s bn/\s.size<cu.toNat+f]<|.g (V.length:Int) iD<|.o [0+V.length<eu.length,5<=ia.length]<|.e (J.agg [J.bf 1 (R bn).d.length,I (↑(R bn).a:Int),I (↑(R bn).g:Int),Bo (R bn).bad],[js 6,dn (eu.set (0+V.length)<|PS.splice ia (4) [I iD]) 6]))) ?_;try dsimp only
 simp only[dL,fT,cellOf,cj,FY,hu,e5,eP,zO,I3,zQ];simp only[av]
 (repeat' with_reducible first|intro _|apply aNd_)<;>first|exact aM|exact hq W|exact(s3 W).1|exact(s3 W).2.1|exact(s3 W).2.2.2|(rw[cy,if_pos W];exact dR.of_eq rfl)|(have k:oJ s u.a u.bad 124=true:=W;rw[cy,if_neg (by rw[k];exact Bool.noConfusion)];exact b28 _ _ _ _ rfl)
def aY7 {s:y_} {f:Nat} {R:RQ}(hp:NS s f R)(hs:s.size<=256) {t:jo}(ht:qC s t)(hf:s.size<t.a+1+f):xo s t (yX s R t):=by
 obtain⟨o1,o2,o3,o4,o5⟩:=(NW hp hs (s.size+1) t (NX ht hf) ⟨ht.1,ht.2.1,ht.2.2.1⟩).1;unfold yX;split
 .exact⟨o1,o2,o3,o4,o5⟩
 .rename_i q;have q:oJ s (fU s R t).a (fU s R t).bad 124=true:=by grind
  obtain⟨q1,q2,_⟩:=qM q;have o1':(fU s R t).a<=s.size:=o1;have o2':(fU s R t).g<=9:=o2;have o3':(fU s R t).d.length<=2*(fU s R t).a+1:=o3;have o4':t.a<=(fU s R t).a:=o4;have Uy:t.d.length<=(fU s R t).d.length:=o5;generalize fU s R t=u at*;have hl:(sw u t.d.length).d.length=u.d.length+2:=by unfold sw Yt;rw[fm,br,te _ _ _ Uy];rfl
  obtain⟨r1,r2,r3,r4,r5⟩:=hp (sw u t.d.length) ⟨q2,o2',by rw[hl];show _<=2*(u.a+1)+1;omega,q1⟩ (by show s.size<u.a+1+f;omega);rw[hl]at r5;have r4':u.a+1<=(R<|sw u t.d.length).a:=r4;refine⟨r1,r2,?_,?_,?_⟩
  .show(od _ _ _).length<=2*(R<|sw u t.d.length).a+1;rw[rA];exact r3
  .show t.a<=(R<|sw u t.d.length).a;omega
  .show _<=(od _ _ _).length;rw[rA];omega
def mD(s:y_):Nat->RQ
 |0,t=> {t with bad:=true}
 |f+1,t=>yX s (mD s f) t
theorem yo(s:y_)(hs:s.size<=256):∀f,NS s f (mD s f)
 |0=>λt ht hf=>by have:=ht.1;omega
 |f+1=>λt ht hf=>aY7 (yo s hs f) hs ht U
theorem Lj(s:y_)(hs:s.size<=256):∀f,Sb s f (mD s f)
 |0=>λt ht=>by have:=ht.1.1;omega
 |f+1=>λt ht=>by obtain⟨a,g,b,d⟩:=t;have hb:b=false:=ht.1.2.2.2;subst hb;exact am1 s f (mD s f) hs (Lj s hs f) (yo s hs f) a g d ht.1 (by show s.size<a+1+f;have:s.size<a+(f+1):=ht.2;omega)
def dR.OZ {e:l_ J} {p q r:J}(F:nc [e]=true):dR (.agg [.own 0 0 1,p,q,r],[⟨[e],0,[],6,false,false⟩]) (.agg [.bf 0 1,p,q,r],[⟨[e],0,[],6,true,false⟩]):=by
 intro w0 Sa S m w v hI hv;refine⟨m,hI.mark (id:=0) rfl λx hx=>cU.1 F x hx,?_⟩;cases hv with
 |st _ _ h=>cases h with
  |agg _ vs hl Y=>
   exfalso;have h0:0<vs.size:=by rw[<-hl];exact Nat.succ_pos _
   have:=Y 0 _ (vs[0]) rfl (by simp [h0]);cases this
 |agg _ vs hl Y=>exact .agg _ vs hl λi c v O h2=>match i with
  |0=>by cases O;exact .bf _ _ _<|Y 0 _ v rfl h2
  |1=>Y 1 c v O h2
  |2=>Y 2 c v O h2
  |3=>Y 3 c v O h2
  |i+4=>by cases O
def psZ:J:= .agg [.dF,I 0,I 0,Bo false]
def am2(i:Inst):kD P 322 [psZ,(af Inst).au i] [] (uR ⟨0,0,false,[i]⟩ 0) [iB [i] false]:=by
 refine cK aw L0 (.o [56<=140737488355328]<|.r true<|.e (J.agg [J.own 0 0 1,I 0,I 0,Bo false],[cM [[I i.op,U8 i.c,S i.set,Bo i.neg,I i.x,I i.y]] 6])) ?_;simp only[av]
 (repeat' with_reducible first|intro _|apply aNd_)<;>first|exact aM|exact dR.OZ rfl
def aY8:l_ J->Hp->Option (J×Hp×l_ Prop):=λaa h=>match h with
 | []=>match aa.map jK with
  | [p,i]=>some (uR ⟨0,0,false,[dm i]⟩ 0,[iB [dm i] false],[p=psZ,i=(af Inst).au (dm i)])
  |_=>none
 |_::_=>Lh aa h
def aY9 {E:Env}(hE:an P E):an P (cF 322 aY8 E):=fC hE λaa hp r h' ob O h2=>by
 unfold aY8 at O;split at O
 .split at O
  .rename_i p i e0;cases O;have g0:=h2 (p=psZ) sS;have g1:=h2 (i=(af Inst).au (dm i)) sS;have k:=am2<|dm i;rw[<-g1,<-g0]at k;exact Lg (by rw[e0];exact k)
  .cases O
 .rename_i B rest;exact(B6 hE).m _ _ _ _ _ _ (by unfold cF;simp [O]) h2
def Vb:jo:=⟨0,0,false,[sv 0]⟩
def EQc(s:y_)(f:Nat)(R:RQ):Env:=cF 321 (NM s R λt=>qC s t/\s.size<t.a+f)<|cF 322 aY8 EN
def bO8(s:y_)(f:Nat)(R:RQ)(h:Sb s f R:=by assumption):an P (EQc s f R):=vN (aY9 aw) h
def Cb (s:y_) (f:Nat) (R:RQ) (h:Sb s f R) (hp:NS s f R) (hf:s.size<=256->s.size<0+f) (r:J) (r0:256<s.size->r= .bg [.agg [.rf 0 λ_=> [],I 0],I 0,I 4])
  (r1:s.size<=256->((R Vb).bad=true\/(R Vb).a<s.size)->r= .bg [.agg [.rf 0 λ_=> [],I 0],I ((R Vb).a:Nat),I 49])
  (r2:s.size<=256->(R Vb).bad=false-> ¬(R Vb).a<s.size->r= .bg [.agg [.rf ((R Vb).d++ [sv 1]++ [Oz 9]).length λi=>(aK<|(R Vb).d++ [sv 1]++ [Oz 9]).getD i [],I<|oU<|((R Vb).g:Nat)+1],I 0,I 0]):Ok P 285 [S s] r:=by
 obtain⟨u,hu⟩:∃u,R Vb=u:=⟨_,rfl⟩
 have hpp:qC s Vb:=⟨bJ _,bJ _,bE _,rfl⟩
 have sq:=λq=>hp Vb hpp<|hf q;rw[hu]at sq r1 r2;have hl:s.size<=256->u.d.length<=513:=λq=>by obtain⟨a1,_,a3,_⟩:=sq q;omega
 have hu':R ⟨0,0,false,[⟨8,0,n_,false,0,0⟩]⟩=u:=hu;refine al (bO8 s f R) L0 (let bH:=cellOf (Value.int IntKind.i64 0);let cp:=cellOf (Value.string (n_:y_));let dk:=cellOf (Value.bool false);let bu:=cellOf (Value.int IntKind.u8 0);let Z:=cj (J.agg [I 8,bu,cp,dk,bH,bH]);let aS:=cj (J.agg [I 9,bu,cp,dk,bH,bH]);let bn:=cj (J.agg [I 8,bu,cp,dk,I 1,bH]);let dE:=[dm<|jK Z];let cu:=ff (aK dE);let eu:=jo.mk 0 0 false cu;let aG:=R eu;let V:=ff (aK aG.d)++ [dm<|jK bn];let bC:=ff (aK V);let bP:=ff (aK aG.d);let bY:=(aG.a:Int);let cN:=aK (ff (aK V)++ [dm<|jK aS]);let dV:=(aG.g:Int);(.d ((s.size:Int)>256) (.e<|J.bg [J.agg [J.rf 0 λi=> [],I 0],I 0,I 4])<|.o [jK (cj<|J.agg [cellOf<|Value.slice none 0 0,bH,bH,dk])=psZ,jK Z=(af Inst).au (dm<|jK Z)]<|.r s<|.r (↑0:Int)<|.r (↑0:Int)<|.o [aK dE=aK cu,dE.length=cu.length,qC s eu/\s.size<0+f]<|.n (aG.bad) (.e<|J.bg [J.agg [J.rf 0 λi=> [],I 0],I bY,I 49])<|.d (bY<(s.size:Int)) (.e<|J.bg [J.agg [J.rf 0 λi=> [],I 0],I bY,I 49])<|.r bY<|.r dV<|.o [aK aG.d=aK bP,aG.d.length=bP.length,jK bn=(af Inst).au (dm<|jK bn),bP.length<=1048576]<|.r bY<|.r dV<|.o [aK V=aK bC,bP.length+1=bC.length,jK aS=(af Inst).au (dm<|jK aS),bC.length<=1048576,bC.length+1=cN.length]<|.e<|J.bg [J.agg [J.rf (bC.length+1) λi=>cN.getD i [],I<|oU<|dV+1],I 0,I 0])) ?_;try dsimp only
 simp only[fT,cellOf,cj,FY,hu'];have h2l:(u.d++ [(⟨8,0,n_,false,1,0⟩:Inst)]).length=u.d.length+1:=by rw[br];rfl
 simp only[av]
 (repeat' with_reducible first|intro _|apply aNd_)<;>first|exact aM|exact(r0 U).symm|exact(r1 U<|.inl W).symm|exact(r1 U<|.inr U).symm|(rw[iZ];simp only[br,iP,qj];done)|(rw[r2 U W U];simp only[br,iP,qj];rfl)
def OD(s:y_):jo:=mD s (s.size+1) Vb
def Du(s:y_):Int:=if 256<s.size then 4 else if(OD s).bad=true\/(OD s).a<s.size then 49 else 0
def NY(s:y_):Nat×(Nat->l_ J)×Int×Int:=
 if 256<s.size then(0,λ_=> [],0,0)else if(OD s).bad=true\/(OD s).a<s.size then(0,λ_=> [],0,(OD s).a)
 else(((OD s).d++ [sv 1]++ [Oz 9]).length,λi=>(aK<|(OD s).d++ [sv 1]++ [Oz 9]).getD i [],oU<|((OD s).g:Nat)+1,0)
def RA(s:y_):Ok P 285 [S s] (.bg [.agg [.rf (NY s).1 (NY s).2.1,I (NY s).2.2.1],I (NY s).2.2.2,I<|Du s]):=by
 by_cases hs:s.size<=256
 .have hn: ¬256<s.size:=U;have hb:∀x:jo,x.bad=false-> ¬x.a<s.size-> ¬(x.bad=true\/x.a<s.size):=by grind
  refine Cb s (s.size+1) (mD s<|s.size+1) (Lj s hs _) (yo s hs _) (λ_=>U) _ (λq=>absurd q hn) (λ_ q=> ?_) λ_ q1 q2=> ?_
  .have q:(OD s).bad=true\/(OD s).a<s.size:=q;unfold NY Du;rw[if_neg hn,if_neg hn,if_pos q,if_pos q];rfl
  .have q:=hb (OD s) q1 q2;unfold NY Du;rw[if_neg hn,if_neg hn,if_neg q,if_neg q];rfl
 .have hn:256<s.size:=U;refine Cb s 0 (λt=> {t with bad:=true}) (λt ht=>by have:=ht.1.1;omega) (λt ht=>by have:=ht.1;omega) (λq=>absurd q hs) _ (λ_=> ?_) (λq=>absurd q hs) λq=>absurd q hs;unfold NY Du;rw[if_pos hn,if_pos hn]
section
variable {s:y_}{a:Nat}
def Yu(h:dx s a≠92):cA s a=a+1/\cB s a=false/\cC s a=dx s a:=by unfold cA cB cC;rw[me,me,me,aW4 (t:=⟨a,0,false,[]⟩) h];exact⟨rfl,rfl,rfl⟩
def by4(h:dx s a=92)(h2: ¬a+1<s.size):cB s a=true:=by unfold cB;rw[me,aW5 (t:=⟨a,0,false,[]⟩) h h2]
def by5(h:dx s a=92)(h2:a+1<s.size):cA s a=a+2/\cB s a=false/\cC s a=HZ (dx s<|a+1):=by unfold cA cB cC;rw[me,me,me,NN (t:=⟨a,0,false,[]⟩) h h2];exact⟨rfl,rfl,rfl⟩
def Lk {t:dY}(h:t.a<s.size)(O:dx s t.a≠93)(h2:dx s t.a≠45):(bd s t).2.1= !cB s t.a/\(cB s t.a=false->(bd s t).1=cC s t.a/\(bd s t).2.2.a=cA s t.a):=by
 have h0: ¬(¬t.a<s.size\/dx s t.a=93\/dx s t.a=45):=U;by_cases h3:dx s t.a=92
 .rw[Dg h0 h3];by_cases h4:t.a+1<s.size
  .obtain⟨c1,c2,c3⟩:=by5 h3 h4;rw[sj h4,c1,c2,c3];exact⟨rfl,λ_=>⟨rfl,rfl⟩⟩
  .rw[BW h4,by4 h3 h4];exact⟨rfl,λq=>(by cases q)⟩
 .obtain⟨c1,c2,c3⟩:=Yu h3;rw[Dh h0 h3,c1,c2,c3];exact⟨rfl,λ_=>⟨rfl,rfl⟩⟩
def aZ0 {t:dY}(h: ¬t.a<s.size):(nu s t).1=false:=by have h0: ¬t.a<s.size\/dx s t.a=93\/dx s t.a=45:=U;rw[XT<|by rw[sk h0]]
def Yv {t:dY}(h:t.a<s.size):(nu s t).1=(kN s t.a).1/\((nu s t).1=true->(nu s t).2.2.2.a=(kN s t.a).2.1):=by
 by_cases O:dx s t.a=93\/dx s t.a=45
 .rw[Yn O,XT<|by rw[sk<|.inr O]];exact⟨rfl,λq=>(by cases q)⟩
 .have OS:=not_or.1 O;obtain⟨k1,k2⟩:=Lk h OS.1 OS.2;cases hb:cB s t.a with
  |true=>
   rw[hb]at k1;have hi:oJ s (cA s t.a) (cB s t.a) 45=false:=by rw[z7,hb];rfl
   rw[aX5 O hi hb,XT k1];exact⟨rfl,λq=>(by cases q)⟩
  |false=>
   rw[hb]at k1;obtain⟨k3,k4⟩:=k2 hb;have hi:oJ s (cA s t.a) (cB s t.a) 45=jI s (bd s t).2.2.a 45:=by rw[z7,hb,k4];rfl
   cases hn:jI s (bd s t).2.2.a 45 with
   |false=>
    rw[aX6 O (hi.trans hn) hb,bx3 k1 hn];exact⟨rfl,λ_=>k4⟩
   |true=>
    have hA:(bd s t).2.2.a+1=cA s t.a+1:=U;obtain⟨t1,ht1⟩:∃t1:dY, {(bd s t).2.2 with a:=(bd s t).2.2.a+1}=t1:=⟨_,rfl⟩
    have ha1:t1.a=cA s t.a+1:=by rw[<-ht1];exact hA
    by_cases h2: ¬cA s t.a+1<s.size\/dx s (cA s t.a+1)=93\/dx s (cA s t.a+1)=45
    .rw[Ix O (hi.trans hn) h2,aQ7 k1 hn<|by rw[ht1,sk (by rw[ha1];exact h2)]];exact⟨rfl,λq=>(by cases q)⟩
    .have ZD:=not_or.1 h2;have b29:=not_or.1 ZD.2;obtain⟨m1,m2⟩:=Lk (s:=s) (t:=t1) (by rw[ha1];exact tr.1 ZD.1) (by rw[ha1];exact b29.1) (by rw[ha1];exact b29.2);rw[ha1]at m1 m2;cases Y:cB s (cA s t.a+1)with
     |true=>
      rw[Y]at m1;rw[aX2 O (hi.trans hn) h2 Y,aQ7 k1 hn (by rw[ht1];exact m1)];exact⟨rfl,λq=>(by cases q)⟩
     |false=>
      rw[Y]at m1;obtain⟨m3,m4⟩:=m2 Y;by_cases h4:cC s (cA s t.a+1)<cC s t.a
      .rw[aX3 O (hi.trans hn) h2 Y h4,bx4 k1 hn (by rw[ht1];exact m1) (by rw[ht1,m3,k3];exact h4)];exact⟨rfl,λq=>(by cases q)⟩
      .rw[aX4 O (hi.trans hn) h2 Y h4,bx5 k1 hn (by rw[ht1];exact m1) (by rw[ht1,m3,k3];exact h4)];exact⟨rfl,λ_=>by rw[ht1];exact m4⟩
theorem Yw(s:y_):∀n (t:dY) S0 a ci8,t.a=a->a<=s.size->((Ns s n t S0).1=true↔((vO s n a ci8).1=true/\(vO s n a ci8).2.1<s.size))/\((Ns s n t S0).1=true->(Ns s n t S0).2.1.a=(vO s n a ci8).2.1+1/\(Ns s n t S0).2.1.g=t.g)
 |0,_,_,_,_,_,_=>⟨⟨λq=>(by cases q),λq=>(by cases q.1)⟩,λq=>(by cases q)⟩
 |n+1,t,S0,a,ci8,ha,hs=>by
  subst ha;unfold Ns vO;cases hn:jI s t.a 93 with
  |true=>
   obtain⟨O,h2⟩:t.a<s.size/\dx s t.a=93:=cn hn;rw[if_pos rfl,if_pos λq=>q.2 h2];exact⟨⟨λ_=>⟨rfl,O⟩,λ_=>rfl⟩,λ_=>⟨rfl,rfl⟩⟩
  |false=>
   rw[if_neg dj];by_cases O:t.a<s.size
   .have h2:dx s t.a≠93:=λq=>by rw[show jI s t.a 93=true from cd ⟨O,q⟩]at hn;cases hn
    rw[if_neg<|cI ⟨O,h2⟩];obtain⟨e1,e2⟩:=Yv O;cases F:(nu s t).1 with
    |false=>
     rw[F]at e1;rw[if_pos rfl,if_pos e1.symm];exact⟨⟨λq=>(by cases q),λq=>(by cases q.1)⟩,λq=>(by cases q)⟩
    |true=>
     have e3:=e2 F;rw[F]at e1;have hle:=tN (t:=t) hs;rw[if_neg Bool.noConfusion,if_neg (by rw[<-e1];exact Bool.noConfusion)];have ih:=Yw s n (nu s t).2.2.2 (S0++QW (nu s t).2.1 (nu s t).2.2.1) (kN s t.a).2.1 (ci8++mR s t.a) e3 (by rw[<-e3];exact hle.1);exact⟨ih.1,λq=>⟨(ih.2 q).1,(ih.2 q).2.trans hle.2.2.1⟩⟩
   .rw[aZ0 O,if_pos rfl,if_pos λq=>O q.1];exact⟨⟨λq=>(by cases q),λq=>absurd q.2 O⟩,λq=>(by cases q)⟩
def JO(p:Bool×dY)(r:jo):Prop:=(p.1=true↔r.bad=false)/\(p.1=true->p.2.a=r.a/\p.2.g=r.g)
def Vc {t:dY} {q:jo}(ha:t.a=q.a+1)(hg:t.g=q.g)(hq:q.a<s.size):JO (jT s t) (lj s q):=by
 have hn:(cT s t).a=B7 s q.a:=by show pk s t.a 94=_;unfold B7 pk;rw[ha,z7];rfl
 have hng:B7 s q.a<=s.size:=by
  unfold B7;split
  .rename_i w;have:=(qM w).2.1;omega
  .omega
 have hle:=tN (t:=cT s t) (by rw[hn];exact hng);unfold lj JL;by_cases O:B7 s q.a<s.size
 .rw[if_neg<|cI O];obtain⟨e1,e2⟩:=Yv (s:=s) (t:=cT s t) (by rw[hn];exact O);rw[hn]at e1 e2;cases F:(nu s<|cT s t).1 with
  |false=>
   rw[F]at e1;rw[if_pos e1.symm,show jT s t=(false,(cE s t).2.2.2)from if_pos F];exact⟨⟨λw=>(by cases w),λw=>(by cases w)⟩,λw=>(by cases w)⟩
  |true=>
   have e3:=e2 F;rw[F]at e1;rw[if_neg (by rw[<-e1];exact Bool.noConfusion)];have ih:=Yw s (s.size+1) (cE s t).2.2.2 (cS s t) (kN s<|B7 s q.a).2.1 (mR s<|B7 s q.a) e3 (by rw[<-e3];exact hle.1);have hgg:(cE s t).2.2.2.g=q.g:=hle.2.2.1.trans hg;cases Y:(cR s t).1 with
   |false=>
    rw[QY F Y];have yy: ¬((vO s (s.size+1) (kN s<|B7 s q.a).2.1<|mR s<|B7 s q.a).1=true/\(vO s (s.size+1) (kN s<|B7 s q.a).2.1<|mR s<|B7 s q.a).2.1<s.size):=λw=>by have:=ih.1.2 w;rw[show Ns s (s.size+1) (cE s t).2.2.2 (cS s t)=cR s t from rfl,Y]at this;cases this
    split
    .exact⟨⟨λw=>(by cases w),λw=>(by cases w)⟩,λw=>(by cases w)⟩
    .rename_i w1;split
     .exact⟨⟨λw=>(by cases w),λw=>(by cases w)⟩,λw=>(by cases w)⟩
     .rename_i w2;exact absurd ⟨by simpa using w1,tr.1 w2⟩ yy
   |true=>
    rw[QX F Y];obtain⟨w1,w2⟩:=ih.1.1 Y;have w3:=ih.2 Y;rw[if_neg (by rw[w1];exact Bool.noConfusion),if_neg<|cI w2];exact⟨⟨λ_=>rfl,λ_=>rfl⟩,λ_=>⟨w3.1,w3.2.trans hgg⟩⟩
 .rw[if_pos O,show jT s t=(false,(cE s t).2.2.2)from if_pos (aZ0 (by rw[hn];exact O))];exact⟨⟨λw=>(by cases w),λw=>(by cases w)⟩,λw=>(by cases w)⟩
end
section
variable {r:jo}{s:y_}{a:Nat}{c:Int}{R:RF}{R':RQ}
def b30(z:Int)(s:y_)(p:Bool×dY)(r:jo):Prop:=(p.1=true↔(r.bad=false/\ ¬(z=0/\jI s r.a 41=true)))/\(p.1=true->p.2.a=r.a/\p.2.g=r.g)
def Vd(s:y_)(R:RF)(R':RQ):Prop:=∀(z:Int) (t:dY) (q:jo),t.a=q.a->t.g=q.g->q.bad=false->0<=z->b30 z s (R z t) (R' q)
def yp {t:dY}(h:r.bad=true):JO (false,t) r:=⟨⟨λw=>(by cases w),λw=>(by rw[h]at w;cases w)⟩,λw=>(by cases w)⟩
def tf {t:dY}(h:r.bad=false)(ha:t.a=r.a)(hg:t.g=r.g):JO (true,t) r:=⟨⟨λ_=>h,λ_=>rfl⟩,λ_=>⟨ha,hg⟩⟩
def z8:oJ s a false c=jI s a c:=by rw[z7];rfl
def Cc:oJ s a true c=false:=by rw[z7];rfl
def Ve(ih:Vd s R R') {z:Int}(hz:0<=z) {t:dY} {q:jo}(ha:t.a=q.a)(hg:t.g=q.g)(hb:q.bad=false):JO (kM s R z t) (if 9<=q.g then {q with bad:=true}else Rw s q (R'<|gR q)):=by
 by_cases h9:9<=t.g
 .rw[H0 h9,if_pos (by rw[<-hg];exact h9)];exact yp rfl
 .rw[if_neg (by rw[<-hg];exact h9)];obtain⟨i1,i2⟩:=ih (z+1) (gT t) (gR q) (by show t.a+1=q.a+1;rw[ha]) (by show t.g+1=q.g+1;rw[hg]) hb U;obtain⟨k1,t1,O⟩:∃k t',R (z+1) (gT t)=(k,t'):=⟨_,_,rfl⟩
  generalize R' (gR q)=u at*;rw[O]at i1 i2;cases k1 with
  |false=>
   rw[H2 h9 O];refine yp ?_;unfold Rw;cases Ll:u.bad with
   |true=>rw[if_pos Cc]
   |false=>exact absurd (i1.2 ⟨Ll,λw=>absurd w.1 U⟩) dj
  |true=>
   obtain⟨Ll,_⟩:=i1.1 rfl;obtain⟨e1,e2⟩:t1.a=u.a/\t1.g=u.g:=i2 rfl;unfold Rw;rw[Ll,z8];cases hn:jI s t1.a 41 with
   |false=>
    rw[H4 h9 O hn,if_pos (by rw[<-e1];exact hn)];exact yp rfl
   |true=>
    rw[H5 h9 O hn,if_neg (by rw[<-e1,hn];exact Bool.noConfusion)];exact tf rfl (by show t1.a+1=u.a+1;rw[e1]) e2
def am3(ih:Vd s R R') {z:Int}(hz:0<=z) {t:dY} {q:jo}(ha:t.a=q.a)(hg:t.g=q.g)(hb:q.bad=false)(hl:q.a<s.size)(b31:dx s q.a≠124):JO (fl s R z t) (lZ s R' q):=by
 have hl':t.a<s.size:=by rw[ha];exact hl
 unfold fl lZ;rw[if_neg<|cI hl',ha];by_cases h40:dx s q.a=40
 .rw[if_pos h40,if_pos h40];exact Ve ih hz ha hg hb
 rw[if_neg h40,if_neg h40];by_cases hf:dx s q.a=41\/dx s q.a=42\/dx s q.a=43\/dx s q.a=63
 .rw[if_pos hf,if_neg U,if_neg U,if_neg U,if_neg U,if_pos ⟨cd U,U⟩];exact yp rfl
 rw[if_neg hf];by_cases h46:dx s q.a=46
 .rw[if_pos h46,if_pos h46];exact tf hb (by show t.a+1=q.a+1;rw[ha]) hg
 rw[if_neg h46,if_neg h46];by_cases h94:dx s q.a=94
 .rw[if_pos h94,if_pos h94];exact tf hb (by show t.a+1=q.a+1;rw[ha]) hg
 rw[if_neg h94,if_neg h94];by_cases h36:dx s q.a=36
 .rw[if_pos h36,if_pos h36];exact tf hb (by show t.a+1=q.a+1;rw[ha]) hg
 rw[if_neg h36,if_neg h36];by_cases h91:dx s q.a=91
 .rw[if_pos h91,if_pos h91];exact Vc (by show t.a+1=q.a+1;rw[ha]) hg hl
 rw[if_neg h91,if_neg h91];by_cases h92:dx s q.a=92
 .rw[if_pos h92];by_cases F:q.a+1<s.size
  .obtain⟨c1,c2,_⟩:=by5 h92 F;have hy:=sj (s:=s) (t:=t) (by rw[ha];exact F);rw[if_neg (by rw[hy];exact Bool.noConfusion),if_neg λw=>w.2 h92,if_neg (by rw[c2];exact Bool.noConfusion)];refine tf hb ?_ ?_
   .show(si s t).2.2.a=cA s q.a;rw[hy,c1];show t.a+2=_;rw[ha]
   .show(si s t).2.2.g=q.g;rw[hy];exact hg
  .have hy:=BW (s:=s) (t:=t) (by rw[ha];exact F);rw[if_pos<|by rw[hy],if_neg λw=>w.2 h92,if_pos<|by4 h92 F];exact yp rfl
 .obtain⟨c1,c2,_⟩:=Yu h92;rw[if_neg h92,if_neg (λw=>by have:=cn w.1;omega),if_neg (by rw[c2];exact Bool.noConfusion)];exact tf hb (by show t.a+1=cA s q.a;rw[c1,ha]) hg
def Vf(ih:Vd s R R') {z:Int}(hz:0<=z) {t:dY} {q:jo}(ha:t.a=q.a)(hg:t.g=q.g)(hb:q.bad=false)(hl:q.a<s.size)(b31:dx s q.a≠124):JO (fD s R z t) (kP s R' q):=by
 obtain⟨i1,i2⟩:=am3 ih hz ha hg hb hl b31;obtain⟨k1,t1,O⟩:∃k t',fl s R z t=(k,t'):=⟨_,_,rfl⟩
 unfold fD kP pcR;generalize lZ s R' q=u at*;rw[O]at i1 i2⊢;cases k1 with
 |false=>
  have Ll:u.bad=true:=by cases Ll:u.bad with
   |true=>rfl
   |false=>exact absurd (i1.2 Ll) dj
  rw[if_pos rfl,Ll,if_neg (by rw[Cc];exact Bool.noConfusion),if_neg (by rw[Cc];exact Bool.noConfusion),if_neg (by rw[Cc];exact Bool.noConfusion)];exact yp Ll
 |true=>
  have Ll:=i1.1 rfl;obtain⟨e1,e2⟩:t1.a=u.a/\t1.g=u.g:=i2 rfl;rw[if_neg Bool.noConfusion,Ll,z8,z8,z8,<-e1];have nx:∀D D':l_ Inst,JO (true,yU t1 D) ⟨t1.a+1,u.g,false,D'⟩:=λD D'=>tf rfl rfl e2;show JO (if jI s t1.a 42=true then _ else _) _;split
  .exact nx _ _
  .show JO (if jI s t1.a 43=true then _ else _) _;split
   .exact nx _ _
   .show JO (if jI s t1.a 63=true then _ else _) _;split
    .exact nx _ _
    .exact tf Ll e1 e2
def NZ {q:jo}(h:q.bad=true\/ ¬q.a<s.size\/dx s q.a=124\/dx s q.a=41):stQ s q=true:=cd h
def bp0(s:y_)(R:RQ):∀n q,q.bad=true->(OC s R n q).bad=true
 |0,_,_=>rfl
 |n+1,q,h=>by unfold OC;rw[if_pos (NZ (.inl h))];exact h
theorem Yx(ih:Vd s R R') {z:Int}(hz:0<=z):∀n (t:dY) (q:jo),t.a=q.a->t.g=q.g->q.bad=false->b30 z s (OA s R z n t) (OC s R' n q)
 |0,_,_,_,_,_=>⟨⟨λw=>(by cases w),λw=>(by cases w.1)⟩,λw=>(by cases w)⟩
 |n+1,t,q,ha,hg,hb=>by
  unfold OA OC;cases hs:ai8 s z t with
  |true=>
   have h:=cn hs;rw[ha]at h;rw[if_pos rfl,if_pos<|NZ<|h.elim (λw=> .inr (.inl w)) λw=>w.elim (λw=> .inr (.inr<|.inl w)) λw=> .inr (.inr<|.inr w.1)];refine⟨⟨λ_=>⟨hb,λw=> ?_⟩,λ_=>rfl⟩,λ_=>⟨ha,hg⟩⟩;have hn:=cn w.2;omega
  |false=>
   have h:=fW hs;rw[ha]at h;have O:q.a<s.size:=U;have h2:dx s q.a≠124:=U;have hp:=Vf ih hz ha hg hb O h2;rw[if_neg dj];by_cases h41:dx s q.a=41
   .have mE:z=0:=by
     rcases Int.lt_or_eq_of_le hz with w|w
     .exact absurd (.inr<|.inr ⟨h41,w⟩) h
     .exact w.symm
    have hat:(fl s R z t).1=false:=by unfold fl;rw[ha,if_neg<|cI O,if_neg U,if_pos<|.inl h41]
    have hpf:(fD s R z t).1=false:=by unfold fD;rw[if_pos hat]
    rw[if_pos hpf,if_pos<|NZ<|.inr<|.inr<|.inr h41];exact⟨⟨λw=>(by cases w),λw=>absurd ⟨mE,cd ⟨O,h41⟩⟩ w.2⟩,λw=>(by cases w)⟩
   .have hq:stQ s q=false:=fq λw=>by
     rcases w with w|w|w|w
     .rw[hb]at w;cases w
     .exact w O
     .exact h2 w
     .exact h41 w
    rw[hq,if_neg dj];cases hk:(fD s R z t).1 with
    |false=>
     rw[if_pos rfl];have Ll:(kP s R' q).bad=true:=by cases Ll:(kP s R' q).bad with
      |true=>rfl
      |false=>rw[hp.1.2 Ll]at hk;cases hk
     have:=bp0 s R' n _ Ll;exact⟨⟨λw=>(by cases w),λw=>(by rw[this]at w;cases w.1)⟩,λw=>(by cases w)⟩
    |true=>
     rw[if_neg Bool.noConfusion];obtain⟨e1,e2⟩:=hp.2 hk;exact Yx ih hz n _ _ e1 e2<|hp.1.1 hk
def am4(ih:Vd s R R'):Vd s (nv s R) (yX s R'):=by
 intro z t q ha hg hb hz;obtain⟨i1,i2⟩:=Yx ih hz (s.size+1) t q ha hg hb;obtain⟨k1,t1,O⟩:∃k t',jQ s R z t=(k,t'):=⟨_,_,rfl⟩
 rw[show OA s R z (s.size+1) t=(k1,t1)from O]at i1 i2;unfold nv yX;rw[O];rw[show OC s R' (s.size+1) q=fU s R' q from rfl]at i1 i2;generalize fU s R' q=u at*;cases k1 with
 |false=>
  rw[if_pos rfl];have yy:oJ s u.a u.bad 124=false:=by
   cases Ll:u.bad with
   |true=>exact Cc
   |false=>
    rw[z8];cases hn:jI s u.a 124 with
    |false=>rfl
    |true=>
     exfalso;have h2:=cn hn;have:=i1.2 ⟨Ll,λw=>by have h3:u.a<s.size/\dx s u.a=41:=cn w.2;omega⟩;cases this
  rw[if_pos yy];exact⟨i1,λw=>(by cases w)⟩
 |true=>
  obtain⟨Ll,_⟩:=i1.1 rfl;obtain⟨e1,e2⟩:t1.a=u.a/\t1.g=u.g:=i2 rfl;rw[if_neg Bool.noConfusion,Ll,z8,<-e1];cases hn:jI s t1.a 124 with
  |false=>
   rw[if_pos rfl,if_pos rfl];exact⟨i1,i2⟩
  |true=>
   rw[if_neg Bool.noConfusion];obtain⟨j1,j2⟩:=ih z (yG t1 t.d.length) (sw u q.d.length) (by show t1.a+1=u.a+1;rw[e1]) e2 Ll hz;cases hk:(R z<|yG t1 t.d.length).1 with
   |false=>
    rw[if_pos rfl,if_neg Bool.noConfusion];rw[hk]at j1;exact⟨j1,λw=>(by cases w)⟩
   |true=>
    rw[if_neg Bool.noConfusion,if_neg Bool.noConfusion];rw[hk]at j1;exact⟨j1,λ_=>j2 hk⟩
theorem ID(s:y_):∀f,Vd s (tO s f) (mD s f)
 |0=>λ_ _ _ _ _ _ _=>⟨⟨λw=>(by cases w),λw=>(by cases w.1)⟩,λw=>(by cases w)⟩
 |f+1=>am4 (ID s f)
theorem IE(s:y_)(hs:s.size<=256):∀f t,qC s t->s.size<t.a+f->(mD s f t).bad=false-> ¬(mD s f t).a<s.size\/dx s (mD s f t).a=41
 |0,t,ht,hf,_=>by have:=ht.1;omega
 |f+1,t,ht,hf,hb=>by
  obtain⟨⟨o1,o2,o3,o4,o5⟩,o6⟩:=NW (yo s hs f) hs (s.size+1) t (NX ht U) ⟨ht.1,ht.2.1,ht.2.2.1⟩;have cy:mD s (f+1) t=yX s (mD s f) t:=rfl;rw[cy]at hb⊢;unfold yX at hb⊢;rw[show OC s (mD s f) (s.size+1) t=fU s (mD s f) t from rfl]at o1 o2 o3 o4 o5 o6;generalize fU s (mD s f) t=u at*;cases hi:oJ s u.a u.bad 124 with
  |false=>
   rw[hi,if_pos rfl]at hb;rw[if_pos rfl];have:=cn<|o6 hb;rcases this with w|w|w|w
   .rw[hb]at w;cases w
   .exact .inl w
   .by_cases hl:u.a<s.size
    .rw[hb,z8,show jI s u.a 124=true from cd ⟨hl,w⟩]at hi;cases hi
    .exact .inl hl
   .exact .inr w
  |true=>
   rw[hi,if_neg Bool.noConfusion]at hb;rw[if_neg Bool.noConfusion];obtain⟨q1,q2,_⟩:=qM hi;have hl:(sw u t.d.length).d.length=u.d.length+2:=by unfold sw Yt;rw[fm,br,te _ _ _ o5];rfl
   exact IE s hs f (sw u t.d.length) ⟨q2,o2,by rw[hl];show _<=2*(u.a+1)+1;omega,q1⟩ (by show s.size<u.a+1+f;omega) hb
def Cd(s:y_):Du s=0↔cmE s=0:=by
 unfold Du cmE;by_cases hs:256<s.size
 .rw[if_pos hs,if_pos hs]
 .rw[if_neg hs,if_neg hs];have i1:=(ID s (s.size+1) 0 t00 Vb rfl rfl rfl<|AF 0).1;have h2:=IE s U (s.size+1) Vb ⟨bJ _,bJ _,bE _,rfl⟩ (by show s.size<0+(s.size+1);omega);rw[show tO s (s.size+1) 0 t00=cmR s from rfl]at i1;rw[show mD s (s.size+1) Vb=OD s from rfl]at i1 h2;cases hk:(cmR s).1 with
  |true=>
   obtain⟨b1,b2⟩:=i1.1 hk;have hl: ¬(OD s).a<s.size:=λw=>by
    rcases h2 b1 with q|q
    .exact q w
    .exact b2 ⟨rfl,cd ⟨w,q⟩⟩
   rw[if_neg λw=>w.elim (λw=>by rw[b1]at w;cases w) hl,if_neg Bool.noConfusion]
  |false=>
   have hb:(OD s).bad=true\/(OD s).a<s.size:=by
    cases hb:(OD s).bad with
    |true=>exact .inl rfl
    |false=>
     by_cases hl:(OD s).a<s.size
     .exact .inr hl
     .have:=i1.2 ⟨hb,λw=>by have h3:(OD s).a<s.size/\_:=cn w.2;exact hl h3.1⟩;rw[hk]at this;cases this
   rw[if_pos hb,if_pos rfl]
end
def bO9:aV9 285 NY Du:=RA
def am5(r:iS)(h:wf r):Ok P 185 [(af iS).au r] (Bo<|qJ r):=by rw[<-Le Du Cd r];exact U3 NY Du bO9 r h
def uS {r:iS}(h:qJ r=true):r.bD.n<=32/\∀i,i<r.bD.n->(r.bD.f i).cO.size<=8/\(r.bD.f i).lD.size<=8/\(r.bD.f i).yH.size<=1024:=by
 rw[<-Le Du Cd r]at h;obtain⟨_,O,h2⟩:=cn h;refine⟨O,λi hi=> ?_⟩;have h3:=bc.1 h2 i hi;have h4:JK Du (r.bD.f i)=true:=by
  cases hp:JK Du (r.bD.f i)with
  |true=>rfl
  |false=>rw[(zZ Du r.bD i).2<|.inl hp]at h3;cases h3
 generalize r.bD.f i=p at h4;obtain⟨_,h5,h6⟩:=cn h4;have hf:nj p.cO=true->p.cO.size<=8:=λq=>by rcases cn q with q|q|q|q|q<;>rw[q]<;>decide
 have ho:p.cO=xm->p.cO.size<=8:=λq=>by rw[q];decide
 have hq:p.cO=nk->p.cO.size<=8:=λq=>by rw[q];decide
 refine⟨?_,?_,((Iv p.yH).1 h5).1⟩
 .rcases h6 with q|q|q|q|q
  .exact q.2.elim hf ho
  .exact hf q.2
  .exact hf q.2.1
  .exact ho q.2
  .exact hq q.2
 .rcases h6 with q|q|q|q|q
  .rcases q.1 with q|q<;>rw[q]<;>decide
  .rw[q.1];decide
  .rw[q.1];decide
  .rcases q.1 with q|q<;>rw[q]<;>decide
  .rw[q.1];decide
def IF(s:y_)(x:bh fE):Nat->y_
 |0=>s
 |k+1=>IF s x k++(x.f k).cO++⟨#[32]⟩++(x.f k).lD++⟨#[32]⟩++(x.f k).yH++⟨#[10]⟩
def Sc(i:Nat)(s:y_):y_:=if 0<i then s++⟨#[10]⟩else s
def uV(l:bh iS):Nat->y_
 |0=>⟨#[]⟩
 |i+1=>IF (Sc i (uV l i)) (l.f i).bD (l.f i).bD.n
def oK(l:bh iS)(i:Nat):Bool:= !qJ (l.f i)
def FZ(l:bh iS):Int:=if 64<l.n then 22 else if ar l.n (oK l)=true then 50 else 0
def Yy(l:bh iS):y_:=if FZ l=0 then uV l l.n else n_
theorem F0 {s:y_} {r:iS}(h:qJ r=true):∀k,k<=r.bD.n->(IF s r.bD k).size<=s.size+1043*k
 |0,_=>bE _
 |k+1,hk=>by have ih:=F0 (s:=s) h k U;obtain⟨O,h2,h3⟩:=(uS h).2 k U;unfold IF;simp only[fy];show _+_+1+_+1+_+1<=_;omega
def Yz(i:Nat)(s:y_):(Sc i s).size<=s.size+1:=by
 unfold Sc;split
 .rw[fy];exact bE _
 .omega
theorem N0(l:bh iS):∀i,(∀j,j<i->oK l j=false)->(uV l i).size<=33377*i
 |0,_=>bJ _
 |i+1,h=>by
  have ih:=N0 l i λj hj=>h j U;have N:qJ (l.f i)=true:=by simpa [oK]using h i U
  have O:=F0 (s:=Sc i (uV l i)) N _<|bE _;have h2:=Yz i<|uV l i;have h3:=(uS N).1;unfold uV;omega
def ERl:Env:=aF 185 (bN (a1<|af iS) (λr=>Bo (qJ r)) wf) EN
def aZ1:an P ERl:=ah aw am5
def b33(l:bh iS)(hw:wf l)(i:Nat)(s:y_)(hi:i<l.n)(N:qJ (l.f i)=true)(hs:s.size<=4194304):
  aO P (aD f116 12) (M 59 [(0,(ak iS).au l),(4,S s),(5,I i),(6,I (0:Nat))]) [] (.out (.ext 2) (M 59 [(0,(ak iS).au l),(4,S<|IF s (l.f i).bD (l.f i).bD.n),(5,I i)]) []):=by
 have hn:=(show(l.f i).bD.n<=aq/\_ from hw.2 i).1;have lp:=yM f116 12 ((l.f i).bD.n) (λ_=>false) (λk=>(M 59 [(0,(ak iS).au l),(4,S<|IF s (l.f i).bD k),(5,I i),(6,I k)])) [] (eR<|M 59 [(0,(ak iS).au l),(5,I i)]) (ey 2<|M 59 [(0,(ak iS).au l),(4,S<|IF s (l.f i).bD (l.f i).bD.n),(5,I i)]) λk hk ltk sE mN nX=>by
  have Zr:=uS N;have z1:(⟨#[32]⟩:y_).size=1:=rfl;have z2:(⟨#[10]⟩:y_).size=1:=rfl;have kZ:=F0 (s:=s) N k U;refine ao aw L0 [0,4,5,6] [0,4,5] (let Z:=(l.f i).bD.f k;let V:=(⟨#[32]⟩:y_);let aG:=IF s (l.f i).bD k;let aS:=(↑(l.f i).bD.n:Int);let bn:=(⟨#[10]⟩:y_);(.g i l.n<|.d ((k:Int)<aS) (.g i l.n<|.g k aS<|.o [aG.size+Z.cO.size<=9223372036854775807,(IF s (l.f i).bD k++Z.cO).size+(V).size<=9223372036854775807,(IF s (l.f i).bD k++Z.cO++V).size+Z.lD.size<=9223372036854775807,(IF s (l.f i).bD k++Z.cO++V++Z.lD).size+(V).size<=9223372036854775807,(IF s (l.f i).bD k++Z.cO++V++Z.lD++V).size+Z.yH.size<=9223372036854775807,(IF s (l.f i).bD k++Z.cO++V++Z.lD++V++Z.yH).size+(bn).size<=9223372036854775807]<|bR (M 59 [(0,(ak iS).au l),(4,S<|IF s (l.f i).bD k++Z.cO++V++Z.lD++V++Z.yH++bn),(5,I i),(6,I<|oU<|(k:Int)+1)]) [])<|fv 2 (M 59 [(0,(ak iS).au l),(4,S aG),(5,I i)]) [])) ?_;have Jh:=(di:False↔False)
  (simp only[fy])
  simp only[av]
  (repeat' with_reducible first|intro _|apply aNd_)<;>first|exact aM|(have q:=Zr.2 k U;omega)|(rw[bZ (n:=(l.f i).bD.n) U hn];exact sE U rfl)|(have e:k=(l.f i).bD.n:=U;subst e;exact nX rfl)
 exact lp.f<|bc.2 λ_ _=>rfl
def cd6(l:bh iS)(i:Nat):gD:=λ_=>([0,4,5,6],[],λT _=>match(T[4]?:Option J)with
 |some (.sc (.string s))=> .out (.ext 2) (M 59 [(0,(ak iS).au l),(4,S (IF s (l.f i).bD (l.f i).bD.n)),(5,I i)]) []
 |_=> .bad)
def am6(l:bh iS)(hw:wf l):Ok P 116 [(ak iS).au l] (.bg [S<|Yy l,I<|FZ l]):=by
 have hn:=hw.1;have lp:l.n<=64->_:=λh64=>aT7 (c:=aD f116 5) (n:=l.n) (b:=oK l) (st:=λi=>(M 59 [(0,(ak iS).au l),(4,S<|uV l i),(5,I i)])) (h:=λ_=> []) (x:=λi=>(.ret,(M 59 [(2,S n_),(3,I 50)]),[])) (y:=(.ext 0,(M 59 [(4,S<|uV l l.n)]),[])) λi hi hb lt aW az aR=>by
  have hci:=hw.2 i;have hl:=N0 l i hb;have z2:(⟨#[10]⟩:y_).size=1:=rfl;have b1:qJ (l.f i)=false->oK l i=true:=λq=>by unfold oK;rw[q];rfl
  have b0:qJ (l.f i)=true->oK l i=false:=λq=>by unfold oK;rw[q];rfl
  have lin:i<l.n->qJ (l.f i)=true->∀s:y_,s.size<=4194304->_:=λq1 q2 s q3=>(b33 l hw i s q1 q2 q3).one;have k1:0<i->Sc i (uV l i)=uV l i++⟨#[10]⟩:=λq=>if_pos q;have k0: ¬0<i->Sc i (uV l i)=uV l i:=λq=>if_neg q;refine ao aZ1 (cd6 l i) [0,4,5] [2,3,10004] (let Z:=(0,(ak iS).au l);let aG:=(4,S<|IF (uV l i) (l.f i).bD (l.f i).bD.n);let aS:=(⟨#[10]⟩:y_);let V:=(4,S<|IF (uV l i++aS) (l.f i).bD (l.f i).bD.n);let bn:=(5,I<|oU<|(i:Int)+1);let bH:=aD f116 12;(.d ((i:Int)<l.n) (.g i l.n<|.k (a1<|af iS) (l.f i) (wf<|l.f i)<|.m (qJ<|l.f i) (kG (M 59 [(2,S (n_:y_)),(3,I 50)]) [])<|.d ((i:Int)>0) (.o [(uV l i).size+(aS).size<=9223372036854775807,ax P bH (M 59 [Z,(4,S<|uV l i++aS),(5,I i),(6,I 0)]) [] (Out.ext 2) (M 59 [Z,V,(5,I i)]) []]<|bR (M 59 [Z,V,bn]) [])<|.o [ax P bH (M 59 [Z,(4,S<|uV l i),(5,I i),(6,I 0)]) [] (Out.ext 2) (M 59 [Z,aG,(5,I i)]) []]<|bR (M 59 [Z,aG,bn]) [])<|fv 0 (M 59 [(4,S<|uV l i)]) [])) ?_;try dsimp only
  simp only[av]
  (repeat' with_reducible first|intro _|apply aNd_)<;>first|exact aM|exact az U<|b1 W|exact lin U W _ U|exact lin U W _ (by rw[fy];omega)|(have gg:=aW U (b0 W);unfold uV at gg;rw[k1 U]at gg;rw[bZ (n:=l.n) U hn];exact gg)|(have gg:=aW U (b0 W);unfold uV at gg;rw[k0 U]at gg;rw[bZ (n:=l.n) U hn];exact gg)|(have e:i=l.n:=U;subst e;exact aR rfl)
 refine al aZ1 (iy [0,4,5] l.n (oK l) (λ_=>(M 59 [(2,S n_),(3,I 50)])) (M 59 [(4,S<|uV l l.n)]) (.ext 0) (λ_=> []) []) (let Z:=S (n_:y_);let V:=(M 59 [(0,(ak iS).au l),(4,Z),(5,I 0)]);(.d ((l.n:Int)>64) (.e<|J.bg [Z,I 22])<|.n (ar l.n<|oK l) (.o [ax P (aD f116 5) V [] (Out.ret) (M 59 [(2,Z),(3,I 50)]) []]<|.e<|J.bg [Z,I 50])<|.o [ax P (aD f116 5) V [] (Out.ext 0) (M 59 [(4,S<|uV l l.n)]) []]<|.e<|J.bg [S<|uV l l.n,I 0])) ?_;simp only[av]
 (repeat' with_reducible first|intro _|apply aNd_)<;>first|exact aM|(have e:FZ l=22:=(if_pos U);unfold Yy;rw[e];rfl)|(have q:ar l.n (oK l)=true:=W;have e:FZ l=50:=((if_neg U).trans<|if_pos q);unfold Yy;rw[e];rfl)|(have q:ar l.n (oK l)=false:=W;have e:FZ l=0:=((if_neg U).trans<|if_neg (by rw[q];exact dj));unfold Yy;rw[e,if_pos rfl])
end
section
open Go.PS Wf Go.RowKit
section
variable {w:World}{u:Value}{b:Nat}{et:TypeId}{fz:Nat×Nat}{l:l_ UInt8}
def aZ2 {S:Nat->Prop} {p:J}(h:cf w S p u):cf w S (.agg [p]) (.agg #[u]):=
 .agg _ _ rfl λi c v q1 q2=>by
  match i with
  |0=>simp at q1 q2;subst q1;subst q2;exact h
  |i+1=>simp at q1
def F1 {wr:World} {j k:Nat} {c:Array Value}(hb:Below w.heap.size w wr)(Y:w.heap[b]?=some (.cells c et fz))(hu:c[j]?=some u)(hj:k=j):wr.cell? ⟨b,k,none⟩=some u:=by rw[hb.cell (p:=⟨b,k,none⟩)<|lt_of_block Y];unfold World.cell?;simp only[Y];rw[hj,<-hu];rfl
def aZ3(s:y_)(x:bh fE)(k:Nat):(IF s x k).data.toList++((x.f k).cO++⟨#[32]⟩++(x.f k).lD++⟨#[32]⟩++(x.f k).yH++⟨#[10]⟩).data.toList=(IF s x<|k+1).data.toList:=by show _=(IF s x k++(x.f k).cO++⟨#[32]⟩++(x.f k).lD++⟨#[32]⟩++(x.f k).yH++⟨#[10]⟩).data.toList;simp [ByteArray.data_append]
abbrev IsF(b:Nat)(l:l_ UInt8)(w:World):Prop:=Lib.IsBuilderF 159 5 b b (Lib.byteCells l) w
def yq{w':World}(h:IsF b l w)(hb:Below w.heap.size w w'):IsF b l w':=by
 have key:∀p,Lib.BuilderAtF 159 5 b b p (Lib.byteCells l) w->Lib.BuilderAtF 159 5 b b p (Lib.byteCells l) w':=by
  rintro p ⟨O,v,h2,⟨h3,h4⟩,h5⟩;refine⟨O,v,(hb.block b<|lt_of_block h2).trans h2,⟨h3,?_⟩,h5⟩;rcases h4 with q|⟨g,cap,cur,fz,q1,q2,q3,q4⟩
  .exact .inl q
  .exact .inr ⟨g,cap,cur,fz,q1,q2,(hb.block g<|lt_of_block q3).trans q3,q4⟩
 exact h.imp (key _)<|key _
def bP0(h:IsF b l w):b<w.heap.size:=by rcases h with⟨_,v,h2,_⟩|⟨_,v,h2,_⟩<;>exact lt_of_block h2
def bP1(h:w.heap[b]?=some (.cells #[u] et fz)):w.cell? ⟨b,0,none⟩=some u:=by unfold World.cell?;simp only[h];rfl
def b34:Lays.n169 Tryz.prog pN:= {FB with}
def yY(b:Nat)(l:l_ UInt8)(s:y_)(w:World)(h:IsF b l w)(hl:l.length+s.size<=140737488355328)(hb:b<=w.heap.size):
  Calls P 64 #[.pointer<|some ⟨b,0,none⟩,.string s] w λe w'=>e= .returned (.tuple #[.int .i64 s.size,.nilIface])/\IsF b (l++s.data.toList) w'/\Below b w w'/\Lib.OthersKept 5 (some b) w w':=by
 refine(Any.Builder_WriteString_k bw0 jO b b (Lib.byteCells l) s w h (by rw[Lib.byteCells_length];exact hl) hb).mono ?_;rintro e w' ⟨rfl,O,h2⟩;refine⟨rfl,?_,h2⟩;show Lib.IsBuilderF 159 5 b b _ w';rw[Lib.byteCells_append];exact .inr O
def aZ4(b:Nat)(l:l_ UInt8)(w:World)(h:IsF b l w)(hb:b<=w.heap.size):Calls P 65 #[.pointer<|some ⟨b,0,none⟩] w λe w'=>e= .returned (.string<|B l)/\Below b w w':=
 (Any.Builder_String_any_k b34 jO b b l w h hb).mono λ_ _ h=>⟨h.1,h.2.2.1⟩
set_option maxRecDepth 1000000 in
def RB(l:bh iS)(hd:wf l)(w:World)(Sa:Nat->Prop)(u:Value)(hG:GI P w)(hS:∀b,Sa b->b<w.heap.size)(hu:cf w Sa ((ak iS).au l) u):
  Calls P 89 #[u] w λe w'=>e= .returned (.tuple #[.string<|Yy l,.int .i64<|FZ l])/\Below w.heap.size w w':=by
 obtain⟨a,cap,rfl,hat⟩:=NB hu;have Hat:=Any.hidU hat;clear hat hu;have e64:∀args w,(callFunc 64 args).run P w= .ok (.enter 64 args) w:=sS;have e65:∀args w,(callFunc 65 args).run P w= .ok (.enter 65 args) w:=sS;have e62:∀args w,(callFunc 152 args).run P w= .ok (.enter 152 args) w:=sS;go_enter func89,ntmps89;by_cases hn:64<l.n
 .have yP:((l.n:Int)>64):=U;have eE:FZ l=22:=if_pos hn;have eT:Yy l=n_:=by unfold Yy;rw[if_neg (by rw[eE];decide)]
  have HE:=Any.hidU<|And.intro eE eT;clear eE eT
  go_wp2
  go_ret2;rw[HE.out.1,HE.out.2];exact⟨rfl,Below.refl _ _⟩
 .have yP: ¬((l.n:Int)>64):=U;have z0:w.heap.size<=(w.alloc<|.cells #[.pointer none,.slice none 0 0] 159).heap.size:=sS;have f0:=Lib.IsBuilderF.of (Lib.fresh_isBuilder 159 5 w);have b0:=(Below.refl w.heap.size w).alloc (bE _) (.cells #[.pointer none,.slice none 0 0] 159);generalize hW0:w.alloc (.cells #[.pointer none,.slice none 0 0] 159)=W0 at z0 f0 b0
  go_wp2
  clear hW0
  go_loopw [14] (λv wr=>∃k:Nat,k<=l.n/\v= .int .i64 k/\Hid (∀j,j<k->oK l j=false)/\IsF w.heap.size (uV l k).data.toList wr/\Below w.heap.size w wr) (λv _=>l.n-(RowKit.intOf v).toNat)
  case atStart=>exact⟨0,bJ _,rfl,Any.hidU λj hj=>absurd hj (jC j),f0,b0⟩
  case round=>
   obtain⟨k,hk,rfl,gZ,ik,bk⟩:=hrel;have zk:=bk.size;by_cases iH:k<l.n
   .obtain⟨b,o,sz,c,et,fz,rfl,hSb,hcb,kZ,wx⟩:=Hat.out k iH;have kZ:1=sz:=kZ;subst kZ;obtain⟨u,hu1,Wd⟩:=wx 0 _ rfl;clear wx;have hce:wr.cell? ⟨b,o+k,none⟩=some u:=F1 bk hcb hu1 U;obtain⟨a2,wC,rfl,b35⟩:=NB Wd;have cd7:=Any.hidU b35;clear b35;have GR:=hd.2 k;have hn2:=GR.1;have hn3:(l.f k).bD.n<=140737488351232:=hn2;have cV:=aj1 (l.f k) hn2;generalize hWA:wr.alloc (.cells #[.slice a2 (l.f k).bD.n wC] 256)=WA;have bA:=hWA▸bk.alloc zk _;have iA:=hWA▸yq ik ((Below.refl wr.heap.size wr).alloc (bE _) _);have cl:WA.cell? ⟨wr.heap.size,0,none⟩=some (.slice a2 (l.f k).bD.n wC):=by rw[<-hWA];simp
    have Wb:WA.heap[wr.heap.size]?=some (.cells #[.slice a2 (l.f k).bD.n wC] 256 (0,0)):=by rw[<-hWA];exact heap_alloc_new wr _
    have zl:=Nat.ne_of_gt (show w.heap.size<wr.heap.size from bP0 ik);have lA:wr.heap.size<WA.heap.size:=by rw[<-hWA];simp
    have qd:=Any.hidU<|And.intro cl (And.intro lA (And.intro bA (And.intro iA (And.intro cV (And.intro (aZ2 Wd) (And.intro Wb zl))))));clear lA bA iA cV Wd ik Wb zl;cases hq:qJ (l.f k)with
    |false=>
     have hB:FZ l=50/\Yy l=n_:=by
      have e1:ar l.n (oK l)=true:=by
       cases q:ar l.n (oK l)with
       |true=>rfl
       |false=>have:=bc.1 q k iH;unfold oK at this;rw[hq]at this;cases this
      have e2:FZ l=50:=by unfold FZ;rw[if_neg hn,if_pos e1]
      exact⟨e2,by unfold Yy;rw[if_neg (by rw[e2];decide)]⟩
     have HB:=Any.hidU hB;clear hB
     go_wp2_with (go_at_call 152;refine(qd.out.2.2.2.2.1.K6 hG hS qd.out.2.2.1 qd.out.2.2.2.2.2.1).mono ?_;rintro e W2 ⟨rfl,b2⟩;rw[hq])
     go_ret2;rw[HB.out.1,HB.out.2];exact⟨rfl,qd.out.2.2.1.trans<|b2.mono qd.out.2.2.1.size⟩
    |true=>
     have hlen:=N0 l k gZ.out;have hlI:=Yz k<|uV l k;have Hl1:=Any.hidU (show(uV l k).data.toList.length+(⟨#[10]⟩:y_).size<=140737488355328 by rw[<-Lib.size_eq];show _+1<=_;omega);have HlI:=Any.hidU (show(Sc k<|uV l k).size<=4194304 by omega);clear hlen hlI;have Hok:=Any.hidU (show oK l k=false by unfold oK;rw[hq];rfl);by_cases Wo:0<k;all_goals first
     |(
      have hg:((k:Int)>0):=U
      go_wp2_with (first|(go_at_call 152;refine(qd.out.2.2.2.2.1.K6 hG hS qd.out.2.2.1 qd.out.2.2.2.2.2.1).mono ?_;rintro e W2 ⟨rfl,b2⟩;rw[hq];have c2:=(b2.cell (p:=⟨wr.heap.size,0,none⟩) qd.out.2.1).trans qd.out.1;have B2:=qd.out.2.2.1.trans (b2.mono qd.out.2.2.1.size);have i2:=yq qd.out.2.2.2.1 b2;have l2:=uY qd.out.2.1 b2.size)|(go_at_call 64;refine(yY w.heap.size (uV l k).data.toList _ W2 i2 Hl1.out B2.size).mono ?_;rintro e W3 ⟨rfl,i3,b3,o3⟩;have c3:=bP1 (o3 _ _ ((b2.block _ qd.out.2.1).trans qd.out.2.2.2.2.2.2.1) (λq=>qd.out.2.2.2.2.2.2.2 (ku q)) λc fz q=>by cases q)))
      have I:IsF w.heap.size (Sc k<|uV l k).data.toList W3/\Below w.heap.size w W3:=by refine⟨?_,B2.trans b3⟩;rw[show Sc k (uV l k)=uV l k++⟨#[10]⟩from if_pos Wo];simpa [ByteArray.data_append]using i3
      clear i3 b3 c2 i2 B2 l2 hg o3;revert c3 I;generalize W3=WX;intro c3 I)
     |(
      have hg: ¬((k:Int)>0):=U
      go_wp2_with (go_at_call 152;refine(qd.out.2.2.2.2.1.K6 hG hS qd.out.2.2.1 qd.out.2.2.2.2.2.1).mono ?_;rintro e W2 ⟨rfl,b2⟩;rw[hq];have c2:=(b2.cell (p:=⟨wr.heap.size,0,none⟩) qd.out.2.1).trans qd.out.1;have B2:=qd.out.2.2.1.trans (b2.mono qd.out.2.2.1.size);have i2:=yq qd.out.2.2.2.1 b2;have l2:=uY qd.out.2.1 b2.size)
      have I:IsF w.heap.size (Sc k<|uV l k).data.toList W2/\Below w.heap.size w W2:=by refine⟨?_,B2⟩;rw[show Sc k (uV l k)=uV l k from if_neg Wo];exact i2
      have c3:=c2;clear c2 i2 B2 l2 hg;revert c3 I;generalize W2=WX;intro I c3)
     all_goals (
      clear c3
      go_loopw [28] (λv w2=>∃k2:Nat,k2<=(l.f k).bD.n/\v= .int .i64 k2/\IsF w.heap.size (IF (Sc k<|uV l k) (l.f k).bD k2).data.toList w2/\Below w.heap.size w w2) (λv _=>(l.f k).bD.n-(RowKit.intOf v).toNat)
      case atStart=>exact⟨0,bJ _,rfl,I.1,I.2⟩
      case round=>
       obtain⟨k2,Cx,rfl,j2,d2⟩:=hrel;have y2:=d2.size;by_cases SL:k2<(l.f k).bD.n
       .obtain⟨b5,o5,sz,c5,et5,fz5,rfl,ci5,bP2,b36,N1⟩:=cd7.out k2 SL;have b36:3=sz:=U;subst b36;obtain⟨x0,p0,q0⟩:=N1 0 _ rfl;obtain⟨x1,p1,q1⟩:=N1 1 _ rfl;obtain⟨x2,p2,q2⟩:=N1 2 _ rfl;obtain rfl:=yl q0;obtain rfl:=yl q1;obtain rfl:=yl q2;clear q0 q1 q2 N1;have r0:=F1 d2 bP2 p0 (show o5+k2*3=_ by omega);have r1:=F1 d2 bP2 p1 (show o5+k2*3+1=_ by omega);have r2:=F1 d2 bP2 p2 (show o5+k2*3+2=_ by omega);have cd8:=(uS hq).2 k2 SL;have cd9:=F0 (s:=Sc k (uV l k)) hq k2 Cx;have h32:=(uS hq).1;have Hl2:=Any.hidU (show(IF (Sc k (uV l k)) (l.f k).bD k2).data.toList.length+((((l.f k).bD.f k2).cO++⟨#[32]⟩++((l.f k).bD.f k2).lD++⟨#[32]⟩++((l.f k).bD.f k2).yH++⟨#[10]⟩):y_).size<=140737488355328 by
         rw[<-Lib.size_eq];simp only[fy];have e1:(⟨#[32]⟩:y_).size=1:=rfl;have e2:(⟨#[10]⟩:y_).size=1:=rfl;have:=HlI.out;omega)
        have Hn2:=Any.hidU<|aZ3 (Sc k<|uV l k) (l.f k).bD k2;have f1: ¬9223372036854775807<((l.f k).bD.f k2).cO.size+1:=U;have f2: ¬9223372036854775807<((l.f k).bD.f k2).cO.size+1+((l.f k).bD.f k2).lD.size:=U;have f3: ¬9223372036854775807<((l.f k).bD.f k2).cO.size+1+((l.f k).bD.f k2).lD.size+1:=U;have f4: ¬9223372036854775807<((l.f k).bD.f k2).cO.size+1+((l.f k).bD.f k2).lD.size+1+((l.f k).bD.f k2).yH.size:=U;have f5: ¬9223372036854775807<((l.f k).bD.f k2).cO.size+1+((l.f k).bD.f k2).lD.size+1+((l.f k).bD.f k2).yH.size+1:=U;clear cd9 h32 cd8 p0 p1 p2
        go_wp2_with (go_at_call 64;refine(yY w.heap.size (IF (Sc k<|uV l k) (l.f k).bD k2).data.toList _ _ (yq j2<|(Below.refl _ _).alloc (bE _) _) Hl2.out (d2.alloc y2 _).size).mono ?_;rintro e W4 ⟨rfl,i4,b4,_⟩;rw[Hn2.out]at i4)
        go_roundw
        case rel=>exact⟨k2+1,U,by go_num,i4,(d2.alloc y2 _).trans b4⟩
        case measure=>first|(show _-((k2:Int)+1).toNat<_-(k2:Int).toNat;omega)|(simp [RowKit.intOf];omega)
       .have ce0:k2=(l.f k).bD.n:=U;subst ce0
        go_wp2
        go_roundw
        case rel=>
         refine⟨k+1,U,by go_num,Any.hidU (λj hj=> ?_),j2,d2⟩;rcases LY.1 hj with q|q
         .exact gZ.out j q
         .exact q▸Hok.out
        case measure=>first|(show _-((k:Int)+1).toNat<_-(k:Int).toNat;omega)|(simp [RowKit.intOf];omega))
   .have hke:k=l.n:=U;subst hke;have e0:FZ l=0:=by unfold FZ;rw[if_neg hn,if_neg (by rw[bc.2 gZ.out];exact dj)]
    have e1:Yy l=uV l l.n:=if_pos e0;have HE:=Any.hidU<|And.intro e0 e1;clear e0 e1
    go_wp2_with (go_at_call 65;refine(aZ4 w.heap.size _ _ ik zk).mono ?_;rintro e W4 ⟨rfl,b4⟩)
    go_ret2;rw[HE.out.1,HE.out.2,ZM];exact⟨rfl,bk.trans b4⟩
def am7:lB 89 Yy FZ:=λl hd=>
 ok_two kK λw Sa u hG hS hu=>RB l hd w Sa u hG hS hu
end
end
section
open Go.PS Wf
def bp1 {a b:Nat}(O:a<=aq)(h2:b<=aq):oU ((a:Int)+(b:Int))=((a+b:Nat):Int):=by unfold aq at O h2;rw[wrap64 U U];rfl
def b37 {a b:Nat}(O:a<=4*aq)(h2:b<=aq):oU (((a:Nat):Int)+(b:Int))=((a+b:Nat):Int):=by unfold aq at O h2;rw[wrap64 U U];rfl
def mS(x:cQ):Bool:=decide<|x.ly.n=0/\x.jf.n=0/\x.gu.aj.n=0/\x.gm.n=0/\x.gu.next=0
def IG(x:cQ)(h:wf x):Ok P 33 [(af cQ).au x] (Bo<|mS x):=by
 have O:=h.1.1;have h2:=h.2.1.1;have h3:=h.2.2.1.2.1;have h4:=h.2.2.2.1;refine al aw L0 (.q (oU<|oU (oU ((x.ly.n:Int)+(x.jf.n:Int))+(x.gu.aj.n:Int))+(x.gm.n:Int)) 0 (.e<|Bo<|x.gu.next==0) bI) ?_;try dsimp only
 rw[bp1 O h2,b37 (show x.ly.n+x.jf.n<=4*aq by omega) h3,b37 (show x.ly.n+x.jf.n+x.gu.aj.n<=4*aq by omega) h4];simp only[av,ev,jR]
 repeat' with_reducible first|intro _|apply aNd_
 all_goals (unfold mS;exact ga)
def tg(x:eX):Bool:=decide<|mS x.bL=true/\x.dS.cap=0/\x.dS.aU.n=0/\x.dp.n=0
def EB1:Env:=aF 33 (bN (a1<|af cQ) (λx=>Bo (mS x)) wf) EN
def bP3:an P EB1:=ah aw IG
def am8(x:eX)(h:wf x):Ok P 34 [(af eX).au x] (Bo<|tg x):=by
 have O:=h.2.1.2.1;have h2:=h.2.2.1;refine al bP3 L0 (.k (a1<|af cQ) x.bL (wf x.bL)<|.n (mS x.bL) (.q x.dS.cap 0 (.e<|Bo<|oU ((x.dS.aU.n:Int)+(x.dp.n:Int))==0) bI) bI) ?_;try dsimp only
 rw[bp1 O h2];simp only[av,ev,jR]
 (repeat' with_reducible first|intro _|apply aNd_)<;>first|exact aM|(unfold tg;exact ga)
def Aa(x:df):Bool:=decide<|x.next=0/\x.iG=0/\x.l.n=0
def aZ5(x:df):Ok P 35 [(af df).au x] (Bo<|Aa x):=by
 refine al aw L0 (.q x.next 0 (.q x.iG 0 (.e<|Bo<|(x.l.n:Int)==0) bI) bI) ?_;simp only[av]
 repeat' with_reducible first|intro _|apply aNd_
 all_goals (unfold Aa;exact ga)
def IH(x:jU):Bool:=decide<|x.l0=n_/\x.zx=n_/\x.next=0/\x.count=0/\x.dv.n=0/\x.eo.n=0
def bp2(x:jU)(h:wf x):Ok P 36 [(af jU).au x] (Bo<|IH x):=by
 have O:=h.2.2.1.1;have h2:=h.2.2.2.2.1.1;refine al aw L0 (let Z:ix:=bI;let V:=(n_:y_);(.n (dN x.l0 V) (.n (dN x.zx V) (.q x.next 0 (.q x.count 0 (.e<|Bo<|oU ((x.dv.n:Int)+(x.eo.n:Int))==0) Z) Z) Z) Z)) ?_;try dsimp only
 rw[bp1 O h2];simp only[av,bK,bO,ev,jR,aL]
 repeat' with_reducible first|intro _|apply aNd_
 all_goals (refine ba Bo ?_;unfold IH;grind)
end
end Go.Proofs.YtnpcbfcfcjdhlaaGreatDoor
namespace Go.PS
section
section
variable {α:Type}
inductive TrD (α:Type) where
 |jh (a:α) (ob:l_ Prop)
 |aN (c:Bool) (t f:TrD α)
 |say (x:It) (t:TrD α)
 |dead
abbrev Ce:=TrD J
def TrD.j6(Q:α->Prop):TrD α->Prop
 | .jh a ob=>ow ob/\Q a
 | .aN c t f=>(c=true->t.j6 Q)/\(c=false->f.j6 Q)
 | .say _ t=>t.j6 Q
 | .dead=>False
def mf:TrD α->l_ (Bool×Bool)->Lf α
 | .jh a ob,p=> [some (p.reverse,a,ob)]
 | .aN c t f,p=>mf t ((c,true)::p)++mf f ((c,false)::p)
 | .say _ t,p=>mf t p
 | .dead,_=> []
def kQ(run:l8->Option (α×l_ Ob)):TrD α->l_ It->Lf α
 | .jh _ _,p=> [Mw (run p.reverse)]
 | .aN _ t f,p=>kQ run t (.bit true::p)++kQ run f (.bit false::p)
 | .say x t,p=>kQ run t (x::p)
 | .dead,_=> []
theorem th(run:l8->Option (α×l_ Ob)):∀(t:TrD α) (p:l_ It) (q:l_ (Bool×Bool)),(kQ run t p).length=(mf t q).length
 | .jh _ _,_,_=>rfl
 | .aN c t f,p,q=>by
  simp only[kQ,mf,br];rw[th run t (.bit true::p) ((c,true)::q),th run f (.bit false::p) ((c,false)::q)]
 | .say x t,p,q=>th run t (x::p) q
 | .dead,_,_=>rfl
theorem yt {run:l8->Option (α×l_ Ob)} {Q:α->Prop}:∀(t:TrD α) (p:l_ It) (q:l_ (Bool×Bool)),kQ run t p=mf t q->(∀x∈q,x.1=x.2)->t.j6 Q->∃s a ob,run s=some (a,ob)/\(∀X∈ob,X.holds)/\Q a
 | .jh a ob,p,q,F,hq,hA=>by
  simp only[kQ,mf,List.cons.injEq,and_true]at F;unfold Mw at F;split at F
  .rename_i a' AK N;simp only[mo,Prod.mk.injEq]at F;obtain⟨O,rfl,h3⟩:=F;refine⟨p.reverse,a',AK,N,λX hX=> ?_,hA.2⟩;cases X with
   |dec c b=>
    have:=GW hX;rw[O]at this;exact hq (c,b) (by simpa using this)
   |xK X=>
    have:=GV hX;rw[h3]at this;exact ow.mem hA.1 X this
   |same c b=>
    have:=CC hX;rw[h3]at this;exact ow.mem hA.1 _ this
  .cases F
 | .aN c t f,p,q,F,hq,hA=>by
  simp only[kQ,mf]at F;obtain⟨O,h2⟩:=List.append_inj F<|th run t _ _;cases Y:c with
  |true=>
   subst Y;exact yt t _ _ O (λx hx=>by rcases fB.1 hx with rfl|hx;exact rfl;exact hq x hx)<|hA.1 rfl
  |false=>
   subst Y;exact yt f _ _ h2 (λx hx=>by rcases fB.1 hx with rfl|hx;exact rfl;exact hq x hx)<|hA.2 rfl
 | .say _ t,p,q,F,hq,hA=>yt t _ q F hq hA
 | .dead,_,_,_,_,hA=>hA.elim
def aZ6 {P:Program} {E:Env} {f:FuncId} {fn:Func} {args:l_ J} {r:J}(hE:an P E)(L:gD)(hf:P.funcs[f]?=some fn)(t:TrD J)(F:kQ (Mx P E L fn args) t []=mf t [])(hA:t.j6 (· =r)):Ok P f args r:=by
 obtain⟨s,a,ob,O,h2,rfl⟩:=yt t _ _ F sS hA;unfold Mx at O;split at O
 .rename_i r' AK s' N;cases O;exact Ph hE hf N h2
 .cases O
end
end
end Go.PS
namespace Go.Proofs.YtnpcbfcfcjdhlaaGreatDoor
section
open Go.PS Wf
def iM(d:cq):Bool:=decide<|(d.fe=1\/mS d.bL=true)/\(d.fe=2\/tg d.iF=true)/\(d.fe=3\/d.pM.next=0/\d.pM.l.n=0)/\(d.fe=4\/Aa d.fp=true)/\(d.fe=5\/d.gM.qN.n+d.gM.dX.n=0)/\(d.fe=6\/IH d.fw=true)/\(d.fe=7\/d.fY=n_)/\(d.fe=8\/d.iN=0)/\(d.fe=10\/d.Ez=0)
def EB2:Env:=aF 33 (bN (a1<|af cQ) (λx=>Bo (mS x)) wf)<|aF 34 (bN (a1<|af eX) (λx=>Bo (tg x)) wf)<|aF 35 (bN (a1<|af df) λx=>Bo (Aa x))<|aF 36 (bN (a1<|af jU) (λx=>Bo (IH x)) wf) EN
def bP4:an P EB2:=ah (ah (ah (ah aw bp2) λx _=>aZ5 x) am8) IG
def am9(d:cq)(h:wf d):Ok P 16 [(af cq).au d] (Bo<|iM d):=by
 have hf:=h.2.1;have hs:=h.2.2.1;have ha:=h.2.2.2.2.2.2.1;have O:=h.2.2.2.2.2.1.1.1;have h2:=h.2.2.2.2.2.1.2.1
 refine aZ6 bP4 L0 func16 (let Z:=((d.fe:Int)==3);let V:=((d.pM.next:Int)==0);let aG:=(((↑d.pM.l.n:Int):Int)==0);let aS:=((d.fe:Int)==4);let bn:=(Aa d.fp);let bH:=((d.fe:Int)==5);let cp:=((oU ((↑d.gM.qN.n:Int)+(↑d.gM.dX.n:Int)):Int)==0);let cu:=((d.fe:Int)==6);let dk:=(IH d.fw);let bu:=((d.fe:Int)==7);let bC:=(dN d.fY (n_:y_));let bP:=((d.fe:Int)==8);let bY:=((d.iN:Int)==0);let cN:=((d.fe:Int)==10);let dE:=(Bo<|d.Ez==0);let dV:=(a1<|af eX);let eu:=(a1<|af df);let fI:=(a1<|af jU);let ia:=[dV.au d.iF=dV.au d.iF,wf d.iF,eu.au d.fp=eu.au d.fp,True,fI.au d.fw=fI.au d.fw,wf d.fw];let iz:Ce:=(.jh (Bo false) ia);let iC:Ce:=(.jh (Bo false) [dV.au d.iF=dV.au d.iF,wf d.iF,eu.au d.fp=eu.au d.fp,True]);let jn:Ce:=(.jh (Bo false) [dV.au d.iF=dV.au d.iF,wf d.iF]);let iD:=(a1<|af cQ);let ka:=[iD.au d.bL=iD.au d.bL,wf d.bL,eu.au d.fp=eu.au d.fp,True,fI.au d.fw=fI.au d.fw,wf d.fw];let kV:Ce:=(.jh (Bo false) ka);let lg:Ce:=(.jh (Bo false) [iD.au d.bL=iD.au d.bL,wf d.bL,eu.au d.fp=eu.au d.fp,True]);let mA:Ce:=(.jh (Bo false) [iD.au d.bL=iD.au d.bL,wf d.bL]);let lT:=[iD.au d.bL=iD.au d.bL,wf d.bL,dV.au d.iF=dV.au d.iF,wf d.iF,eu.au d.fp=eu.au d.fp,True,fI.au d.fw=fI.au d.fw,wf d.fw];let r9:Ce:=(.aN cN (.dead)<|.jh dE lT);let vD:Ce:=(.jh (Bo false) lT);let IA:Ce:=(.aN bP (.dead)<|.aN bY r9 vD);let NR:Ce:=(.aN cu (.dead)<|.aN dk (.aN bu (.dead)<|.aN bC IA vD) vD);let Rv:=[iD.au d.bL=iD.au d.bL,wf d.bL,dV.au d.iF=dV.au d.iF,wf d.iF,eu.au d.fp=eu.au d.fp,True];let B9:Ce:=(.jh (Bo false) Rv);let JM:=[iD.au d.bL=iD.au d.bL,wf d.bL,dV.au d.iF=dV.au d.iF,wf d.iF,fI.au d.fw=fI.au d.fw,wf d.fw];let IB:Ce:=(.jh (Bo false) JM);let JN:Ce:=(.jh (Bo false) [iD.au d.bL=iD.au d.bL,wf d.bL,dV.au d.iF=dV.au d.iF,wf d.iF]);(.aN ((d.fe:Int)==1) (.aN ((d.fe:Int)==2) (.dead)<|.aN (tg d.iF) (.aN Z (.dead)<|.aN V (.aN aG (.aN aS (.dead)<|.aN bn (.aN bH (.dead)<|.aN cp (.aN cu (.dead)<|.aN dk (.aN bu (.dead)<|.aN bC (.aN bP (.dead)<|.aN bY (.aN cN (.dead)<|.jh dE ia) iz) iz) iz) iC) iC) jn) jn) jn)<|.aN (mS d.bL) (.aN ((d.fe:Int)==2) (.aN Z (.dead)<|.aN V (.aN aG (.aN aS (.dead)<|.aN bn (.aN bH (.dead)<|.aN cp (.aN cu (.dead)<|.aN dk (.aN bu (.dead)<|.aN bC (.aN bP (.dead)<|.aN bY (.aN cN (.dead)<|.jh dE ka) kV) kV) kV) lg) lg) mA) mA)<|.aN (tg d.iF) (.aN Z (.aN aS (.dead)<|.aN bn (.aN bH (.dead)<|.aN cp NR B9) B9)<|.aN V (.aN aG (.aN aS (.aN bH (.dead)<|.aN cp (.aN cu (.dead)<|.aN dk (.aN bu (.dead)<|.aN bC (.aN bP (.dead)<|.aN bY (.aN cN (.dead)<|.jh dE JM) IB) IB) IB) JN)<|.aN bn (.aN bH NR<|.aN cp (.aN cu (.aN bu (.dead)<|.aN bC (.aN bP (.dead)<|.aN bY (.aN cN (.dead)<|.jh dE Rv) B9) B9)<|.aN dk (.aN bu IA<|.aN bC (.aN bP r9<|.aN bY (.aN cN (.jh (Bo true) lT)<|.jh dE lT) vD) vD) vD) B9) B9) JN) JN) JN) mA)) kK ?_
 try dsimp only
 try rw[bp1 O h2]
 simp only[TrD.j6,ow,bK,bO,ev,jR,aL]
 (repeat' with_reducible first|intro _|apply aNd_)<;>first|trivial|omega|(unfold iM;exact ga)
def ERP:Env:=aF 50 (bN (a1 aQ) (λs=>Bo (fj s)) λs=>s.size<=aq)<|aF 104 (bN (a1 aQ) λs=>Bo (iK s))<|aF 237 (bN (a1 aQ) (λs=>He (bS 47 s.data.toList)) λs=>s.size<=1024) EN
def Vg:an P ERP:=ah (ah (ah aw λs h=>aS8 s h) λs _=>zA s) λs h=>uv s h
def Vh(p:y_)(hp:p.size<=aq):Ok P 171 [S p] (yj p):=by
 have Y:=XX p;have hl:=Ii p;have lp:=λ(iH:p.size<=1024)=>yM f171 5 (gq p) (λi=>Dk (qK p i)) (λi=>(M 111 [(0,S p),(2,.dF),(3,I 0),(4,He<|bS 47 p.data.toList),(5,I i)])) [] (λi=>(.ret,(M 111 [(2,.dF),(3,I 6)]),[])) (.ext 0,(M 111 [(0,S p),(2,.dF),(3,I 0),(4,He<|bS 47 p.data.toList)]),[]) λi hi lt aW az aR=>by
  have hm:gq p<=aq:=by unfold aq;omega
  have hqs:=cm (zV p i) hp;have hpc:gq p=(bS 47 p.data.toList).length:=rfl;refine ao Vg L0 [0,2,3,4,5] [2,3,10000,10004] (let Z:=bS 47 p.data.toList;let V:=B (Z.getD i []);let aG:=(5,I<|oU<|(i:Int)+1);let aS:=(Z.length:Int);let bn:=(2,J.dF);(.d ((i:Int)<aS) (.g i aS<|.m (dN V (n_:y_)) (.g i aS<|.m (dN V (⟨#[46]⟩:y_)) (.g i aS<|.m (dN V (⟨#[46,46]⟩:y_)) (.g i aS<|.k (a1 aQ) V (V.size<=140737488351232)<|.m (fj V) (eH az)<|bR (M 111 [(0,S p),bn,(3,I 0),(4,J.rf Z.length λi=> [S<|B<|Z.getD i []]),aG]) [])<|bR (M 111 [(0,S p),bn,(3,I 0),(4,J.rf Z.length λi=> [S<|B<|Z.getD i []]),aG]) [])<|bR (M 111 [(0,S p),bn,(3,I 0),(4,J.rf Z.length λi=> [S<|B<|Z.getD i []]),aG]) [])<|bR (M 111 [(0,S p),bn,(3,I 0),(4,J.rf Z.length λi=> [S<|B<|Z.getD i []]),aG]) [])<|eY aR)) ?_;have Y:=(show Dk (qK p i)=true↔((B<|(bS 47 p.data.toList).getD i [])≠n_/\(B<|(bS 47 p.data.toList).getD i [])≠⟨#[46]⟩/\(B<|(bS 47 p.data.toList).getD i [])≠⟨#[46,46]⟩/\fj (B<|(bS 47 p.data.toList).getD i [])=false)from Q4 (qK p i))
  simp only[av,bK,bO,aL]
  repeat' with_reducible first|intro _|apply aNd_
  all_goals exact aM
 have xZ:=λ(iH:p.size<=1024)=>qp f171 11 (gq p) (λ_=>false) (λi=>(M 111 [(0,S p),(2,.dF),(3,I 0),(4,He<|bS 47 p.data.toList),(6,.bf 0 (gd p i).length),(7,I i)])) (λi=> [⟨fk<|gd p i,0,[],1,true,false⟩]) (λi=>(.ret,(M 111 [(2,.dF),(3,I 6)]),[])) (.ext 2,(M 111 [(2,.dF),(3,I 0),(6,.bf 0 (gd p<|gq p).length)]),[⟨fk<|gd p<|gq p,0,[],1,true,false⟩]) λi hi lt aW az aR=>by
  have hm:gq p<=aq:=by unfold aq;omega
  have Ww:=hl i;have hlm:(gd p i).length<=aq:=by unfold aq;omega
  have JY:0<(gd p i).length->(fk<|gd p i)[(gd p i).length-1]?=some [S<|tc<|gd p i]:=λh=>Q5<|sM.1 h;have I5:=pn<|gd p i;have hpc:gq p=(bS 47 p.data.toList).length:=rfl
  refine ao Vg L0 [0,2,3,4,6,7] [2,3,10006] (let Z:=bS 47 p.data.toList;let aG:=(7,I<|oU<|(i:Int)+1);let aS:=gd p i;let bH:=(Z.length:Int);let cu:=(6,J.bf 0<|aS.length+1);let dk:=(aS.length:Int);let bC:=(6,J.bf 0 aS.length);let bP:=(2,J.dF);let bY:=B (Z.getD i []);let bn:=[dn (fk aS++ [[S bY]]) 1];let cN:=oU (dk-1);let dE:=(⟨#[46,46]⟩:y_);let cp:=dN bY dE;let dV:=fk aS;let V:=[aS.length=dV.length,(aS.length+1)*16<=140737488355328];let bu:=[dn dV 1];(.d ((i:Int)<bH) (.g i bH<|.n (dN bY (n_:y_)) (bR (M 111 [(0,S p),bP,(3,I 0),(4,J.rf Z.length λi=> [S<|B<|Z.getD i []]),bC,aG]) bu)<|.g i bH<|.n (dN bY (⟨#[46]⟩:y_)) (bR (M 111 [(0,S p),bP,(3,I 0),(4,J.rf Z.length λi=> [S<|B<|Z.getD i []]),bC,aG]) bu)<|.g i bH<|.n cp (.d (dk>0) (.g cN dk<|.o [dV[0+cN.toNat]?=some [S<|tc aS]]<|.s (.ld [S<|tc aS])<|.m (dN (tc aS) dE) (.o [(0:Int)<=0,(0:Int)<=oU (dk-1),oU (dk-1)<=dk]<|bR (M 111 [(0,S p),bP,(3,I 0),(4,J.rf Z.length λi=> [S<|B<|Z.getD i []]),(6,J.own 0 0<|cN.toNat-0),aG]) bu)<|.g i bH<|.n cp (.v (a1 aQ) p<|.n (iK p) (bR (M 111 [(0,S p),bP,(3,I 0),(4,J.rf Z.length λi=> [S<|B<|Z.getD i []]),bC,aG]) bu)<|.g i bH<|.o V<|.r true<|.r true<|bR (M 111 [(0,S p),bP,(3,I 0),(4,J.rf Z.length λi=> [S<|B<|Z.getD i []]),cu,aG]) bn)<|.g i bH<|.o V<|.r true<|.r true<|bR (M 111 [(0,S p),bP,(3,I 0),(4,J.rf Z.length λi=> [S<|B<|Z.getD i []]),cu,aG]) bn)<|.g i bH<|.n cp (.v (a1 aQ) p<|.n (iK p) (bR (M 111 [(0,S p),bP,(3,I 0),(4,J.rf Z.length λi=> [S<|B<|Z.getD i []]),bC,aG]) bu)<|.g i bH<|.o V<|.r true<|.r true<|bR (M 111 [(0,S p),bP,(3,I 0),(4,J.rf Z.length λi=> [S<|B<|Z.getD i []]),cu,aG]) bn)<|.g i bH<|.o V<|.r true<|.r true<|bR (M 111 [(0,S p),bP,(3,I 0),(4,J.rf Z.length λi=> [S<|B<|Z.getD i []]),cu,aG]) bn)<|.g i bH<|.n cp (.v (a1 aQ) p<|.n (iK p) (bR (M 111 [(0,S p),bP,(3,I 0),(4,J.rf Z.length λi=> [S<|B<|Z.getD i []]),bC,aG]) bu)<|.g i bH<|.o V<|.r true<|.r true<|bR (M 111 [(0,S p),bP,(3,I 0),(4,J.rf Z.length λi=> [S<|B<|Z.getD i []]),cu,aG]) bn)<|.g i bH<|.o V<|.r true<|.r true<|bR (M 111 [(0,S p),bP,(3,I 0),(4,J.rf Z.length λi=> [S<|B<|Z.getD i []]),cu,aG]) bn)<|fv 2 (M 111 [bP,(3,I 0),bC]) bu)) ?_
  have Y:=(di:False↔False)
  simp only[lQ hlm,jF,eP,u3];simp only[av,bK,bO,aL]
  (repeat' with_reducible first|intro _|apply aNd_)<;>first|exact aM|exact JY U|(rw[b00 W]at aW;rw[bZ (n:=gq p) U hm];exact aW U rfl)|(rw[b01 W]at aW;rw[bZ (n:=gq p) U hm];exact aW U rfl)|(rw[b02 W U W,List.length_dropLast,List.dropLast_eq_take,<-Ec]at aW;rw[bZ (n:=gq p) U hm];exact aO.shrink 6 0 _ (.inl rfl) rfl rfl rfl (aW U rfl))|(rw[bl7 W (.inr W) W]at aW;rw[bZ (n:=gq p) U hm];exact aW U rfl)|(rw[bl7 W (.inl U) W]at aW;rw[bZ (n:=gq p) U hm];exact aW U rfl)|(rw[bl8 W (.inr W) W,kr,br]at aW;rw[bZ (n:=gq p) U hm];exact aW U rfl)|(rw[bl8 W (.inl U) W,kr,br]at aW;rw[bZ (n:=gq p) U hm];exact aW U rfl)|(rw[b03 W W W,kr,br]at aW;rw[bZ (n:=gq p) U hm];exact aW U rfl)|(have e:i=gq p:=U;subst e;exact aR rfl)
 have I5:=pn<|gd p<|gq p;refine al Vg (LOr 5 (iy [0,2,3,4,5] (gq p) (λi=>Dk (qK p i)) (λi=>(M 111 [(2,.dF),(3,I 6)])) (M 111 [(0,S p),(2,.dF),(3,I 0),(4,He<|bS 47 p.data.toList)]) (.ext 0) (λi=> []) []) 11<|tI [0,2,3,4,6,7] [(6,1)] (gq p) (λ_=>false) (λi=>(M 111 [(2,.dF),(3,I 6)])) (M 111 [(2,.dF),(3,I 0),(6,.bf 0 (gd p<|gq p).length)]) (.ext 2) (λi=> []) [⟨fk<|gd p<|gq p,0,[],1,true,false⟩]) (let Z:=bS 47 p.data.toList;let V:=gd p (gq p);let aG:=(2,J.dF);let aS:=(M 111 [aG,(3,I 6)]);let bn:=aD f171 11;let bH:=fk V;(.d ((p.size:Int)>1024) (.e<|J.bg [J.rf 0 λi=> [],I 4])<|.k (a1 aQ) p (p.size<=1024)<|.n (ar (gq p) λi=>Dk (qK p i)) (.o [ax P (aD f171 5) (M 111 [(0,S p),aG,(3,I 0),(4,J.rf Z.length λi=> [S<|B<|Z.getD i []]),(5,I 0)]) [] (Out.ret) aS []]<|.e<|J.bg [J.rf 0 λi=> [],I 6])<|.o [ax P (aD f171 5) (M 111 [(0,S p),aG,(3,I 0),(4,J.rf Z.length λi=> [S<|B<|Z.getD i []]),(5,I 0)]) [] (Out.ext 0) (M 111 [(0,S p),aG,(3,I 0),(4,J.rf Z.length λi=> [S<|B<|Z.getD i []])]) []]<|.n (ar (gq p) λx=>false) (.o [ax P bn (M 111 [(0,S p),aG,(3,I 0),(4,J.rf Z.length λi=> [S<|B<|Z.getD i []]),(6,J.bf 0 0),(7,I 0)]) [dn [] 1] (Out.ret) aS []]<|.e<|J.bg [J.rf 0 λi=> [],I 6])<|.o [ax P bn (M 111 [(0,S p),aG,(3,I 0),(4,J.rf Z.length λi=> [S<|B<|Z.getD i []]),(6,J.bf 0 0),(7,I 0)]) [dn [] 1] (Out.ext 2) (M 111 [aG,(3,I 0),(6,J.bf 0 V.length)]) [dn bH 1]]<|.d ((V.length:Int)>32) (.e<|J.bg [J.rf 0 λi=> [],I 4])<|.o [V.length=bH.length]<|.e<|J.bg [J.rf V.length λi=>bH.getD i [],I 0])) ?_;simp only[av]
 (repeat' with_reducible first|intro _|apply aNd_)<;>first|exact aM|exact absurd (show(ar (gq p) λ_=>false)=true by assumption) (by rw[Nx];simp)|exact((xZ U).f<|Nx _).one|exact po (Q6 W) dD|exact po (Q7 W W) dD|exact po (Q8 W W W) dD|exact Ij<|Q9 W W W
def an0(p:y_)(hp:p.size<=aq):Ok P 171 [S p] (Nu p):=
 (Vh p hp).res λ_ _ _ N=>Q3 (λi hi=>zU _ i hi) N
def eV:y_:=⟨#[47]⟩
def kX(x:bh y_):y_:=cY eV x x.n
def vR(x:bh y_)(r:Bool):y_:=if r=true then eV++kX x else if x.n=0 then dot else kX x
def EPJ:Env:=aF 129 (bN (a2 (ak y_) aQ) (λx=>S (B<|Lib.join (pO x.1) x.2.data.toList)) λx=>x.1.n<=140737488355328/\(Lib.join (pO x.1) x.2.data.toList).length<=140737488355328) EN
def aZ7:an P EPJ:=ah aw λx h=>FD x.1 x.2 h.1 h.2
def RC(x:bh y_):B (Lib.join (pO x) (⟨#[47]⟩:y_).data.toList)=kX x:=ss eV x x.n
def an1(x:bh y_):(Lib.join (pO x) (⟨#[47]⟩:y_).data.toList).length=(kX x).size:=by rw[<-RC,jG]
def aZ8(x:bh y_)(r:Bool)(h:x.n<=32)(h2:(kX x).size<=1000000):Ok P 205 [(ak y_).au x,Bo r] (S<|vR x r):=by
 have e:=RC x;have el:=an1 x;have e2:(B<|Lib.join (pO x) (⟨#[47]⟩:y_).data.toList).size<=1000000:=by rw[e];exact h2
 have es:(⟨#[47]⟩:y_).size=1:=rfl;cases r with
 |true=>
  refine al aZ7 L0 (let Z:=Lib.join (pO x) (#[47]:Array UInt8).toList;let V:=(⟨#[47]⟩:y_);(.k (a2 (ak y_) aQ) (x,V) (x.n<=140737488355328/\Z.length<=140737488355328)<|.o [(V).size+(B<|Lib.join (pO x) [47]).size<=9223372036854775807]<|.s .fN<|.e<|S<|V++B Z)) ?_;simp only[av]
  (repeat' with_reducible first|intro _|apply aNd_)<;>first|exact aM|(rw[show(Lib.join (pO x) (⟨#[47]⟩:y_).data.toList).length=(kX x).size from el];omega)|(show 1+(B<|Lib.join (pO x) (⟨#[47]⟩:y_).data.toList).size<=_;omega)|(refine ba S ?_;exact ba (eV++ ·) e)
 |false=>
  refine al aZ7 L0 (let Z:=Lib.join (pO x) (#[47]:Array UInt8).toList;(.s .fN<|.q x.n 0 (.e<|S (⟨#[46]⟩:y_))<|.k (a2 (ak y_) aQ) (x,(⟨#[47]⟩:y_)) (x.n<=140737488355328/\Z.length<=140737488355328)<|.e<|S<|B Z)) ?_;simp only[av]
  (repeat' with_reducible first|intro _|apply aNd_)<;>first|exact aM|(rw[show(Lib.join (pO x) (⟨#[47]⟩:y_).data.toList).length=(kX x).size from el];omega)|(refine ba S ?_;unfold vR;rw[if_neg sS,if_pos U];rfl)|(refine ba S ?_;unfold vR;rw[if_neg sS,if_neg U];exact e)
def ti(x:bh y_)(r:Bool):y_:=if r=true then eV++kX x else if kX x=n_ then dot else kX x
def II(x:bh y_)(i:Nat):(cY eV x i).size<=(cY eV x<|i+1).size:=by
 show _<=((if i=0 then cY eV x i else cY eV x i++eV)++x.f i).size;split
 .rw[fy];omega
 .rw[fy,fy];omega
theorem RD(x:bh y_):∀n i,i<=n->(cY eV x i).size<=(cY eV x n).size
 |0,i,h=>by rw[Nat.le_zero.1 h];exact bE _
 |n+1,i,h=>by
  by_cases F:i=n+1
  .rw[F];exact bE _
  .exact cm (RD x n i U)<|II x n
def an2(x:bh y_)(r:Bool)(h:x.n<=32)(h2:(kX x).size<=1000000):Ok P 172 [Bo r,(ak y_).au x] (S<|ti x r):=by
 have hm:x.n<=aq:=by unfold aq;omega
 have es:eV.size=1:=rfl;have lp:=yM f172 3 x.n (λ_=>false) (λi=>(M 29 [(0,Bo r),(1,(ak y_).au x),(4,S n_),(5,S<|cY eV x i),(6,I i)])) [] (λi=>(.ret,(M 29 [(0,Bo r),(4,S n_),(5,S<|cY eV x i)]),[])) (ey 0<|M 29 [(0,Bo r),(4,S n_),(5,S<|kX x)]) λi hi lt aW az aR=>by
  have hz:i=0->cY eV x (i+1)=cY eV x i++x.f i:=λe=>by show(if i=0 then cY eV x i else cY eV x i++eV)++x.f i=_;rw[if_pos e]
  have hp: ¬i=0->cY eV x (i+1)=cY eV x i++eV++x.f i:=λe=>by show(if i=0 then cY eV x i else cY eV x i++eV)++x.f i=_;rw[if_neg e]
  have hs:i<x.n->(cY eV x<|i+1).size<=1000000:=λh=>cm (RD x x.n (i+1) h) h2;have hs2:i<x.n->(cY eV x i++eV).size<=1000001:=λh=>by have:=hs h;have:=II x i;rw[fy];omega
  have hs3:i<x.n-> ¬i=0->(cY eV x i++eV).size+(x.f i).size<=1000000:=λh h0=>by have:=hs h;rw[hp h0,fy]at this;omega
  have hs4:i<x.n->i=0->(cY eV x i).size+(x.f i).size<=1000000:=λh h0=>by have:=hs h;rw[hz h0,fy]at this;omega
  refine ao aw L0 [0,1,4,5,6] [0,4,5] (let Z:=(4,S (n_:y_));let V:=(⟨#[47]⟩:y_);let aG:=cY eV x i;let aS:=(1,(ak y_).au x);let bn:=(6,I<|oU<|(i:Int)+1);(.d ((i:Int)<x.n) (.d ((i:Int)>0) (.o [aG.size+(V).size<=9223372036854775807]<|.g i x.n<|.o [(cY eV x i++V).size+(x.f i).size<=9223372036854775807]<|bR (M 29 [(0,Bo r),aS,Z,(5,S<|cY eV x i++V++x.f i),bn]) [])<|.g i x.n<|.o [aG.size+(x.f i).size<=9223372036854775807]<|bR (M 29 [(0,Bo r),aS,Z,(5,S<|cY eV x i++x.f i),bn]) [])<|fv 0 (M 29 [(0,Bo r),Z,(5,S aG)]) [])) ?_;have Y:=(di:False↔False)
  simp only[av]
  (repeat' with_reducible first|intro _|apply aNd_)<;>first|exact aM|(have:=hs2 U;rw[fy,es]at this;show _+1<=_;omega)|(have:=hs3 U U;exact cm this U)|(rw[hp U]at aW;rw[bZ (n:=x.n) U hm];exact aW U rfl)|(rw[hz U]at aW;rw[bZ (n:=x.n) U hm];exact aW U rfl)|(have e:i=x.n:=U;subst e;exact aR rfl)
 refine al aw (kR lp [0,1,4,5,6]) (let Z:=(n_:y_);let V:=(⟨#[47]⟩:y_);(jS lp (.e<|S Z)<|.n r (.o [(V).size+(kX x).size<=9223372036854775807]<|.e<|S<|V++kX x)<|.n (dN (kX x) Z) (.e<|S (⟨#[46]⟩:y_))<|.e<|S<|kX x)) ?_;simp only[av,bK,bO,aL]
 (repeat' with_reducible first|intro _|apply aNd_)<;>first|exact aM|exact absurd (show(ar x.n λ_=>false)=true by assumption) (by rw[Nx];simp)|(show 1+_<=_;omega)|(refine ba S ?_;unfold ti;rw[if_pos W];rfl)|(refine ba S ?_;unfold ti;rw[if_neg (by simp only[*];simp),if_pos W];rfl)|(refine ba S ?_;unfold ti;rw[if_neg (by simp only[*];simp),if_neg W])
def an3 {r:Bool} {out:l_ y_} {s x:y_}(h:x∈td r out s):x∈out\/(x=s/\s≠n_):=by
 unfold td at h;split at h
 .exact .inl h
 .rename_i h0;have hs:s≠n_:=by grind
  split at h
  .split at h
   .exact .inl<|List.dropLast_subset _ h
   .split at h
    .exact .inl h
    .rcases kx.1 h with h|h
     .exact .inl h
     .exact .inr ⟨by simpa using h,hs⟩
  .rcases kx.1 h with h|h
   .exact .inl h
   .exact .inr ⟨by simpa using h,hs⟩
theorem RE(p:y_):∀i,∀x∈gd p i,x≠n_/\x.size<=p.size
 |0,x,h=>by cases h
 |i+1,x,h=>by
  rcases an3 h with h|⟨rfl,h2⟩
  .exact RE p i x h
  .exact⟨h2,zV p i⟩
def IJ(p:y_):∀x∈iU p,x≠n_/\x.size<=p.size:=by
 intro x h;unfold iU at h;split at h
 .exact RE p _ x h
 .cases h
def Ab(p:y_):(iU p).length<=32:=by
 unfold iU;split
 .rename_i h;unfold gL at h;split at h
  .cases h
  .split at h
   .cases h
   .split at h
    .cases h
    .omega
 .exact bJ _
theorem RG {x:bh y_} {k:Nat}:∀i,(∀j,j<i->(x.f j).size<=k)->tQ x i<=i*k
 |0,_=>bJ _
 |i+1,h=>by have:=RG i λj hj=>h j U;have:=h i U;rw[ed];show tQ x i+_<=_;omega
def YA {p:y_} {i:Nat}(h:i<(iU p).length):(iU p).getD i default∈iU p:=by grind
def IK(p:y_)(hp:gL p=0):(kX<|yV<|iU p).size<=1000000:=by
 have hl:=Ab p;have O:p.size<=1024:=by
  unfold gL at hp;split at hp
  .cases hp
  .omega
 unfold kX;have hn:(yV<|iU p).n=(iU p).length:=rfl;cases hk:(yV<|iU p).n with
 |zero=>exact bJ _
 |succ i=>
  rw[pv];have:=RG (x:=yV (iU p)) (k:=1024) (i+1) λj hj=>cm (IJ p _<|YA U).2 O;have e:eV.size=1:=rfl;rw[e];omega
def aZ9 {x:bh y_}(h:∀i,i<x.n->x.f i≠n_):kX x=n_↔x.n=0:=by
 unfold kX;constructor
 .intro e;cases hn:x.n with
  |zero=>rfl
  |succ i=>
   exfalso;rw[hn]at e;have:=pv eV x i;rw[e]at this;have h0:(x.f i).size≠0:=λhz=>h i U<|(pP _).2 hz;have:tQ x (i+1)=tQ x i+(x.f i).size:=rfl;have:(n_:y_).size=0:=rfl;omega
 .intro e;rw[e];rfl
def a00(p:y_)(r:Bool):ti (yV<|iU p) r=vR (yV<|iU p) r:=by
 have h:=aZ9 (x:=yV (iU p)) λi hi=>(IJ p _<|YA hi).1;unfold ti vR;by_cases N:r=true
 .rw[if_pos N,if_pos N]
 .rw[if_neg N,if_neg N];by_cases hj:kX (yV<|iU p)=⟨#[]⟩
  .rw[if_pos hj,if_pos<|h.1 hj]
  .rw[if_neg hj,if_neg λq=>hj (h.2 q)]
def Ac(p:y_):y_:=if gL p=0 then vR (yV<|iU p) (iK p)else n_
def xp(p:y_):J:= .bg [S<|Ac p,I<|gL p]
def Lm {p:y_}(h: ¬gL p=0):xp p= .bg [S n_,I<|gL p]:=by unfold xp Ac;rw[if_neg h]
def IL {p:y_}(h:gL p=0):xp p= .bg [S<|vR (yV<|iU p)<|iK p,I 0]:=by unfold xp Ac;rw[if_pos h,h]
def ECL:Env:=aF 204 (bN (a1 aQ) Nu λs=>s.size<=aq)<|aF 206 (bN (a1 aQ) λs=>Bo (iK s))<|aF 205 (bN (a2 (ak y_) Pm) (λx=>S (vR x.1 x.2)) λx=>x.1.n<=32/\(kX x.1).size<=1000000) EN
def bP5:an P ECL:=ah (ah (ah aw λx h=>aZ8 x.1 x.2 h.1 h.2) λs _=>Km s) λs h=>aj5 s h
def a01(p:y_)(hp:p.size<=aq):Ok P 136 [S p] (xp p):=by
 refine al bP5 L0 (let Z:=iU p;(.k (a1 aQ) p (p.size<=140737488351232)<|.u (gL p) 0 (.e<|J.bg [S (n_:y_),I<|gL p])<|.v (a1 aQ) p<|.k (a2 (ak y_) Pm) (bh.mk Z.length λi=>Z.getD i default,iK p) (Z.length<=32/\(kX<|bh.mk Z.length λi=>Z.getD i default).size<=1000000)<|.e<|J.bg [S<|vR (bh.mk Z.length λi=>Z.getD i default)<|iK p,I 0])) ?_;simp only[av]
 (repeat' with_reducible first|intro _|apply aNd_)<;>first|exact aM|exact Ab p|exact IK p U|exact(Lm W).symm|exact(IL U).symm
def ce1:Env:=aF 171 (bN (a1 aQ) Nu λs=>s.size<=aq)<|aF 104 (bN (a1 aQ) λs=>Bo (iK s))<|aF 172 (bN (a2 Pm<|ak y_) (λx=>S (ti x.2 x.1)) λx=>x.2.n<=32/\(kX x.2).size<=1000000) EN
def bp3:an P ce1:=ah (ah (ah aw λx h=>an2 x.2 x.1 h.1 h.2) λs _=>zA s) λs h=>an0 s h
def an4(p:y_)(hp:p.size<=aq):Ok P 103 [S p] (xp p):=by
 have hb:=a00 p<|iK p;refine al bp3 L0 (let Z:=iU p;(.k (a1 aQ) p (p.size<=140737488351232)<|.u (gL p) 0 (.e<|J.bg [S (n_:y_),I<|gL p])<|.v (a1 aQ) p<|.k (a2 Pm<|ak y_) (iK p,bh.mk Z.length λi=>Z.getD i default) (Z.length<=32/\(kX<|bh.mk Z.length λi=>Z.getD i default).size<=1000000)<|.e<|J.bg [S<|ti (bh.mk Z.length λi=>Z.getD i default)<|iK p,I 0])) ?_;simp only[av]
 (repeat' with_reducible first|intro _|apply aNd_)<;>first|exact aM|exact Ab p|exact IK p U|exact(Lm W).symm|(rw[IL U,<-hb];rfl)
def an5(s:y_):Bool:=decide<|gL s=0/\Ac s=s/\iK s=true
def ERO:Env:=aF 136 (bN (a1 aQ) xp λs=>s.size<=aq) EN
def bP6:an P ERO:=ah aw λs h=>a01 s h
def Vi(s:y_)(hs:s.size<=aq):Ok P 74 [S s] (Bo<|an5 s):=by
 have N:iK s=true↔(0<s.size/\(s.data.toList.getD 0 0).toNat=47):=bp;have hz:=pP s;refine al bP6 L0 (let Z:ix:=bI;(.k (a1 aQ) s (s.size<=140737488351232)<|.q (gL s) 0 (.n (dN (Ac s) s) (.m (dN s (n_:y_)) (.o [(0:Int)<=0,(0:Int)<(s.size:Int)]<|.e<|Bo<|(↑(s.data.toList.getD 0 0).toNat:Int)==47) Z) Z) Z)) ?_;simp only[av,bK,bO,aL]
 (repeat' with_reducible first|intro _|apply aNd_)<;>first|exact aM|(have:=mt hz.2 W;omega)|(unfold an5;exact ga)
def EPF:Env:=aF 74 (bN (a1 aQ) (λs=>Bo (an5 s)) λs=>s.size<=aq)<|aF 43 (bN (a1 aQ) (λs=>Bo (fj s)) λs=>s.size<=aq)<|aF 59 (bN (a1 aQ) (λs=>Bo (gn s.data.toList)) λs=>s.size<=aq)<|aF 73 (bN (a1 bx) λn=>Bo (C5 n))<|aF 75 (bN (a1 aQ) λs=>Bo (xi s)) EN
def N2:an P EPF:=ah (ah (ah (ah (ah aw λs _=>ah4 s) λn _=>ah3 n) λs h=>oX s h) λs h=>uw s h) λs h=>Vi s h
def ERF:Env:=aF 103 (bN (a1 aQ) xp λs=>s.size<=aq)<|aF 104 (bN (a1 aQ) λs=>Bo (iK s))<|aF 102 (bN (a2 (af ei) bx) λx=>Bo (C6 x.1 x.2))<|aF 50 (bN (a1 aQ) (λs=>Bo (fj s)) λs=>s.size<=aq)<|aF 101 (bN (a1 aQ) (λs=>Bo (gn s.data.toList)) λs=>s.size<=aq) EN
def Vj:an P ERF:=ah (ah (ah (ah (ah aw λs h=>vw s h) λs h=>uv s h) λx _=>ah6 x.1 x.2) λs _=>zA s) λs h=>an4 s h
def N3(x:lP)(i:Nat):Int:=if i=0 then x.ns else if i=1 then x.env else x.fds
def yZ(p:ei)(x:lP)(i:Nat):Bool:=decide<|N3 x i<1\/p.iN<=N3 x i
def an6(p:ei)(x:lP)(i:Nat):yZ p x i=true↔(N3 x i<1\/p.iN<=N3 x i):=bp
def RH(x:lP)(i:Nat):Bool:= !xi (x.ny.f i)
def Ln(x:lP)(i:Nat):RH x i=true↔1024<(x.ny.f i).size:=by unfold RH xi;rw[gl,bO];omega
def waB(p:ei)(x:lP)(i:Nat):Bool:=decide<|(x.kY.f i).id<1\/p.next<=(x.kY.f i).id\/1024<(x.kY.f i).oo.size
def YB(p:ei)(x:lP)(i:Nat):waB p x i=true↔((x.kY.f i).id<1\/p.next<=(x.kY.f i).id\/1024<(x.kY.f i).oo.size):=bp
def Lo(s:y_):xi s=true↔s.size<=1024:=bp
def Dv(p:ei)(x:lP):Bool:=decide<|C5 x.dZ=true/\gn x.gf.data.toList=true/\(x.name=n_\/fj x.name=true)/\an5 x.Se=true/\x.oo=n_/\C6 p x.ns=true/\C6 p x.env=true/\C6 p x.fds=true/\x.ny.n<=8/\x.kY.n<=64/\ar x.ny.n (RH x)=false/\ar x.kY.n (waB p x)=false
def ce2(p:ei)(x:lP):ar 3 (yZ p x)=false↔(C6 p x.ns=true/\C6 p x.env=true/\C6 p x.fds=true):=by
 have e:ar 3 (yZ p x)=(yZ p x 0||(yZ p x 1||yZ p x 2)):=by simp [ar,List.range_succ]
 have h0:yZ p x 0=decide (x.ns<1\/p.iN<=x.ns):=rfl;have O:yZ p x 1=decide (x.env<1\/p.iN<=x.env):=rfl;have h2:yZ p x 2=decide (x.fds<1\/p.iN<=x.fds):=rfl;unfold C6;rw[e,h0,O,h2];simp only[Bool.or_eq_false_iff,bO,bp];omega
def bp4(x:lP)(i:Nat)(h:i<3):([[I x.ns],[I x.env],[I x.fds]]:l_ (l_ J))[i]?=some [I<|N3 x i]:=by
 match i,h with
 |0,_=>rfl
 |1,_=>rfl
 |2,_=>rfl
def Vk(p:ei)(x:lP)(h:wf x):Ok P 31 [(af ei).au p,(af lP).au x] (Bo<|Dv p x):=by
 have h3:3<=aq:=dD;have hn:=h.2.2.2.2.2.2.2.2.2.1.1;have hw:=h.2.2.2.2.2.2.2.2.2.2.2.1.1;have lp:=fF f31 4 3 (yZ p x) (λi=>(M 109 [(2,aT),(3,.ptr 1 0 0),(4,aP),(49,.own 2 0 3),(50,I 3),(51,I i)])) [(cM [aY.cells p] 3),(cM [aY.cells x] 13),(cM [[I x.ns],[I x.env],[I x.fds]] 1)] (eR<|M 109 [(4,aP)]) (.ext 0,(M 109 [(2,aT),(3,.ptr 1 0 0),(4,aP)]),[(cM [aY.cells p] 3),(cM [aY.cells x] 13)]) λi hi lt aW az aR=>by
  refine ao N2 L0 [2,3,4,49,50,51] [4,10002,10003] (.d ((i:Int)<3) (.g i 3<|.o [[[I x.ns],[I x.env],[I x.fds]][0+i]?=some [I<|N3 x i]]<|.s (.ld [I<|N3 x i])<|.d (N3 x i<1) (eH az)<|.d (N3 x i>=p.iN) (eH az)<|eG aW)<|eY aR) ?_;have Y:=an6 p x i
  (try simp only[eP])
  simp only[av]
  (repeat' with_reducible first|intro _|apply aNd_)<;>first|exact aM|exact bp4 x i U
 have xZ:=fF f31 12 x.ny.n (RH x) (λi=>(M 109 [(2,aT),(3,.ptr 1 0 0),(4,aP),(75,(ak y_).au x.ny),(76,I x.ny.n),(77,I i)])) [(cM [aY.cells p] 3),(cM [aY.cells x] 13)] (eR<|M 109 [(4,aP)]) (.ext 2,(M 109 [(2,aT),(3,.ptr 1 0 0),(4,aP)]),[(cM [aY.cells p] 3),(cM [aY.cells x] 13)]) λi hi lt aW az aR=>by
  have hsi:=Lo<|x.ny.f i;refine ao N2 L0 [2,3,4,75,76,77] [4,10002,10003] (.d ((i:Int)<x.ny.n) (.g i x.ny.n<|.v (a1 aQ) (x.ny.f i)<|.m (xi<|x.ny.f i) (eH az)<|eG aW)<|eY aR) ?_;have Y:=Ln x i;simp only[av]
  (repeat' with_reducible first|intro _|apply aNd_)<;>first|exact aM|rfl|(exact aW U (bF Y gG))
 have lp3:=fF f31 18 x.kY.n (waB p x) (λi=>(M 109 [(2,aT),(3,.ptr 1 0 0),(4,aP),(86,(ak Td).au x.kY),(87,I x.kY.n),(88,I i)])) [(cM [aY.cells p] 3),(cM [aY.cells x] 13)] (eR<|M 109 [(4,aP)]) (ey 4<|M 109 [(4,aP)]) λi hi lt aW az aR=>by
  have hsi:=Lo (x.kY.f i).oo;refine ao N2 L0 [2,3,4,86,87,88] [4] (let Z:=x.kY.f i;(.d ((i:Int)<x.kY.n) (.g i x.kY.n<|.d (Z.id<1) (eH az)<|.d (Z.id>=p.next) (eH az)<|.v (a1 aQ) Z.oo<|.m (xi Z.oo) (eH az)<|eG aW)<|eY aR)) ?_;have Y:=YB p x i;simp only[av]
  (repeat' with_reducible first|intro _|apply aNd_)<;>first|exact aM|rfl|(exact aW U (bF Y gG))
 have ha:=ce2 p x;refine al N2 (b75 4 (kR lp [2,3,4,49,50,51])<|LOr 12 (kR xZ [2,3,4,75,76,77]) 18<|kR lp3 [2,3,4,86,87,88]) (let V:ix:=bI;let aG:=(n_:y_);let Z:ix:=(.k (a1 aQ) x.Se (x.Se.size<=140737488351232)<|.m (an5 x.Se) V<|.m (dN x.oo aG) V<|jS lp V<|.d ((x.ny.n:Int)>8) V<|.d ((x.kY.n:Int)>64) V<|jS xZ V<|jS lp3 V fo);(.v (a1 bx) x.dZ<|.m (C5 x.dZ) V<|.k (a1 aQ) x.gf (x.gf.size<=140737488351232)<|.m (gn x.gf.data.toList) V<|.m (dN x.name aG) (.k (a1 aQ) x.name (x.name.size<=140737488351232)<|.m (fj x.name) V Z) Z)) ?_;simp only[av,bK,bO,aL]
 (repeat' with_reducible first|intro _|apply aNd_)<;>first|exact aM|exact h.2.2.2.2.2.2.2.2.1|(clear lp xZ lp3 h;unfold Dv;exact ga)
def RI(p:ei)(x:lP)(h:wf x):Ok P 48 [(af ei).au p,(af lP).au x] (Bo<|Dv p x):=by
 have hn:=h.2.2.2.2.2.2.2.2.2.1.1;have hw:=h.2.2.2.2.2.2.2.2.2.2.2.1.1;have lp:=fF Tryz.f48 9 x.ny.n (RH x) (λi=>(M 143 [(2,aT),(3,.ptr 1 0 0),(4,aP),(7,I i)])) [(cM [aY.cells p] 3),(cM [aY.cells x] 13)] (eR<|M 143 [(4,aP)]) (.ext 0,(M 143 [(2,aT),(3,.ptr 1 0 0),(4,aP)]),[(cM [aY.cells p] 3),(cM [aY.cells x] 13)]) λi hi lt aW az aR=>by
  refine ao Vj L0 [2,3,4,7] [4,10002,10003] (.d ((i:Int)<x.ny.n) (.g i x.ny.n<|.d ((↑(x.ny.f i).size:Int)>1024) (eH az)<|eG aW)<|eY aR) ?_;have Y:=Ln x i;simp only[av]
  (repeat' with_reducible first|intro _|apply aNd_)<;>first|exact aM|rfl|(exact aW U (bF Y gG))
 have xZ:=fF Tryz.f48 14 x.kY.n (waB p x) (λi=>(M 143 [(2,aT),(3,.ptr 1 0 0),(4,aP),(8,I i)])) [(cM [aY.cells p] 3),(cM [aY.cells x] 13)] (eR<|M 143 [(4,aP)]) (ey 2<|M 143 [(4,aP)]) λi hi lt aW az aR=>by
  refine ao Vj L0 [2,3,4,8] [4] (let Z:=x.kY.f i;(.d ((i:Int)<x.kY.n) (.g i x.kY.n<|.d (Z.id<1) (eH az)<|.g i x.kY.n<|.d (Z.id>=p.next) (eH az)<|.g i x.kY.n<|.d ((Z.oo.size:Int)>1024) (eH az)<|eG aW)<|eY aR)) ?_;have Y:=YB p x i;simp only[av]
  (repeat' with_reducible first|intro _|apply aNd_)<;>first|exact aM|rfl|(exact aW U (bF Y gG))
 have Y:an5 x.Se=true↔(gL x.Se=0/\Ac x.Se=x.Se/\iK x.Se=true):=bp;have cy:C5 x.dZ=true↔(x.dZ=1\/x.dZ=2\/x.dZ=3):=bp;refine al Vj (LOr 9 (kR lp [2,3,4,7]) 14<|kR xZ [2,3,4,8]) (let aG:ix:=bI;let aS:=a2 (af ei) bx;let bn:=Ac x.Se;let bH:=(n_:y_);let Z:ix:=(.v aS (p,x.ns)<|.m (C6 p x.ns) aG<|.v aS (p,x.env)<|.m (C6 p x.env) aG<|.v aS (p,x.fds)<|.m (C6 p x.fds) aG<|.m (dN x.oo bH) aG<|.k (a1 aQ) x.Se (x.Se.size<=140737488351232)<|.u (gL x.Se) 0 aG<|.m (dN bn x.Se) aG<|.v (a1 aQ) bn<|.m (iK bn) aG<|.d ((x.ny.n:Int)>8) aG<|.d ((x.kY.n:Int)>64) aG<|jS lp aG<|jS xZ aG fo);let V:ix:=(.k (a1 aQ) x.gf (x.gf.size<=140737488351232)<|.m (gn x.gf.data.toList) aG<|.m (dN x.name bH) (.k (a1 aQ) x.name (x.name.size<=140737488351232)<|.m (fj x.name) aG Z) Z);(.u x.dZ 1 (.u x.dZ 2 (.u x.dZ 3 aG V) V) V)) ?_;simp only[av,bK,bO,aL]
 (repeat' with_reducible first|intro _|apply aNd_)<;>first|exact aM|exact h.2.2.2.2.2.2.2.2.1|(clear lp xZ h;unfold Dv;exact ga)
def EPR:Env:=aF 30 (bN (a2 (af ei) bx) (λx=>Bo (QN x.1 x.2.toNat)) λx=>0<=x.2/\x.2.toNat<x.1.l.n/\x.1.l.n<=aq)<|aF 31 (bN (a2 (af ei)<|af lP) (λx=>Bo (Dv x.1 x.2)) λx=>wf x.2)<|aF 48 (bN (a2 (af ei)<|af lP) (λx=>Bo (Dv x.1 x.2)) λx=>wf x.2) EN
def IM:an P EPR:=ah (ah (ah aw λx h=>RI x.1 x.2 h) λx h=>Vk x.1 x.2 h) λx h=>by have:=ah7 x.1 x.2.toNat h.2.1 h.2.2;rw[rM h.1]at this;exact this
def Vl(p:ei)(i:Nat):Bool:=decide<|QN p i=false\/Dv p (p.l.f i)=false
def Ad(p:ei)(i:Nat):Vl p i=true↔(QN p i=false\/Dv p (p.l.f i)=false):=bp
def pw(p:ei):Bool:=decide<|1<=p.l.n/\p.l.n<=64/\(p.l.f<|p.l.n-1).id<p.next/\p.next<=1048576/\2<=p.iN/\p.iN<=1099511627777/\ar p.l.n (Vl p)=false
def Vm(p:ei)(h:wf p):Ok P 14 [(af ei).au p] (Bo<|pw p):=by
 have hn:=h.2.2.1;have hv:=h.2.2.2;have lp:=fF Tryz.f14 5 p.l.n (Vl p) (λi=>(M 61 [(1,aT),(2,aP),(43,(ak lP).au p.l),(44,I p.l.n),(45,I i)])) [(cM [aY.cells p] 3)] (eR<|M 61 [(2,aP)]) (ey 0<|M 61 [(2,aP)]) λi hi lt aW az aR=>by
  refine ao IM L0 [1,2,43,44,45] [2] (.d ((i:Int)<p.l.n) (.g i p.l.n<|.k (a2 (af ei) bx) (p,(i:Int)) (0<=(i:Int)/\(i:Int).toNat<p.l.n/\p.l.n<=aq)<|.m (QN p (i:Int).toNat) (eH az)<|.k (a2 (af ei)<|af lP) (p,p.l.f i) (wf<|p.l.f i)<|.m (Dv p<|p.l.f i) (eH az)<|eG aW)<|eY aR) ?_;have Y:=Ad p i;simp only[av]
  (repeat' with_reducible first|intro _|apply aNd_)<;>first|exact aM|exact hv i
 refine al IM (kR lp [1,2,43,44,45]) (let Z:ix:=bI;let aG:=(p.l.n:Int);let V:=oU (aG-1);(.d (aG<1) Z<|.d (aG>64) Z<|.g V p.l.n<|.d (p.next<=(p.l.f V.toNat).id) Z<|.d (p.next>1048576) Z<|.d (p.iN<2) Z<|.d (p.iN>1099511627777) Z<|jS lp Z fo)) ?_;try simp only[lQ hn,jF]
 simp only[av]
 (repeat' with_reducible first|intro _|apply aNd_)<;>first|exact aM|(clear lp hv h;unfold pw;exact ga)
def EH(p:ei)(i k:Nat):Bool:=decide<|(p.l.f k).id=(p.l.f i).bo
def IN(p:ei)(i k:Nat):Bool:=((i:Int)==0)||ar k (EH p i)
def N4(p:ei)(i:Nat):Prop:=Dv p (p.l.f i)=false\/(((i:Int)==0)||ar i (EH p i))=false\/(0<i/\(p.l.f i).id<=(p.l.f<|i-1).id)
instance(p:ei)(i:Nat):Decidable (N4 p i):=by unfold N4;infer_instance
def Vn(p:ei)(i:Nat):Bool:=decide<|N4 p i
def Vo(p:ei)(i:Nat):Vn p i=true↔(Dv p (p.l.f i)=false\/(((i:Int)==0)||ar i (EH p i))=false\/(0<i/\(p.l.f i).id<=(p.l.f<|i-1).id)):=bp
def F2(p:ei):Bool:=decide<|1<=p.l.n/\p.l.n<=64/\(p.l.f 0).id=1/\(p.l.f 0).bo=0/\(p.l.f<|p.l.n-1).id<p.next/\p.next<=1048576/\2<=p.iN/\p.iN<=1099511627777/\ar p.l.n (Vn p)=false
def Vp(p:ei)(h:wf p):Ok P 19 [(af ei).au p] (Bo<|F2 p):=by
 have hn:=h.2.2.1;have hv:=h.2.2.2;have lp:=fF f19 5 p.l.n (Vn p) (λi=>(M 117 [(1,aT),(2,aP),(3,I p.l.n),(4,I i)])) [(cM [aY.cells p] 3)] (eR<|M 117 [(2,aP)]) (ey 0<|M 117 [(2,aP)]) λi hi lt aW az aR=>by
  have him:i<=aq:=U;have hfi:IN p i i=(((i:Int)==0)||ar i (EH p i)):=rfl;have xZ:=λ(iH:i<p.l.n)=>yM f19 11 i (λ_=>false) (λk=>(M 117 [(1,.ptr 0 0 0),(2,.bit false),(3,I p.l.n),(4,I i),(5,Bo<|IN p i k),(6,I k)])) [⟨[aY.cells p],0,[],3,false,false⟩] (λk=>(.ret,(M 117 [(2,.bit false)]),[])) (.ext 2,(M 117 [(1,.ptr 0 0 0),(2,.bit false),(3,I p.l.n),(4,I i),(5,Bo<|IN p i i)]),[⟨[aY.cells p],0,[],3,false,false⟩]) λk hk ltk sE mN nX=>by
   have hs:=Ko k<|EH p i;have hf1:IN p i (k+1)=(((i:Int)==0)||ar (k+1) (EH p i)):=rfl;have hf0:IN p i k=(((i:Int)==0)||ar k (EH p i)):=rfl;have hp:EH p i k=decide ((p.l.f k).id=(p.l.f i).bo):=rfl;refine ao IM L0 [1,2,3,4,5,6] [2,10001,10003,10004,10005] (let Z:=[cM [(aY.cells p)] 3];let V:=(6,I<|oU<|(k:Int)+1);(.d ((k:Int)<i) (.n (IN p i k) (bR (M 117 [(1,aT),(2,aP),(3,I p.l.n),(4,I i),(5,fZ),V]) Z)<|.g k p.l.n<|.g i p.l.n<|bR (M 117 [(1,aT),(2,aP),(3,I p.l.n),(4,I i),(5,Bo<|(p.l.f k).id==(p.l.f i).bo),V]) Z)<|fv 2 (M 117 [(1,aT),(2,aP),(3,I p.l.n),(4,I i),(5,Bo<|IN p i k)]) Z)) ?_;have Jh:=(di:False↔False)
   simp only[av]
   (repeat' with_reducible first|intro _|apply aNd_)<;>first|exact aM|(rw[bZ (n:=i) U him];exact aO.Hl 5 true _ (by clear sE mN nX aW az aR;grind) rfl (sE U rfl))|(rw[bZ (n:=i) U him];exact aO.bC7 5 _ _ (by clear sE mN nX aW az aR;grind) rfl (sE U rfl))|(have e:k=i:=U;subst e;exact nX rfl)
  refine ao IM (iy [1,2,3,4,5,6] (i) (λ_=>false) (λk=>(M 117 [(2,.bit false)])) (M 117 [(1,.ptr 0 0 0),(2,.bit false),(3,I p.l.n),(4,I i),(5,Bo<|IN p i i)]) (.ext 2) (λk=> []) [⟨[aY.cells p],0,[],3,false,false⟩]) [1,2,3,4] [2] (let Z:=(M 117 [(1,aT),(2,aP),(3,I p.l.n),(4,I i),(5,Bo<|(i:Int)==0),(6,I 0)]);let V:=[cM [(aY.cells p)] 3];let aG:=oU ((i:Int)-1);(.d ((i:Int)<p.l.n) (.g i p.l.n<|.k (a2 (af ei)<|af lP) (p,p.l.f i) (wf<|p.l.f i)<|.m (Dv p<|p.l.f i) (eH az)<|.n (ar i λx=>false) (.o [ax P (aD f19 11) Z V (Out.ret) (M 117 [(2,aP)]) []]<|eH az)<|.o [ax P (aD f19 11) Z V (Out.ext 2) (M 117 [(1,aT),(2,aP),(3,I p.l.n),(4,I i),(5,Bo<|IN p i i)]) V]<|.m (IN p i i) (eH az)<|.d ((i:Int)>0) (.g i p.l.n<|.g aG p.l.n<|.d ((p.l.f i).id<=(p.l.f aG.toNat).id) (eH az)<|eG aW)<|eG aW)<|eY aR)) ?_;have Y:=Vo p i
  (try simp only[lQ him,jF])
  simp only[av]
  (repeat' with_reducible first|intro _|apply aNd_)<;>first|exact aM|exact hv i|exact absurd (show(ar i λ_=>false)=true by assumption) (by rw[Nx];simp)|exact((aO.bC7 5 _ _ (by unfold IN;rw[show ar 0 (EH p i)=false from rfl,Fh]) rfl<|xZ U).f<|Nx _).one
 refine al IM (kR lp [1,2,3,4]) (let Z:ix:=bI;let V:=(p.l.n:Int);let aG:=oU (V-1);let aS:=[(0:Int)<=0,(0:Int)<V];(.d (V<1) Z<|.d (V>64) Z<|.o aS<|.u ((p.l.f 0).id) 1 Z<|.o aS<|.u ((p.l.f 0).bo) 0 Z<|.g aG p.l.n<|.d (p.next<=(p.l.f aG.toNat).id) Z<|.d (p.next>1048576) Z<|.d (p.iN<2) Z<|.d (p.iN>1099511627777) Z<|jS lp Z fo)) ?_;try simp only[lQ hn,jF]
 simp only[av]
 (repeat' with_reducible first|intro _|apply aNd_)<;>first|exact aM|(clear lp hv h;unfold F2;exact ga)
def an7(p:ei):F2 p=pw p:=by
 rw[ea];unfold F2 pw;rw[bp,bp];have hx:∀i,0<=KQ p.l (p.l.f i).bo↔ar p.l.n (EH p i)=true:=λi=>by rw[<-bp (p:=0<=KQ p.l (p.l.f i).bo)];have:=iw (n:=p.l.n) (b:=EH p i);rw[<-this];exact di
 constructor
 .rintro⟨O,h2,h3,h4,h5,h6,h7,h8,h9⟩;have N:∀i,i<p.l.n-> ¬N4 p i:=λi hn hb=>fW (bc.1 h9 i hn) hb;have ha:∀i,0<i->i<p.l.n->(p.l.f<|i-1).id<(p.l.f i).id:=λi hi hn=>xG.1 λhb=>N i hn (.inr<|.inr ⟨hi,hb⟩);refine⟨O,h2,h5,h6,h7,h8,bc.2 λi hi=> ?_⟩;rw[<-mZ,Ad];rintro(hb|hb)
  .refine fW hb ?_;by_cases h0:i=0
   .subst h0;exact .inl ⟨rfl,h3,h4⟩
   .refine .inr ⟨h0,ha i U hi,?_⟩;have hq:(((i:Int)==0)||ar i (EH p i))=true:=by rw[<-qR];exact λq=>N i hi (.inr<|.inl q)
    rw[show((i:Int)==0)=false by simpa using h0,Fc]at hq;obtain⟨k,hk,Cx⟩:=cG.1 hq;have hk3:=cn Cx;have iH:=zC (λi=>(p.l.f i).id) p.l.n ha i k hk hi;exact⟨U,(hx i).2<|cG.2 ⟨k,U,Cx⟩⟩
  .exact N i hi<|.inl hb
 .rintro⟨O,h2,h5,h6,h7,h8,h9⟩;have N:∀i,i<p.l.n-> ¬(QN p i=false\/Dv p (p.l.f i)=false):=λi hn hb=>by have:=bc.1 h9 i hn;rw[(Ad p i).2 hb]at this;cases this
  have hf:∀i,i<p.l.n->QN p i=true:=λi hn=>by rw[<-qR];exact λhb=>N i hn<|.inl hb
  have ha:∀i,0<i->i<p.l.n->(p.l.f<|i-1).id<(p.l.f i).id:=λi hi hn=>by
   rcases cn (hf i hn)with q|q
   .omega
   .exact q.2.1
  have h0:(p.l.f 0).id=1/\(p.l.f 0).bo=0:=by
   rcases cn (hf 0 U)with q|q
   .exact q.2
   .exact absurd rfl q.1
  refine⟨O,h2,h0.1,h0.2,h5,h6,h7,h8,bc.2 λi hi=>fq λhb=> ?_⟩;rcases hb with hb|hb|hb
  .exact N i hi<|.inr hb
  .rw[Bool.or_eq_false_iff]at hb;have hi0: ¬i=0:=by have:=hb.1;simpa using this
   rcases cn (hf i hi)with q|q
   .exact hi0 q.1
   .obtain⟨k,hk,Cx⟩:=cG.1 ((hx i).1 q.2.2.2);have hk3:=cn Cx;have hki:k<i:=by
     rcases rD k i with h|h|h
     .exact h
     .subst h;omega
     .have:(p.l.f i).id<(p.l.f k).id:=zC (λi=>(p.l.f i).id) p.l.n ha k i h hk;omega
    rw[bc.1 hb.2 k hki]at Cx;cases Cx
  .have:=ha i hb.1 hi;omega
def RJ(p:ei)(h:wf p):Ok P 19 [(af ei).au p] (Bo<|pw p):=by rw[<-an7];exact Vp p h
def zB(s:y_)(k:Nat):Bool:=decide<|((s.data.toList.getD k 0).toNat:Int)=0
def Vq(s:y_)(k:Nat):zB s k=true↔((s.data.toList.getD k 0).toNat:Int)=0:=bp
def bP7(s:y_):ar s.size (zB s)=s.data.toList.contains 0:=by
 rw[ea,cG,uZ];constructor
 .rintro⟨i,O,h2⟩;rw[Lib.size_eq]at O;have h3:=(Vq s i).1 h2;rw[cc,bX O]at h3;have:s.data.toList[i]=0:=xF.1 (by simpa using h3);rw[<-this];exact rF O
 .intro h;obtain⟨i,O,h2⟩:=xJ h;refine⟨i,by rw[Lib.size_eq];exact O,(Vq s i).2 ?_⟩;rw[cc,bX O,h2];rfl
def a02(x:bh y_)(j:Nat):JH x j=true↔ar (x.f j).size (zB<|x.f j)=true:=by rw[bP7];exact di
def Vr(x:bh y_)(h:wf x):Ok P 49 [(ak y_).au x] (.bg [S<|ED x,I<|qc x]):=by
 have hn:=h.1;by_cases OT:x.n<=256
 .have kZ:∀j,j<=x.n->(cY ⟨#[0]⟩ x j).size+(x.f j).size+1<=9223372036854775807:=by
   intro j hj;have O:=NC h.2 j;have h2:(x.f j).size<=aq:=h.2 j;have h3:=il aq (show j<=256 by omega);unfold aq at O h2 h3;cases j with
   |zero=>show(0:Nat)+_+1<=_;omega
   |succ j=>
    rw[pv,show(⟨#[0]⟩:y_).size=1 from rfl];omega
  have hj0:∀j,j=0->cY ⟨#[0]⟩ x (j+1)=cY ⟨#[0]⟩ x j++x.f j:=λj hj=>by show(if j=0 then _ else _)++_=_;rw[if_pos hj]
  have hj1:∀j,j≠0->cY ⟨#[0]⟩ x (j+1)=cY ⟨#[0]⟩ x j++⟨#[0]⟩++x.f j:=λj hj=>by show(if j=0 then _ else _)++_=_;rw[if_neg hj]
  have lp:=yM Tryz.f49 7 x.n (JH x) (λj=>(M 49 [(0,(ak y_).au x),(2,S n_),(3,I 0),(4,S<|cY ⟨#[0]⟩ x j),(5,I j)])) [] (λj=>(.ret,(M 49 [(2,S n_),(3,I 2),(4,S<|cY ⟨#[0]⟩ x j)]),[])) (ey 0<|M 49 [(2,S n_),(3,I 0),(4,S<|cY ⟨#[0]⟩ x x.n)]) λj hj ltj nC nq lO=>by
   have hxj:(x.f j).size<=aq:=h.2 j;have inn:=λ(iH:j<x.n)=>fF Tryz.f49 10 ((x.f j).size) (zB<|x.f j) (λi=>(M 49 [(0,(ak y_).au x),(2,S n_),(3,I 0),(4,S<|cY ⟨#[0]⟩ x j),(5,I j),(6,I i)])) [] (λi=>(.ret,(M 49 [(0,(ak y_).au x),(2,S n_),(3,I 2),(4,S<|cY ⟨#[0]⟩ x j),(5,I j)]),[])) (.ext 2,(M 49 [(0,(ak y_).au x),(2,S n_),(3,I 0),(4,S<|cY ⟨#[0]⟩ x j),(5,I j)]),[]) λi hi lt aW az aR=>by
    refine ao Iq L0 [0,2,3,4,5,6] [0,2,3,4,5] (.g j x.n<|.d ((i:Int)<(↑(x.f j).size:Int)) (.g j x.n<|.g i (↑(x.f j).size:Int)<|.q (↑((x.f j).data.toList.getD i 0).toNat:Int) 0 (eH az)<|eG aW)<|eY aR) ?_;have Y:=Vq (x.f j) i;simp only[av]
    repeat' with_reducible first|intro _|apply aNd_
    all_goals exact aM
   have hs:=kZ j hj;refine ao Iq (iy [0,2,3,4,5,6] ((x.f j).size) (zB<|x.f j) (λi=>(M 49 [(0,(ak y_).au x),(2,S n_),(3,I 2),(4,S<|cY ⟨#[0]⟩ x j),(5,I j)])) (M 49 [(0,(ak y_).au x),(2,S n_),(3,I 0),(4,S<|cY ⟨#[0]⟩ x j),(5,I j)]) (.ext 2) (λi=> []) []) [0,2,3,4,5] [2,3,4] (let Z:=(⟨#[0]⟩:y_);let V:=(2,S (n_:y_));let aG:=(0,(ak y_).au x);let aS:=cY (Z) x j;let bn:=(M 49 [aG,V,(3,I 0),(4,S aS),(5,I j),(6,I 0)]);let bH:=(5,I<|oU<|(j:Int)+1);(.d ((j:Int)<x.n) (.n (ar (x.f j).size<|zB<|x.f j) (.o [ax P (aD Tryz.f49 10) bn [] (Out.ret) (M 49 [aG,V,(3,I 2),(4,S aS),(5,I j)]) []]<|eH nq)<|.o [ax P (aD Tryz.f49 10) bn [] (Out.ext 2) (M 49 [aG,V,(3,I 0),(4,S aS),(5,I j)]) []]<|.d ((j:Int)>0) (.o [aS.size+(Z).size<=9223372036854775807]<|.g j x.n<|.o [(cY (Z) x j++Z).size+(x.f j).size<=9223372036854775807]<|bR (M 49 [aG,V,(3,I 0),(4,S<|cY (Z) x j++Z++x.f j),bH]) [])<|.g j x.n<|.o [aS.size+(x.f j).size<=9223372036854775807]<|bR (M 49 [aG,V,(3,I 0),(4,S<|cY (Z) x j++x.f j),bH]) [])<|fv 0 (M 49 [V,(3,I 0),(4,S aS)]) [])) ?_;have JV:=a02 x j;simp only[fy,show(⟨#[0]⟩:y_).size=1 from rfl];simp only[av]
   (repeat' with_reducible first|intro _|apply aNd_)<;>first|exact aM|exact((inn U).t W).one|exact((inn U).f W).one|(rw[bZ (n:=x.n) U hn,<-hj0 j U];exact nC U (bF JV<|by simp_all))|(rw[bZ (n:=x.n) U hn,<-hj1 j U];exact nC U (bF JV<|by simp_all))|(have e:j=x.n:=U;subst e;exact lO rfl)
  refine al Iq (kR lp [0,2,3,4,5]) (let Z:=cY (⟨#[0]⟩:y_) x x.n;(.q x.n 0 (.e<|J.bg [S (n_:y_),I 1])<|.d ((x.n:Int)>256) (.e<|J.bg [S (n_:y_),I 22])<|jS lp (.e<|J.bg [S (n_:y_),I 2])<|.d ((Z.size:Int)>65536) (.e<|J.bg [S (n_:y_),I 4])<|.e<|J.bg [S Z,I 0])) ?_;have hlb:x.n≠0->ar x.n (B4 x)=decide (65536<(cY ⟨#[0]⟩ x x.n).size):=λh0=>by have O:=pv ⟨#[0]⟩ x<|x.n-1;rw[show x.n-1+1=x.n by omega,show(⟨#[0]⟩:y_).size=1 from rfl]at O;rw[K9 U,O,xy]
  have e1:(x.n:Int)=0->qc x=1:=λh=>if_pos U;have e2:(x.n:Int)≠0->ar x.n (JH x)=true->qc x=2:=λh h2=>by unfold qc;rw[if_neg U,if_neg U,if_pos h2]
  have e4:(x.n:Int)≠0->ar x.n (JH x)=false->65536<(cY ⟨#[0]⟩ x x.n).size->qc x=4:=λh h2 h3=>by unfold qc;rw[if_neg U,if_neg U,if_neg (by rw[h2];simp),hlb U,if_pos<|cd h3]
  have e0:(x.n:Int)≠0->ar x.n (JH x)=false-> ¬65536<(cY ⟨#[0]⟩ x x.n).size->qc x=0:=λh h2 h3=>by unfold qc;rw[if_neg U,if_neg U,if_neg (by rw[h2];simp),hlb U,if_neg<|by simpa using h3]
  simp only[av,bK,bO,ev,jR]
  (repeat' with_reducible first|intro _|apply aNd_)<;>first|exact aM|exact ND (e1 W) dD|exact ND (e2 W W) dD|exact ND (e4 W W U) dD|exact Yf<|e0 W W U
 .have hE:qc x=22:=by unfold qc;rw[if_neg U,if_pos U]
  have hT:ED x=n_:=by unfold ED;rw[hE];rfl
  rw[hE,hT];exact al Iq (iy [0,2,3,4,5] (x.n) (JH x) (λj=>(M 49 [(2,S n_),(3,I 2),(4,S<|cY ⟨#[0]⟩ x j)])) (M 49 [(2,S n_),(3,I 0),(4,S<|cY ⟨#[0]⟩ x x.n)]) (.ext 0) (λj=> []) []) (let Z:=S (n_:y_);let V:=(M 49 [(0,(ak y_).au x),(2,Z),(3,I 0),(4,Z),(5,I 0)]);let aS:=(⟨#[0]⟩:y_);let aG:=cY aS x x.n;(.q x.n 0 (.e<|J.bg [Z,I 1])<|.d ((x.n:Int)>256) (.e<|J.bg [Z,I 22])<|.n (ar x.n<|JH x) (.o [ax P (aD Tryz.f49 7) V [] (Out.ret) (M 49 [(2,Z),(3,I 2),(4,S<|cY aS x<|aE x.n<|JH x)]) []]<|.e<|J.bg [Z,I 2])<|.o [ax P (aD Tryz.f49 7) V [] (Out.ext 0) (M 49 [(2,Z),(3,I 0),(4,S aG)]) []]<|.d ((aG.size:Int)>65536) (.e<|J.bg [Z,I 4])<|.e<|J.bg [S aG,I 0])) ft
def EV:Env:=aF 43 (bN (a1 aQ) (λs=>Bo (fj s)) λs=>s.size<=aq) (aF 50 (bN (a1 aQ) (λs=>Bo (fj s)) λs=>s.size<=aq)
 (aF 77 (bN (a1 (ak y_)) (λx=> .bg [S (ED x),I (qc x)]) wf) (aF 49 (bN (a1 (ak y_)) (λx=> .bg [S (ED x),I (qc x)]) wf)
 (aF 76 (bN (a2 (af qE) aQ) (λx=>I (JD x.1 x.2)) λx=>x.1.gh.n<=aq) (aF 51 (bN (a2 (af qE) aQ) (λx=>I (JD x.1 x.2)) λx=>x.1.gh.n<=aq) EN)))))
def Lq:an P EV:=ah (ah (ah (ah (ah (ah aw λx h=>ai0 x.1 x.2 h) λx h=>ah9 x.1 x.2 h) λx h=>Vr x h) λx h=>UX x h) uv) uw
def bP8(g:qE)(i:Nat):Prop:=(g.gh.f i).id<2\/g.next<=(g.gh.f i).id\/(0<i/\(g.gh.f i).id<=(g.gh.f<|i-1).id)\/fj (g.gh.f i).name=false\/JD g (g.gh.f i).name≠i\/qc (g.gh.f i).values≠0
instance(g:qE)(i:Nat):Decidable (bP8 g i):=by unfold bP8;infer_instance
def a03(g:qE)(i:Nat):Bool:=decide<|bP8 g i
def RL(g:qE)(i:Nat):a03 g i=true↔((g.gh.f i).id<2\/g.next<=(g.gh.f i).id\/(0<i/\(g.gh.f i).id<=(g.gh.f<|i-1).id)\/fj (g.gh.f i).name=false\/JD g (g.gh.f i).name≠i\/qc (g.gh.f i).values≠0):=bp
def Ae(g:qE):Bool:=decide<|1<=g.id/\g.id<=1099511627776/\2<=g.next/\g.next<=1048576/\g.gh.n<=64/\ar g.gh.n (a03 g)=false
def an8(g:qE)(h:wf g):Ok P 32 [(af qE).au g] (Bo<|Ae g):=by
 have hn:=h.2.2.1;have hv:=h.2.2.2;have lp:=fF f32 4 g.gh.n (a03 g) (λi=>(M 88 [(1,aT),(2,aP),(32,(ak Var).au g.gh),(33,I g.gh.n),(34,I i)])) [(cM [aY.cells g] 3)] (eR<|M 88 [(2,aP)]) (ey 0<|M 88 [(2,aP)]) λi hi lt aW az aR=>by
  refine ao Lq L0 [1,2,32,33,34] [2] (let V:=g.gh.f i;let Z:nV:=(.k (a1 aQ) V.name (V.name.size<=140737488351232)<|.m (fj V.name) (eH az)<|.k (a2 (af qE) aQ) (g,V.name) (g.gh.n<=140737488351232)<|.u (JD g V.name) (i:Int) (eH az)<|.k (a1<|ak y_) V.values (wf V.values)<|.u (qc V.values) 0 (eH az)<|eG aW);let aG:=oU ((i:Int)-1);(.d ((i:Int)<g.gh.n) (.g i g.gh.n<|.d (V.id<2) (eH az)<|.d (V.id>=g.next) (eH az)<|.d ((i:Int)>0) (.g aG g.gh.n<|.d (V.id<=(g.gh.f aG.toNat).id) (eH az) Z) Z)<|eY aR)) ?_;have Y:=RL g i;simp only[lQ<|cm hi hn,jF];simp only[av]
  (repeat' with_reducible first|intro _|apply aNd_)<;>first|exact aM|exact(hv i).2.1|exact(hv i).2.2
 refine al Lq (kR lp [1,2,32,33,34]) (let Z:ix:=bI;(.d (g.id<1) Z<|.d (g.id>1099511627776) Z<|.d (g.next<2) Z<|.d (g.next>1048576) Z<|.d ((g.gh.n:Int)>64) Z<|jS lp Z fo)) ?_;simp only[av]
 repeat' with_reducible first|intro _|apply aNd_
 all_goals (unfold Ae;exact ga)
def a04(l:bh qE)(i:Nat):Prop:=(0<i/\(l.f i).id<=(l.f<|i-1).id)\/Ae (l.f i)=false
instance(l:bh qE)(i:Nat):Decidable (a04 l i):=by unfold a04;infer_instance
def RM(l:bh qE)(i:Nat):Bool:=decide<|a04 l i
def Lr(l:bh qE)(i:Nat):RM l i=true↔((0<i/\(l.f i).id<=(l.f<|i-1).id)\/Ae (l.f i)=false):=bp
def vY(l:bh qE):Bool:=decide<|l.n<=64/\ar l.n (RM l)=false
def EV2:Env:=aF 32 (bN (a1<|af qE) (λx=>Bo (Ae x)) wf) EV
def a05:an P EV2:=ah Lq an8
def N5(l:bh qE)(h:wf l):Ok P 15 [(ak qE).au l] (Bo<|vY l):=by
 have hn:=h.1;have lp:=fF Tryz.f15 4 l.n (RM l) (λi=>(M 34 [(0,(ak qE).au l),(2,aP),(8,(ak qE).au l),(9,I l.n),(10,I i)])) [] (eR<|M 34 [(2,aP)]) (ey 0<|M 34 [(2,aP)]) λi hi lt aW az aR=>by
  refine ao a05 L0 [0,2,8,9,10] [2] (let Z:nV:=(.k (a1<|af qE) (l.f i) (wf<|l.f i)<|.m (Ae<|l.f i) (eH az)<|eG aW);let V:=oU ((i:Int)-1);(.d ((i:Int)<l.n) (.g i l.n<|.d ((i:Int)>0) (.g V l.n<|.d ((l.f i).id<=(l.f V.toNat).id) (eH az) Z) Z)<|eY aR)) ?_;have Y:=Lr l i;simp only[lQ<|cm hi hn,jF];simp only[av]
  (repeat' with_reducible first|intro _|apply aNd_)<;>first|exact aM|exact h.2 i
 refine al a05 (kR lp [0,2,8,9,10]) (.d ((l.n:Int)>64) bI<|jS lp bI fo) ?_;simp only[av]
 repeat' with_reducible first|intro _|apply aNd_
 all_goals (unfold vY;exact ga)
def Vs(l:bh qE)(i:Nat):RM l i=true↔((0<i/\(l.f i).id<=(l.f<|i-1).id)\/(l.f i).id<1\/1099511627776<(l.f i).id\/(l.f i).next<2\/1048576<(l.f i).next\/64<(l.f i).gh.n\/ar (l.f i).gh.n (a03<|l.f i)=true):=by rw[Lr];unfold Ae;grind
def a06(l:bh qE)(h:wf l):Ok P 20 [(ak qE).au l] (Bo<|vY l):=by
 have hn:=h.1;have lp:=fF Tryz.f20 4 l.n (RM l) (λj=>(M 123 [(0,(ak qE).au l),(2,aP),(3,I j)])) [] (eR<|M 123 [(2,aP)]) (ey 0<|M 123 [(2,aP)]) λj hj ltj nC nq lO=>by
  have hv:=(h.2 j).2.2.2;have hnv:=(h.2 j).2.2.1;have inn:=fF Tryz.f20 10 ((l.f j).gh.n) (a03<|l.f j) (λi=>(M 123 [(0,(ak qE).au l),(2,aP),(3,I j),(4,aT),(5,I i)])) [(cM [aY.cells<|l.f j] 3)] (eR<|M 123 [(0,(ak qE).au l),(2,aP),(3,I j)]) (ey 2<|M 123 [(0,(ak qE).au l),(2,aP),(3,I j)]) λi hi lt aW az aR=>by
   refine ao Lq L0 [0,2,3,4,5] [0,2,3] (let Z:=(l.f j).gh.f i;let V:=(↑(l.f j).gh.n:Int);let aG:=oU ((i:Int)-1);(.d ((i:Int)<V) (.g i V<|.k (a1<|ak y_) Z.values (wf Z.values)<|.u (qc Z.values) 0 (eH az)<|.k (a1 aQ) Z.name (Z.name.size<=140737488351232)<|.m (fj Z.name) (eH az)<|.k (a2 (af qE) aQ) (l.f j,Z.name) ((l.f j).gh.n<=140737488351232)<|.u (JD (l.f j) Z.name) (i:Int) (eH az)<|.d (Z.id<2) (eH az)<|.d (Z.id>=(l.f j).next) (eH az)<|.d ((i:Int)>0) (.g aG V<|.d (((l.f j).gh.f aG.toNat).id>=Z.id) (eH az)<|eG aW)<|eG aW)<|eY aR)) ?_;have Y:=RL (l.f j) i;simp only[lQ<|cm hi hnv,jF];simp only[av]
   (repeat' with_reducible first|intro _|apply aNd_)<;>first|exact aM|exact(hv i).2.1|exact(hv i).2.2
  refine ao Lq (kR inn [0,2,3,4,5]) [0,2,3] [2] (let V:=eH nq;let Z:nV:=(.d ((l.f j).next<2) V<|.d ((l.f j).next>1048576) V<|.d ((↑(l.f j).gh.n:Int)>64) V<|jS inn V<|eG nC);let aG:=oU ((j:Int)-1);(.d ((j:Int)<l.n) (.g j l.n<|.d ((l.f j).id<1) V<|.d ((l.f j).id>1099511627776) V<|.d ((j:Int)>0) (.g aG l.n<|.d ((l.f aG.toNat).id>=(l.f j).id) V Z) Z)<|eY lO)) ?_;have JV:=Vs l j;simp only[lQ<|cm hj hn,jF];simp only[av]
  (repeat' with_reducible first|intro _|apply aNd_)<;>first|exact aM|(exact nC U (bF JV<|by first|omega|assumption|(clear nC nq lO;grind)))
 refine al Lq (kR lp [0,2,3]) (.d ((l.n:Int)>64) bI<|jS lp bI fo) ?_;simp only[av]
 repeat' with_reducible first|intro _|apply aNd_
 all_goals (unfold vY;exact ga)
def EDV(de:Dr)(pt:mP)(pe:nF)(re:tW):Env:=aF 16 (bN (a1<|af cq) (λd=>Bo (iM d)) wf)<|aF 17 (bN (a2 (af oV)<|af cq) (λq=>Bo (zX pt pe re q.1 q.2)) λq=>wf q.1/\wf q.2/\Ef pt q.2)<|aF 13 (bN (a1<|af km) (λx=>Bo (Rq de x)) wf)<|aF 14 (bN (a1<|af ei) (λx=>Bo (pw x)) wf)<|aF 15 (bN (a1<|ak qE) (λx=>Bo (vY x)) wf) EN
def bP9(dt:DbT)(de:Dr)(pt:mP)(pe:nF)(rt:UE)(re:tW)(hd:tT 26 dt de)(hp:iL 224 pt pe)(ht:lB 89 rt re):an P (EDV de pt pe re):=ah (ah (ah (ah (ah aw λl h=>N5 l h) λp h=>Vm p h) λx h=>al5 dt de hd x h) λq h=>aU3 pt pe rt re hp ht q.1 q.2 h.1 h.2.1 h.2.2) λd h=>am9 d h
def a07(de:Dr)(pt:mP)(pe:nF)(re:tW)(h:an P (EDV de pt pe re):=by assumption):an P (EDV de pt pe re):=h
def Dw(pt:mP)(pe:nF)(re:tW)(w:oV)(i:Nat):Bool:= !iM (w.fP.f i)|| !zX pt pe re w (w.fP.f i)
def IP(pt:mP)(pe:nF)(re:tW)(w:oV)(i:Nat):Dw pt pe re w i=true↔(iM (w.fP.f i)=false\/zX pt pe re w (w.fP.f i)=false):=by unfold Dw;rw[jA,gl,gl]
def bQ0(de:Dr)(w:oV):Prop:=0<=w.YQ/\w.YQ<=1099511627776/\w.fP.n<=32/\Rq de w.x6=true/\pw w.qe=true/\vY w.mw=true
instance(de:Dr)(w:oV):Decidable (bQ0 de w):=by unfold bQ0;infer_instance
def Af(de:Dr)(pt:mP)(pe:nF)(re:tW)(w:oV):Bool:=decide<|bQ0 de w/\ar w.fP.n (Dw pt pe re w)=false
def IQ(de:Dr)(pt:mP)(pe:nF)(re:tW)(w:oV):Af de pt pe re w=true↔((0<=w.YQ/\w.YQ<=1099511627776/\w.fP.n<=32/\Rq de w.x6=true/\pw w.qe=true/\vY w.mw=true)/\ar w.fP.n (Dw pt pe re w)=false):=bp
def an9(dt:DbT)(de:Dr)(pt:mP)(pe:nF)(rt:UE)(re:tW)(hd:tT 26 dt de)(hp:iL 224 pt pe)(ht:lB 89 rt re)(w:oV)(hw:wf w)(ha:∀i,Ef pt (w.fP.f i)):Ok P 6 [(af oV).au w] (Bo<|Af de pt pe re w):=by
 have O:=hw.2.1.1;have h2:=hw.2.1.2;have h3:=hw.2.2.1;have h4:=hw.2.2.2.1;have h5:=hw.2.2.2.2;have hE:=bP9 dt de pt pe rt re hd hp ht;have lp:=fF Tryz.f6 4 w.fP.n (Dw pt pe re w) (λi=>(M 54 [(1,aT),(2,aP),(36,aP),(38,(ak cq).au w.fP),(39,I w.fP.n),(40,I i)])) [(cM [aY.cells w] 9)] (eR<|M 54 [(2,aP)]) (ey 0<|M 54 [(2,aP)]) λi hi lt aW az aR=>by
  refine ao (a07 de pt pe re) L0 [1,2,36,38,39,40] [2] (let Z:=w.fP.f i;(.d ((i:Int)<w.fP.n) (.g i w.fP.n<|.k (a1<|af cq) Z (wf Z)<|.m (iM Z) (eH az)<|.k (a2 (af oV)<|af cq) (w,w.fP.f i) (wf w/\wf Z/\Ef pt Z)<|.m (zX pt pe re w Z) (eH az)<|eG aW)<|eY aR)) ?_;have Y:=IP pt pe re w i;have h2i:=h2 i;have hai:=ha i;simp only[];simp only[av]
  repeat' with_reducible first|intro _|apply aNd_
  all_goals exact aM
 refine al (a07 de pt pe re) (kR lp [1,2,36,38,39,40]) (let Z:ix:=bI;(.d (w.YQ<0) Z<|.d (w.YQ>1099511627776) Z<|.d ((w.fP.n:Int)>32) Z<|.k (a1<|af km) w.x6 (wf w.x6)<|.m (Rq de w.x6) Z<|.k (a1<|af ei) w.qe (wf w.qe)<|.m (pw w.qe) Z<|.k (a1<|ak qE) w.mw (wf w.mw)<|.m (vY w.mw) Z<|jS lp Z fo)) ?_;simp only[av]
 (repeat' with_reducible first|intro _|apply aNd_)<;>first|exact aM|(clear lp;clear hE hw ha hd hp ht O h2 h3 h4 h5;refine ba Bo ?_;rw[ea,IQ];first|(simp [*];done)|(simp [*]<;>omega)|(simp_all;done)|(simp_all<;>omega))
def Ag(x:eX):Bool:=decide<|my x.bL=true/\rZ x.dS=true/\x.dp.n<=64/\ar x.dp.n (Nk x)=false
def a08(x:ay)(s:y_)(hx:fc x):wf (xf x s):=by
 have z:wf (0:Int):=⟨show(-9223372036854775808:Int)<=0 by decide,show(0:Int)<=9223372036854775807 by decide⟩
 unfold xf;split
 .rename_i h;unfold xe at h;by_cases O:jJ x s 4≠0
  .rw[if_pos O]at h;exact absurd h O
  .rw[if_neg O]at h;by_cases h2:aM9 (aZ x s 4)=true
   .rw[if_pos h2]at h;omega
   .rw[if_neg h2]at h;by_cases h3:(wm x s).1≠0
    .rw[if_pos h3]at h;exact absurd h h3
    .rw[vG]at h2;exact bw6 x s hx (jY.2 h2)<|Fl.1 h3
 .exact⟨z,bJ _,λ_=>⟨z,z,z,bJ _,z,bJ _,bJ _,bJ _,z,z,bJ _⟩⟩
def a09(x:ay)(s:y_)(h:xe x s=0):eb (xf x s)=true:=by
 unfold xf;rw[if_pos h];unfold xe at h;by_cases O:jJ x s 4≠0
 .rw[if_pos O]at h;exact absurd h O
 .rw[if_neg O]at h;by_cases h2:aM9 (aZ x s 4)=true
  .rw[if_pos h2]at h;omega
  .rw[if_neg h2]at h;by_cases h3:(wm x s).1≠0
   .rw[if_pos h3]at h;exact absurd h h3
   .rw[if_neg h3]at h;cases h4:eb (rT x s)with
    |true=>rfl
    |false=>rw[if_pos<|.inr h4]at h;omega
def RN(x:eX)(h:wf x):Ok P 54 [(af eX).au x] (Bo<|Ag x):=by
 have hn:=h.2.2.1;have hb:KH x.dS:=h.2.1.2.1;have lp:fc x.dS->_:=λhx=>by
  have hw:=λs=>CZ x.dS s▸a08 x.dS s hx;have lq:=fF f54 4 x.dp.n (Nk x) (λi=>(M 74 [(1,aT),(2,aP),(25,I x.dp.n),(26,I i)])) [(cM [aY.cells x] 8)] (eR<|M 74 [(2,aP)]) (ey 0<|M 74 [(2,aP)]) λi hi lt aW az aR=>by
   have e1:0<i->oU ((i:Int)-1)=((i-1:Nat):Int):=λq=>by rw[wrap64 U (by have:i<=140737488351232:=cm hi hn;omega)];omega
   refine ao aN2 L0 [1,2,25,26] [2] (let V:=x.dp.f i;let aG:=CY x.dS V.bM;let Z:nV:=(.k (a2 (af ay) aQ) (x.dS,V.bM) (XG (x.dS,V.bM))<|.u (D7 x.dS V.bM) 0 (eH az)<|.k (a1<|af ct) aG (wf aG)<|.m (eb aG) (eH az)<|eG aW);(.d ((i:Int)<x.dp.n) (.g i x.dp.n<|.d (V.time<0) (eH az)<|.d (V.time>1099511627776) (eH az)<|.d ((i:Int)>0) (.g (oU<|(i:Int)-1) x.dp.n<|.d ((x.dp.f (oU<|(i:Int)-1).toNat).time>=V.time) (eH az) Z) Z)<|eY aR)) ?_;have Y:=Ud x i;simp only[av]
   (repeat' with_reducible first|intro _|apply aNd_)<;>first|exact aM|exact hw _
  exact lq
 refine al aN2 (bc7 lp [1,2,25,26]) (let Z:ix:=bI;(.d ((x.dp.n:Int)>64) Z<|.k (a1<|af cQ) x.bL (wf x.bL)<|.m (my x.bL) Z<|.k (a1<|af ay) x.dS (KH x.dS)<|.m (rZ x.dS) Z<|lpC lp Z fo)) ?_;simp only[av]
 (repeat' with_reducible first|intro _|apply aNd_)<;>first|exact aM|(exact((lp<|ye W).t W).one)|(exact((lp<|ye W).f W).one)|(clear lp h;unfold Ag;exact ga)
def ao0(x:eX):Ag x=HN x:=by
 unfold Ag HN;rw[ea,bp,bp];have hp:∀s,w8 x.dS s=0↔D7 x.dS s=0:=λs=>by rw[w9,HM];exact(aN0 x.dS s).symm
 have hg:∀s,w8 x.dS s=0->eb (CW x.dS s)=true:=λs q=>by rw[CX];exact aL8 _ _ (by rw[w9]at q;exact q)
 have N:∀s,D7 x.dS s=0->eb (CY x.dS s)=true:=λs q=>by rw[CZ];exact a09 _ _ (by rw[HM]at q;exact q)
 have e:ar x.dp.n (Nk x)=false↔ar x.dp.n (XI x)=false:=by
  rw[bc,bc];constructor
  .intro h i hi;have a:=fW (h i hi);refine fq λq=> ?_;rcases q with q|q|q|q
   .cases i with
    |zero=>exact a<|.inl (by have:(x.dp.f 0).time<= -1:=q;omega)
    |succ i=>exact a<|.inr<|.inr<|.inl ⟨U,q⟩
   .exact a<|.inr<|.inl q
   .exact a<|.inr<|.inr<|.inr<|.inl λz=>q ((hp _).2 z)
   .by_cases z:w8 x.dS (x.dp.f i).bM=0
    .rw[hg _ z]at q;cases q
    .exact a<|.inr<|.inr<|.inr<|.inl λy=>z ((hp _).2 y)
  .intro h;have SI:∀i,i<x.dp.n->0<=(x.dp.f i).time:=by
    intro i
    induction i with
    |zero=>
     intro hi;have a:=fW<|h 0 hi;exact mj λq=>a<|.inl (show(x.dp.f 0).time<= -1 by omega)
    |succ i ih=>
     intro hi;have a:=fW<|h (i+1) hi;have b:=ih U;exact mj λq=>a<|.inl (show(x.dp.f<|i+1).time<=(x.dp.f i).time by omega)
   intro i hi;have a:=fW<|h i hi;refine fq λq=> ?_;rcases q with q|q|q|q|q
   .have:=SI i hi;omega
   .exact a<|.inr<|.inl q
   .obtain⟨q1,q2⟩:=q;cases i with
    |zero=>omega
    |succ i=>exact a<|.inl q2
   .exact a<|.inr<|.inr<|.inl λz=>q ((hp _).1 z)
   .by_cases z:D7 x.dS (x.dp.f i).bM=0
    .rw[N _ z]at q;cases q
    .exact a<|.inr<|.inr<|.inl λy=>z ((hp _).1 y)
 rw[e]
end
end Go.Proofs.YtnpcbfcfcjdhlaaGreatDoor
namespace Go.PS
section
open Go.RowKit
section
variable {T0 T':l_ J}{h0 h':Hp}{obs:l_ (l_ Ob)}{Ls:l_ (Array Bool)}
section
variable (P:Program) (E:Env) (ops:Array Oper)
def cst(T:l_ J)(h:Hp)(i:Nat):Option (l_ J×Hp×l_ Ob):=match ops[i]? with
 |some o=>match L2 P E false ops T h o []with
  |some (T1,O,ob,[])=>match trim (List.range T1.length) T1 O with
   |some (T2,h2)=>some (T2,h2,ob)
   |none=>none
  |_=>none
 |none=>none
def stO:l_ Nat->l_ J->Hp->Option (l_ J×Hp)
 | [],T,h=>some (T,h)
 |i::r,T,h=>match cst P E ops T h i with
  |some (T1,O,_)=>stO r T1 O
  |none=>none
def idxs(L:Array Bool):l_ Nat:=(List.range L.size).filter λi=>L.getD i false
def stL(T:l_ J)(h:Hp)(L:Array Bool):Option (l_ J×Hp):=stO P E ops (idxs L) T h
def unl(L:Array Bool):Nat:=L.size-(idxs L).length
def prs(Ls:l_ (Array Bool)):l_ (Array Bool×Nat):=Ls.flatMap λL=>(Region.ready .any ops L).map λi=>(L,i)
def bp5(T:l_ J)(h:Hp)(p:Array Bool×Nat):Option (l_ J×Hp×l_ Ob):=match stL P E ops T h p.1 with
 |some (T1,O)=>cst P E ops T1 O p.2
 |none=>none
def bp6(T:l_ J)(h:Hp)(obs:l_ (l_ Ob))(p:Array Bool×Nat):Option (l_ J×Hp×l_ Ob):=match stL P E ops T h (p.1.setIfInBounds p.2 true)with
 |some (T1,O)=>some (T1,O,obs.getD p.2 [])
 |none=>none
def bQ1(Ls:l_ (Array Bool)):Bool:=Ls.all λL=>((Region.ready .any ops L).all λi=>Ls.contains (L.setIfInBounds i true)&&decide (unl (L.setIfInBounds i true)<unl L))&&(decide (0<unl L)||(Region.ready .any ops L).isEmpty)&&(!(Region.ready .any ops L).isEmpty||(idxs L==List.range ops.size))
def b38(Ls:l_ (Array Bool)):l_ (Array Bool):=(Ls.flatMap λL=>(Region.ready .any ops L).map λi=>L.setIfInBounds i true).eraseDups
def a10:Nat->l_ (Array Bool)->l_ (Array Bool)
 |0,Ls=>Ls
 |n+1,Ls=>Ls++a10 n (b38 ops Ls)
end
theorem JP {P:Program} {E:Env} {ops:Array Oper} {w0:fR} {Sa:Nat->Prop}{Q:Exit->Act->World->Prop} (hE:an P E) (qg:GI P w0.g)
  (Y:bQ1 ops Ls=true) (hs:(Ls.all λL=>(stL P E ops T0 h0 L).isSome)=true) (hq:(prs ops Ls).map (bp5 P E ops T0 h0)=(prs ops Ls).map (bp6 P E ops T0 h0 obs)) (cJ:∀i,∀X∈obs.getD i [],X.holds)
  (hf:stO P E ops (List.range ops.size) T0 h0=some (T',h')) (hQ:∀a' w',St w0 Sa T' h' a' w'->Q .normal a' w'):
  ∀(fuel:Nat) (L:Array Bool) (a:Act) (w:World) (T:l_ J) (h:Hp),L∈Ls->unl L<=fuel->stL P E ops T0 h0 L=some (T,h)->St w0 Sa T h a w->wpAny P .any ops Q fuel L a w:=by
 have hL:∀L∈Ls,(∀i∈Region.ready .any ops L,L.setIfInBounds i true∈Ls/\unl (L.setIfInBounds i true)<unl L)/\(0<unl L\/Region.ready .any ops L=[])/\(Region.ready .any ops L=[]->idxs L=List.range ops.size):=λL hL=>by
  have:=cU.1 Y L hL;simp only[fG,jA,bK,LV,cU,uZ,gl,ev]at this;refine⟨this.1.1,this.1.2,λq=> ?_⟩;rcases this.2 with r|r
  .rw[q]at r;cases r
  .exact r
 have aR:∀L∈Ls,∀(a:Act) (w:World) (T:l_ J) (h:Hp),Region.ready .any ops L=[]->stL P E ops T0 h0 L=some (T,h)->St w0 Sa T h a w->Q .normal a w:=λL hl a w T h N cy iu=>by unfold stL at cy;rw[(hL L hl).2.2 N,hf]at cy;cases cy;exact hQ a w iu
 intro fuel
 induction fuel with
 |zero=>
  intro L a w T h hl hu cy iu;have N:=(hL L hl).2.1.resolve_left U;exact⟨N,aR L hl a w T h N cy iu⟩
 |succ fuel ih=>
  intro L a w T h hl hu cy iu;refine⟨λN=>aR L hl a w T h N cy iu,λi hi=> ?_⟩;obtain⟨m1,m2⟩:=(hL L hl).1 i hi;have hp:(L,i)∈prs ops Ls:=tn.2 ⟨L,hl,jB.2 ⟨i,hi,rfl⟩⟩;have F:=List.map_inj_left.1 hq _ hp;obtain⟨⟨T2,h2⟩,b39⟩:=LG.1<|cU.1 hs _ m1;unfold bp5 bp6 at F;simp only[cy,b39]at F;unfold cst at F;split at F
  .rename_i o ho;split at F
   .rename_i T1 O ob hso;split at F
    .rename_i T3 h3 htr;cases F;refine GO ho hE qg hso (cJ i) iu λa' w' ko=> ?_;exact ih _ a' w' T2 h2 m1 U b39<|vn htr ko
    .cases F
   .cases F
  .cases F
theorem RO {P:Program} {E:Env} {ops:Array Oper}{id:Nat} (hE:an P E) (bB2:P.follows .mixedOrders=true)
  (Y:bQ1 ops Ls=true) (h0m:Ls.contains (Array.replicate ops.size false)=true) (hu:unl (Array.replicate ops.size false)<=ops.size) (hi0:idxs (Array.replicate ops.size false)=[]) (hs:(Ls.all λL=>(stL P E ops T0 h0 L).isSome)=true) (hq:(prs ops Ls).map (bp5 P E ops T0 h0)=(prs ops Ls).map (bp6 P E ops T0 h0 obs)) (cJ:∀i,∀X∈obs.getD i [],X.holds)
  (hf:stO P E ops (List.range ops.size) T0 h0=some (T',h')):tz P id ops true T0 h0 T' h':=by
 intro w0 Sa a w Q hG iu hQ;refine wp_region_any bB2 ?_;obtain⟨S,m,hI,hT,hd⟩:=iu;obtain⟨mV,hGo⟩:=pI hI;refine JP hE hG Y hs hq cJ hf hQ ops.size _ a w.drew T0 h0 (by simpa using h0m) hu (by unfold stL;rw[hi0];rfl) ⟨S,m,mV,hT.go hGo,hd⟩
end
end
end Go.PS
namespace Go.Proofs.YtnpcbfcfcjdhlaaGreatDoor
section
open Go.PS Wf
noncomputable def sy:Array Oper:=match(f114).body with
 |some (.seq _ (.seq (.region _ o _) _))=>o
 |_=> #[]
noncomputable def a11:l_ (Array Bool):=a10 sy 10 [Array.replicate 10 false]
def a13:l_ (l_ Ob):=[[],[.xK<|(0:Int)<=0,.xK<|(0:Int)<((2:Nat):Int)],[],[],[.xK<|(0:Int)<=1,.xK<|(1:Int)<((2:Nat):Int)]]
def a14:∀i,∀X∈a13.getD i [],X.holds
 |0=>λX hX=>by cases hX
 |1=>λX hX=>by
  rcases fB.1 hX with rfl|hX
  .exact AF 0
  .rcases fB.1 hX with rfl|hX
   .show(0:Int)<((2:Nat):Int);omega
   .cases hX
 |2=>λX hX=>by cases hX
 |3=>λX hX=>by cases hX
 |4=>λX hX=>by
  rcases fB.1 hX with rfl|hX
  .show(0:Int)<=1;omega
  .rcases fB.1 hX with rfl|hX
   .show(1:Int)<((2:Nat):Int);omega
   .cases hX
 |i+5=>λX hX=>by cases hX
def fT0(x:jm):l_ J:=(af jm).au x:: .ptr 0 0 0:: .bit false::List.replicate 34 (.sc undef)
def fH0(x:jm):Hp:=[⟨[aY.cells x],0,[],9,false,false⟩]
def eCs(e:wb):l_ J:=[S e.data,I e.da,I e.dd,Bo e.nD]
def fT1(x:jm):l_ J:=[(af jm).au x,.ptr 0 0 0,.bit false,.ptr 1 0 0,.ptr 2 0 0,.ptr 0 0 1,.ptr 0 0 1,.agg<|eCs x.a,.ptr 0 0 1,.ptr 0 0 5,.agg<|eCs x.b]++List.replicate 26 (.sc undef)
def fH1(x:jm):Hp:=[⟨[aY.cells x],0,[],9,false,false⟩,⟨[eCs x.a],0,[],4,false,false⟩,⟨[eCs x.b],0,[],4,false,false⟩]
def ce3:sy.size=10:=kK
def b40:bQ1 sy a11=true:=kK
def b41(x:jm):stO P E0 sy (List.range sy.size) (fT0 x) (fH0 x)=some (fT1 x,fH1 x):=kK
def bQ2(x:jm):(a11.all λL=>(stL P E0 sy (fT0 x) (fH0 x) L).isSome)=true:=kK
def ce4(x:jm):(prs sy a11).map (bp5 P E0 sy (fT0 x)<|fH0 x)=(prs sy a11).map (bp6 P E0 sy (fT0 x) (fH0 x) a13):=kK
def a15(x:jm):Nat->Array Oper->Bool->l_ J->Hp->Option (l_ J×Hp×l_ Prop):=λid ops dr T h=>match id==1,dr with
 |true,true=>some (fT1 x,fH1 x,[ops=sy,T=fT0 x,h=fH0 x])
 |_,_=>none
def a16:Array.replicate sy.size false=Array.replicate 10 false:=rfl
def a18(x:jm):∀id ops dr T h T' h' ob,a15 x id ops dr T h=some (T',h',ob)->(∀X∈ob,X)->tz P id ops dr T h T' h':=by
 intro id ops dr T h T' h' ob hd cJ;unfold a15 at hd;split at hd
 .cases hd;have e1:ops=sy:=cJ _ sS;have e2:=cJ (T=fT0 x) sS;have e3:=cJ (h=fH0 x) sS;subst e1 e2 e3;exact RO (Ls:=a11) (obs:=a13) (Ba P) kK b40 (by rw[a16];kernel_rfl) (by rw[a16,ce3];exact cn kK) (by rw[a16];kernel_rfl) (bQ2 x) (ce4 x) a14<|b41 x
 .cases hd
def ce5(x:jm):Env:=Pk (a15 x) EN
def bp7(x:jm):an P (ce5 x):=vq aw<|a18 x
def Vt(x:jm):l_ Prop:=[sy=sy,fT0 x=fT0 x,fH0 x=fH0 x]
def Ej(x:jm):Bool:=decide<|x.a.nD=true/\x.b.nD=true/\x.a.da=0/\x.a.dd=0/\x.b.da=0/\x.b.dd=0
def b42(x:jm):TrP:= .aN x.a.nD (.aN x.b.nD (.aN ((x.a.da:Int)==0) (.aN ((x.a.dd:Int)==0) (.aN ((x.b.da:Int)==0) (.jh (Bo<|x.b.dd==0)<|Vt x)<|.jh (Bo false)<|Vt x)<|.jh (Bo false)<|Vt x)<|.jh (Bo false)<|Vt x)<|.jh (Bo false)<|Vt x)<|.jh (Bo false)<|Vt x
def bp8(x:jm):Ok P 114 [(af jm).au x] (Bo<|Ej x):=by
 refine DS (bp7 x) L0 func114 (b42 x) kK ?_;simp only[b42,Vt,Tr.j6,ow,ev,jR]
 (repeat' with_reducible first|intro _|apply aNd_)<;>first|trivial|(refine ba Bo ?_;unfold Ej;rw[ea];simp only[bp,ev];simp_all)
def EP5:Env:=aF 114 (bN (a1<|af jm) λx=>Bo (Ej x)) EP
def a19:an P EP5:=ah aN5 λx _=>bp8 x
def N6(n:Int)(l:bh jm)(i:Nat):Prop:=(l.f i).id<1\/n<=(l.f i).id\/(0<i/\(l.f i).id<=(l.f<|i-1).id)\/Ej (l.f i)=true\/lW (l.f i).a=false\/lW (l.f i).b=false
instance(n:Int)(l:bh jm)(i:Nat):Decidable (N6 n l i):=by unfold N6;infer_instance
def F3(n:Int)(l:bh jm)(i:Nat):Bool:=decide<|N6 n l i
def Ek(n:Int)(l:bh jm)(i:Nat):F3 n l i=true↔((l.f i).id<1\/n<=(l.f i).id\/(0<i/\(l.f i).id<=(l.f<|i-1).id)\/Ej (l.f i)=true\/lW (l.f i).a=false\/lW (l.f i).b=false):=bp
def YC {e:wb}(h:lW e=true):0<=e.da/\0<=e.dd:=by have:=cn h;exact⟨this.2.1,this.2.2.2.1⟩
def ao1(n:Int)(l:bh jm)(i:Nat):F3 n l i=HO n l i:=by
 rw[ea,Ek,KI];have key:lW (l.f i).a=true->lW (l.f i).b=true->(Ej (l.f i)=true↔vH (l.f i)=true):=λha hb=>by
  have:=YC ha;have:=YC hb;unfold Ej vH;rw[bp,bp];constructor
  .rintro⟨O,h2,h3,h4,h5,h6⟩;exact⟨O,h2,U,U,U,U⟩
  .rintro⟨O,h2,h3,h4,h5,h6⟩;exact⟨O,h2,U,U,U,U⟩
 cases ha:lW (l.f i).a with
 |false=>simp
 |true=>
  cases hb:lW (l.f i).b with
  |false=>simp
  |true=>rw[key ha hb]
def a27(x:mM)(hn:x.l.n<=aq):Ok P 55 [(af mM).au x] (Bo<|vI x):=by
 have lp:=fF f55 5 x.l.n (F3 (kJ x) x.l) (λi=>(M 75 [(1,aT),(2,aP),(3,I<|kJ x),(4,I i),(19,aP)])) [(cM [aY.cells x] 2)] (eR<|M 75 [(2,aP)]) (ey 0<|M 75 [(2,aP)]) λi hi lt aW az aR=>by
  refine ao a19 L0 [1,2,3,4,19] [2] (let Z:nV:=(.o [(0:Int)<=0,(0:Int)<2]<|.v (a1<|af wb) (x.l.f i).a<|.m (lW (x.l.f i).a) (eH az)<|.o [(0:Int)<=1,(1:Int)<2]<|.v (a1<|af wb) (x.l.f i).b<|.m (lW (x.l.f i).b) (eH az)<|.v (a1<|af jm) (x.l.f i)<|.n (Ej<|x.l.f i) (eH az)<|eG aW);let V:=oU ((i:Int)-1);(.d ((i:Int)<x.l.n) (.g i x.l.n<|.d ((x.l.f i).id<1) (eH az)<|.d ((x.l.f i).id>=kJ x) (eH az)<|.d ((i:Int)>0) (.g V x.l.n<|.d ((x.l.f V.toNat).id>=(x.l.f i).id) (eH az) Z) Z)<|eY aR)) ?_;have Y:=Ek (kJ x) x.l i;simp only[lQ<|cm hi hn,jF];simp only[av]
  repeat' with_reducible first|intro _|apply aNd_
  all_goals exact aM
 refine al a19 (kR lp [1,2,3,4,19]) (let Z:ix:=bI;(.v (a1<|af mM) x<|.d ((x.l.n:Int)>64) Z<|.d (kJ x<1) Z<|.d (kJ x>549755813888) Z<|jS lp Z fo)) ?_;have hpb:HO (kJ x) x.l=F3 (kJ x) x.l:=funext λi=>(ao1 _ _ i).symm;simp only[av]
 repeat' with_reducible first|intro _|apply aNd_
 all_goals (refine ba Bo ?_;rw[ea,HP,hpb];first|omega|(simp only[*]<;>omega)|(simp_all<;>omega))
section
variable {T:l_ J}{h:Hp}{x:df}{i:Nat}
def St.YD {w0:fR} {Sa:Nat->Prop}{a:Act} {w:World} {t:Nat} {b:Bool}(iu:St w0 Sa T h a w)(ht:T[t]?=some (.bit b)):St w0 Sa (T.set t<|Bo b) h a w:=by
 obtain⟨S,m,hI,hT,Ak⟩:=iu;refine⟨S,m,hI,⟨by simpa using hT.1,λt' p hp=> ?_⟩,Ak⟩;rw[cD]at hp;split at hp
 .rename_i e;subst e;split at hp
  .cases hp;rw[py<|hT.2 _ _ ht];exact .st _ _<|.sc _
  .cases hp
 .exact hT.2 t' p hp
theorem aO.YD {P:Program} {c:Code}{lt:PS.LT}(t:Nat)(b:Bool)(ht:T[t]?=some (.bit b))(hl:aO P c (T.set t<|Bo b) h lt):aO P c T h lt:=by obtain⟨x,O,n,h2⟩:=hl;exact⟨x,O,n,λw0 Sa a w Q hG iu hQ=>h2 w0 Sa a w Q hG (St.YD iu ht) hQ⟩
def Lt(x:df):Nat->Int
 |0=>0
 |i+1=>(x.l.f i).id
def N7(x:df)(i:Nat):Prop:=(x.l.f i).id<=Lt x i\/x.next<=(x.l.f i).id\/pA (x.l.f i)=false
instance(x:df)(i:Nat):Decidable (N7 x i):=by unfold N7;infer_instance
def IS(x:df)(i:Nat):Bool:=decide<|N7 x i
def Vu(x:df)(i:Nat):IS x i=true↔((x.l.f i).id<=Lt x i\/x.next<=(x.l.f i).id\/64<(x.l.f i).label.size\/65536<(x.l.f i).text.size\/yT (x.l.f i).EL=false\/(x.l.f i).fa<0\/9007199254740991<(x.l.f i).fa\/((x.l.f i).EM=true/\(x.l.f i).fa<=0)):=by unfold IS N7 pA;grind
def Lu(x:df):ar x.l.n (IS x)=ar x.l.n (KK x.next x.l):=by
 have h0:∀i,IS x i=true↔((x.l.f i).id<=Lt x i\/x.next<=(x.l.f i).id\/pA (x.l.f i)=false):=λi=>bp;rw[ea,cG];constructor
 .rintro⟨i,O,h2⟩;refine cG.2 ⟨i,O,(yf _ _ _).2 ?_⟩;rcases(h0 i).1 h2 with h|h|h
  .cases i with
   |zero=>exact .inl (by have:(x.l.f 0).id<=0:=h;omega)
   |succ i=>exact .inr<|.inr<|.inl ⟨U,h⟩
  .exact .inr<|.inl h
  .exact .inr<|.inr<|.inr h
 .intro h;refine mj λyy=> ?_;have hg:∀i,i<x.l.n-> ¬((x.l.f i).id<=Lt x i\/x.next<=(x.l.f i).id\/pA (x.l.f i)=false):=by grind
  have SI:∀i,i<x.l.n->1<=(x.l.f i).id:=by
   intro i
   induction i with
   |zero=>intro hi;have:=λh=>hg 0 hi<|.inl h;have: ¬(x.l.f 0).id<=0:=this;omega
   |succ i ih=>intro hi;have:=λh=>hg (i+1) hi<|.inl h;have h2: ¬(x.l.f<|i+1).id<=(x.l.f i).id:=this;have:=ih U;omega
  obtain⟨i,O,h2⟩:=cG.1 h;rcases(yf _ _ _).1 h2 with h3|h3|h3|h3
  .have:=SI i O;omega
  .exact hg i O<|.inr<|.inl h3
  .cases i with
   |zero=>omega
   |succ i=>exact hg (i+1) O<|.inl h3.2
  .exact hg i O<|.inr<|.inr h3
def OE(x:df)(i:Nat):Bool:=(x.iG==0)||ar i (BP x)
def N8(x:df)(i:Nat):OE x (i+1)=(OE x i||BP x i):=by unfold OE;rw[Kj,Bool.or_assoc]
def ce6(h:OE x i=true):OE x (i+1)=true:=by rw[N8,h];rfl
def ce7(h:OE x i=false)(h2:(x.l.f i).id=x.iG):OE x (i+1)= !(x.l.f i).EM:=by rw[N8,h];unfold BP;cases (x.l.f i).EM<;>simp [h2]
def ce8(h:OE x i=false)(h2:(x.l.f i).id≠x.iG):OE x (i+1)=false:=by rw[N8,h];unfold BP;simp [h2]
def Vv(x:df)(h:wf x):Ok P 56 [(af df).au x] (Bo<|HQ x):=by
 have hn:=h.2.2.1;have hv:=h.2.2.2;have lp:=yM f56 5 x.l.n (IS x) (λi=>(M 98 [(1,aT),(2,aP),(3,I<|Lt x i),(4,Bo<|OE x i),(26,I x.l.n),(27,I i)])) [(cM [aY.cells x] 3)] (λi=>(.ret,(M 98 [(2,aP),(4,Bo<|OE x i)]),[])) (ey 0<|M 98 [(2,aP),(4,Bo<|OE x x.l.n)]) λi hi lt aW az aR=>by
  refine ao Nl L0 [1,2,3,4,26,27] [2,4] (let V:=(27,I<|oU<|(i:Int)+1);let aG:=[cM [(aY.cells x)] 3];let aS:=(3,I (x.l.f i).id);let Z:nV:=(.n (OE x i) (bR (M 98 [(1,aT),(2,aP),aS,(4,fZ),(26,I x.l.n),V]) aG)<|.q ((x.l.f i).id) x.iG (bR (M 98 [(1,aT),(2,aP),aS,(4,Bo !(x.l.f i).EM),(26,I x.l.n),V]) aG)<|bR (M 98 [(1,aT),(2,aP),aS,(4,aP),(26,I x.l.n),V]) aG);(.d ((i:Int)<x.l.n) (.g i x.l.n<|.d ((x.l.f i).id<=Lt x i) (eH az)<|.d ((x.l.f i).id>=x.next) (eH az)<|.d ((↑(x.l.f i).label.size:Int)>64) (eH az)<|.k (a1<|af zt) (x.l.f i).EL (wf (x.l.f i).EL)<|.m (yT (x.l.f i).EL) (eH az)<|.d ((↑(x.l.f i).text.size:Int)>65536) (eH az)<|.d ((x.l.f i).fa<0) (eH az)<|.d ((x.l.f i).fa>9007199254740991) (eH az)<|.n ((x.l.f i).EM) (.q ((x.l.f i).fa) 0 (eH az) Z) Z)<|fv 0 (M 98 [(2,aP),(4,Bo<|OE x i)]) [])) ?_;have Y:=Vu x i;simp only[av]
  (repeat' with_reducible first|intro _|apply aNd_)<;>first|exact aM|exact(hv i).2.2.1|(rw[bZ (n:=x.l.n) U hn];rw[ce6 W]at aW;exact aO.YD 4 true rfl (aW U<|bF Y (by clear aW az aR;grind)))|(rw[bZ (n:=x.l.n) U hn];rw[ce7 W W]at aW;exact aW U (bF Y (by clear aW az aR;grind)))|(rw[bZ (n:=x.l.n) U hn];rw[ce8 W W]at aW;exact aO.YD 4 false rfl (aW U<|bF Y (by clear aW az aR;grind)))|(have e:i=x.l.n:=U;subst e;exact aR rfl)
 rw[show OE x 0=(x.iG==0)from Fh _]at lp;have hf:OE x x.l.n=decide (x.iG=0\/ar x.l.n (BP x)=true):=by unfold OE;rw[ea,bp,jA,ev]
 refine al Nl (kR lp [1,2,3,4,26,27]) (let Z:ix:=bI;(.d (x.next<1) Z<|.d (x.next>1048576) Z<|.d ((x.l.n:Int)>16) Z<|jS lp Z<|.e<|Bo<|OE x x.l.n)) ?_;simp only[av]
 (repeat' with_reducible first|intro _|apply aNd_)<;>first|(refine ba Bo ?_;unfold HQ;rw[<-Lu,hf];grind)|(refine ba Bo ?_;unfold HQ;rw[<-Lu];grind)
end
def EM5(pt:mP)(pe:nF)(rt:UE)(re:tW):Env:=aF 116 (bN (a1<|ak iS) (λl=> .bg [S<|rt l,I<|re l]) wf)<|aF 118 (bN (a1<|af dG) (λm=> .bg [S<|pt m,I<|pe m])<|BX pt)<|aF 117 (bN (a1 aQ) (λs=>Bo (xh s)) K1) EN
def Vw(pt:mP)(pe:nF)(rt:UE)(re:tW)(h:iL 118 pt pe:=by assumption)(h2:lB 116 rt re:=by assumption):an P (EM5 pt pe rt re):=ah (ah (ah aw aP2) h) h2
def RP(pt:mP)(pe:nF)(y:wh)(k:Nat):Bool:= !Ie pt pe (y.fV.f k)
def ao2(pt:mP)(pe:nF)(y:wh)(k:Nat):RP pt pe y k=true↔(pe (y.fV.f k)≠0\/65536<(pt<|y.fV.f k).size):=by
 unfold RP Ie;rw[gl,bO];constructor
 .intro h;by_cases q:pe (y.fV.f k)=0
  .exact .inr<|Nat.lt_of_not_le λz=>h ⟨q,z⟩
  .exact .inl q
 .rintro(h|h) ⟨O,h2⟩
  .exact h O
  .omega
def ce9(pt:mP)(pe:nF)(y:wh):vL pt pe y=decide (xh y.name=true/\0<=y.fa/\y.fa<=9007199254740991/\y.fV.n<=64/\(y.fa=0->y.fV.n=0)/\ar y.fV.n (RP pt pe y)=false):=rfl
def bQ3(pt:mP)(pe:nF)(x:hJ)(i:Nat):Ig pt pe x i=true↔((0<i/\Op.bytesLess (x.dX.f<|i-1).name.toList (x.dX.f i).name.toList=false)\/ ¬(xh (x.dX.f i).name=true/\0<=(x.dX.f i).fa/\(x.dX.f i).fa<=9007199254740991/\(x.dX.f i).fV.n<=64/\((x.dX.f i).fa=0->(x.dX.f i).fV.n=0)/\ar (x.dX.f i).fV.n (RP pt pe<|x.dX.f i)=false)):=by rw[Ih,ce9,bO];exact⟨λh=>h.elim .inr .inl,λh=>h.elim .inr .inl⟩
def RS(pt:mP)(pe:nF)(rt:UE)(re:tW)(hp:iL 118 pt pe)(ht:lB 116 rt re)(x:hJ)(h:Q2 pt x):Ok P 57 [(af hJ).au x] (Bo<|mQ pt pe re x):=by
 have N:=h.1.1;have hn:=h.1.2.1;have hw:∀i,aS2 pt (x.dX.f i):=λi=>⟨h.1.2.2 i,h.2 i⟩
 have lp:=fF Tryz.f57 5 x.dX.n (Ig pt pe x) (λi=>(M 106 [(1,aT),(2,aP),(5,I i)])) [(cM [aY.cells x] 2)] (eR<|M 106 [(2,aP)]) (ey 0<|M 106 [(2,aP)]) λi hi lt aW az aR=>by
  have hqn:=(hw i).1.2.1.1;have hqw:∀k,BX pt ((x.dX.f i).fV.f k):=λk=>⟨(hw i).1.2.1.2 k,(hw i).2 k⟩
  have hnm:K1 (x.dX.f i).name:=(hw i).1.1;have lq:=fF Tryz.f57 11 ((x.dX.f i).fV.n) (RP pt pe<|x.dX.f i) (λk=>(M 106 [(1,aT),(2,aP),(5,I i),(6,J.ptr 1 0 0),(7,I k)])) [(cM [aY.cells x] 2),(cM [aY.cells<|x.dX.f i] 3)] (eR<|M 106 [(2,aP)]) (.ext 2,(M 106 [(1,aT),(2,aP),(5,I i)]),[(cM [aY.cells x] 2)]) λk hk ltk sE mN nX=>by
   refine ao (Vw pt pe rt re) L0 [1,2,5,6,7] [2,10001,10005] (let Z:=(x.dX.f i).fV.f k;let V:=(↑(x.dX.f i).fV.n:Int);(.d ((k:Int)<V) (.g k V<|.k (a1<|af dG) Z (BX pt Z)<|.u (pe Z) 0 (eH mN)<|.d ((↑(pt Z).size:Int)>65536) (eH mN)<|eG sE)<|eY nX)) ?_;have Jh:=ao2 pt pe (x.dX.f i) k;simp only[av]
   (repeat' with_reducible first|intro _|apply aNd_)<;>first|exact aM|exact hqw _|(exact sE U (bF Jh<|by first|omega|assumption|(clear sE mN nX;grind)))|exact mN U (Jh.2<|by first|omega|assumption|(clear sE mN nX;grind))|exact nX U
  refine ao (Vw pt pe rt re) (kR lq [1,2,5,6,7]) [1,2,5] [2] (let V:=x.dX.f i;let aG:=oU ((i:Int)-1);let aS:nV:=(jS lq (eH az)<|eG aW);let Z:nV:=(.d (V.fa<0) (eH az)<|.d (V.fa>9007199254740991) (eH az)<|.d ((V.fV.n:Int)>64) (eH az)<|.q (V.fa) 0 (.d ((V.fV.n:Int)>0) (eH az) aS) aS);(.d ((i:Int)<x.dX.n) (.g i x.dX.n<|.k (a1 aQ) V.name (K1 V.name)<|.m (xh V.name) (eH az)<|.d ((i:Int)>0) (.g aG x.dX.n<|.m (Op.bytesLess (x.dX.f aG.toNat).name.toList V.name.toList) (eH az) Z) Z)<|eY aR)) ?_;have Y:=bQ3 pt pe x i
  (try simp only[lQ<|cm hi hn,jF])
  simp only[av]
  repeat' with_reducible first|intro _|apply aNd_
  all_goals exact aM
 refine al (Vw pt pe rt re) (kR lp [1,2,5]) (let Z:ix:=bI;(.k (a1<|ak iS) x.qN (wf x.qN)<|.u (re x.qN) 0 Z<|.d ((x.dX.n:Int)>16) Z<|jS lp Z fo)) ?_;simp only[av]
 (repeat' with_reducible first|intro _|apply aNd_)<;>first|exact aM|(clear lp h N hw hp ht;unfold mQ;exact ga)
