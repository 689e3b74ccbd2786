/- Z3. -/
import Derived.Test.YtnpcbfcfcjdhlaaGreatDoorZ2
import Derived.BigCall
import Derived.Shelf.SlSortCmp.WholeK
import Derived.Shelf.SlGeneric
set_option linter.all false
set_option linter.defProp false
set_option maxHeartbeats 9999999
open Go.Proofs.Tryz
noncomputable section
namespace Go.Proofs.YtnpcbfcfcjdhlaaGreatDoor
section
open Go.PS Wf
section
variable {l:bh aV}{id:Int}
def ET3:Env:=aF 145 (bN (a2 (af ct) bx) (λx=>I (j9 x.1.aj x.2)) λx=>x.1.aj.n<=aq)<|aF 176 (bN (a2 (af ct) bx) (λx=>I (j9 x.1.aj x.2)) λx=>x.1.aj.n<=aq) EN
def aB4:an P ET3:=ah (ah aw λx h=>Z2 x.1 x.2 h) λx h=>Z1 x.1 x.2 h
def WN(h: ¬j9 l id<0):j9 l id<l.n:=by
 have ha:ar l.n (λi=>(l.f i).id==id)=true:=by have:=iw (n:=l.n) (b:=λi=>(l.f i).id==id);rw[<-this];exact cd (show 0<=j9 l id by omega)
 have:=dw.2 ha;have e:j9 l id=(aE l.n λi=>(l.f i).id==id:Nat):=by unfold j9 cZ;rw[if_pos ha]
 omega
def zD:aV:=⟨0,0,0,n_,0,n_,n_,n_,0,0,n_⟩
def D2(l:bh aV)(id:Int):J:= .bg [(af aV).au (if j9 l id<0 then zD else l.f (j9 l id).toNat),Bo<|decide<|¬j9 l id<0]
def PZ(h:j9 l id<0):D2 l id= .bg [(af aV).au zD,Bo false]:=by unfold D2;rw[if_pos h,fq<|cI h]
def Kp(h: ¬j9 l id<0):D2 l id= .bg [(af aV).au<|l.f (j9 l id).toNat,Bo true]:=by unfold D2;rw[if_neg h,cd h]
def P0(x:ct)(id:Int)(h:x.aj.n<=aq):Ok P 81 [(af ct).au x,I id] (D2 x.aj id):=by
 refine al aB4 L0 (let Z:=x.aj.f (j9 x.aj id).toNat;let V:=S (n_:y_);(.k (a2 (af ct) bx) (x,id) (x.aj.n<=140737488351232)<|.d (j9 x.aj id<0) (.e<|J.bg [J.agg [I 0,I 0,I 0,V,I 0,V,V,V,I 0,I 0,V],Bo false])<|.g (j9 x.aj id) x.aj.n<|.e<|J.bg [J.agg [I Z.id,I Z.bo,I Z.vr,S Z.name,I Z.mode,S Z.Sg,S Z.Sf,S Z.wR,I Z.nz,I Z.nA,S Z.data],Bo true])) ?_;simp only[av]
 (repeat' with_reducible first|intro _|apply aNd_)<;>first|exact aM|exact WN W|exact(PZ W).symm|exact(Kp W).symm
def aB5(x:ct)(id:Int)(h:x.aj.n<=aq):Ok P 108 [(af ct).au x,I id] (D2 x.aj id):=by
 refine al aB4 L0 (let Z:=x.aj.f (j9 x.aj id).toNat;let V:=S (n_:y_);(.k (a2 (af ct) bx) (x,id) (x.aj.n<=140737488351232)<|.d (j9 x.aj id<0) (.e<|J.bg [J.agg [I 0,I 0,I 0,V,I 0,V,V,V,I 0,I 0,V],Bo false])<|.g (j9 x.aj id) x.aj.n<|.e<|J.bg [J.agg [I Z.id,I Z.bo,I Z.vr,S Z.name,I Z.mode,S Z.Sg,S Z.Sf,S Z.wR,I Z.nz,I Z.nA,S Z.data],Bo true])) ?_;simp only[av]
 (repeat' with_reducible first|intro _|apply aNd_)<;>first|exact aM|exact WN W|exact(PZ W).symm|exact(Kp W).symm
def s6(m:Int):Bool:=decide<|0<=m/\(m/536870912)%2=1
def be7(m:Int)(h:wf m):Ok P 109 [I m,I 536870912] (Bo<|s6 m):=by
 have hm:=h.2;by_cases h0:0<=m
 .have e1:m.tdiv 536870912=m/536870912:=by grind
  have e2:(m/536870912).tmod 2=m/536870912%2:=by grind
  have e3:oU (m/536870912)=m/536870912:=wrap64 U U;refine al aw L0 (.d (m>=0) (.e<|Bo<|(oU<|m.tdiv 536870912).tmod 2==1) bI) ?_;simp only[e1,e3,e2];simp only[av]
  (repeat' with_reducible first|intro _|apply aNd_)<;>first|exact aM|(unfold s6;exact ga)
 .
  refine al aw L0 (.d (m>=0) (.e<|Bo<|(oU<|m.tdiv 536870912).tmod 2==1) bI) ?_;simp only[av]
  (repeat' with_reducible first|intro _|apply aNd_)<;>first|exact aM|(unfold s6;exact ga)
def be8 {m:Int}(h0:0<=m)(hm:m<=9223372036854775807):(oU (((BitVec.ofInt IntKind.i64.bits m&&&BitVec.ofInt IntKind.i64.bits 536870912).toNat:Nat):Int) !=0)=decide ((m/536870912)%2=1):=by
 obtain⟨k,rfl⟩:=k7 h0;have hb:(BitVec.ofInt IntKind.i64.bits (k:Int)&&&BitVec.ofInt IntKind.i64.bits 536870912).toNat=k&&&536870912:=by show(BitVec.ofInt 64 (k:Int)&&&BitVec.ofInt 64 536870912).toNat=_;rw[BitVec.toNat_and,Fj,Fj];congr 1;omega
 have hk:k&&&536870912=536870912*((k/536870912)%2):=by
  have O:(k&&&2^29)%2^29=0:=by rw[Nat.and_mod_two_pow,Nat.mod_self,Nat.and_zero]
  have h2:(k&&&2^29)/2^29=k/2^29%2:=by rw[Nat.and_div_two_pow,Nat.div_self dD,Nat.and_one_is_mod]
  have h3:=Nat.div_add_mod (k&&&2^29)<|2^29;rw[O,h2]at h3;exact h3.symm
 rw[hb,hk,wrap64 U U,ea,bp,rL];omega
def MS(m:Int)(h:wf m):Ok P 82 [I m,I 536870912] (Bo<|s6 m):=by
 have hm:=h.2;by_cases h0:0<=m
 .have e:=be8 h0 hm;refine al aw L0 (.d (m>=0) (.e<|Bo<|oU (↑(BitVec.ofInt IntKind.i64.bits m&&&BitVec.ofInt IntKind.i64.bits 536870912).toNat:Int) !=0) bI) ?_;simp only[av]
  (repeat' with_reducible first|intro _|apply aNd_)<;>first|exact aM|(refine ba Bo ?_;rw[e];unfold s6;grind)
 .
  refine al aw L0 (.d (m>=0) (.e<|Bo<|oU (↑(BitVec.ofInt IntKind.i64.bits m&&&BitVec.ofInt IntKind.i64.bits 536870912).toNat:Int) !=0) bI) ?_;simp only[av]
  (repeat' with_reducible first|intro _|apply aNd_)<;>first|exact aM|(unfold s6;exact ga)
end
theorem P1:∀a b:l_ UInt8,(Op.bytesLess b a||b==a)= !Op.bytesLess a b
 | [],[]=>rfl
 | [],b::y=>rfl
 |a::x,[]=>rfl
 |a::x,b::y=>by
  have ih:=P1 x y;have Y:(b::y==a::x)=(b==a&&y==x):=rfl;simp only[Op.bytesLess,Y];rcases rD a.toNat b.toNat with h|h|h
  .have O:a<b:=h;have h2: ¬b<a:=by grind
   have h3: ¬b=a:=λe=>by subst e;exact nI _ h
   simp [O,h2,h3]
  .have e:=xF.1 h;subst e;have O: ¬a<a:=sS;simp [O];rw[<-ih]
  .have O:b<a:=h;have h2: ¬a<b:=by grind
   have h3: ¬a=b:=λe=>by subst e;exact nI _ h
   simp [O,h2,h3]
def EQ:Env:=aF 59 (bN (a1 aQ) (λs=>Bo (gn s.data.toList)) λs=>s.size<=aq)<|aF 101 (bN (a1 aQ) (λs=>Bo (gn s.data.toList)) λs=>s.size<=aq) EN
def WO:an P EQ:=ah (ah aw vw) oX
def vW(l:bh iX)(i:Nat):Int:=if gn (l.f i).gf.data.toList=false then 25 else if 0<i/\Op.bytesLess (l.f<|i-1).gf.toList (l.f i).gf.toList=false then 2 else if(l.f i).bL<0\/(l.f i).bytes<0\/9007199254740991<(l.f i).bL\/9007199254740991<(l.f i).bytes then 5 else 0
def Ty(l:bh iX)(i:Nat):Bool:=decide<|vW l i≠0
def P2(l:bh iX)(i:Nat):Ty l i=true↔vW l i≠0:=bp
def WQ {l:bh iX} {i:Nat}(h:gn (l.f i).gf.data.toList=false):vW l i=25:=if_pos h
def aB6 {l:bh iX} {i:Nat}(h:gn (l.f i).gf.data.toList=true)(h2:0<i/\Op.bytesLess (l.f<|i-1).gf.toList (l.f i).gf.toList=false):vW l i=2:=by unfold vW;rw[if_neg (by rw[h];simp),if_pos h2]
def MT {l:bh iX} {i:Nat}(h:gn (l.f i).gf.data.toList=true)(h2: ¬(0<i/\Op.bytesLess (l.f<|i-1).gf.toList (l.f i).gf.toList=false)):vW l i=if(l.f i).bL<0\/(l.f i).bytes<0\/9007199254740991<(l.f i).bL\/9007199254740991<(l.f i).bytes then 5 else 0:=by unfold vW;rw[if_neg (by rw[h];simp),if_neg h2]
def ra(l:bh iX):Int:=if 64<l.n then 22 else if ar l.n (Ty l)=true then vW l (aE l.n<|Ty l)else 0
def Z3(l:bh iX)(h:wf l):Ok P 79 [(ak iX).au l] (I<|ra l):=by
 have hn:=h.1;have lp:=yM f79 4 l.n (Ty l) (λi=>(M 50 [(0,(ak iX).au l),(2,I 0),(8,(ak iX).au l),(9,I l.n),(10,I i)])) [] (λi=>(.ret,(M 50 [(2,I<|vW l i)]),[])) (ey 0<|M 50 [(2,I 0)]) λi hi lt aW az aR=>by
  refine ao WO L0 [0,2,8,9,10] [2] (let V:=oU ((i:Int)-1);let aG:=(Out.ret,(M 50 [(2,I 5)]),[]);let Z:nV:=(.d ((if(l.f i).bytes<(l.f i).bL then(l.f i).bytes else(l.f i).bL)<0) (.e aG)<|.d ((if(l.f i).bytes>(l.f i).bL then(l.f i).bytes else(l.f i).bL)>9007199254740991) (.e aG)<|bR (M 50 [(0,(ak iX).au l),(2,I 0),(8,(ak iX).au l),(9,I l.n),(10,I<|oU<|(i:Int)+1)]) []);(.d ((i:Int)<l.n) (.g i l.n<|.k (a1 aQ) (l.f i).gf ((l.f i).gf.size<=140737488351232)<|.m (gn (l.f i).gf.data.toList) (kG (M 50 [(2,I 25)]) [])<|.d ((i:Int)>0) (.g V l.n<|.n (Op.bytesLess (l.f i).gf.toList (l.f V.toNat).gf.toList||(l.f i).gf.toList==(l.f V.toNat).gf.toList) (kG (M 50 [(2,I 2)]) []) Z) Z)<|fv 0 (M 50 [(2,I 0)]) [])) ?_;have Y:=P2 l i;simp only[lQ<|cm hi hn,jF,bB9,bc8,P1];simp only[av]
  (repeat' with_reducible first|intro _|apply aNd_)<;>first|exact aM|exact(h.2 i).1|(have e:=WQ (l:=l) (i:=i) W;rw[e]at az;exact az U (Y.2 U))|(have e:=aB6 (l:=l) (i:=i) W ⟨U,by grind⟩;rw[e]at az;exact az U (Y.2 U))|(have e:=(MT (l:=l) (i:=i) W<|by grind).trans (if_pos U);rw[e]at az;exact az U (Y.2 U))|(have e:=(MT (l:=l) (i:=i) W<|by grind).trans (if_neg U);rw[bZ (n:=l.n) U hn];exact aW U (bF Y U))
 refine al WO (kR lp [0,2,8,9,10]) (.d ((l.n:Int)>64) (.e<|I 22)<|jS lp (.e<|I<|vW l<|aE l.n<|Ty l) qo) ?_;simp only[av]
 repeat' with_reducible first|intro _|apply aNd_
 all_goals (refine ba I ?_;unfold ra;exact spL)
def Tz(l:bh iX)(h:wf l):Ok P 106 [(ak iX).au l] (I<|ra l):=by
 have hn:=h.1;have lp:=yM f106 4 l.n (Ty l) (λi=>(M 53 [(0,(ak iX).au l),(2,I 0),(3,I i)])) [] (λi=>(.ret,(M 53 [(2,I<|vW l i)]),[])) (ey 0<|M 53 [(2,I 0)]) λi hi lt aW az aR=>by
  refine ao WO L0 [0,2,3] [2] (let V:nV:=(kG (M 53 [(2,I 5)]) []);let Z:nV:=(.d ((l.f i).bL<0) V<|.d ((l.f i).bL>9007199254740991) V<|.d ((l.f i).bytes<0) V<|.d ((l.f i).bytes>9007199254740991) V<|bR (M 53 [(0,(ak iX).au l),(2,I 0),(3,I<|oU<|(i:Int)+1)]) []);let aG:=oU ((i:Int)-1);(.d ((i:Int)<l.n) (.g i l.n<|.k (a1 aQ) (l.f i).gf ((l.f i).gf.size<=140737488351232)<|.m (gn (l.f i).gf.data.toList) (kG (M 53 [(2,I 25)]) [])<|.d ((i:Int)>0) (.g aG l.n<|.m (Op.bytesLess (l.f aG.toNat).gf.toList (l.f i).gf.toList) (kG (M 53 [(2,I 2)]) []) Z) Z)<|fv 0 (M 53 [(2,I 0)]) [])) ?_;have Y:=P2 l i;simp only[lQ<|cm hi hn,jF];simp only[av]
  (repeat' with_reducible first|intro _|apply aNd_)<;>first|exact aM|exact(h.2 i).1|(have e:=WQ (l:=l) (i:=i) W;rw[e]at az;exact az U (Y.2 U))|(have e:=aB6 (l:=l) (i:=i) W ⟨U,by grind⟩;rw[e]at az;exact az U (Y.2 U))|(have e:=(MT (l:=l) (i:=i) W<|by grind).trans (if_pos U);rw[e]at az;exact az U (Y.2 U))|(have e:=(MT (l:=l) (i:=i) W<|by grind).trans (if_neg U);rw[bZ (n:=l.n) U hn];exact aW U (bF Y U))
 refine al WO (kR lp [0,2,3]) (.d ((l.n:Int)>64) (.e<|I 22)<|jS lp (.e<|I<|vW l<|aE l.n<|Ty l) qo) ?_;simp only[av]
 repeat' with_reducible first|intro _|apply aNd_
 all_goals (refine ba I ?_;unfold ra;exact spL)
def WR:Int:=536870912
def EFS:Env:=aF 78 (bN (a1<|ak gQ) (λx=>I (vx x)) wf)<|aF 79 (bN (a1<|ak iX) (λx=>I (ra x)) wf)<|aF 80 (bN (a1<|af ct) (λx=>Bo (eb x)) wf)<|aF 81 (bN (a2 (af ct) bx) (λx=>D2 x.1.aj x.2) λx=>x.1.aj.n<=aq)<|aF 82 (bN (a2 bx bx) (λm=>Bo (s6 m.1)) λm=>wf m.1/\m.2=WR) EN
def aB7:an P EFS:=ah (ah (ah (ah (ah aw λm h=>by have:=MS m.1 h.1;rw[show(536870912:Int)=m.2 from h.2.symm]at this;exact this) λx h=>P0 x.1 x.2 h) λx h=>CI x h) λx h=>Z3 x h) λx h=>ZY x h
def b77:Env:=aF 105 (bN (a1<|ak gQ) (λx=>I (vx x)) wf)<|aF 106 (bN (a1<|ak iX) (λx=>I (ra x)) wf)<|aF 107 (bN (a1<|af ct) (λx=>Bo (eb x)) wf)<|aF 108 (bN (a2 (af ct) bx) (λx=>D2 x.1.aj x.2) λx=>x.1.aj.n<=aq)<|aF 109 (bN (a2 bx bx) (λm=>Bo (s6 m.1)) λm=>wf m.1/\m.2=WR) EN
def D3(x:ct)(h:wf x):Ok P 107 [(af ct).au x] (Bo<|eb x):=by rw[<-PY];exact Hm x h
def WS:an P b77:=ah (ah (ah (ah (ah aw λm h=>by have:=be7 m.1 h.1;rw[show(536870912:Int)=m.2 from h.2.symm]at this;exact this) λx h=>aB5 x.1 x.2 h) λx h=>D3 x h) λx h=>Tz x h) λx h=>To x h
def WT(l:bh Int):Nat->Int
 |0=>0
 |i+1=>l.f i
def WU(l:bh aV)(id:Int):aV:=if j9 l id<0 then zD else l.f (j9 l id).toNat
def P3 {l:bh aV}(h:∀i,wf (l.f i))(id:Int):wf (WU l id).mode:=by
 unfold WU;split
 .exact⟨dD,dD⟩
 .exact(h _).2.2.2.2.1
def WV(x:cQ)(i:Nat):Prop:=j9 x.gu.aj (x.gm.f i)<0\/s6 (WU x.gu.aj<|x.gm.f i).mode=false\/x.gm.f i<=WT x.gm i
instance(x:cQ)(i:Nat):Decidable (WV x i):=by unfold WV;infer_instance
def Kq(x:cQ)(i:Nat):Bool:=decide<|WV x i
def Z4(x:cQ)(i:Nat):Kq x i=true↔(j9 x.gu.aj (x.gm.f i)<0\/s6 (if j9 x.gu.aj (x.gm.f i)<0 then zD else x.gu.aj.f (j9 x.gu.aj<|x.gm.f i).toNat).mode=false\/x.gm.f i<=WT x.gm i):=bp
def my(x:cQ):Bool:=decide<|vx x.ly=0/\ra x.jf=0/\eb x.gu=true/\ar x.gm.n (Kq x)=false
def MU(x:cQ)(i:Nat):Prop:=j9 x.gu.aj (x.gm.f i)<0\/s6 (WU x.gu.aj<|x.gm.f i).mode=false\/(0<i/\x.gm.f i<=x.gm.f (i-1))
instance(x:cQ)(i:Nat):Decidable (MU x i):=by unfold MU;infer_instance
def Ho(x:cQ)(i:Nat):Bool:=decide<|MU x i
def TA(x:cQ)(i:Nat):Ho x i=true↔(j9 x.gu.aj (x.gm.f i)<0\/s6 (if j9 x.gu.aj (x.gm.f i)<0 then zD else x.gu.aj.f (j9 x.gu.aj<|x.gm.f i).toNat).mode=false\/(0<i/\x.gm.f i<=x.gm.f (i-1))):=bp
def aB8 {x:ct}(h:eb x=true) {id:Int}(hi: ¬j9 x.aj id<0):1<=id:=by
 have hb:=(cn h)
 obtain⟨O,h2,h3,h4⟩:=hb;have N:∀i,i<x.aj.n-> ¬PW x i:=λi hn hb=>fW (bc.1 h4 i hn) hb;have ha:∀i,0<i->i<x.aj.n->(x.aj.f<|i-1).id<(x.aj.f i).id:=λi hi hn=>xG.1 λhb=>N i hn<|.inr<|.inr<|.inl ⟨hi,hb⟩;have h0:=mj λq=>N 0 U<|.inr<|.inr<|.inr<|.inl ⟨rfl,.inl q⟩;have aB9:ar x.aj.n (λi=>(x.aj.f i).id==id)=true:=by have:=iw (n:=x.aj.n) (b:=λi=>(x.aj.f i).id==id);rw[<-this];exact cd (show 0<=j9 x.aj id by omega)
 obtain⟨j,hj,hq⟩:=cG.1 aB9;have hq:(x.aj.f j).id=id:=by grind
 by_cases hj0:j=0
 .subst hj0;omega
 .have:(x.aj.f 0).id<(x.aj.f j).id:=zC (λi=>(x.aj.f i).id) x.aj.n ha j 0 U hj;omega
def P4 {x:cQ}(h:eb x.gu=true):ar x.gm.n (Ho x)=ar x.gm.n (Kq x):=ng λi _=>by
 unfold Ho Kq;rw[oM];unfold MU WV;cases i with
 |zero=>
  constructor
  .rintro(O|O|O)
   .exact .inl O
   .exact .inr<|.inl O
   .omega
  .rintro(O|O|O)
   .exact .inl O
   .exact .inr<|.inl O
   .refine .inl<|mj λh2=> ?_;have:=aB8 h h2;have:x.gm.f 0<=0:=O;omega
 |succ i=>
  constructor
  .rintro(O|O|O)
   .exact .inl O
   .exact .inr<|.inl O
   .exact .inr<|.inr O.2
  .rintro(O|O|O)
   .exact .inl O
   .exact .inr<|.inl O
   .exact .inr<|.inr ⟨U,O⟩
def Z5(x:cQ):(eb x.gu=true/\ar x.gm.n (Ho x)=false)↔(eb x.gu=true/\ar x.gm.n (Kq x)=false):=by
 constructor
 .rintro⟨O,h2⟩;exact⟨O,by rw[<-P4 O];exact h2⟩
 .rintro⟨O,h2⟩;exact⟨O,by rw[P4 O];exact h2⟩
def Kr(x:cQ)(h:wf x):Ok P 37 [(af cQ).au x] (Bo<|my x):=by
 have hn:=h.2.2.2.1;have ht:=h.2.2.1.2.1;have hm:=λid=>P3 h.2.2.1.2.2 id;have lp:=yM f37 5 x.gm.n (Kq x) (λi=>(M 53 [(1,aT),(2,aP),(3,I<|WT x.gm i),(25,(ak Int).au x.gm),(26,I x.gm.n),(27,I i)])) [(cM [aY.cells x] 5)] (eR<|M 53 [(2,aP)]) (ey 0<|M 53 [(2,aP)]) λi hi lt aW az aR=>by
  refine ao aB7 L0 [1,2,3,25,26,27] [2] (let V:=x.gm.f i;let Z:=if j9 x.gu.aj V<0 then zD else x.gu.aj.f (j9 x.gu.aj V).toNat;(.d ((i:Int)<x.gm.n) (.g i x.gm.n<|.k (a2 (af ct) bx) (x.gu,x.gm.f i) (x.gu.aj.n<=140737488351232)<|.m (decide ¬j9 x.gu.aj V<0) (eH az)<|.k (a2 bx bx) (Z.mode,536870912) (wf Z.mode/\536870912=WR)<|.m (s6 Z.mode) (eH az)<|.d (x.gm.f i<=WT x.gm i) (eH az)<|bR (M 53 [(1,aT),(2,aP),(3,I V),(25,(ak Int).au x.gm),(26,I x.gm.n),(27,I<|oU<|(i:Int)+1)]) [cM [(aY.cells x)] 5])<|fv 0 (M 53 [(2,aP)]) [])) ?_;have Y:=Z4 x i;simp only[av,bK,bO]
  (repeat' with_reducible first|intro _|apply aNd_)<;>first|exact aM|exact hm _
 refine al aB7 (kR lp [1,2,3,25,26,27]) (let Z:ix:=bI;(.k (a1<|ak gQ) x.ly (wf x.ly)<|.u (vx x.ly) 0 Z<|.k (a1<|ak iX) x.jf (wf x.jf)<|.u (ra x.jf) 0 Z<|.k (a1<|af ct) x.gu (wf x.gu)<|.m (eb x.gu) Z<|jS lp Z fo)) ?_;simp only[av]
 (repeat' with_reducible first|intro _|apply aNd_)<;>first|exact aM|(clear lp hm h;unfold my;exact ga)
def Hq(x:cQ)(h:wf x):Ok P 53 [(af cQ).au x] (Bo<|my x):=by
 have hn:=h.2.2.2.1;have ht:=h.2.2.1.2.1;have hm:=λid=>P3 h.2.2.1.2.2 id;have F:=Z5 x;have lp:=fF f53 4 x.gm.n (Ho x) (λi=>(M 66 [(1,aT),(2,aP),(24,I x.gm.n),(25,I i)])) [(cM [aY.cells x] 5)] (eR<|M 66 [(2,aP)]) (ey 0<|M 66 [(2,aP)]) λi hi lt aW az aR=>by
  refine ao WS L0 [1,2,24,25] [2] (let V:=oU ((i:Int)-1);let aG:=x.gm.f i;let Z:=if j9 x.gu.aj aG<0 then zD else x.gu.aj.f (j9 x.gu.aj aG).toNat;(.d ((i:Int)<x.gm.n) (.g i x.gm.n<|.k (a2 (af ct) bx) (x.gu,x.gm.f i) (x.gu.aj.n<=140737488351232)<|.m (decide ¬j9 x.gu.aj aG<0) (eH az)<|.k (a2 bx bx) (Z.mode,536870912) (wf Z.mode/\536870912=WR)<|.m (s6 Z.mode) (eH az)<|.d ((i:Int)>0) (.g V x.gm.n<|.g i x.gm.n<|.d (x.gm.f V.toNat>=x.gm.f i) (eH az)<|eG aW)<|eG aW)<|eY aR)) ?_;have Y:=TA x i
  (try simp only[lQ<|cm hi hn,jF])
  simp only[av,bK,bO]
  (repeat' with_reducible first|intro _|apply aNd_)<;>first|exact aM|exact hm _
 refine al WS (kR lp [1,2,24,25]) (let Z:ix:=bI;(.k (a1<|ak gQ) x.ly (wf x.ly)<|.u (vx x.ly) 0 Z<|.k (a1<|ak iX) x.jf (wf x.jf)<|.u (ra x.jf) 0 Z<|.k (a1<|af ct) x.gu (wf x.gu)<|.m (eb x.gu) Z<|jS lp Z fo)) ?_;simp only[av]
 (repeat' with_reducible first|intro _|apply aNd_)<;>first|exact aM|(clear lp hm h;unfold my;exact ga)
abbrev gK(n:Int):J:= .sc<|.int .u32 n
def Hr(x y:Int):Int:=IntKind.u32.wrap ((BitVec.ofInt IntKind.u32.bits x|||BitVec.ofInt IntKind.u32.bits y).toNat:Int)
def gX(x y:Int):Int:=IntKind.u32.wrap ((BitVec.ofInt IntKind.u32.bits x^^^BitVec.ofInt IntKind.u32.bits y).toNat:Int)
def rX(x y:Int):Int:=IntKind.u32.wrap ((BitVec.ofInt IntKind.u32.bits x&&&BitVec.ofInt IntKind.u32.bits y).toNat:Int)
def dM(x y:Int):Int:=IntKind.u32.wrap<|x+y
def P5(x:Int)(k:Nat):Int:=IntKind.u32.wrap<|x*2^min k IntKind.u32.bits
def kp(x:Int)(k:Nat):Int:=x.fdiv<|2^min k IntKind.u32.bits
def wk(x k:Int):Int:=Hr (kp x k.toNat)<|P5 x (oU<|32-k).toNat
def cnt(k:Int):Int:=IntKind.u64.wrap ((BitVec.ofInt IntKind.u64.bits (IntKind.u64.wrap k)&&&BitVec.ofInt IntKind.u64.bits 31).toNat:Int)
def rotl(x k:Int):Int:=Hr (P5 x (cnt k).toNat)<|kp x (IntKind.u64.wrap<|32-cnt k).toNat
def bv8(a b c d:Int):Int:=Hr (Hr (Hr (P5 (IntKind.u32.wrap a) 24)<|P5 (IntKind.u32.wrap b) 16)<|P5 (IntKind.u32.wrap c) 8)<|IntKind.u32.wrap d
def byt(s:y_)(i:Nat):Int:=((s.data.toList.getD i 0).toNat:Int)
def Hs(s:y_):Int:=bv8 (byt s 0) (byt s 1) (byt s 2)<|byt s 3
def Z6(x y:Int):Hr x y=Hr y x:=by unfold Hr;rw[BitVec.or_comm]
def fb(k:Int):Prop:=k=2\/k=3\/k=6\/k=7\/k=10\/k=11\/k=13\/k=17\/k=18\/k=19\/k=22\/k=25
def be9(x k:Int)(h:fb k):rotl x (0-k)=wk x k:=by unfold rotl wk;rw[Z6];rcases h with rfl|rfl|rfl|rfl|rfl|rfl|rfl|rfl|rfl|rfl|rfl|rfl<;>rfl
def aC0 {r:J} {ob:l_ Prop}(h:ow ob):(Tr.jh r ob).j6 (· =r):=⟨h,rfl⟩
def bf0(x k:Int)(h:fb k):Ok P 392 [gK x,I<|0-k] (gK<|rotl x<|0-k):=by rcases h with rfl|rfl|rfl|rfl|rfl|rfl|rfl|rfl|rfl|rfl|rfl|rfl;all_goals exact DS aw L0 func392 (.jh _ []) kK<|aC0 trivial
def bf1(x k:Int)(h:fb k):Ok P 365 [gK x,I k] (gK<|wk x k):=by rcases h with rfl|rfl|rfl|rfl|rfl|rfl|rfl|rfl|rfl|rfl|rfl|rfl;all_goals exact DS aw L0 func365 (.jh _ []) kK<|aC0 trivial
def EH1:Env:=aF 392 (bN (a2 (oD .u32) bx) (λx=>gK (rotl x.1 x.2)) λx=>fb (0-x.2)/\x.2=0-(0-x.2)) EN
def bC9:an P EH1:=ah aw λx h=>by have:=bf0 x.1 (0-x.2) h.1;rw[<-h.2]at this;exact this
def Z7(x k:Int)(h:fb k):Ok P 380 [gK x,I k] (gK<|wk x k):=by
 rw[<-be9 x k h];have hk:fb (0-(0-k))/\(0-k)=0-(0-(0-k)):=by grind
 have hw:oU (0-k)=0-k:=by rcases h with rfl|rfl|rfl|rfl|rfl|rfl|rfl|rfl|rfl|rfl|rfl|rfl<;>rfl
 refine DS bC9 L0 func380 (.jh (gK<|rotl x<|oU<|0-k) [(a2 (oD .u32) bx).au (x,oU<|0-k)=(a2 (oD .u32) bx).au (x,oU<|0-k),fb (0-oU (0-k))/\oU (0-k)=0-(0-oU (0-k))]) kK ?_;rw[hw];exact⟨⟨rfl,hk,trivial⟩,rfl⟩
def aC1(s:y_)(h:4<=s.size):Ok P 391 [S s] (gK<|Hs s):=by refine DS aw L0 func391 (.jh (gK<|Hs s) [(0:Int)<=0,(0:Int)<s.size,(0:Int)<=1,(1:Int)<s.size,(0:Int)<=2,(2:Int)<s.size,(0:Int)<=3,(3:Int)<s.size]) kK<|aC0 ?_;refine⟨?_,?_,?_,?_,?_,?_,?_,?_,trivial⟩<;>omega
def sg0(a:Int):Int:=gX (gX (wk a 7)<|wk a 18)<|kp a 3
def sg1(a:Int):Int:=gX (gX (wk a 17)<|wk a 19)<|kp a 10
def WW(p:y_)(n:Nat):Int:=bv8 (byt p<|4*n) (byt p<|4*n+1) (byt p<|4*n+2)<|byt p<|4*n+3
def P6(l:l_ Int)(n:Nat)(p:y_):Int:=if n<16 then WW p n else dM (dM (dM (l.getD (n-16) 0)<|sg0<|l.getD (n-15) 0)<|l.getD (n-7) 0) (sg1<|l.getD (n-2) 0)
def eO(p:y_):Nat->l_ Int
 |0=> []
 |n+1=>eO p n++ [P6 (eO p n) n p]
theorem rY(p:y_):∀n,(eO p n).length=n
 |0=>rfl
 |n+1=>by unfold eO;rw[br,rY p n];rfl
def gY(l:l_ Int):l_ J:=(List.range 64).map λj=>gK<|l.getD j 0
def oY(l:l_ Int)(j:Nat)(h:j<64):(gY l)[j]?=some (gK<|l.getD j 0):=by unfold gY;rw[b9,qh h];rfl
def Z8(l:l_ Int)(x:Int)(h:l.length<64):PS.splice (gY l) l.length [gK x]=gY (l++ [x]):=by
 have hl:(gY l).length=64:=by unfold gY;simp
 apply k6;intro j;rw[show(PS.splice (gY l) l.length [gK x])[j]?=_ from oQ _ _ _ _ (by rw[hl];simp;omega)];by_cases O:j<l.length
 .rw[if_pos O,oY l j U,oY (l++ [x]) j U,cc,cc,dy O]
 .rw[if_neg O];by_cases h2:j=l.length
  .subst h2;rw[if_pos sS,xA,oY (l++ [x]) l.length U,cc,gj<|bE _,xA];rfl
  .rw[if_neg (by simp;omega)];by_cases h3:j<64
   .have e1:l.getD j 0=0:=by rw[cc,gx U];rfl
    have e2:(l++ [x]).getD j 0=0:=by rw[cc,gx (by simp;omega)];rfl
    rw[oY _ _ h3,oY _ _ h3,e1,e2]
   .rw[gx U,gx (by unfold gY;simp;omega)]
def aC2:Env:=aF 380 (bN (a2 (oD .u32) bx) (λx=>gK (wk x.1 x.2)) λx=>fb x.2)<|aF 391 (bN (a1 aQ) (λs=>gK (Hs s)) λs=>4<=s.size) EN
def Bm:an P aC2:=ah (ah aw λs h=>aC1 s h) λx h=>Z7 x.1 x.2 h
def EHS(l:l_ Int):Env:=vV (λid _ off=>match id with
 |1=>some (.cell (gK (l.getD off 0)))
 |_=>none) aC2
def bD0(l:l_ Int):an P (EHS l):=j7 Bm
def aC3(s:y_)(a b:Nat):(s.extract a b).data.toList=(s.data.toList.drop a).take (b-a):=by simp
def ext_get(s:y_)(a b j:Nat)(h:a+j<b):byt (s.extract a b) j=byt s (a+j):=by unfold byt;rw[aC3,cc,lH U,iO,<-cc]
def Z9(p:y_)(n:Nat)(h:4*n+3<p.size):Hs (p.extract (4*n) p.size)=WW p n:=by unfold Hs WW;rw[ext_get _ _ _ _ U,ext_get _ _ _ _ U,ext_get _ _ _ _ U,ext_get _ _ _ _ U];rfl
def P7 {c:Code} {lt:PS.LT} {p:y_} {i:Nat} {B0:dW} {T:l_ J}(x:Int)(hx:x=P6 (eO p i) i p)(hi:i<64)(h:aO P c T [B0,⟨[gY<|eO p<|i+1],0,[],64,true,false⟩] lt):
  aO P c T [B0,⟨[PS.splice ([gY<|eO p i].getD 0 []) i [gK x]],0,[],64,true,false⟩] lt:=by
 show aO P c T [B0,⟨[PS.splice (gY<|eO p i) i [gK x]],0,[],64,true,false⟩] lt;have hl:=rY p i;have e:PS.splice (gY<|eO p i) i [gK x]=gY (eO p<|i+1):=by have:=Z8 (eO p i) x U;rw[hl]at this;rw[this,hx];rfl
 rw[e];exact h
def bD1 {p:y_} {i:Nat}(h:i<16)(hp:p.size=64):Hs (p.extract (4*i) p.size)=P6 (eO p i) i p:=by rw[Z9 p i U];exact(if_pos h).symm
def bD2 {p:y_} {i:Nat}(h: ¬i<16):dM (dM (dM ((eO p i).getD (i-16) 0)<|sg0<|(eO p i).getD (i-15) 0)<|(eO p i).getD (i-7) 0) (sg1<|(eO p i).getD (i-2) 0)=P6 (eO p i) i p:=(if_neg h).symm
def aC4(l:l_ Int)(j:Nat)(h:j<64):([gY l][0]?.bind λe=>e[j]?)=some (gK<|l.getD j 0):=oY l j h
def bW5(p:y_):gD:=tI [0,2,3,9] [(2,64),(3,64)] 64 (λ_=>false) (λ_=>(M 62 [(2,.ptr 0 0 0)])) (M 62 [(2,.ptr 0 0 0),(3,.ptr 1 0 0)]) (.ext 0) (λ_=> [⟨[gY []],0,[],64,true,false⟩]) [⟨[gY []],0,[],64,true,false⟩,⟨[gY<|eO p 64],0,[],64,true,false⟩]
def TB(z0:l_ J)(p:y_)(hp:p.size=64):aO P (aD f379 3) (M 62 [(0,S p),(2,.ptr 0 0 0),(3,.ptr 1 0 0),(9,I ((0:Nat):Int))]) [⟨[z0],0,[],64,true,false⟩,⟨[gY<|eO p 0],0,[],64,true,false⟩] (.ite (ar 64 λ_=>false) (.out .ret (M 62 [(2,.ptr 0 0 0)]) [⟨[z0],0,[],64,true,false⟩])<|.out (.ext 0) (M 62 [(2,.ptr 0 0 0),(3,.ptr 1 0 0)]) [⟨[z0],0,[],64,true,false⟩,⟨[gY<|eO p 64],0,[],64,true,false⟩]):=by
 have h64:64<=aq:=dD;have lp:=qp f379 3 64 (λ_=>false) (λi=>(M 62 [(0,S p),(2,aT),(3,.ptr 1 0 0),(9,I i)])) (λi=> [(dn [z0] 64),(dn [gY<|eO p i] 64)]) (λi=>(.ret,(M 62 [(2,aT)]),[(dn [z0] 64)])) (.ext 0,(M 62 [(2,aT),(3,.ptr 1 0 0)]),[(dn [z0] 64),(dn [gY<|eO p 64] 64)]) λi hi lt aW az aR=>by
  have hl:=rY p i;have e4:oU (4*(i:Int))=((4*i:Nat):Int):=by rw[wrap64 U U];omega
  have e15:oU ((i:Int)-15)=(i:Int)-15:=wrap64 U U;have e2:oU ((i:Int)-2)=(i:Int)-2:=wrap64 U U;have e16:oU ((i:Int)-16)=(i:Int)-16:=wrap64 U U;have e7:oU ((i:Int)-7)=(i:Int)-7:=wrap64 U U;have e1:oU ((i:Int)+1)=((i+1:Nat):Int):=by rw[wrap64 U U];omega
  have t15:((i:Int)-15).toNat=i-15:=U;have t2:((i:Int)-2).toNat=i-2:=U;have t16:((i:Int)-16).toNat=i-16:=U;have t7:((i:Int)-7).toNat=i-7:=U;refine ao (bD0<|eO p i) L0 [0,2,3,9] [2,10003] (let Z:=oU ((i:Int)-15);let V:=oU ((i:Int)-2);let aG:=eO p i;let aS:=p.extract (oU<|4*(i:Int)).toNat p.size;let bn:=oU ((i:Int)-16);let bH:=oU ((i:Int)-7);let cp:=a2 (oD IntKind.u32) bx;let cu:=M 62 [(0,S p),(2,aT),(3,dK 1),(9,I<|oU<|(i:Int)+1)];let dk:=aG.getD (0+Z.toNat*1) 0;let bu:=aG.getD (0+V.toNat*1) 0;let bC:=[gY aG];let bP:=aG.getD (0+bn.toNat*1) 0;let bY:=aG.getD (0+bH.toNat*1) 0;let cN:=(p.size:Int);let dE:=aG.getD (0+Z.toNat*1) 0;let dV:=aG.getD (0+V.toNat*1) 0;(.d ((i:Int)<64) (.d ((i:Int)<16) (.o [(0:Int)<=oU (4*(i:Int)),oU (4*(i:Int))<=cN,cN<=cN]<|.k (a1 aQ) aS (4<=aS.size)<|.g i 64<|.o [0<1,0+i*1+1<=64]<|bR cu [dn [z0] 64,dn [PS.splice (bC.getD 0 []) (0+i*1) [aI<|Hs aS]] 64])<|.g Z 64<|.o [(bC[0]?.bind λe=>e[0+Z.toNat*1]?)=some (gK dk)]<|.g V 64<|.o [(bC[0]?.bind λe=>e[0+V.toNat*1]?)=some (gK bu)]<|.k cp (dE,7) (fb 7)<|.k cp (dE,18) (fb 18)<|.k cp (dV,17) (fb 17)<|.k cp (dV,19) (fb 19)<|.g bn 64<|.o [(bC[0]?.bind λe=>e[0+bn.toNat*1]?)=some (gK bP)]<|.g bH 64<|.o [(bC[0]?.bind λe=>e[0+bH.toNat*1]?)=some (gK bY)]<|.g i 64<|.o [0<1,0+i*1+1<=64]<|bR cu [dn [z0] 64,dn [PS.splice (bC.getD 0 []) (0+i*1) [aI<|dM (dM (dM bP<|gX (gX (wk dk 7)<|wk dk 18)<|kp dk 3) bY)<|gX (gX (wk bu 17)<|wk bu 19)<|kp bu 10]] 64])<|fv 0 (M 62 [(2,aT),(3,dK 1)]) [dn [z0] 64,dn [(gY aG)] 64])) ?_;have Y:=(di:False↔False)
  (simp only[e4,e15,e2,e16,e7,e1,t15,t2,t16,t7,dL,eP,xy];clear e4 e15 e2 e16 e7 e1 t15 t2 t16 t7)
  simp only[av]
  (repeat' with_reducible first|intro _|apply aNd_)<;>first|trivial|omega|(rw[AD];omega)|(have e:i=64:=U;subst e;exact aR rfl)|exact aC4 _ _ U|(show fb _;unfold fb;omega)|(have h16:i<16:=U;refine P7 _ ?_ U (aW U rfl);exact bD1 h16 hp)|(have h16: ¬i<16:=U;refine P7 _ ?_ U (aW U rfl);exact bD2 h16)
 exact lp
def P8(p:y_)(hp:p.size=64):Ok P 379 [S p] (.agg<|gY<|eO p 64):=by
 have lp:=TB (gY []) p hp;have hF:(ar 64 λ_=>false)=false:=dD;refine al Bm (bW5 p) (let Z:=dn [(gY [])] 64;let V:=(M 62 [(0,S p),(2,aT),(3,dK 1),(9,I 0)]);(.n false (.o [ax P (aD f379 3) V [Z,Z] (Out.ret) (M 62 [(2,aT)]) [dn [(gY [])] 64]]<|.e<|J.agg<|gY [])<|.o [ax P (aD f379 3) V [Z,Z] (Out.ext 0) (M 62 [(2,aT),(3,dK 1)]) [Z,dn [(gY<|eO p 64)] 64]]<|.e<|J.agg<|gY<|eO p 64)) ?_;simp only[av]
 (repeat' with_reducible first|intro _|apply aNd_)<;>first|trivial|exact(lp.f hF).one
def jg(l:l_ Int):l_ (l_ J):=l.map λx=> [gK x]
def vz(l:l_ Int):(jg l).length=l.length:=by unfold jg;rw[gS]
def D4(l:l_ Int)(s:Int):jg (l++ [s])=jg l++ [[gK s]]:=by unfold jg;rw[mr];rfl
def vA(l:l_ Int)(i:Nat)(h:i<l.length):(jg l)[i]?=some [gK<|l.getD i 0]:=by unfold jg;rw[b9,bX h,cc,bX h];rfl
def Bn(n:Nat):ar n (λ_=>false)=false:=bc.2 λ_ _=>rfl
def bD3:Env:=aF 365 (bN (a2 (oD .u32) bx) (λx=>gK (wk x.1 x.2)) λx=>fb x.2) EN
def Bp:an P bD3:=ah aw λx h=>bf1 x.1 x.2 h
def EHT(l:l_ Int):Env:=vV (λid i _=>match id with
 |0=>some (.elem [gK (l.getD i 0)])
 |_=>none) bD3
def bD4(l:l_ Int):an P (EHT l):=j7 Bp
def bD5 {p:y_} {i:Nat}(h:i<16):eO p (i+1)=eO p i++ [WW p i]:=by show eO p i++ [P6 (eO p i) i p]=_;unfold P6;rw[if_pos h]
def bD6 {p:y_} {i:Nat}:eO p (16+i+1)=eO p (16+i)++ [dM (dM (dM ((eO p<|16+i).getD (16+i-16) 0)<|sg0<|(eO p<|16+i).getD (16+i-15) 0)<|(eO p<|16+i).getD (16+i-7) 0)<|sg1<|(eO p<|16+i).getD (16+i-2) 0]:=by show eO p (16+i)++ [P6 (eO p<|16+i) (16+i) p]=_;unfold P6;rw[if_neg U]
def TD(p:y_)(hp:p.size=64)(m k:Nat)(hm:m=16)(hk:k=64):Ok P 364 [S p] (.rf k λi=>(jg<|eO p k).getD i []):=by
 have WY:64<=aq:=dD;have h16:m<=aq:=U;have lp:=qp f364 3 m (λ_=>false) (λi=>(M 95 [(0,S p),(2,.dF),(3,.bf 0 i),(4,I i)])) (λi=> [⟨jg<|eO p i,0,[],1,true,false⟩]) (eR<|M 95 [(2,.dF),(3,.dF)]) (.ext 0,(M 95 [(2,.dF),(3,.bf 0 m)]),[⟨jg<|eO p m,0,[],1,true,false⟩]) λi hi lt aW az aR=>by
  have hl:=rY p i;have I5:=vz<|eO p i;have e4:oU (4*(i:Int))=((4*i:Nat):Int):=by rw[wrap64 U U];omega
  have e41:oU (((4*i:Nat):Int)+1)=((4*i+1:Nat):Int):=by rw[wrap64 U U];omega
  have e42:oU (((4*i:Nat):Int)+2)=((4*i+2:Nat):Int):=by rw[wrap64 U U];omega
  have e43:oU (((4*i:Nat):Int)+3)=((4*i+3:Nat):Int):=by rw[wrap64 U U];omega
  have e1:oU ((i:Int)+1)=((i+1:Nat):Int):=by rw[wrap64 U U];omega
  refine ao Bp L0 [0,2,3,4] [2,3] (let Z:=oU (oU (4*(i:Int))+1);let V:=oU (oU (4*(i:Int))+2);let aG:=oU (oU (4*(i:Int))+3);let aS:=oU (4*(i:Int));(.d ((i:Int)<16) (.g aS p.size<|.g Z p.size<|.g V p.size<|.g aG p.size<|.o [i=(jg<|eO p i).length,(i+1)*4<=140737488355328]<|.r true<|.r true<|bR (M 95 [(0,S p),(2,J.dF),(3,J.bf 0<|i+1),(4,I<|oU<|(i:Int)+1)]) [dn (jg (eO p i)++ [[aI<|Hr (Hr (Hr (P5 (IntKind.u32.wrap (↑(p.data.toList.getD aS.toNat 0).toNat:Int)) 24)<|P5 (IntKind.u32.wrap (↑(p.data.toList.getD Z.toNat 0).toNat:Int)) 16)<|P5 (IntKind.u32.wrap (↑(p.data.toList.getD V.toNat 0).toNat:Int)) 8)<|IntKind.u32.wrap (↑(p.data.toList.getD aG.toNat 0).toNat:Int)]]) 1])<|fv 0 (M 95 [(2,J.dF),(3,J.bf 0 i)]) [dn (jg<|eO p i) 1])) ?_;have Y:=(di:False↔False)
  (simp only[e4,e41,e42,e43,e1,dL];clear e4 e41 e42 e43 e1)
  simp only[av]
  (repeat' with_reducible first|intro _|apply aNd_)<;>first|trivial|omega|(have e:i=m:=U;subst e;exact aR rfl)|(have h:i<16:=U;rw[bD5 h,D4]at aW;exact aW U rfl)
 obtain⟨q,hq⟩:∃q,q=k-m:=⟨_,rfl⟩
 have h48:q<=aq:=U;have lq:=qp f364 7 q (λ_=>false) (λi=>(M 95 [(2,.dF),(3,.bf 0<|m+i),(5,I ((16+i:Nat):Int))])) (λi=> [⟨jg<|eO p<|m+i,0,[],1,true,false⟩]) (eR<|M 95 [(2,.dF),(3,.dF)]) (.ext 2,(M 95 [(2,.dF),(3,.bf 0 k)]),[⟨jg<|eO p k,0,[],1,true,false⟩]) λi hi lt aW az aR=>by
  have hl:=rY p<|m+i;have I5:=vz<|eO p<|m+i;have e15:oU (((16+i:Nat):Int)-15)=((16+i-15:Nat):Int):=by rw[wrap64 U U];omega
  have e16:oU (((16+i:Nat):Int)-16)=((16+i-16:Nat):Int):=by rw[wrap64 U U];omega
  have e2:oU (((16+i:Nat):Int)-2)=((16+i-2:Nat):Int):=by rw[wrap64 U U];omega
  have e7:oU (((16+i:Nat):Int)-7)=((16+i-7:Nat):Int):=by rw[wrap64 U U];omega
  have e1:oU (((16+i:Nat):Int)+1)=((16+(i+1):Nat):Int):=by rw[wrap64 U U];omega
  refine ao (bD4<|eO p<|m+i) L0 [2,3,5] [2,3] (let Z:=(↑(16+i):Int);let V:=eO p (m+i);let aG:=oU (Z-15);let aS:=oU (Z-2);let bn:=a2 (oD IntKind.u32) bx;let bH:=oU (Z-16);let cp:=V.getD (0+aG.toNat) 0;let cu:=V.getD (0+aS.toNat) 0;let dk:=oU (Z-7);let bu:=jg V;let bC:=(↑(m+i):Int);let bP:=V.getD (0+bH.toNat) 0;let bY:=V.getD (0+dk.toNat) 0;let cN:=V.getD (0+aG.toNat) 0;let dE:=V.getD (0+aS.toNat) 0;(.d (Z<64) (.g aG bC<|.o [bu[0+aG.toNat]?=some [gK cp]]<|.g aS bC<|.o [bu[0+aS.toNat]?=some [gK cu]]<|.k bn (cN,7) (fb 7)<|.k bn (cN,18) (fb 18)<|.k bn (dE,17) (fb 17)<|.k bn (dE,19) (fb 19)<|.g bH bC<|.o [bu[0+bH.toNat]?=some [gK bP]]<|.g dk bC<|.o [bu[0+dk.toNat]?=some [gK bY],m+i=bu.length,(m+i+1)*4<=140737488355328]<|.r true<|.r true<|bR (M 95 [(2,J.dF),(3,J.bf 0<|m+i+1),(5,I<|oU<|Z+1)]) [dn (jg V++ [[aI<|dM (dM (dM bP<|gX (gX (wk cp 7)<|wk cp 18)<|kp cp 3) bY)<|gX (gX (wk cu 17)<|wk cu 19)<|kp cu 10]]) 1])<|fv 2 (M 95 [(2,J.dF),(3,J.bf 0<|m+i)]) [dn bu 1])) ?_;have Y:=(di:False↔False)
  (simp only[e15,e16,e2,e7,e1,dL,eP];clear e15 e16 e2 e7 e1)
  simp only[av]
  (repeat' with_reducible first|intro _|apply aNd_)<;>first|trivial|omega|exact vA _ _ U|(show fb _;unfold fb;omega)|(have e:i=q:=U;have e2:m+i=k:=U;rw[e2];exact aR e)|(have h:i<q:=U;subst hm;rw[show 16+(i+1)=16+i+1 from rfl,bD6,D4]at aW;exact aW h rfl)
 have I5:=vz<|eO p m;have ch3:=vz<|eO p k;have hl:=rY p k;refine al Bp (LOr 3 (ax2 lp [0,2,3,4] [(3,1)]) 7<|ax2 lq [2,3,5] [(3,1)]) (jS lp (.e<|J.rf 0 λi=> [])<|jS lq (.e<|J.rf 0 λi=> [])<|.o [k=(jg<|eO p k).length]<|.e<|J.rf k λi=>(jg<|eO p k).getD i []) ?_;simp only[av]
 (repeat' with_reducible first|intro _|apply aNd_)<;>first|trivial|omega|exact absurd (show(ar m λ_=>false)=true by assumption) (by rw[Bn];simp)|exact absurd (show(ar q λ_=>false)=true by assumption) (by rw[Bn];simp)
def aa0(p:y_)(hp:p.size=64):Ok P 364 [S p] (.rf 64 λi=> [gK<|(eO p 64).getD i 0]):=
 (TD p hp 16 64 rfl rfl).res λ_ _ _ N=>fS (λi hi=>by rw[cc,vA _ i (by rw[rY];exact hi)];rfl) N
structure V8 where
 a:Int
 b:Int
 c:Int
 d:Int
 e:Int
 f:Int
 g:Int
 h:Int
def V8.cells(v:V8):l_ J:=[gK v.a,gK v.b,gK v.c,gK v.d,gK v.e,gK v.f,gK v.g,gK v.h]
def bW6(x:Int):Int:=gX (if IntKind.u32.signed=true then-1 else IntKind.u32.max) x
def tt1(k w:Int)(v:V8):Int:=dM (dM (dM (dM v.h<|gX (gX (wk v.e 6)<|wk v.e 11)<|wk v.e 25)<|gX (rX v.e v.f)<|rX (bW6 v.e) v.g) k) w
def tt2(v:V8):Int:=dM (gX (gX (wk v.a 2)<|wk v.a 13)<|wk v.a 22)<|gX (gX (rX v.a v.b)<|rX v.a v.c)<|rX v.b v.c
def rnd(k w:Int)(v:V8):V8:=⟨dM (tt1 k w v)<|tt2 v,v.a,v.b,v.c,dM v.d<|tt1 k w v,v.e,v.f,v.g⟩
def jH(l:l_ Int)(v:V8):Nat->V8
 |0=>v
 |i+1=>rnd (gU.getD i 0) (l.getD i 0) (jH l v i)
def FE(n:Nat)(l:l_ Int):J:= .rf n λi=> [gK<|l.getD i 0]
def aa1:Ok P 363 [] (FE 64 gU):=by
 have h:Ok P 363 [] (.rf 64 λi=>(jg gU).getD i []):=by exact al aw L0 (.e<|J.rf 64 λi=> [[aI 1116352408],[aI 1899447441],[aI 3049323471],[aI 3921009573],[aI 961987163],[aI 1508970993],[aI 2453635748],[aI 2870763221],[aI 3624381080],[aI 310598401],[aI 607225278],[aI 1426881987],[aI 1925078388],[aI 2162078206],[aI 2614888103],[aI 3248222580],[aI 3835390401],[aI 4022224774],[aI 264347078],[aI 604807628],[aI 770255983],[aI 1249150122],[aI 1555081692],[aI 1996064986],[aI 2554220882],[aI 2821834349],[aI 2952996808],[aI 3210313671],[aI 3336571891],[aI 3584528711],[aI 113926993],[aI 338241895],[aI 666307205],[aI 773529912],[aI 1294757372],[aI 1396182291],[aI 1695183700],[aI 1986661051],[aI 2177026350],[aI 2456956037],[aI 2730485921],[aI 2820302411],[aI 3259730800],[aI 3345764771],[aI 3516065817],[aI 3600352804],[aI 4094571909],[aI 275423344],[aI 430227734],[aI 506948616],[aI 659060556],[aI 883997877],[aI 958139571],[aI 1322822218],[aI 1537002063],[aI 1747873779],[aI 1955562222],[aI 2024104815],[aI 2227730452],[aI 2361852424],[aI 2428436474],[aI 2756734187],[aI 3204031479],[aI 3329325298]].getD i []) ft
 exact h.res λ_ _ _ N=>fS (λi hi=>by rw[cc,vA _ i (show i<gU.length from hi)];rfl) N
def aC5(z l:l_ Int)(v:V8)(m:Nat)(hm:m=64):aO P (aD f348 5) (M 151 [(0,FE 8 z),(4,.dF),(5,FE m gU),(6,FE m l),(7,gK v.a),(8,gK v.b),(9,gK v.c),(10,gK v.d),(11,gK v.e),(12,gK v.f),(13,gK v.g),(14,gK v.h),(15,I 0)]) [] (.ite (ar m λ_=>false) (.out .ret (M 151 [(4,.dF)]) [])<|.out (.ext 0) (M 151 [(0,FE 8 z),(4,.dF),(7,gK (jH l v m).a),(8,gK (jH l v m).b),(9,gK (jH l v m).c),(10,gK (jH l v m).d),(11,gK (jH l v m).e),(12,gK (jH l v m).f),(13,gK (jH l v m).g),(14,gK (jH l v m).h)]) []):=by
 have WY:m<=aq:=by subst hm;decide
 have lp:=yM f348 5 m (λ_=>false) (λi=>(M 151 [(0,FE 8 z),(4,.dF),(5,FE m gU),(6,FE m l),(7,gK (jH l v i).a),(8,gK (jH l v i).b),(9,gK (jH l v i).c),(10,gK (jH l v i).d),(11,gK (jH l v i).e),(12,gK (jH l v i).f),(13,gK (jH l v i).g),(14,gK (jH l v i).h),(15,I i)])) [] (eR<|M 151 [(4,.dF)]) (ey 0<|M 151 [(0,FE 8 z),(4,.dF),(7,gK (jH l v m).a),(8,gK (jH l v m).b),(9,gK (jH l v m).c),(10,gK (jH l v m).d),(11,gK (jH l v m).e),(12,gK (jH l v m).f),(13,gK (jH l v m).g),(14,gK (jH l v m).h)]) λi hi lt aW az aR=>by
  have e1:oU ((i:Int)+1)=((i+1:Nat):Int):=by rw[wrap64 U U];omega
  refine ao Bp L0 [0,4,5,6,7,8,9,10,11,12,13,14,15] [4,10000,10007,10008,10009,10010,10011,10012,10013,10014] (let Z:=jH l v i;let V:=dM (dM (dM (dM (Z.h)<|gX (gX (wk Z.e 6)<|wk Z.e 11)<|wk Z.e 25)<|gX (rX (Z.e)<|Z.f)<|rX (gX (if IntKind.u32.signed=true then-1 else IntKind.u32.max)<|Z.e)<|Z.g)<|gU.getD i 0) (l.getD i 0);let aG:=a2 (oD IntKind.u32) bx;(.d ((i:Int)<64) (.k aG (Z.e,6) (fb 6)<|.k aG (Z.e,11) (fb 11)<|.k aG (Z.e,25) (fb 25)<|.g i m<|.g i m<|.k aG (Z.a,2) (fb 2)<|.k aG (Z.a,13) (fb 13)<|.k aG (Z.a,22) (fb 22)<|bR (M 151 [(0,J.rf 8 λi=> [aI<|z.getD i 0]),(4,J.dF),(5,J.rf m λi=> [aI<|gU.getD i 0]),(6,J.rf m λi=> [aI<|l.getD i 0]),(7,aI<|dM V<|dM (gX (gX (wk Z.a 2)<|wk Z.a 13)<|wk Z.a 22)<|gX (gX (rX (Z.a)<|Z.b)<|rX (Z.a)<|Z.c)<|rX (Z.b)<|Z.c),(8,aI Z.a),(9,aI Z.b),(10,aI Z.c),(11,aI<|dM (Z.d) V),(12,aI Z.e),(13,aI Z.f),(14,aI Z.g),(15,I<|oU<|(i:Int)+1)]) [])<|fv 0 (M 151 [(0,J.rf 8 λi=> [aI<|z.getD i 0]),(4,J.dF),(7,aI Z.a),(8,aI Z.b),(9,aI Z.c),(10,aI Z.d),(11,aI Z.e),(12,aI Z.f),(13,aI Z.g),(14,aI Z.h)]) [])) ?_;have Y:=(di:False↔False)
  (simp only[e1];clear e1)
  simp only[av]
  (repeat' with_reducible first|intro _|apply aNd_)<;>first|omega|(show fb _;unfold fb;omega)|(have e:i=m:=U;subst e;exact aR rfl)|(have h:i<m:=U;exact aW h rfl)
 exact lp
def b78(u v:V8):V8:=⟨dM u.a v.a,dM u.b v.b,dM u.c v.c,dM u.d v.d,dM u.e v.e,dM u.f v.f,dM u.g v.g,dM u.h v.h⟩
def V8.list(v:V8):l_ Int:=[v.a,v.b,v.c,v.d,v.e,v.f,v.g,v.h]
def EB0(m:Nat):Env:=aF 364 (bN (a1 aQ) (λp=>FE m (eO p m)) λp=>p.size=64)<|aF 363 (λq=>match q with| []=>some (FE m gU,[])|_=>none) bD3
def bD7(m:Nat)(hm:m=64:=by assumption):an P (EB0 m):=by
 subst hm;exact ah (gi Bp λq r ob O h2=>by
  cases q with
  |nil=>cases O;exact aa1
  |cons x l=>cases O) λp h=>aa0 p h
def aC6(m:Nat)(v:V8)(p:y_):V8:=b78 v<|jH (eO p m) v m
def b79(m:Nat)(v:V8)(p:y_):gD:=ax1 [0,4,5,6,7,8,9,10,11,12,13,14,15] m (λ_=>false) (λ_=>(M 151 [(4,.dF)])) (M 151 [(0,FE 8 v.list),(4,.dF),(7,gK (jH (eO p m) v m).a),(8,gK (jH (eO p m) v m).b),(9,gK (jH (eO p m) v m).c),(10,gK (jH (eO p m) v m).d),(11,gK (jH (eO p m) v m).e),(12,gK (jH (eO p m) v m).f),(13,gK (jH (eO p m) v m).g),(14,gK (jH (eO p m) v m).h)])<|.ext 0
def TE(v:V8)(p:y_)(hp:p.size=64)(m:Nat)(hm:m=64):Ok P 348 [FE 8 v.list,S p] (.rf 8 λi=>(jg (aC6 m v p).list).getD i []):=by
 have lp:=aC5 v.list (eO p m) v m hm;refine al (bD7 m) (b79 m v p) (let Z:=jH (eO p m) v m;let V:=v.list.getD 0 0;let aG:=v.list.getD 1 0;let aS:=v.list.getD 2 0;let bn:=v.list.getD 3 0;let bH:=v.list.getD 4 0;let cp:=v.list.getD 5 0;let cu:=v.list.getD 6 0;let dk:=v.list.getD 7 0;let bu:=(4,J.dF);(.k (a1 aQ) p (p.size=64)<|.o [(0:Int)<=0,(0:Int)<8,(0:Int)<=1,(1:Int)<8,(0:Int)<=2,(2:Int)<8,(0:Int)<=3,(3:Int)<8,(0:Int)<=4,(4:Int)<8,(0:Int)<=5,(5:Int)<8,(0:Int)<=6,(6:Int)<8,(0:Int)<=7,(7:Int)<8]<|.n (ar m λx=>false) (.o [ax P (aD f348 5) (M 151 [(0,J.rf 8 λi=> [aI<|v.list.getD i 0]),bu,(5,J.rf m λi=> [aI<|gU.getD i 0]),(6,J.rf m λi=> [aI<|(eO p m).getD i 0]),(7,aI V),(8,aI aG),(9,aI aS),(10,aI bn),(11,aI bH),(12,aI cp),(13,aI cu),(14,aI dk),(15,I 0)]) [] (Out.ret) (M 151 [bu]) []]<|.e<|J.rf 0 λi=> [])<|.o [ax P (aD f348 5) (M 151 [(0,J.rf 8 λi=> [aI<|v.list.getD i 0]),bu,(5,J.rf m λi=> [aI<|gU.getD i 0]),(6,J.rf m λi=> [aI<|(eO p m).getD i 0]),(7,aI V),(8,aI aG),(9,aI aS),(10,aI bn),(11,aI bH),(12,aI cp),(13,aI cu),(14,aI dk),(15,I 0)]) [] (Out.ext 0) (M 151 [(0,J.rf 8 λi=> [aI<|v.list.getD i 0]),bu,(7,aI Z.a),(8,aI Z.b),(9,aI Z.c),(10,aI Z.d),(11,aI Z.e),(12,aI Z.f),(13,aI Z.g),(14,aI Z.h)]) [],(0:Int)<=0,(0:Int)<8,(0:Int)<=1,(1:Int)<8,(0:Int)<=2,(2:Int)<8,(0:Int)<=3,(3:Int)<8,(0:Int)<=4,(4:Int)<8,(0:Int)<=5,(5:Int)<8,(0:Int)<=6,(6:Int)<8,(0:Int)<=7,(7:Int)<8]<|.e<|J.rf 8 λi=> [[aI<|dM V<|Z.a],[aI<|dM aG<|Z.b],[aI<|dM aS<|Z.c],[aI<|dM bn<|Z.d],[aI<|dM bH<|Z.e],[aI<|dM cp<|Z.f],[aI<|dM cu<|Z.g],[aI<|dM dk<|Z.h]].getD i [])) ?_;simp only[av]
 (repeat' with_reducible first|intro _|apply aNd_)<;>first|trivial|exact absurd (show(ar m λ_=>false)=true by assumption) (by rw[Bn];simp)|exact(lp.f<|Bn _).one
def aa2(v:V8)(p:y_)(hp:p.size=64):Ok P 348 [FE 8 v.list,S p] (FE 8 (aC6 64 v p).list):=
 (TE v p hp 64 rfl).res λ_ _ _ N=>fS (λi hi=>by rw[cc,vA _ i (show i<(aC6 64 v p).list.length from hi)];rfl) N
abbrev U64(n:Int):J:= .sc<|.int .u64 n
def bq(m:Nat):Nat->Nat
 |0=>m
 |i+1=>bq m i/256
theorem WZ(m:Nat):∀i,bq m i=m/256^i
 |0=>by simp [bq]
 |i+1=>by unfold bq;rw[WZ m i,Nat.div_div_eq_div_mul,<-Fk]
def uT(m k:Nat):UInt8:=(bq m k%256).toUInt8
def oZ(m:Nat):Nat->l_ UInt8
 |0=> []
 |n+1=>uT m n::oZ m n
theorem pS(m:Nat):∀n,(oZ m n).length=n
 |0=>rfl
 |n+1=>by unfold oZ;rw[iP,pS m n]
def aC7(m:Nat)(i:Nat)(O:m<18446744073709551616):IntKind.u64.wrap ((bq m i:Int).tdiv 256)=(bq m (i+1):Int)/\dA [[J.sc<|Value.int IntKind.u8<|IntKind.u8.wrap<|(bq m i:Int).tmod 256]]++B (oZ m i)=B (oZ m<|i+1):=by
 have e:(bq m i:Int).tmod 256=((bq m i%256:Nat):Int):=rfl;have e2:(bq m i:Int).tdiv 256=((bq m i/256:Nat):Int):=rfl;rw[e,e2];have hle:bq m i<=m:=by rw[WZ];exact Nat.div_le_self _ _
 constructor
 .rw[IntKind.wrap_u64];show _=((bq m i/256:Nat):Int)
  omega
 .rw[bU8 U U];show B [(((bq m i%256:Nat):Int).toNat).toUInt8]++B (oZ m i)=_;rw[jP,dL];rfl
def bD8(m:Nat)(n:Nat)(hn:n<=8)(O:m<18446744073709551616):Ok P 349 [U64 (m:Int),I n] (S<|B<|oZ m n):=by
 have hm:n<=aq:=by unfold aq;omega
 have lp:=yM f349 3 n (λ_=>false) (λi=>(M 22 [(0,U64 (bq m i:Int)),(1,I n),(4,S n_),(5,S<|B<|oZ m i),(6,I i)])) [] (eR<|M 22 [(4,S n_)]) (ey 0<|M 22 [(4,S n_),(5,S<|B<|oZ m n)]) λi hi lt aW az aR=>by
  have e1:oU ((i:Int)+1)=((i+1:Nat):Int):=by rw[wrap64 U U];omega
  have hb:=aC7 m i O;have hl:=pS m i;have hB:(B<|oZ m i).size=i:=W;refine ao aw L0 [0,1,4,5,6] [4,10005] (let Z:=[[U8<|IntKind.u8.wrap<|(↑(bq m i):Int).tmod 256]];let V:=(4,S (n_:y_));(.d ((i:Int)<n) (.r true<|.o [(dA Z).size+(B<|oZ m i).size<=9223372036854775807]<|bR (M 22 [(0,J.sc<|Value.int IntKind.u64<|IntKind.u64.wrap<|(↑(bq m i):Int).tdiv 256),(1,I n),V,(5,S<|dA Z++B (oZ m i)),(6,I<|oU<|(i:Int)+1)]) [])<|fv 0 (M 22 [V,(5,S<|B<|oZ m i)]) [])) ?_;have Y:=(di:False↔False)
  (simp only[e1];rw[hb.1,hb.2];clear e1)
  simp only[av,bK,bO]
  (repeat' with_reducible first|intro _|apply aNd_)<;>first|trivial|(show _+_<=_;rw[hB];show 1+i<=_;omega)|(have e:i=n:=U;subst e;exact aR rfl)|(have h:i<n:=U;exact aW h rfl)
 refine al aw (kR lp [0,1,4,5,6]) (jS lp (.e<|S (n_:y_))<|.e<|S<|B<|oZ m n) ?_;simp only[av]
 (repeat' with_reducible first|intro _|apply aNd_)<;>first|trivial|exact absurd (show(ar n λ_=>false)=true by assumption) (by rw[Bn];simp)
def P9(k:Int):Prop:=0<=k/\k<=8
def D5(k:Int):Prop:=0<=k/\k<18446744073709551616
def nY(n:Nat):Nat:=(119-n%64)%64
def nZ(s:y_)(i:Nat):y_:=s++B (128::List.replicate i 0)
def rv(s:y_)(i:Nat):(nZ s i).size=s.size+1+i:=by unfold nZ;rw[fy,jG];simp;omega
def Ks(s:y_)(i:Nat):nZ s i++⟨#[0]⟩=nZ s (i+1):=by unfold nZ;rw[ByteArray.append_assoc,show(⟨#[0]⟩:y_)=B [0]from rfl,jP];congr 2;rw[AE,LL,]
def sF(s:y_):y_:=nZ s (nY s.size)++B (oZ (8*s.size) 8)
def EPD:Env:=aF 349 (bN (a2 (oD .u64) bx) (λx=>S (B<|oZ x.1.toNat x.2.toNat)) λx=>P9 x.2/\D5 x.1) EN
def MV:an P EPD:=ah aw λx h=>by have h2:=h.2;unfold D5 at h2;have:=bD8 x.1.toNat x.2.toNat (by have:=h.1;unfold P9 at this;omega) U;rw[rM h.1.1,rM h2.1]at this;exact this
def aa3(s:y_)(hs:s.size<=aq):Ok P 347 [S s] (S<|sF s):=by
 have hm:nY s.size<=aq:=by unfold nY aq;omega
 have lp:=yM f347 2 (nY s.size) (λ_=>false) (λi=>(M 19 [(0,S s),(2,S n_),(3,S<|nZ s i)])) [] (eR<|M 19 [(2,S n_)]) (ey 0<|M 19 [(0,S s),(2,S n_),(3,S<|nZ s<|nY s.size)]) λi hi lt aW az aR=>by
  have hz:=rv s i;have hpn:nY s.size=(119-s.size%64)%64:=rfl;have htm:((nZ s i).size:Int).tmod 64=(((s.size+1+i)%64:Nat):Int):=by rw[hz];rfl
  have hsx:s.size<=140737488355328:=by unfold aq at hs;omega
  refine ao MV L0 [0,2,3] [2,10000,10003] (.u ((↑(nZ s i).size:Int).tmod 64) 56 (.o [(nZ s i).size+(⟨#[0]⟩:y_).size<=9223372036854775807]<|bR (M 19 [(0,S s),(2,S (n_:y_)),(3,S<|nZ s i++(⟨#[0]⟩:y_))]) [])<|fv 0 (M 19 [(0,S s),(2,S (n_:y_)),(3,S<|nZ s i)]) []) ?_;have Y:=(di:False↔False)
  (rw[htm])
  simp only[av,rL,sN]
  (repeat' with_reducible first|intro _|apply aNd_)<;>first|trivial|(show _+1<=_;omega)|(have h:i<nY s.size:=U;rw[<-Ks]at aW;exact aW h rfl)|(have e:i=nY s.size:=U;rw[e];exact aR e)
 have hsx:s.size<=140737488355328:=by unfold aq at hs;omega
 have hw:IntKind.u64.wrap (IntKind.u64.wrap (s.size:Int)*8)=8*(s.size:Int):=by rw[IntKind.wrap_u64,IntKind.wrap_u64];omega
 have hz:=rv s<|nY s.size;have hpn:nY s.size<=64:=by unfold nY;omega
 have hT:(8*(s.size:Int)).toNat=8*s.size:=U;have hb8:(B<|oZ (8*s.size) 8).size=8:=by rw[jG,pS]
 have O:s.size+(⟨#[128]⟩:y_).size<=9223372036854775807:=by have:(⟨#[128]⟩:y_).size=1:=rfl;omega
 have hk8:P9 8:=by unfold P9;omega
 have h64:D5 (8*(s.size:Int)):=by unfold D5;omega
 refine al MV (kR lp [0,2,3]) (let V:=IntKind.u64.wrap (s.size:Int)*8;let Z:=IntKind.u64.wrap V;(.o [s.size+(⟨#[128]⟩:y_).size<=9223372036854775807]<|jS lp (.e<|S (n_:y_))<|.k (a2 (oD IntKind.u64) bx) (IntKind.u64.wrap V,8) (P9 8/\D5 Z)<|.o [(nZ s<|nY s.size).size+(B<|oZ Z.toNat 8).size<=9223372036854775807]<|.e<|S<|nZ s (nY s.size)++B (oZ Z.toNat<|Int.toNat 8))) ?_;simp only[av]
 (repeat' with_reducible first|intro _|apply aNd_)<;>first|trivial|exact absurd (show(ar (nY s.size) λ_=>false)=true by assumption) (by rw[Bn];simp)|(rw[hw];with_reducible exact h64)|(rw[hw,hT,hb8];omega)|(rw[hw];rfl)
def s7(n:Nat):ar n (λ_=>false)=false:=bc.2 λ_ _=>rfl
def byN(s:y_)(i:Nat):Nat:=(s.data.toList.getD i 0).toNat
def MW(s:y_)(i:Nat):byN s i<256:=UInt8.toNat_lt _
def gp(s:y_)(a w:Nat):Nat->Nat
 |0=>0
 |j+1=>gp s a w j*256+byN s (a+(w-1-j))
theorem x8(s:y_)(a w:Nat):∀j,gp s a w j<256^j
 |0=>Nat.one_pos
 |j+1=>by
  have O:=x8 s a w j;have h2:=MW s<|a+(w-1-j);show gp s a w j*256+_<256^j*256;have:gp s a w j*256+256<=256^j*256:=by have:=il 256 (show gp s a w j+1<=256^j from O);omega
  omega
def bf2(n b:Nat)(hn:n<72057594037927936)(hb:b<256):IntKind.u64.wrap ((BitVec.ofInt IntKind.u64.bits (IntKind.u64.wrap<|(n:Int)*2^min 8 IntKind.u64.bits)|||BitVec.ofInt IntKind.u64.bits (IntKind.u64.wrap (b:Int))).toNat:Int)=((n*256+b:Nat):Int):=by
 have e1:IntKind.u64.wrap ((n:Int)*2^min 8 IntKind.u64.bits)=((n*256:Nat):Int):=by have:(2:Int)^min 8 IntKind.u64.bits=256:=rfl;rw[this,IntKind.wrap_u64];omega
 have e2:IntKind.u64.wrap (b:Int)=(b:Int):=by rw[IntKind.wrap_u64];omega
 rw[e1,e2];have e3:(BitVec.ofInt IntKind.u64.bits ((n*256:Nat):Int)|||BitVec.ofInt IntKind.u64.bits (b:Int)).toNat=n*256+b:=by show(BitVec.ofInt 64 ((n*256:Nat):Int)|||BitVec.ofInt 64 (b:Int)).toNat=_;rw[BitVec.toNat_or,Fj,Fj];have q1:(((n*256:Nat):Int)%((2^64:Nat):Int)).toNat=n*2^8:=U;have q2:((b:Int)%((2^64:Nat):Int)).toNat=b:=U;rw[q1,q2,<-Nat.shiftLeft_eq,<-Nat.shiftLeft_add_eq_or_of_lt (show b<2^8 by omega),Nat.shiftLeft_eq]
 rw[e3,IntKind.wrap_u64];omega
def mz(s:y_)(a w:Nat):Int:=if s.size<a+w then 3 else if 9223372036854775808<=gp s a w w then 5 else 0
def MX(s:y_)(a w:Nat):Int:=if mz s a w=0 then gp s a w w else 0
def EB(s:y_)(a w:Nat):Int:=if mz s a w=0 then((a+w:Nat):Int)else 0
def TF(s:y_)(a w:Nat):J:= .bg [I<|MX s a w,I<|EB s a w,I<|mz s a w]
def W5 {s:y_} {a w:Nat} {e:Int}(h:mz s a w=e)(h0:e≠0):TF s a w= .bg [I 0,I 0,I e]:=by unfold TF MX EB;rw[h,if_neg h0,if_neg h0]
def bf3 {s:y_} {a w:Nat}(h:mz s a w=0):TF s a w= .bg [I (gp s a w w:Nat),I ((a+w:Nat):Int),I 0]:=by unfold TF MX EB;rw[h,if_pos rfl,if_pos rfl]
def bf4(s:y_)(a w:Nat)(ha:a<=s.size)(hs:s.size<=aq)(O:1<=w)(h8:w<=8)(z:Int)(hz:z=(a:Int)):Ok P 260 [S s,I z,I w] (TF s a w):=by
 have hsx:s.size<=140737488351232:=hs;have hwm:w<=aq:=by unfold aq;omega
 have lp:=λ(iH:a+w<=s.size)=>yM Tryz.f260 7 w (λ_=>false) (λi=>(M 55 [(0,S s),(1,I z),(2,I w),(6,I 0),(7,I 0),(8,I 0),(9,U64 (gp s a w i:Nat)),(10,I<|(w:Int)-1-(i:Nat))])) [] (λi=>(.ret,(M 55 [(1,I z),(2,I w),(6,I 0),(7,I 0),(8,I 0),(9,U64 0)]),[])) (.ext 0,(M 55 [(1,I z),(2,I w),(6,I 0),(7,I 0),(8,I 0),(9,U64 (gp s a w w:Nat))]),[]) λi hi lt aW az aR=>by
  have SL:=x8 s a w i;have hx:i<w->oU (z+((w:Int)-1-(i:Nat)))=((a+(w-1-i):Nat):Int):=λh=>by rw[hz,wrap64 U U];omega
  have hn:i<w->gp s a w i<72057594037927936:=λh=>uY SL<|LQ dD (show i<=7 by omega);have GR:oU ((w:Int)-1-(i:Nat)-1)=(w:Int)-1-((i+1:Nat):Int):=by rw[wrap64 U U];omega
  have bD9:i<w->aO P (aD Tryz.f260 7) (M 55 [(0,S s),(1,I z),(2,I w),(6,I 0),(7,I 0),(8,I 0),(9,U64<|IntKind.u64.wrap ((BitVec.ofInt IntKind.u64.bits (IntKind.u64.wrap<|(gp s a w i:Int)*2^min 8 IntKind.u64.bits)|||BitVec.ofInt IntKind.u64.bits (IntKind.u64.wrap ((s.data.toList.getD (oU<|z+((w:Int)-1-(i:Nat))).toNat 0).toNat:Int))).toNat:Int)),(10,I<|oU<|(w:Int)-1-(i:Nat)-1)]) [] lt:=λh=>by rw[hx h,dL,GR];have e:=bf2 (gp s a w i) (byN s<|a+(w-1-i)) (hn h)<|MW _ _;unfold byN at e;rw[e];exact aW h rfl
  refine ao aw L0 [0,1,2,6,7,8,9,10] [1,2,6,7,8,9] (let Z:=oU (z+((w:Int)-1-(i:Int)));let V:=(↑(gp s a w i):Int);(.d ((w:Int)-1-(i:Int)>=0) (.g Z s.size<|bR (M 55 [(0,S s),(1,I z),(2,I w),(6,I 0),(7,I 0),(8,I 0),(9,J.sc<|Value.int IntKind.u64<|IntKind.u64.wrap (↑(BitVec.ofInt IntKind.u64.bits (IntKind.u64.wrap<|V*2^min 8 IntKind.u64.bits)|||BitVec.ofInt IntKind.u64.bits (IntKind.u64.wrap (↑(s.data.toList.getD Z.toNat 0).toNat:Int))).toNat:Int)),(10,I<|oU<|(w:Int)-1-(i:Int)-1)]) [])<|fv 0 (M 55 [(1,I z),(2,I w),(6,I 0),(7,I 0),(8,I 0),(9,J.sc<|Value.int IntKind.u64 V)]) [])) ?_;have Y:=(di:False↔False)
  simp only[av]
  (repeat' with_reducible first|intro _|apply aNd_)<;>first|exact aM|(have h:i<w:=U;exact bD9 h)|(have e:i=w:=U;subst e;exact aR rfl)
 have hl:oU ((s.size:Int)-z)=(s.size:Int)-z:=wrap64 U U;have hw:oU ((w:Int)-1)=(w:Int)-1-((0:Nat):Int):=by rw[wrap64 U U];omega
 have hzw:oU (z+w)=((a+w:Nat):Int):=by rw[hz,wrap64 U U];omega
 refine al aw (iy [0,1,2,6,7,8,9,10] (w) (λ_=>false) (λi=>(M 55 [(1,I z),(2,I w),(6,I 0),(7,I 0),(8,I 0),(9,U64 0)])) (M 55 [(1,I z),(2,I w),(6,I 0),(7,I 0),(8,I 0),(9,U64 (gp s a w w:Nat))]) (.ext 0) (λi=> []) []) (let V:ix:=(.e<|J.bg [I 0,I 0,I 1]);let aG:=(↑(gp s a w w):Int);let aS:=(9,J.sc<|Value.int IntKind.u64 0);let Z:=(M 55 [(0,S s),(1,I z),(2,I w),(6,I 0),(7,I 0),(8,I 0),aS,(10,I<|oU<|(w:Int)-1)]);(.d ((w:Int)<1) V<|.d ((w:Int)>8) V<|.d (z<0) V<|.d (z>(s.size:Int)) V<|.d (oU ((s.size:Int)-z)<(w:Int)) (.e<|J.bg [I 0,I 0,I 3])<|.n (ar w λx=>false) (.o [ax P (aD Tryz.f260 7) Z [] (Out.ret) (M 55 [(1,I z),(2,I w),(6,I 0),(7,I 0),(8,I 0),aS]) []]<|.e<|J.bg [I 0,I 0,I 0])<|.o [ax P (aD Tryz.f260 7) Z [] (Out.ext 0) (M 55 [(1,I z),(2,I w),(6,I 0),(7,I 0),(8,I 0),(9,J.sc<|Value.int IntKind.u64 aG)]) []]<|.d (aG>9223372036854775807) (.e<|J.bg [I 0,I 0,I 5])<|.e<|J.bg [I<|oU aG,I<|oU<|z+(w:Int),I 0])) ?_;try dsimp only
 rw[hl];simp only[hw,hzw];simp only[av,bK,bO]
 (repeat' with_reducible first|intro _|apply aNd_)<;>first|exact aM|exact absurd (show(ar w λ_=>false)=true by assumption) (by rw[s7];simp)|exact(W5 (if_pos U) dD).symm|exact(W5 (show mz s a w=5 by unfold mz;rw[if_neg U,if_pos U]) dD).symm|(rw[bf3 (show mz s a w=0 by unfold mz;rw[if_neg U,if_neg U]),wrap64 U U])
def bE0(s:y_)(a w:Nat)(ha:a<=s.size)(hs:s.size<=aq)(O:1<=w)(h8:w<=8):Ok P 260 [S s,I a,I w] (TF s a w):=bf4 s a w ha hs O h8 _ rfl
def I6(n:Nat):Nat:=(n+31)/32
def zN(L:Nat):Nat:=max 1<|(L+1023)/1024
def ry(L:Nat):Nat->Nat
 |0=>zN L
 |k+1=>I6 (ry L k)
def yP(L:Nat):Nat:=if zN L<=1 then 0 else if I6 (zN L)<=1 then 1 else 2
theorem tJ {L:Nat}(h:L<=1048576):∀k,1<=ry L k/\ry L k<=1024
 |0=>by show 1<=zN L/\zN L<=1024;unfold zN;omega
 |k+1=>by have:=tJ h k;show 1<=I6 _/\I6 _<=1024;unfold I6;omega
def zE(L:Nat):yP L<=2:=by unfold yP;split<;>(try split)<;>omega
def MY {L i:Nat}(h:L<=1048576)(hi:i<=yP L):ry L i>1↔i<yP L:=by
 have h0:=tJ h 0;have O:=tJ h 1;have h2:=tJ h 2;have e0:ry L 0=zN L:=rfl;have e1:ry L 1=I6 (zN L):=rfl;have e2:ry L 2=I6 (I6<|zN L):=rfl;have u2:I6 (I6<|zN L)<=1:=by rw[e0]at h0;unfold I6;omega
 have:i=0\/i=1\/i=2:=by have:=zE L;omega
 unfold yP at*;rcases this with r|r|r<;>subst r
 .rw[e0];split
  .omega
  .split<;>omega
 .rw[e1];split at hi
  .omega
  .rename_i q;rw[if_neg q];split<;>omega
 .rw[e2];split at hi
  .omega
  .split at hi
   .omega
   .rename_i q r;rw[if_neg q,if_neg r];omega
def aC8 {L:Nat}(h:L<=1048576)(z:Int)(hz:z=(L:Int)):(if oU ((oU<|oU (z+1024)-1).tdiv 1024)>1 then oU ((oU<|oU (z+1024)-1).tdiv 1024)else 1)=(zN L:Int):=by
 have e1:oU (oU (z+1024)-1)=((L+1023:Nat):Int):=by rw[hz,wrap64 (x:=(L:Int)+1024) U U,wrap64 U U];omega
 have e2:oU (((L+1023:Nat):Int).tdiv 1024)=(((L+1023)/1024:Nat):Int):=by rw[show((L+1023:Nat):Int).tdiv 1024=(((L+1023)/1024:Nat):Int)from rfl,wrap64 U U]
 rw[e1,e2];unfold zN;split<;>omega
def W6 {n:Nat}(h:n<=1024):oU ((oU<|oU ((n:Int)+32)-1).tdiv 32)=(I6 n:Int):=by
 have e1:oU (oU ((n:Int)+32)-1)=((n+31:Nat):Int):=by rw[wrap64 (x:=(n:Int)+32) U U,wrap64 U U];omega
 rw[e1,show((n+31:Nat):Int).tdiv 32=(((n+31)/32:Nat):Int)from rfl,wrap64 U U];rfl
def Qa(L k:Nat)(h:L<=1048576)(hk:k<=64)(z:Int)(hz:z=(L:Int)):Ok P 354 [I z,I k] (I (ry L k:Nat)):=by
 have hkx:k<=aq:=cm hk dD;have lp:=yM f354 3 k (λ_=>false) (λi=>(M 20 [(4,I 0),(5,I (ry L i:Nat)),(11,I k),(12,I i)])) [] (eR<|M 20 [(4,I 0),(5,I 0)]) (ey 0<|M 20 [(4,I 0),(5,I (ry L k:Nat))]) λi hi lt aW az aR=>by
  have hb:=(tJ h i).2;have e1:oU ((i:Int)+1)=((i+1:Nat):Int):=by rw[wrap64 U U];omega
  have e2:=W6 hb;refine ao aw L0 [4,5,11,12] [4,5] (.d ((i:Int)<k) (bR (M 20 [(4,I 0),(5,I<|oU<|(oU<|oU ((↑(ry L i):Int)+32)-1).tdiv 32),(11,I k),(12,I<|oU<|(i:Int)+1)]) [])<|fv 0 (M 20 [(4,I 0),(5,I (↑(ry L i):Int))]) []) ?_;have Y:=(di:False↔False)
  (simp only[e1,e2];clear e1 e2)
  simp only[av]
  (repeat' with_reducible first|intro _|apply aNd_)<;>first|exact aM|(have h:i<k:=U;exact aW h rfl)|(have e:i=k:=U;subst e;exact aR rfl)|(rw[bZ (n:=k) U hkx];exact aW U (bF Y gG))
 have e:=aC8 h z hz;refine al aw (iy [4,5,11,12] (k) (λ_=>false) (λi=>(M 20 [(4,I 0),(5,I 0)])) (M 20 [(4,I 0),(5,I (ry L k:Nat))]) (.ext 0) (λi=> []) []) (let V:=(oU<|oU (z+1024)-1).tdiv 1024;let Z:=(M 20 [(4,I 0),(5,I (if oU V>1 then oU V else 1)),(11,I k),(12,I 0)]);(.n (ar k λx=>false) (.o [ax P (aD f354 3) Z [] (Out.ret) (M 20 [(4,I 0),(5,I 0)]) []] qo)<|.o [ax P (aD f354 3) Z [] (Out.ext 0) (M 20 [(4,I 0),(5,I (↑(ry L k):Int))]) []]<|.e<|I (↑(ry L k):Int))) ?_;try dsimp only
 rw[e];simp only[av]
 (repeat' with_reducible first|intro _|apply aNd_)<;>first|exact aM|exact absurd (show(ar k λ_=>false)=true by assumption) (by rw[s7];simp)|exact(lp.f<|s7 _).one|rfl
def pT(z:Int):Prop:=0<=z/\z<=1048576
def Br(z:Int):Prop:=0<=z/\z<=64
def EBA:Env:=aF 354 (bN (a2 bx bx) (λx=>I (ry x.1.toNat x.2.toNat:Nat)) λx=>pT x.1/\Br x.2) EN
def MZ:an P EBA:=ah aw λx h=>by
 have O:=h.1;have h2:=h.2;unfold pT at O;unfold Br at h2;have:=Qa x.1.toNat x.2.toNat U U x.1 U
 rwa [rM h2.1]at this
def aa4(L:Nat)(h:L<=1048576)(z:Int)(hz:z=(L:Int)):Ok P 333 [I z] (I (yP L:Nat)):=by
 have hh:=zE L;have hkx:yP L<=aq:=cm hh dD;have hzl:pT z:=by unfold pT;omega
 have hzn:z.toNat=L:=U;generalize hm:yP L=m at hh hkx;have lp:=yM f333 2 m (λ_=>false) (λi=>(M 11 [(0,I z),(2,I 0),(3,I i)])) [] (eR<|M 11 [(2,I 0),(3,I 0)]) (ey 0<|M 11 [(2,I 0),(3,I m)]) λi hi lt aW az aR=>by
  have hb:ry L i>1↔i<m:=hm▸MY h U;have e1:oU ((i:Int)+1)=((i+1:Nat):Int):=by rw[wrap64 U U];omega
  have hl:Br (i:Nat):=by unfold Br;omega
  refine ao MZ L0 [0,2,3] [2,3] (.k (a2 bx bx) (z,(i:Int)) (pT z/\Br (i:Int))<|.d ((↑(ry z.toNat (i:Int).toNat):Int)>1) (bR (M 11 [(0,I z),(2,I 0),(3,I<|oU<|(i:Int)+1)]) [])<|fv 0 (M 11 [(2,I 0),(3,I i)]) []) ?_;have Y:=(di:False↔False)
  (simp only[e1,hzn,dL];clear e1)
  simp only[av]
  (repeat' with_reducible first|intro _|apply aNd_)<;>first|exact aM|(have h:i<m:=U;exact aW h rfl)|(have e:i=m:=U;subst e;exact aR rfl)
 refine al MZ (iy [0,2,3] (m) (λ_=>false) (λi=>(M 11 [(2,I 0),(3,I 0)])) (M 11 [(2,I 0),(3,I m)]) (.ext 0) (λi=> []) []) (let Z:=(M 11 [(0,I z),(2,I 0),(3,I 0)]);(.n (ar m λx=>false) (.o [ax P (aD f333 2) Z [] (Out.ret) (M 11 [(2,I 0),(3,I 0)]) []] qo)<|.o [ax P (aD f333 2) Z [] (Out.ext 0) (M 11 [(2,I 0),(3,I m)]) []]<|.e<|I m)) ?_;simp only[av]
 (repeat' with_reducible first|intro _|apply aNd_)<;>first|exact aM|exact absurd (show(ar m λ_=>false)=true by assumption) (by rw[s7];simp)|exact(lp.f<|s7 _).one|rfl
def aa5(L:Nat)(h:L<=1048576)(z:Int)(hz:z=(L:Int)):Ok P 282 [I z] (I (yP L:Nat)):=by
 have hh:=zE L;have hkx:yP L<=aq:=cm hh dD;generalize hm:yP L=m at hh hkx;have lp:=yM f282 3 m (λ_=>false) (λi=>(M 19 [(2,I 0),(3,I (ry L i:Nat)),(4,I i)])) [] (eR<|M 19 [(2,I 0),(4,I 0)]) (ey 0<|M 19 [(2,I 0),(4,I m)]) λi hi lt aW az aR=>by
  have hb:ry L i>1↔i<m:=hm▸MY h U;have e1:oU ((i:Int)+1)=((i+1:Nat):Int):=by rw[wrap64 U U];omega
  have e2:=W6 (tJ h i).2;refine ao aw L0 [2,3,4] [2,4] (.d ((↑(ry L i):Int)>1) (bR (M 19 [(2,I 0),(3,I<|oU<|(oU<|oU ((↑(ry L i):Int)+32)-1).tdiv 32),(4,I<|oU<|(i:Int)+1)]) [])<|fv 0 (M 19 [(2,I 0),(4,I i)]) []) ?_;have Y:=(di:False↔False)
  (simp only[e1,e2];clear e1 e2)
  simp only[av]
  (repeat' with_reducible first|intro _|apply aNd_)<;>first|(have h:i<m:=U;exact aW h rfl)|(have e:i=m:=U;subst e;exact aR rfl)
 have e:=aC8 h z hz;refine al aw (iy [2,3,4] (m) (λ_=>false) (λi=>(M 19 [(2,I 0),(4,I 0)])) (M 19 [(2,I 0),(4,I m)]) (.ext 0) (λi=> []) []) (let V:=(oU<|oU (z+1024)-1).tdiv 1024;let Z:=(M 19 [(2,I 0),(3,I (if oU V>1 then oU V else 1)),(4,I 0)]);(.n (ar m λx=>false) (.o [ax P (aD f282 3) Z [] (Out.ret) (M 19 [(2,I 0),(4,I 0)]) []] qo)<|.o [ax P (aD f282 3) Z [] (Out.ext 0) (M 19 [(2,I 0),(4,I m)]) []]<|.e<|I m)) ?_;try dsimp only
 rw[e];simp only[av]
 (repeat' with_reducible first|intro _|apply aNd_)<;>first|exact aM|exact absurd (show(ar m λ_=>false)=true by assumption) (by rw[s7];simp)|exact(lp.f<|s7 _).one|rfl
def eK(k:Nat):Nat:=1024*32^k
def kU(k:Nat):eK (k+1)=eK k*32:=by unfold eK;rw[Fk];omega
def Ht {k:Nat}(h:k<=4):eK k<=1073741824:=by rcases(by omega:k=0\/k=1\/k=2\/k=3\/k=4)with r|r|r|r|r<;>subst r<;>decide
def aC9(k:Nat)(hk:k<=4):Ok P 335 [I k] (I (eK k:Nat)):=by
 have hkx:k<=aq:=cm hk dD;have lp:=yM f335 3 k (λ_=>false) (λi=>(M 11 [(2,I 0),(3,I (eK i:Nat)),(4,I k),(5,I i)])) [] (eR<|M 11 [(2,I 0),(3,I 0)]) (ey 0<|M 11 [(2,I 0),(3,I (eK k:Nat))]) λi hi lt aW az aR=>by
  have hb:=Ht (show i<=4 by omega);have e1:oU ((i:Int)+1)=((i+1:Nat):Int):=by rw[wrap64 U U];omega
  have e2:oU ((eK i:Int)*32)=((eK (i+1):Nat):Int):=by rw[kU,wrap64 U U];omega
  refine ao aw L0 [2,3,4,5] [2,3] (.d ((i:Int)<k) (bR (M 11 [(2,I 0),(3,I<|oU<|(↑(eK i):Int)*32),(4,I k),(5,I<|oU<|(i:Int)+1)]) [])<|fv 0 (M 11 [(2,I 0),(3,I (↑(eK i):Int))]) []) ?_;have Y:=(di:False↔False)
  (simp only[e1,e2];clear e1 e2)
  simp only[av]
  (repeat' with_reducible first|intro _|apply aNd_)<;>first|exact aM|(have h:i<k:=U;exact aW h rfl)|(have e:i=k:=U;subst e;exact aR rfl)|(rw[bZ (n:=k) U hkx];exact aW U (bF Y gG))
 refine al aw (iy [2,3,4,5] (k) (λ_=>false) (λi=>(M 11 [(2,I 0),(3,I 0)])) (M 11 [(2,I 0),(3,I (eK k:Nat))]) (.ext 0) (λi=> []) []) (let Z:=(M 11 [(2,I 0),(3,I 1024),(4,I k),(5,I 0)]);(.n (ar k λx=>false) (.o [ax P (aD f335 3) Z [] (Out.ret) (M 11 [(2,I 0),(3,I 0)]) []] qo)<|.o [ax P (aD f335 3) Z [] (Out.ext 0) (M 11 [(2,I 0),(3,I (↑(eK k):Int))]) []]<|.e<|I (↑(eK k):Int))) ?_;simp only[av]
 (repeat' with_reducible first|intro _|apply aNd_)<;>first|exact aM|exact absurd (show(ar k λ_=>false)=true by assumption) (by rw[s7];simp)|exact(lp.f<|s7 _).one|rfl
def bf5(k:Nat)(hk:k<=4):Ok P 320 [I k] (I (eK k:Nat)):=by
 have hkx:k<=aq:=cm hk dD;have lp:=yM Tryz.f320 3 k (λ_=>false) (λi=>(M 13 [(0,I k),(2,I 0),(3,I (eK i:Nat)),(4,I i)])) [] (eR<|M 13 [(2,I 0),(3,I 0)]) (ey 0<|M 13 [(2,I 0),(3,I (eK k:Nat))]) λi hi lt aW az aR=>by
  have hb:=Ht (show i<=4 by omega);have e1:oU ((i:Int)+1)=((i+1:Nat):Int):=by rw[wrap64 U U];omega
  have e2:oU ((eK i:Int)*32)=((eK (i+1):Nat):Int):=by rw[kU,wrap64 U U];omega
  refine ao aw L0 [0,2,3,4] [2,3] (.d ((i:Int)<k) (bR (M 13 [(0,I k),(2,I 0),(3,I<|oU<|(↑(eK i):Int)*32),(4,I<|oU<|(i:Int)+1)]) [])<|fv 0 (M 13 [(2,I 0),(3,I (↑(eK i):Int))]) []) ?_;have Y:=(di:False↔False)
  (simp only[e1,e2];clear e1 e2)
  simp only[av]
  (repeat' with_reducible first|intro _|apply aNd_)<;>first|exact aM|(have h:i<k:=U;exact aW h rfl)|(have e:i=k:=U;subst e;exact aR rfl)|(rw[bZ (n:=k) U hkx];exact aW U (bF Y gG))
 refine al aw (iy [0,2,3,4] (k) (λ_=>false) (λi=>(M 13 [(2,I 0),(3,I 0)])) (M 13 [(2,I 0),(3,I (eK k:Nat))]) (.ext 0) (λi=> []) []) (let Z:=(M 13 [(0,I k),(2,I 0),(3,I 1024),(4,I 0)]);(.n (ar k λx=>false) (.o [ax P (aD Tryz.f320 3) Z [] (Out.ret) (M 13 [(2,I 0),(3,I 0)]) []] qo)<|.o [ax P (aD Tryz.f320 3) Z [] (Out.ext 0) (M 13 [(2,I 0),(3,I (↑(eK k):Int))]) []]<|.e<|I (↑(eK k):Int))) ?_;simp only[av]
 (repeat' with_reducible first|intro _|apply aNd_)<;>first|exact aM|exact absurd (show(ar k λ_=>false)=true by assumption) (by rw[s7];simp)|exact(lp.f<|s7 _).one|rfl
def gH(f:Nat->y_):Nat->l_ (l_ J)
 |0=> []
 |i+1=>gH f i++ [aA3 (f i) (oU (lF (zS::gH f i) [J.sc (.string (f i))]+1))]
theorem aD0(f:Nat->y_)(s:y_):∀i,i<=aq->0<=lF (zS::gH f i) [J.sc<|.string s]/\lF (zS::gH f i) [J.sc<|.string s]<=i/\(lF (zS::gH f i) [J.sc<|.string s]>0↔ar i (λj=>decide (f j=s))=true)
 |0,_=>by
  have h:=bv7 s;show 0<=lF [zS] _/\lF [zS] _<=_/\(lF [zS] _>0↔_)
  rw[h];simp [ar]
 |i+1,h=>by
  obtain⟨O,h2,h3⟩:=aD0 f s i U;have e:zS::gH f (i+1)=(zS::gH f i)++ [aA3 (f i)<|oU<|lF (zS::gH f i) [J.sc<|.string<|f i]+1]:=rfl;have hs:ar (i+1) (λj=>decide (f j=s))=(ar i (λj=>decide (f j=s))||decide (f i=s)):=by unfold ar;rw[qi,AA];simp
  rw[e,aA4,hs];by_cases F:f i=s
  .unfold aq at h;rw[cd F,Av,F,wrap64 U U,Bool.or_true];exact⟨U,U,by simp;omega⟩
  .rw[fq F,xz,Fh];exact⟨O,U,h3⟩
def yQ(n:Int):Bool:=decide<|1<=n/\n<=4
def aD1(n:Int):Ok P 146 [I n] (Bo<|yQ n):=by
 refine al aw L0 (.d (n>=1) (.e<|Bo<|decide<|n<=4) bI) ?_;simp only[av]
 repeat' with_reducible first|intro _|apply aNd_
 all_goals (unfold yQ;exact ga)
def aD2(n:Int):Ok P 177 [I n] (Bo<|yQ n):=by
 refine al aw L0 (.d (n>=1) (.e<|Bo<|decide<|n<=4) bI) ?_;simp only[av]
 repeat' with_reducible first|intro _|apply aNd_
 all_goals (unfold yQ;exact ga)
def qu(x:bh eF)(s:y_):Int:=cZ x.n λi=>decide<|(x.f i).bM=s
def aD3(x:bh eF)(s:y_)(hn:x.n<=aq):Ok P 178 [(ak eF).au x,S s] (I<|qu x s):=by
 have lp:=fF f178 2 x.n (λi=>decide ((x.f i).bM=s)) (λi=>(M 20 [(0,(ak eF).au x),(1,S s),(4,I 0),(5,I i)])) [] (λi=>(.ret,(M 20 [(4,I i)]),[])) (ey 0<|M 20 [(4,I 0)]) λi hi lt aW az aR=>by
  refine ao aw L0 [0,1,4,5] [4] (.d ((i:Int)<x.n) (.g i x.n<|.n (dN (x.f i).bM s) (eH az)<|eG aW)<|eY aR) ?_;have Y:=@decide_eq_true_iff ((x.f i).bM=s) _;simp only[av,bK,bO,aL]
  repeat' with_reducible first|intro _|apply aNd_
  all_goals exact aM
 refine al aw (kR lp [0,1,4,5]) (jS lp (.e<|I (↑(aE x.n λi=>decide ((x.f i).bM=s)):Int))<|.e<|I<|-1) ?_;simp only[av]
 (repeat' with_reducible first|intro _|apply aNd_)<;>first|(unfold qu cZ;rw[if_pos W])|(unfold qu cZ;rw[if_neg<|jY.1 W])
def EK:Env:=aF 146 (bN (a1 bx) λn=>Bo (yQ n))<|aF 177 (bN (a1 bx) λn=>Bo (yQ n))<|aF 178 (bN (a2 (ak eF) aQ) (λx=>I (qu x.1 x.2)) λx=>x.1.n<=aq) EN
def W7:an P EK:=ah (ah (ah aw λx h=>aD3 x.1 x.2 h) λn _=>aD2 n) λn _=>aD1 n
def Qb(x:bh eF)(i:Nat):Bool:=ar i λj=>decide<|(x.f j).bM=(x.f i).bM
def aD4(x:bh eF)(i:Nat):Prop:=yQ (x.f i).fe=false\/1024<(x.f i).data.size\/(x.f i).bM.size≠32\/Qb x i=true
instance(x:bh eF)(i:Nat):Decidable (aD4 x i):=by unfold aD4;infer_instance
def W8(x:bh eF)(i:Nat):Bool:=decide<|aD4 x i
def Kt(x:bh eF)(i:Nat):W8 x i=true↔(yQ (x.f i).fe=false\/1024<(x.f i).data.size\/(x.f i).bM.size≠32\/Qb x i=true):=bp
def rZ(x:ay):Bool:=decide<|1<=x.cap/\x.cap<=4096/\(x.aU.n:Int)<=x.cap/\ar x.aU.n (W8 x.aU)=false
def aa6(x:ay)(hn:x.aU.n<=aq):Ok P 83 [(af ay).au x] (Bo<|rZ x):=by
 have lp:=qp f83 5 x.aU.n (W8 x.aU) (λi=>(M 59 [(2,aP),(3,J.mp 0),(24,(ak eF).au x.aU),(25,I x.aU.n),(26,I i)])) (λi=> [⟨zS::gH (λj=>(x.aU.f j).bM) i,3,[],0,true,false⟩]) (eR<|M 59 [(2,aP)]) (ey 0<|M 59 [(2,aP)]) λi hi lt aW az aR=>by have hg:i<=aq->(lF (zS::gH (λj=>(x.aU.f j).bM) i) [J.sc<|.string (x.aU.f i).bM]>0↔Qb x.aU i=true):=λh=>(aD0 (λj=>(x.aU.f j).bM) (x.aU.f i).bM i h).2.2;have hg2:=hg<|cm hi hn;refine ao W7 L0 [2,3,24,25,26] [2] (let Z:=x.aU.f i;let V:=[S Z.bM];(.d ((i:Int)<x.aU.n) (.g i x.aU.n<|.v (a1 bx) Z.fe<|.m (yQ Z.fe) (eH az)<|.d ((Z.data.size:Int)>1024) (eH az)<|.u (Z.bM.size:Int) 32 (eH az)<|.d (lF (zS::gH (λj=>(x.aU.f j).bM) i) V>0) (eH az)<|bR (M 59 [(2,aP),(3,J.mp 0),(24,(ak eF).au x.aU),(25,I x.aU.n),(26,I<|oU<|(i:Int)+1)]) [dW.mk ([S (n_:y_),I 0]::(gH (λj=>(x.aU.f j).bM) i++ [V++ [I<|oU<|lF (zS::gH (λj=>(x.aU.f j).bM) i) V+1]])) 3 [] 0 true false])<|fv 0 (M 59 [(2,aP)]) [])) ?_;have Y:=Kt x.aU i;exact ft
 refine al W7 (kR lp [2,3,24,25,26]) (let Z:ix:=bI;(.d (x.cap<1) Z<|.d (x.cap>4096) Z<|.d ((x.aU.n:Int)>x.cap) Z<|jS lp Z fo)) ?_;simp only[av]
 repeat' with_reducible first|intro _|apply aNd_
 all_goals (unfold rZ;exact ga)
def TG(x:ay)(hn:x.aU.n<=aq):Ok P 110 [(af ay).au x] (Bo<|rZ x):=by
 have hs:∀i,Qb x.aU i=true↔ ¬qu ⟨i,x.aU.f⟩ (x.aU.f i).bM<0:=λi=>by have h:qu ⟨i,x.aU.f⟩ (x.aU.f i).bM<0↔_:=Bb (n:=i) (b:=λj=>decide ((x.aU.f j).bM=(x.aU.f i).bM));rw[h,<-mZ,Fl];exact di
 have lp:=fF f110 4 x.aU.n (W8 x.aU) (λi=>(M 59 [(1,aT),(2,aP),(3,I i)])) [(cM [aY.cells x] 2)] (eR<|M 59 [(2,aP)]) (ey 0<|M 59 [(2,aP)]) λi hi lt aW az aR=>by
  have Wa:Qb x.aU i=true↔ ¬qu ⟨i,λk=>x.aU.f k⟩ (x.aU.f i).bM<0:=hs i;refine ao W7 L0 [1,2,3] [2] (let Z:=x.aU.f i;(.d ((i:Int)<x.aU.n) (.g i x.aU.n<|.v (a1 bx) Z.fe<|.m (yQ Z.fe) (eH az)<|.d ((Z.data.size:Int)>1024) (eH az)<|.u (Z.bM.size:Int) 32 (eH az)<|.o [(0:Int)<=0,(0:Int)<=(i:Int),(i:Int)<=(x.aU.n:Int)]<|.k (a2 (ak eF) aQ) (bh.mk i λi=>x.aU.f (0+i),Z.bM) (i<=140737488351232)<|.d (qu (bh.mk i λi=>x.aU.f (0+i)) Z.bM>=0) (eH az)<|eG aW)<|eY aR)) ?_;have Y:=Kt x.aU i
  (try simp only[eP])
  simp only[av]
  (repeat' with_reducible first|intro _|apply aNd_)<;>first|exact aM|exact cm hi hn
 refine al W7 (kR lp [1,2,3]) (let Z:ix:=bI;(.d (x.cap<1) Z<|.d (x.cap>4096) Z<|.d ((x.aU.n:Int)>x.cap) Z<|jS lp Z fo)) ?_;simp only[av]
 repeat' with_reducible first|intro _|apply aNd_
 all_goals (unfold rZ;exact ga)
end
section
open Go.PS Wf Go.RowKit
def bv9:Go.Shelf.Ren:=⟨λ|166=>64|167=>377|169=>65|170=>378|240=>130|276=>202|n=>n,pN.t,λ|n=>n⟩
def bW7:Lays.n167 Tryz.prog bv9:= {
 mixed:=kK
 f167:=du func377
 f240:=du func130
 f276:=du func202
 t0:=underlying0
 a0:=isAgg0
 z0:=sizeOf0
 v0:=zeroValue0
 t4:=underlying4
 a4:=isAgg4
 z4:=sizeOf4
 v4:=zeroValue4
 t5:=underlying5
 a5:=isAgg5
 z5:=sizeOf5
 v5:=zeroValue5
 t9:=underlying9
 a9:=isAgg9
 z9:=sizeOf9
 v9:=zeroValue9
 t20:=underlying20
 a20:=isAgg20
 z20:=sizeOf20
 v20:=zeroValue20
 t37:=underlying157
 a37:=isAgg157
 z37:=sizeOf157
 v37:=zeroValue157
 t70:=underlying156
 a70:=isAgg156
 z70:=sizeOf156
 v70:=zeroValue156
 t72:=underlying159
 a72:=isAgg159
 z72:=sizeOf159
 v72:=zeroValue159
 t75:=underlying166
 a75:=isAgg166
 z75:=sizeOf166
 v75:=zeroValue166
 t164:=underlying297
 a164:=isAgg297
 z164:=sizeOf297
 v164:=zeroValue297}
def wbX:Builder.Extra Tryz.prog bv9:= {
 sizeBuilder:=kK
 liesBuilder:=kK
 t5:=underlying5
 a5:=isAgg5
 z5:=sizeOf5
 v5:=zeroValue5
 infoByte:=kK
 cellsByte:=kK
 sizeByte:=kK
 neB5:=by decide}
def bw0:Lays.n166 Tryz.prog pN:= {FB with}
abbrev TH(b:Nat)(l:l_ UInt8)(w:World):Prop:=Lib.IsBuilder 159 5 b b (Lib.byteCells l) w
def vB(b:Nat)(l:l_ UInt8)(c:UInt8)(w:World)(h:TH b l w)(hl:l.length+1<=140737488355328)(hb:b<=w.heap.size):
  Calls P 377 #[.pointer<|some ⟨b,0,none⟩,.int .u8 c.toNat] w λe w'=>e= .returned .nilIface/\TH b (l++ [c]) w'/\Below b w w':=by
 refine(Any.Builder_WriteByte bW7 wbX b b (Lib.byteCells l) c.toNat w h (by rw[Lib.byteCells_length];exact hl) hb).mono ?_;rintro e w' ⟨rfl,O,h2⟩;refine⟨rfl,?_,h2⟩;show Lib.IsBuilder 159 5 b b _ w';rw[Lib.byteCells_append];exact .inr O
def Jr(b:Nat)(l:l_ UInt8)(c:Int)(x:UInt8)(Y:c=(x.toNat:Int))(w:World)(h:TH b l w)(hl:l.length+1<=140737488355328)(hb:b<=w.heap.size):
  Calls P 377 #[.pointer<|some ⟨b,0,none⟩,.int .u8 c] w λe w'=>e= .returned .nilIface/\TH b (l++ [x]) w'/\Below b w w':=by
 rw[Y];exact vB b l x w h hl hb
def wV(b:Nat)(l:l_ UInt8)(s:y_)(w:World)(h:TH b l w)(hl:l.length+s.size<=140737488355328)(hb:b<=w.heap.size):
  Calls P 64 #[.pointer<|some ⟨b,0,none⟩,.string s] w λe w'=>e= .returned (.tuple #[.int .i64 s.size,.nilIface])/\TH b (l++s.data.toList) w'/\Below b w w':=by
 refine(Any.Builder_WriteString bw0 jO b b (Lib.byteCells l) s w h (by rw[Lib.byteCells_length];exact hl) hb).mono ?_;rintro e w' ⟨rfl,O,h2⟩;refine⟨rfl,?_,h2⟩;show Lib.IsBuilder 159 5 b b _ w';rw[Lib.byteCells_append];exact .inr O
def aD5(b:Nat)(l:l_ UInt8)(w:World)(h:TH b l w):Calls P 378 #[.pointer<|some ⟨b,0,none⟩] w λe w'=>e= .returned (.int .i64 l.length)/\w'=w:=by
 have:=Builder_Len b b (Lib.byteCells l) w h
 rwa [Lib.byteCells_length]at this
def Ku(b:Nat)(l:l_ UInt8)(w:World)(h:TH b l w)(hb:b<=w.heap.size):Calls P 65 #[.pointer<|some ⟨b,0,none⟩] w λe w'=>e= .returned (.string<|B l)/\Below b w w':=
 Builder_String_any b b l w h hb
def bE1(w:World)(b:Nat):Nat:=match w.heap[b]? with
 |some (.cells c _ _)=>match c[1]? with
  |some (Value.slice _ n _)=>n
  |_=>0
 |_=>0
def W9 {b:Nat} {l:l_ UInt8} {w:World}(h:TH b l w):bE1 w b=l.length:=by
 obtain⟨p,hB,v,hbk,zy,nP⟩:∃p,Lib.BuilderAt 159 5 b b p (Lib.byteCells l) w:=by
  rcases h with h|h
  .exact⟨_,h⟩
  .exact⟨_,h⟩
 have hl:=Lib.byteCells_length l;unfold bE1;rw[hbk];rcases zy.2 with⟨hv,h0⟩|⟨g,cap,cur,hv,_⟩
 .rw[hv];show 0=_;omega
 .rw[hv];exact hl
def Bt(s:y_)(i:Nat):(nZ s i).data.toList.length=s.size+1+i:=by rw[<-rv s i];exact(Lib.size_eq _).symm
def aa7(s:y_)(i:Nat):(nZ s i).data.toList++ [0]=(nZ s<|i+1).data.toList:=by rw[<-Ks];simp
def hiL(m i:Nat):l_ UInt8:=(oZ m 8).take i
def aD6(m i:Nat)(h:i<8):hiL m i++ [uT m<|7-i]=hiL m (i+1):=by
 unfold hiL;have e:(oZ m 8)[i]?=some (uT m<|7-i):=by rcases(by omega:i=0\/i=1\/i=2\/i=3\/i=4\/i=5\/i=6\/i=7)with h|h|h|h|h|h|h|h<;>subst h<;>rfl
 rw[AB,e];rfl
def bf6(m j:Nat)(h:j<8):(8*(m:Int))/2^(56-8*j)%256=((uT (8*m)<|7-j).toNat:Int):=by
 unfold uT;rw[WZ,show(256:Nat)^(7-j)=2^(56-8*j) by rw[show(256:Nat)=2^8 from rfl,<-Nat.pow_mul];congr 1;omega];have e:((8*m/2^(56-8*j)%256).toUInt8).toNat=8*m/2^(56-8*j)%256:=by rw[Nat.toUInt8_eq,UInt8.toNat_ofNat'];omega
 rw[e,Int.natCast_emod,Int.natCast_ediv,Int.natCast_mul,Int.natCast_pow];rfl
set_option maxRecDepth 1000000 in
def aD7(s:y_)(w:World)(hs:s.size<=70368744177664):
  Calls P 367 #[.string s] w λe w'=>e= .returned (.string<|sF s)/\Below w.heap.size w w':=by
 have e64:∀args w,(callFunc 64 args).run P w= .ok (.enter 64 args) w:=sS;have ch4:∀args w,(callFunc 377 args).run P w= .ok (.enter 377 args) w:=sS;have ch5:∀args w,(callFunc 378 args).run P w= .ok (.enter 378 args) w:=sS;have e65:∀args w,(callFunc 65 args).run P w= .ok (.enter 65 args) w:=sS;go_enter func367,ntmps367;have c0:([]:l_ UInt8).length+s.size<=140737488355328:=by simp;omega
 have c1:s.data.toList.length+1<=140737488355328:=by rw[<-Lib.size_eq];omega
 have z0:w.heap.size<=(w.alloc<|.cells #[.pointer none,.slice none 0 0] 159).heap.size:=sS;have f0:=Lib.fresh_isBuilder 159 5 w;have b0:=(Below.refl w.heap.size w).alloc (bE _)<|.cells #[.pointer none,.slice none 0 0] 159;generalize hW0:w.alloc (.cells #[.pointer none,.slice none 0 0] 159)=W0 at z0 f0 b0
 go_wp2_with (first|(go_at_call 64;refine(wV w.heap.size [] s _ f0 c0 z0).mono ?_;rintro e W1 ⟨rfl,i1,b1⟩;have z1:w.heap.size<=W1.heap.size:=cm z0 b1.size;rw[nL]at i1)|(go_at_call 377;refine(vB w.heap.size s.data.toList 128 _ W c1 W).mono ?_;rintro e W2 ⟨rfl,i2,b2⟩))
 have i2':TH w.heap.size (nZ s 0).data.toList W2:=by
  have:s.data.toList++ [128]=(nZ s 0).data.toList:=by unfold nZ;simp
  rw[<-this];exact i2
 have b2':=(b0.trans b1).trans b2;clear i1 i2 b1 b2 z0 z1 f0 b0 hW0
 go_loopw [] (λwr=>∃k:Nat,k<=nY s.size/\TH w.heap.size (nZ s k).data.toList wr/\Below w.heap.size w wr) (λwr=>s.size+1+nY s.size-bE1 wr w.heap.size)
 case atStart=>exact⟨0,bJ _,i2',b2'⟩
 case round=>
  obtain⟨k,hk,ik,bk⟩:=hrel;have hzw:=bk.size;have hpn:nY s.size<=64:=by unfold nY;omega
  have c2:(nZ s k).data.toList.length+1<=140737488355328:=by rw[Bt];omega
  by_cases h:k<nY s.size
  .have nP:(((nZ s k).size:Int)%64 !=56)=true:=by rw[rL,rv];unfold nY at h;omega
   go_wp2_with (first|(go_at_call 378;refine(aD5 _ _ _ ik).mono ?_;rintro e W3 ⟨rfl,rfl⟩)|(go_at_call 377;refine(vB w.heap.size (nZ s k).data.toList 0 _ W c2 W).mono ?_;rintro e W4 ⟨rfl,i4,b4⟩))
   rw[aa7]at i4
   go_roundw
   case rel=>exact⟨k+1,U,i4,bk.trans b4⟩
   case measure=>
    rw[W9 i4,W9 ik,Bt,Bt];omega
  .have F:k=nY s.size:=U;subst F;have nP:(((nZ s<|nY s.size).size:Int)%64 !=56)=false:=by rw[sN,rv];unfold nY;omega
   go_wp2_with (go_at_call 378;refine(aD5 _ _ _ ik).mono ?_;rintro e W3 ⟨rfl,rfl⟩)
   clear nP
   go_loopw [5] (λv wr=>∃j:Nat,j<=8/\v= .int .i64 (56-8*(j:Int))/\TH w.heap.size ((nZ s<|nY s.size).data.toList++hiL (8*s.size) j) wr/\Below w.heap.size w wr) (λv _=>(intOf v+8).toNat)
   case atStart=>exact⟨0,U,rfl,by simpa [hiL]using ik,bk⟩
   case round=>
    obtain⟨j,hj,rfl,ij,bj⟩:=hrel;by_cases Cj:j<8
    .have hge:(56-8*(j:Int))>=0:=U;have hby:=bf6 s.size j Cj;have c3:((nZ s<|nY s.size).data.toList++hiL (8*s.size) j).length+1<=140737488355328:=by
      rw[br,Bt];have:(hiL (8*s.size) j).length<=8:=by unfold hiL;rw[im,pS];omega
      omega
     have hzj:=bj.size;have H3:=Any.hidU (show _/\_ from⟨hby,hge⟩);clear hby
     go_wp2_with (go_at_call 377;refine(Jr w.heap.size _ _ (uT (8*s.size)<|7-j) H3.out.1 _ ij c3 hzj).mono ?_;rintro e W4 ⟨rfl,i4,b4⟩)
     rw[lG,aD6 _ _ Cj]at i4;refine⟨⟨j+1,U,by congr 1;omega,i4,bj.trans b4⟩,?_⟩;show(56-8*(j:Int)-8+8).toNat<(56-8*(j:Int)+8).toNat;omega
    .have F:j=8:=U;subst F;have hzj:=bj.size
     go_wp2_with (go_at_call 65;refine(Ku w.heap.size _ _ ij hzj).mono ?_;rintro e W4 ⟨rfl,b4⟩)
     go_ret;refine⟨?_,bj.trans b4⟩;rw[show hiL (8*s.size) 8=oZ (8*s.size) 8 from wq (Nat.le_of_eq<|pS _ _)];show _=Ending.returned (.string<|nZ s (nY s.size)++B _);rw[<-jP,ZM];rfl
def bE2(s:y_)(hs:s.size<=70368744177664):Ok P 367 [S s] (S<|sF s):=
 Hd (us:=[.string s]) kK λw _=>aD7 s w hs
end
section
open Go.PS Wf
def b80(m:Nat):Env:=aF 379 (bN (a1 aQ) (λp=> .agg (gY<|eO p m)) λp=>p.size=64) aC2
def bf7(m:Nat)(hm:m=64:=by assumption):an P (b80 m):=by subst hm;exact ah Bm λp h=>P8 p h
def EMX(l:l_ Int):Env:=vV (λid _ off=>match id with
 |2=>some (.cell (gK (l.getD off 0)))
 |_=>none) aC2
def bE3(l:l_ Int):an P (EMX l):=j7 Bm
abbrev B8(c:l_ J):dW:=⟨[c],0,[],8,false,false⟩
def yA:l_ J:=[gK 0,gK 0,gK 0,gK 0,gK 0,gK 0,gK 0,gK 0]
def aD8(l:l_ Int)(v:V8)(m:Nat)(hm:m=64):aO P (aD f368 4) (M 111 [(2,.ptr 0 0 0),(4,.ptr 1 0 0),(5,.ptr 2 0 0),(6,.ptr 3 0 0),(20,I 0)]) [B8 v.cells,B8 yA,⟨[gY l],0,[],64,true,false⟩,B8 v.cells] (.ite (ar m λ_=>false) (.out .ret (M 111 [(4,.ptr 0 0 0)]) [B8 yA])<|.out (.ext 0) (M 111 [(2,.ptr 0 0 0),(4,.ptr 1 0 0),(6,.ptr 2 0 0)]) [B8 v.cells,B8 yA,B8 (jH l v m).cells]):=by
 have WY:m<=aq:=by subst hm;decide
 have lp:=qp f368 4 m (λ_=>false) (λi=>(M 111 [(2,aT),(4,.ptr 1 0 0),(5,.ptr 2 0 0),(6,.ptr 3 0 0),(20,I i)])) (λi=> [B8 v.cells,B8 yA,(dn [gY l] 64),B8 (jH l v i).cells]) (λi=>(.ret,(M 111 [(4,aT)]),[B8 yA])) (.ext 0,(M 111 [(2,aT),(4,.ptr 1 0 0),(6,.ptr 2 0 0)]),[B8 v.cells,B8 yA,B8 (jH l v m).cells]) λi hi lt aW az aR=>by
  have e1:oU ((i:Int)+1)=((i+1:Nat):Int):=by rw[wrap64 U U];omega
  refine ao (bE3 l) L0 [2,4,5,6,20] [4,10002,10006] (let Z:=jH l v i;let V:=dM (dM (dM (dM (Z.h)<|gX (gX (wk Z.e 6)<|wk Z.e 11)<|wk Z.e 25)<|gX (rX (Z.e)<|Z.f)<|rX (gX (if IntKind.u32.signed=true then-1 else IntKind.u32.max)<|Z.e)<|Z.g)<|gU.getD i 0) (l.getD (0+i*1) 0);let aG:=a2 (oD IntKind.u32) bx;let aS:=cM [[aI v.a,aI v.b,aI v.c,aI v.d,aI v.e,aI v.f,aI v.g,aI v.h]] 8;let bn:=cM [[aI 0,aI 0,aI 0,aI 0,aI 0,aI 0,aI 0,aI 0]] 8;(.d ((i:Int)<64) (.o [(0:Int)<=0,(0:Int)<8,(0:Int)<=1,(1:Int)<8,(0:Int)<=2,(2:Int)<8,(0:Int)<=4,(4:Int)<8,(0:Int)<=5,(5:Int)<8,(0:Int)<=6,(6:Int)<8,(0:Int)<=7,(7:Int)<8]<|.k aG (Z.e,6) (fb 6)<|.k aG (Z.e,11) (fb 11)<|.k aG (Z.e,25) (fb 25)<|.g i 64<|.o [i<64]<|.g i 64<|.o [([gY l][0]?.bind λe=>e[0+i*1]?)=some (gK<|l.getD (0+i*1) 0)]<|.k aG (Z.a,2) (fb 2)<|.k aG (Z.a,13) (fb 13)<|.k aG (Z.a,22) (fb 22)<|.o [(0:Int)<=3,(3:Int)<8]<|bR (M 111 [(2,aT),(4,dK 1),(5,dK 2),(6,dK 3),(20,I<|oU<|(i:Int)+1)]) [aS,bn,dn [(gY l)] 64,cM [[aI<|dM V<|dM (gX (gX (wk Z.a 2)<|wk Z.a 13)<|wk Z.a 22)<|gX (gX (rX (Z.a)<|Z.b)<|rX (Z.a)<|Z.c)<|rX (Z.b)<|Z.c,aI Z.a,aI Z.b,aI Z.c,aI<|dM (Z.d) V,aI Z.e,aI Z.f,aI Z.g]] 8])<|fv 0 (M 111 [(2,aT),(4,dK 1),(6,dK 2)]) [aS,bn,cM [[aI Z.a,aI Z.b,aI Z.c,aI Z.d,aI Z.e,aI Z.f,aI Z.g,aI Z.h]] 8])) ?_;have Y:=(di:False↔False)
  (simp only[e1,eP,xy];clear e1)
  simp only[av]
  (repeat' with_reducible first|intro _|apply aNd_)<;>first|trivial|omega|(show fb _;unfold fb;omega)|exact oY _ _ U|(have e:i=m:=U;subst e;exact aR rfl)|(have h:i<m:=U;exact aW h rfl)
 exact lp
def c8(f:Nat->Int):l_ J:=(List.range 8).map λj=>gK<|f j
def hf(u v:Nat->Int)(i j:Nat):Int:=if j<i then dM (u j) (v j)else u j
def M0(f:Nat->Int)(i:Nat)(h:i<8):([c8 f][0]?.bind λe=>e[i]?)=some (gK<|f i):=by show(c8 f)[i]?=_;unfold c8;rw[b9,qh h];rfl
def bW8(u v:Nat->Int)(i:Nat)(h:i<8):([c8<|hf u v i][0]?.bind λe=>e[i]?)=some (gK<|u i):=by rw[M0 _ _ h];unfold hf;rw[if_neg<|nI i]
def bE4(u v:Nat->Int)(i:Nat)(h:i<8):PS.splice (c8<|hf u v i) i [gK<|dM (u i)<|v i]=c8 (hf u v<|i+1):=by
 have hl:∀f,(c8 f).length=8:=λf=>by unfold c8;simp
 apply k6;intro j;rw[show(PS.splice (c8<|hf u v i) i [gK<|dM (u i)<|v i])[j]?=_ from oQ _ _ _ _ (by rw[hl];simp;omega)];by_cases h3:j<8
 .have e2:=M0 (hf u v<|i+1) j h3;have e1:=M0 (hf u v i) j h3;have e1:(c8<|hf u v i)[j]?=some (gK<|hf u v i j):=e1;have e2:(c8<|hf u v<|i+1)[j]?=some (gK<|hf u v (i+1) j):=e2;rw[e2];by_cases O:j<i
  .rw[if_pos O,e1];unfold hf;rw[if_pos O,if_pos U]
  .rw[if_neg O];by_cases h2:j=i
   .subst h2;rw[if_pos sS,xA];unfold hf;rw[if_pos U];rfl
   .rw[if_neg (by simp;omega),e1];unfold hf;rw[if_neg O,if_neg U]
 .rw[gx (by rw[hl];omega)];rw[if_neg U,if_neg (by simp;omega),gx (by rw[hl];omega)]
def EM8(u v:Nat->Int):Env:=vV (λid _ off=>match id with
 |0=>some (.cell (gK (u off)))
 |2=>some (.cell (gK (v off)))
 |_=>none) aC2
def bE5(u v:Nat->Int):an P (EM8 u v):=j7 Bm
def aD9(u v:Nat->Int)(k:Nat)(hk:k=8):aO P (aD f368 12) (M 111 [(2,.ptr 0 0 0),(4,.ptr 1 0 0),(6,.ptr 2 0 0),(98,I 0)]) [⟨[c8<|hf u v 0],0,[],8,true,false⟩,B8 yA,⟨[c8 v],0,[],8,true,false⟩] (.ite (ar k λ_=>false) (.out .ret (M 111 [(4,.ptr 0 0 0)]) [B8 yA])<|.out (.ext 2) (M 111 [(2,.ptr 0 0 0),(4,.ptr 1 0 0)]) [⟨[c8<|hf u v k],0,[],8,true,false⟩,B8 yA]):=by
 have hkx:k<=aq:=by subst hk;decide
 have lp:=qp f368 12 k (λ_=>false) (λi=>(M 111 [(2,aT),(4,.ptr 1 0 0),(6,.ptr 2 0 0),(98,I i)])) (λi=> [(dn [c8<|hf u v i] 8),B8 yA,(dn [c8 v] 8)]) (λi=>(.ret,(M 111 [(4,aT)]),[B8 yA])) (.ext 2,(M 111 [(2,aT),(4,.ptr 1 0 0)]),[(dn [c8<|hf u v k] 8),B8 yA]) λi hi lt aW az aR=>by
  have e1:oU ((i:Int)+1)=((i+1:Nat):Int):=by rw[wrap64 U U];omega
  refine ao (bE5 u v) L0 [2,4,6,98] [4,10002] (let Z:=cM [[aI 0,aI 0,aI 0,aI 0,aI 0,aI 0,aI 0,aI 0]] 8;(.d ((i:Int)<8) (.g i 8<|.o [([c8<|hf u v i][0]?.bind λe=>e[0+i*1]?)=some (gK<|u<|0+i*1)]<|.g i 8<|.o [([c8 v][0]?.bind λe=>e[0+i*1]?)=some (gK<|v<|0+i*1)]<|.g i 8<|.o [0<1,0+i*1+1<=8]<|bR (M 111 [(2,aT),(4,dK 1),(6,dK 2),(98,I<|oU<|(i:Int)+1)]) [dn [PS.splice ([c8<|hf u v i].getD 0 []) (0+i*1) [aI<|dM (u<|0+i*1)<|v<|0+i*1]] 8,Z,dn [[aI<|v 0,aI<|v 1,aI<|v 2,aI<|v 3,aI<|v 4,aI<|v 5,aI<|v 6,aI<|v 7]] 8])<|fv 2 (M 111 [(2,aT),(4,dK 1)]) [dn [[aI<|hf u v i 0,aI<|hf u v i 1,aI<|hf u v i 2,aI<|hf u v i 3,aI<|hf u v i 4,aI<|hf u v i 5,aI<|hf u v i 6,aI<|hf u v i 7]] 8,Z])) ?_;have Y:=(di:False↔False)
  (simp only[e1,eP,xy];clear e1)
  simp only[av]
  (repeat' with_reducible first|intro _|apply aNd_)<;>first|trivial|omega|exact bW8 _ _ _ U|exact M0 _ _ U|(have e:i=k:=U;subst e;exact aR rfl)|(have h:i<k:=U;rw[<-bE4 u v i U]at aW;exact aW h rfl)
 exact lp
def V8.at(v:V8)(i:Nat):Int:=v.list.getD i 0
def b81(v:V8)(p:y_)(m k:Nat):gD:=LOr 4 (tI [2,4,5,6,20] [(5,64)] m (λ_=>false) (λ_=>(M 111 [(4,.ptr 0 0 0)])) (M 111 [(2,.ptr 0 0 0),(4,.ptr 1 0 0),(6,.ptr 2 0 0)]) (.ext 0) (λ_=> [B8 yA]) [B8 v.cells,B8 yA,B8 (jH (eO p m) v m).cells]) 12<|tI [2,4,6,98] [(2,8),(6,8)] k (λ_=>false) (λ_=>(M 111 [(4,.ptr 0 0 0)])) (M 111 [(2,.ptr 0 0 0),(4,.ptr 1 0 0)]) (.ext 2) (λ_=> [B8 yA]) [⟨[c8<|hf v.at (jH (eO p m) v m).at k],0,[],8,true,false⟩,B8 yA]
def aE0(v:V8)(p:y_)(hp:p.size=64)(m k:Nat)(hm:m=64)(hk:k=8):Ok P 368 [.agg v.cells,S p] (.agg<|c8<|hf v.at (jH (eO p m) v m).at k):=by
 have lp:=aD8 (eO p m) v m hm;have lq:=aD9 v.at (jH (eO p m) v m).at k hk;refine al (bf7 m) (b81 v p m k) (let Z:=Value.int IntKind.u32 0;let V:=jH (eO p m) v m;let aS:=[aI 0,aI 0,aI 0,aI 0,aI 0,aI 0,aI 0,aI 0];let bn:=[[aI v.a,aI v.b,aI v.c,aI v.d,aI v.e,aI v.f,aI v.g,aI v.h]];let bH:=[aI<|hf v.at V.at k 0,aI<|hf v.at V.at k 1,aI<|hf v.at V.at k 2,aI<|hf v.at V.at k 3,aI<|hf v.at V.at k 4,aI<|hf v.at V.at k 5,aI<|hf v.at V.at k 6,aI<|hf v.at V.at k 7];let cp:=[[aI V.a,aI V.b,aI V.c,aI V.d,aI V.e,aI V.f,aI V.g,aI V.h]];let bC:=cM [aS] 8;let aG:=[cM bn 8,bC,dn [PS.splice (List.map cellOf (Value.agg #[Z,Z,Z,Z,Z,Z,Z,Z,Z,Z,Z,Z,Z,Z,Z,Z,Z,Z,Z,Z,Z,Z,Z,Z,Z,Z,Z,Z,Z,Z,Z,Z,Z,Z,Z,Z,Z,Z,Z,Z,Z,Z,Z,Z,Z,Z,Z,Z,Z,Z,Z,Z,Z,Z,Z,Z,Z,Z,Z,Z,Z,Z,Z,Z]).cells.toList) 0<|gY<|eO p m] 64,cM bn 8];let bu:=[dn bn 8,bC,dn cp 8];let bP:=(M 111 [(4,aT)]);let bY:=(4,dK 1);let cu:=(M 111 [(2,aT),bY,(5,dK 2),(6,dK 3),(20,I 0)]);let dk:=(M 111 [(2,aT),bY,(6,dK 2),(98,I 0)]);let cN:=aD f368 12;(.k (a1 aQ) p (p.size=64)<|.n (ar m λx=>false) (.o [ax P (aD f368 4) cu aG (Out.ret) bP [cM [aS] 8]]<|.e<|J.agg aS)<|.o [ax P (aD f368 4) cu aG (Out.ext 0) (M 111 [(2,aT),bY,(6,dK 2)]) [cM bn 8,bC,cM cp 8]]<|.n (ar k λx=>false) (.o [ax P cN dk bu (Out.ret) bP [cM [aS] 8]]<|.e<|J.agg aS)<|.o [ax P cN dk bu (Out.ext 2) (M 111 [(2,aT),bY]) [dn [bH] 8,bC]]<|.e<|J.agg bH)) ?_;simp only[av]
 (repeat' with_reducible first|intro _|apply aNd_)<;>first|trivial|exact absurd (show(ar m λ_=>false)=true by assumption) (by rw[Bn];simp)|exact absurd (show(ar k λ_=>false)=true by assumption) (by rw[Bn];simp)|exact(lp.f<|Bn _).one|exact(lq.f<|Bn _).one
def bf8(v:V8)(p:y_)(hp:p.size=64):Ok P 368 [.agg v.cells,S p] (.agg (aC6 64 v p).cells):=aE0 v p hp 64 8 rfl rfl
instance:aY V8:=⟨V8.cells,λ| [.sc<|.int _ a,.sc<|.int _ b,.sc<|.int _ c,.sc<|.int _ d,.sc<|.int _ e,.sc<|.int _ f,.sc<|.int _ g,.sc<|.int _ h]=>⟨a,b,c,d,e,f,g,h⟩|_=>⟨0,0,0,0,0,0,0,0⟩⟩
def bw1:Nat:=mK 64
def Qc:bw1=64:=ni _
def Bu(v:V8)(p:y_):V8:=aC6 bw1 v p
def b82:Env:=aF 368 (bN (a2 (af V8) aQ) (λx=>(af V8).au (Bu x.1 x.2)) λx=>x.2.size=64)<|aF 367 (bN (a1 aQ) (λs=>S (sF s)) λs=>s.size<=70368744177664) EN
def Xa:an P b82:=ah (ah aw λs h=>bE2 s h) λx h=>by unfold Bu;rw[Qc];exact bf8 x.1 x.2 h
def v0:V8:=⟨1779033703,3144134277,1013904242,2773480762,1359893119,2600822924,528734635,1541459225⟩
def aa8(T:y_):Nat->V8
 |0=>v0
 |i+1=>Bu (aa8 T i) (T.extract (64*i) (64*i+64))
def yR(T:y_)(i:Nat):y_:=T.extract (64*i) T.size
def zF(T:y_)(i:Nat):(yR T i).size=T.size-64*i:=by unfold yR;rw[AD];omega
def TI(T:y_)(i:Nat)(h:64*i+64<=T.size):(yR T i).extract 64 (yR T i).size=yR T (i+1):=by rw[zF];unfold yR;rw[ByteArray.extract_extract];congr 1;omega
def TJ(T:y_)(i:Nat)(h:64*i+64<=T.size):(yR T i).extract 0 64=T.extract (64*i) (64*i+64):=by unfold yR;rw[ByteArray.extract_extract];congr 1;omega
def bf9(p:y_):dN p n_=decide (p.size=0):=by
 rw[aL,oM];constructor
 .rintro rfl;rfl
 .intro h;exact sK<|LS h
def aE1(pf:Nat->y_)(vf:Nat->V8)(m:Nat)(hm:m<=aq)(O:∀i,i<m->64<=(pf i).size/\(pf i).extract 64 (pf i).size=pf (i+1)/\Bu (vf i) ((pf i).extract 0 64)=vf (i+1))(h2:(pf m).size=0):aO P (aD f353 3) (M 41 [(2,S n_),(3,.ptr 0 0 0),(4,S<|pf 0)]) [B8 (vf 0).cells] (.ite (ar m λ_=>false) (.out .ret (M 41 [(2,S n_)]) [])<|.out (.ext 0) (M 41 [(2,S n_),(3,.ptr 0 0 0)]) [B8 (vf m).cells]):=by
 have lp:=qp f353 3 m (λ_=>false) (λi=>(M 41 [(2,S n_),(3,aT),(4,S<|pf i)])) (λi=> [B8 (vf i).cells]) (eR<|M 41 [(2,S n_)]) (.ext 0,(M 41 [(2,S n_),(3,aT)]),[B8 (vf m).cells]) λi hi lt aW az aR=>by
  have hz:=O i;have hxx:i<m->((pf i).extract 0 64).size=64:=λh=>by rw[AD];have:=(hz h).1;omega
  have hb:dN (pf i) n_=decide (i=m):=by
   rw[bf9,oM];constructor
   .intro h;rcases fA i m with h3|h3
    .have:=(hz h3).1;omega
    .omega
   .rintro rfl;exact h2
  refine ao Xa L0 [2,3,4] [2,10003] (let Z:=Bu (vf i) ((pf i).extract 0 64);(.m (dN (pf i) (n_:y_)) (.o [(0:Int)<=0,(0:Int)<=64,(64:Int)<=(↑(pf i).size:Int)]<|.k (a2 (af V8) aQ) (vf i,(pf i).extract 0 64) (((pf i).extract 0 64).size=64)<|.o [(0:Int)<=64,(64:Int)<=(↑(pf i).size:Int),(↑(pf i).size:Int)<=(↑(pf i).size:Int)]<|bR (M 41 [(2,S (n_:y_)),(3,aT),(4,S<|(pf i).extract 64 (pf i).size)]) [cM [[aI Z.a,aI Z.b,aI Z.c,aI Z.d,aI Z.e,aI Z.f,aI Z.g,aI Z.h]] 8])<|fv 0 (M 41 [(2,S (n_:y_)),(3,aT)]) [cM [[aI (vf i).a,aI (vf i).b,aI (vf i).c,aI (vf i).d,aI (vf i).e,aI (vf i).f,aI (vf i).g,aI (vf i).h]] 8])) ?_;have Y:=(di:False↔False)
  (rw[hb];clear hb)
  simp only[av,bK,bO,gl,nM]
  (repeat' with_reducible first|intro _|apply aNd_)<;>first|trivial|omega|(have h:i<m:=U;have g:=aW h rfl;rw[<-(hz h).2.1,<-(hz h).2.2]at g;exact g)|(have e:i=m:=U;subst e;exact aR rfl)
 exact lp
def b4(x:Int):l_ (l_ J):=[[U8<|IntKind.u8.wrap<|kp x 24],[U8<|IntKind.u8.wrap<|kp x 16],[U8<|IntKind.u8.wrap<|kp x 8],[U8<|IntKind.u8.wrap x]]
def Ox(v:V8)(n:Nat)(i:Int):l_ J:=(M 41 [(2,S n_),(5,.bf 0 n),(20,.agg v.cells),(21,I i)])
def Js(es:l_ (l_ J)):Hp:=[⟨es,0,[],1,true,false⟩]
def bE6(v:V8)(n:Nat)(es:l_ (l_ J))(lt:PS.LT)(h:lt.ends (.ext 2,(M 41 [(2,S n_),(5,.bf 0 n)]),Js es)):aO P (aD f353 8) (Ox v n 8) (Js es) lt:=by exact ao aw L0 [2,5,20,21] [2,5] (.s .fN<|fv 2 (M 41 [(2,S (n_:y_)),(5,J.bf 0 n)]) [dn es 1]) ft
def b83(v:V8)(n:Nat)(es:l_ (l_ J))(hn:n=es.length)(hs:n<=1000)(lt:PS.LT)(h:aO P (aD f353 8) (Ox v (n+4) 1) (Js<|es++b4 v.a) lt):aO P (aD f353 8) (Ox v n 0) (Js es) lt:=by exact ao aw L0 [2,5,20,21] [2,5] (.o [(0:Int)<=0,(0:Int)<8,n=es.length,(n+4)*1<=140737488355328]<|.r true<|.r true<|.s .fN<|bR (M 41 [(2,S (n_:y_)),(5,J.bf 0<|n+4),(20,J.agg [aI v.a,aI v.b,aI v.c,aI v.d,aI v.e,aI v.f,aI v.g,aI v.h]),(21,I 1)]) [dn (es++ [[U8<|IntKind.u8.wrap<|kp v.a 24],[U8<|IntKind.u8.wrap<|kp v.a 16],[U8<|IntKind.u8.wrap<|kp v.a 8],[U8<|IntKind.u8.wrap v.a]]) 1]) ft
def b84(v:V8)(n:Nat)(es:l_ (l_ J))(hn:n=es.length)(hs:n<=1000)(lt:PS.LT)(h:aO P (aD f353 8) (Ox v (n+4) 2) (Js<|es++b4 v.b) lt):aO P (aD f353 8) (Ox v n 1) (Js es) lt:=by exact ao aw L0 [2,5,20,21] [2,5] (.o [(0:Int)<=1,(1:Int)<8,n=es.length,(n+4)*1<=140737488355328]<|.r true<|.r true<|.s .fN<|bR (M 41 [(2,S (n_:y_)),(5,J.bf 0<|n+4),(20,J.agg [aI v.a,aI v.b,aI v.c,aI v.d,aI v.e,aI v.f,aI v.g,aI v.h]),(21,I 2)]) [dn (es++ [[U8<|IntKind.u8.wrap<|kp v.b 24],[U8<|IntKind.u8.wrap<|kp v.b 16],[U8<|IntKind.u8.wrap<|kp v.b 8],[U8<|IntKind.u8.wrap v.b]]) 1]) ft
def b85(v:V8)(n:Nat)(es:l_ (l_ J))(hn:n=es.length)(hs:n<=1000)(lt:PS.LT)(h:aO P (aD f353 8) (Ox v (n+4) 3) (Js<|es++b4 v.c) lt):aO P (aD f353 8) (Ox v n 2) (Js es) lt:=by exact ao aw L0 [2,5,20,21] [2,5] (.o [(0:Int)<=2,(2:Int)<8,n=es.length,(n+4)*1<=140737488355328]<|.r true<|.r true<|.s .fN<|bR (M 41 [(2,S (n_:y_)),(5,J.bf 0<|n+4),(20,J.agg [aI v.a,aI v.b,aI v.c,aI v.d,aI v.e,aI v.f,aI v.g,aI v.h]),(21,I 3)]) [dn (es++ [[U8<|IntKind.u8.wrap<|kp v.c 24],[U8<|IntKind.u8.wrap<|kp v.c 16],[U8<|IntKind.u8.wrap<|kp v.c 8],[U8<|IntKind.u8.wrap v.c]]) 1]) ft
def b86(v:V8)(n:Nat)(es:l_ (l_ J))(hn:n=es.length)(hs:n<=1000)(lt:PS.LT)(h:aO P (aD f353 8) (Ox v (n+4) 4) (Js<|es++b4 v.d) lt):aO P (aD f353 8) (Ox v n 3) (Js es) lt:=by exact ao aw L0 [2,5,20,21] [2,5] (.o [(0:Int)<=3,(3:Int)<8,n=es.length,(n+4)*1<=140737488355328]<|.r true<|.r true<|.s .fN<|bR (M 41 [(2,S (n_:y_)),(5,J.bf 0<|n+4),(20,J.agg [aI v.a,aI v.b,aI v.c,aI v.d,aI v.e,aI v.f,aI v.g,aI v.h]),(21,I 4)]) [dn (es++ [[U8<|IntKind.u8.wrap<|kp v.d 24],[U8<|IntKind.u8.wrap<|kp v.d 16],[U8<|IntKind.u8.wrap<|kp v.d 8],[U8<|IntKind.u8.wrap v.d]]) 1]) ft
def b87(v:V8)(n:Nat)(es:l_ (l_ J))(hn:n=es.length)(hs:n<=1000)(lt:PS.LT)(h:aO P (aD f353 8) (Ox v (n+4) 5) (Js<|es++b4 v.e) lt):aO P (aD f353 8) (Ox v n 4) (Js es) lt:=by exact ao aw L0 [2,5,20,21] [2,5] (.o [(0:Int)<=4,(4:Int)<8,n=es.length,(n+4)*1<=140737488355328]<|.r true<|.r true<|.s .fN<|bR (M 41 [(2,S (n_:y_)),(5,J.bf 0<|n+4),(20,J.agg [aI v.a,aI v.b,aI v.c,aI v.d,aI v.e,aI v.f,aI v.g,aI v.h]),(21,I 5)]) [dn (es++ [[U8<|IntKind.u8.wrap<|kp v.e 24],[U8<|IntKind.u8.wrap<|kp v.e 16],[U8<|IntKind.u8.wrap<|kp v.e 8],[U8<|IntKind.u8.wrap v.e]]) 1]) ft
def b88(v:V8)(n:Nat)(es:l_ (l_ J))(hn:n=es.length)(hs:n<=1000)(lt:PS.LT)(h:aO P (aD f353 8) (Ox v (n+4) 6) (Js<|es++b4 v.f) lt):aO P (aD f353 8) (Ox v n 5) (Js es) lt:=by exact ao aw L0 [2,5,20,21] [2,5] (.o [(0:Int)<=5,(5:Int)<8,n=es.length,(n+4)*1<=140737488355328]<|.r true<|.r true<|.s .fN<|bR (M 41 [(2,S (n_:y_)),(5,J.bf 0<|n+4),(20,J.agg [aI v.a,aI v.b,aI v.c,aI v.d,aI v.e,aI v.f,aI v.g,aI v.h]),(21,I 6)]) [dn (es++ [[U8<|IntKind.u8.wrap<|kp v.f 24],[U8<|IntKind.u8.wrap<|kp v.f 16],[U8<|IntKind.u8.wrap<|kp v.f 8],[U8<|IntKind.u8.wrap v.f]]) 1]) ft
def b89(v:V8)(n:Nat)(es:l_ (l_ J))(hn:n=es.length)(hs:n<=1000)(lt:PS.LT)(h:aO P (aD f353 8) (Ox v (n+4) 7) (Js<|es++b4 v.g) lt):aO P (aD f353 8) (Ox v n 6) (Js es) lt:=by exact ao aw L0 [2,5,20,21] [2,5] (.o [(0:Int)<=6,(6:Int)<8,n=es.length,(n+4)*1<=140737488355328]<|.r true<|.r true<|.s .fN<|bR (M 41 [(2,S (n_:y_)),(5,J.bf 0<|n+4),(20,J.agg [aI v.a,aI v.b,aI v.c,aI v.d,aI v.e,aI v.f,aI v.g,aI v.h]),(21,I 7)]) [dn (es++ [[U8<|IntKind.u8.wrap<|kp v.g 24],[U8<|IntKind.u8.wrap<|kp v.g 16],[U8<|IntKind.u8.wrap<|kp v.g 8],[U8<|IntKind.u8.wrap v.g]]) 1]) ft
def b90(v:V8)(n:Nat)(es:l_ (l_ J))(hn:n=es.length)(hs:n<=1000)(lt:PS.LT)(h:aO P (aD f353 8) (Ox v (n+4) 8) (Js<|es++b4 v.h) lt):aO P (aD f353 8) (Ox v n 7) (Js es) lt:=by exact ao aw L0 [2,5,20,21] [2,5] (.o [(0:Int)<=7,(7:Int)<8,n=es.length,(n+4)*1<=140737488355328]<|.r true<|.r true<|.s .fN<|bR (M 41 [(2,S (n_:y_)),(5,J.bf 0<|n+4),(20,J.agg [aI v.a,aI v.b,aI v.c,aI v.d,aI v.e,aI v.f,aI v.g,aI v.h]),(21,I 8)]) [dn (es++ [[U8<|IntKind.u8.wrap<|kp v.h 24],[U8<|IntKind.u8.wrap<|kp v.h 16],[U8<|IntKind.u8.wrap<|kp v.h 8],[U8<|IntKind.u8.wrap v.h]]) 1]) ft
def Qd(v:V8):l_ (l_ J):=[]++b4 v.a++b4 v.b++b4 v.c++b4 v.d++b4 v.e++b4 v.f++b4 v.g++b4 v.h
def TK(v:V8)(k:Nat)(hk:k=32)(L:l_ (l_ J))(hL:L=Qd v):aO P (aD f353 8) (Ox v 0 0) (Js []) (.out (.ext 2) (M 41 [(2,S n_),(5,.bf 0 k)])<|Js L):=by subst hk hL;refine b83 v 0 _ rfl U _<|b84 v 4 _ rfl U _<|b85 v 8 _ rfl U _<|b86 v 12 _ rfl U _<|b87 v 16 _ rfl U _<|b88 v 20 _ rfl U _<|b89 v 24 _ rfl U _<|b90 v 28 _ rfl U _<|bE6 v _ _ _ ?_;rfl
def b91(vf:Nat->V8)(m k:Nat)(L:l_ (l_ J)):gD:=LOr 3 (iy [2,3,4] m (λ_=>false) (λ_=>(M 41 [(2,S n_)])) (M 41 [(2,S n_),(3,.ptr 0 0 0)]) (.ext 0) (λ_=> []) [B8 (vf m).cells]) 8 λ_=>([2,5,20,21],[],λ_ _=> .out (.ext 2) (M 41 [(2,S n_),(5,.bf 0 k)]) (Js L))
def aE2(s:y_)(hs:s.size<=70368744177664)(pf:Nat->y_)(vf:Nat->V8)(m:Nat)(hm:m<=aq)(O:∀i,i<m->64<=(pf i).size/\(pf i).extract 64 (pf i).size=pf (i+1)/\Bu (vf i) ((pf i).extract 0 64)=vf (i+1))(h2:(pf m).size=0)(hp0:pf 0=sF s)(hv0:vf 0=v0)(k:Nat)(hk:k=32)(L:l_ (l_ J))(hL:L=Qd (vf m)):Ok P 353 [S s] (S<|dA L):=by
 have lp:=aE1 pf vf m hm O h2;rw[hp0,hv0]at lp;have lq:=TK (vf m) k hk L hL;have hlen:k=L.length:=by subst hk hL;rfl
 have hby:va L=true:=by subst hL;rfl
 refine al Xa (b91 vf m k L) (let Z:=[cM [[aI 1779033703,aI 3144134277,aI 1013904242,aI 2773480762,aI 1359893119,aI 2600822924,aI 528734635,aI 1541459225]] 8];let aG:=[aI (vf m).a,aI (vf m).b,aI (vf m).c,aI (vf m).d,aI (vf m).e,aI (vf m).f,aI (vf m).g,aI (vf m).h];let bn:=(n_:y_);let V:=(2,S bn);let aS:=(M 41 [V,(3,aT),(4,S<|sF s)]);(.k (a1 aQ) s (s.size<=70368744177664)<|.n (ar m λx=>false) (.o [ax P (aD f353 3) aS Z (Out.ret) (M 41 [V]) []]<|.e<|S bn)<|.o [ax P (aD f353 3) aS Z (Out.ext 0) (M 41 [V,(3,aT)]) [cM [aG] 8],(0:Int)<=0,(0:Int)<=32,(32:Int)<=140737488355328,ax P (aD f353 8) (M 41 [V,(5,J.bf 0 0),(20,J.agg aG),(21,I 0)]) [dn [] 1] (Out.ext 2) (M 41 [V,(5,J.bf 0 k)]) [dn L 1],va L=true,k=L.length]<|.e<|S<|dA L)) ?_;simp only[av]
 (repeat' with_reducible first|intro _|apply aNd_)<;>first|trivial|exact absurd (show(ar m λ_=>false)=true by assumption) (by rw[Bn];simp)|exact(lp.f<|Bn _).one|exact lq.one
def Kv(s:y_):∃m,(sF s).size=64*m/\m<=s.size+2:=by
 have hpn:nY s.size=(119-s.size%64)%64:=rfl;have e:(sF s).size=s.size+1+nY s.size+8:=by unfold sF;rw[fy,rv,jG,pS]
 refine⟨(s.size+9+nY s.size)/64,?_,?_⟩<;>omega
def TL(s:y_):V8:=aa8 (sF s)<|(sF s).size/64
def bg0(s:y_)(hs:s.size<=70368744177664):Ok P 353 [S s] (S<|dA<|Qd<|TL s):=by
 obtain⟨m,O,h2⟩:=Kv s;have e:(sF s).size/64=m:=U;have hm:m<=aq:=by unfold aq;omega
 refine aE2 s hs (yR<|sF s) (aa8<|sF s) m hm ?_ ?_ ?_ rfl 32 rfl _ (by unfold TL;rw[e])
 .intro i hi;refine⟨by rw[zF];omega,TI _ _ U,?_⟩;rw[TJ _ _ U];rfl
 .rw[zF];omega
 .unfold yR;rw[Nat.mul_zero];exact ByteArray.extract_zero_size
section
variable {w0:fR} {w:World} {Sa S:Nat->Prop} {h h':Hp} {m m':Mp}
def bW9(w:World)(S:Nat->Prop)(h:Hp)(m m':Mp)(σ:Nat->Nat)(lv:Nat->Prop)(j:Nat)(X:dW):Prop:=
 X.par=[]/\((X.es=[]/\X.st≠3/\∀b o sz,m'[j]?=some (b,o,sz)->(X.st=2\/sz=0)/\(0<sz->X.sz=sz))\/
  ∃B,h[σ j]?=some B/\m'[j]?=m[σ j]?/\B.st≠1/\X.st=B.st/\X.sz=B.sz/\X.sym=B.sym/\lv j/\Turned w S m m' X.es B)
theorem aE3 {sz:Nat} {es:l_ (l_ J)}(F:es=[])(h:Rl es sz):0<sz:=by grind
theorem Inv.Xb (hI:Inv w0 Sa h S m w) (σ:Nat->Nat) (lv:Nat->Prop) (hl:m'.length=h'.length) (hb:∀j X,h'[j]?=some X->bW9 w S h m m' σ lv j X)
  (bA6:∀j j',lv j->lv j'->σ j=σ j'->j=j') (SQ:∀(i:Nat) x,w0.gV[i]?=some x->m'[i]?=some x/\∃B,h'[i]?=some B/\B.gV=true):Inv w0 Sa h' S m' w:=by
 have jM:∀ {j:Nat} {X:dW} {b o sz:Nat},h'[j]?=some X->m'[j]?=some (b,o,sz)->X.st≠2->(Rl X.es sz\/X.st=3)->∃B,h[σ j]?=some B/\m[σ j]?=some (b,o,sz)/\B.st≠1/\X.st=B.st/\X.sz=B.sz/\X.sym=B.sym/\lv j/\Turned w S m m' X.es B:=by
  intro j X b o sz hj hm cy N;obtain⟨_,⟨e1,e2,e3⟩|⟨B,e1,e2,e3⟩⟩:=hb j X hj
  .obtain⟨q1,q2⟩:=e3 b o sz hm;rcases N with N|N
   .have:=aE3 e1 N;rcases q1 with q|q
    .exact absurd q cy
    .omega
   .exact absurd N e2
  .exact⟨B,e1,e2▸hm,e3⟩
 refine⟨hI.qf,hI.sub,hI.lt,hl,?_,?_,?_,?_,?_,?_,?_,?_,?_,?_,SQ⟩
 .intro j X b o sz hj cy sC N;obtain⟨B,e1,e2,e3,e4,e5,e6,e7,e8⟩:=jM hj sC U<|.inl N;obtain⟨c,et,g1,g2,g3,g4⟩:=hI.oq (σ j) B b o sz e1 U e2<|ir e8.1 N;exact⟨c,et,g1,e8.oq g2 g3 g4⟩
 .intro j X b o sz hj cy sC N;obtain⟨B,e1,e2,e3,e4,e5,e6,e7,e8⟩:=jM hj sC U<|.inl N;exact hI.live (σ j) B b o sz e1 U e2<|ir e8.1 N
 .intro j j' X X' b o sz o' nO hj cy sC xO AX GC N qD;obtain⟨B,e1,e2,e3,e4,e5,e6,e7,e8⟩:=jM hj sC U<|.inl N;obtain⟨B',f1,f2,f3,f4,f5,f6,f7,f8⟩:=jM xO GC U<|.inl qD;exact bA6 j j' e7 f7<|hI.uniq (σ j) (σ j') B B' b o sz o' nO e1 U e2 f1 U f2 (ir e8.1 N)<|ir f8.1 qD
 .intro j X b o sz hj cy sC N;obtain⟨B,e1,e2,e3,e4,_⟩:=jM hj sC U<|.inl N;omega
 .intro j q X cj3 hj hq;rw[(hb j X hj).1]at hq;cases hq
 .intro j q X hj hq;rw[(hb j X hj).1]at hq;cases hq
 .intro j X b o sz hj sC N;obtain⟨_,⟨e1,_,e3⟩|⟨B,e1,e2,e3,e4,e5,e6,e7,e8⟩⟩:=hb j X hj
  .exact(e3 b o sz sC).2<|aE3 e1 N
  .rw[e5];exact hI.Ci (σ j) B b o sz e1 (e2▸sC)<|ir e8.1 N
 .intro j X hj hx;obtain⟨_,⟨e1,_⟩|⟨B,e1,e2,e3,e4,e5,e6,e7,e8⟩⟩:=hb j X hj
  .rw[e1];intro e F;cases F
  .rw[e8.2.1 (by rw[<-e6];exact hx)];exact hI.syms (σ j) B e1 (by rw[<-e6];exact hx)
 .intro j X b o sz hj cy sC;obtain⟨B,e1,e2,e3,e4,e5,e6,e7,e8⟩:=jM hj sC U<|.inr cy;obtain⟨q1,⟨q2,q5⟩,q6⟩:=hI.maps (σ j) B b o sz e1 U e2;exact⟨q1,⟨by rw[e6];exact q2,by rw[e8.2.1 q2];exact q5⟩,q6⟩
 .intro j j' X X' b o sz o' nO hj cy sC xO AX GC;obtain⟨B,e1,e2,e3,e4,e5,e6,e7,e8⟩:=jM hj sC U<|.inr cy;obtain⟨B',f1,f2,f3,f4,f5,f6,f7,f8⟩:=jM xO GC U<|.inr AX;exact bA6 j j' e7 f7<|hI.ua (σ j) (σ j') B B' b o sz o' nO e1 U e2 f1 U f2
end
theorem dR.keep {r r':J} {h h':Hp}(keep:l_ Nat)(O:mG (pos · keep) 4 r=some r')(h2:rP (as5 h keep) keep=some h')(Ou:keep.Nodup)(hpk:keep.take (pins h)=List.range (pins h)):dR (r,h) (r',h'):=by intro w0 Sa S m w v hI N;obtain⟨q1,_,q3⟩:=Wu (T:=[r]) (T':=[r']) hI (by simp [rP,O]) h2 Ou hpk;obtain⟨p,p1,p2⟩:=q3 0 r' rfl;cases p1;exact⟨_,q1,p2 v N⟩
def mvE(i n:Nat)(j:Nat):Option Nat:=some (if j=i then n else j)
def mvB(i n:Nat)(B:dW):Option dW:=match Zf (mvE i n) B with
 |some es=>some {B with es:=es,par:=[]}
 |none=>none
def mvH(i:Nat)(h:Hp):Option Hp:=match rP (mvB i h.length) h with
 |some l=>match l[i]? with
  |some B=>some<|l.set i {B with es:=[],st:=2}++ [{B with gV:=false}]
  |none=>none
 |none=>none
theorem dR.move {r r':J} {h h':Hp}(i:Nat)(hh:mvH i h=some h')(N:mG (mvE i h.length) 4 r=some r')(cy:h.all (λB=>B.st !=1)=true)(h3:((h[i]?).map (·.st))=some 0):dR (r,h) (r',h'):=by
 intro w0 Sa S m w v hI hv;simp only at hI hv;unfold mvH at hh;split at hh
 .rename_i l hl;split at hh
  .rename_i B hB;cases hh;obtain⟨l1,l2⟩:=j5 hl;have hlen:=hI.len;have oR:i<h.length:=by rw[<-l1];exact(bm.1 hB).1
   obtain⟨x,hx⟩:∃x,m[i]?=some x:=⟨m[i]' U,by simp [show i<m.length by omega]⟩
   have hm:∀(id j:Nat) y,mvE i h.length id=some j->m[id]?=some y->(m++ [x])[j]?=some y:=by
    intro id j y O h2;unfold mvE at O;split at O
    .rename_i e;subst e;cases O;rw[hx]at h2;cases h2;rw[<-hlen];exact lJ _ _
    .cases O;exact fg _ h2
   have bl:∀ {j:Nat} {X:dW},l[j]?=some X->∃cj3,h[j]?=some cj3/\X.par=[]/\X.gV=cj3.gV/\X.sz=cj3.sz/\X.sym=cj3.sym/\X.st=cj3.st/\cj3.st≠1/\Turned w S m (m++ [x]) X.es cj3:=by
    intro j X hj;obtain⟨cj3,y1,y2⟩:=l2 j X hj;unfold mvB at y2;split at y2
    .rename_i es kC;cases y2;have:cj3.st≠1:=by have:=cU.1 cy cj3 (cw y1);simpa using this
     exact⟨cj3,y1,rfl,rfl,rfl,rfl,rfl,this,xR kC (hI.syms j cj3 y1) hm⟩
    .cases y2
   obtain⟨B0,b1,b2,b3,b4,b5,b6,b7,b8⟩:=bl hB;have R5:B0.st=0:=by rw[b1]at h3;simpa using h3
   have zd:∀ {j:Nat} {X:dW},(l.set i {B with es:=[],st:=2}++ [{B with gV:=false}])[j]?=some X->(j=i/\X= {B with es:=[],st:=2})\/(j=h.length/\X= {B with gV:=false})\/(j≠i/\j<h.length/\l[j]?=some X):=by
    intro j X hj;rcases aJ _ _ _ _ hj with hj|⟨e1,e2⟩
    .rw[cD]at hj;by_cases Jj:i=j
     .subst Jj;rw[if_pos rfl,if_pos U]at hj;cases hj;exact .inl ⟨rfl,rfl⟩
     .rw[if_neg Jj]at hj;exact .inr<|.inr ⟨λe=>Jj e.symm,by rw[<-l1];exact(bm.1 hj).1,hj⟩
    .exact .inr<|.inl ⟨by rw[e1,nJ,l1],e2⟩
   refine⟨m++ [x],Inv.Xb hI (λj=>if j=h.length then i else j) (λj=>j≠i) (by simp [hlen,l1]) ?_ ?_ ?_,xQ hm N hv⟩
   .intro j X hj;rcases zd hj with⟨e1,e2⟩|⟨e1,e2⟩|⟨e1,e2,e3⟩
    .subst e1;subst e2;refine⟨b2,.inl ⟨rfl,sS,λb o sz sC=>⟨.inl rfl,λh0=> ?_⟩⟩⟩;rw[dy U]at sC;show B.sz=sz;rw[b4];exact hI.Ci j B0 b o sz b1 sC<|.inr h0
    .subst e1;subst e2;refine⟨b2,.inr ⟨B0,by simp only[rH];exact b1,?_,b7,b6,b4,b5,U,b8⟩⟩;simp only[rH];rw[hx,<-hlen,lJ]
    .obtain⟨cj3,y1,y2,y3,y4,y5,y6,y7,y8⟩:=bl e3;have ej:(if j=h.length then i else j)=j:=if_neg U;refine⟨y2,.inr ⟨cj3,by simp only[ej];exact y1,?_,y7,y6,y4,y5,e1,y8⟩⟩;simp only[ej];rw[dy U]
   .intro j j' hj xO e;split at e<;>split at e<;>omega
   .intro k y hy;obtain⟨p1,X,p2,p3⟩:=hI.gV k y hy;have hk:=(bm.1 p2).1;refine⟨fg _ p1,?_⟩;obtain⟨cj4,z1,z2⟩:=Wi hl p2;obtain⟨cj3,y1,_,y3,_⟩:=bl z1;rw[p2]at y1;cases y1;rw[dy (by rw[nJ,l1];exact hk),cD];by_cases hik:i=k
    .subst hik;rw[hB]at z1;cases z1;rw[if_pos rfl,if_pos U];exact⟨_,rfl,y3.trans p3⟩
    .rw[if_neg hik];exact⟨cj4,z1,y3.trans p3⟩
  .cases hh
 .cases hh
theorem dR.dF {r:J} {h:Hp}(j k c z:Nat) {B:dW} {e:l_ J}(hB:h[j]?=some B)(hs:B.sym=false)(F:B.es[k]?=some e)(Y:e[c]?=some .dF)(hp:∀X∈h,X.par=[]/\X.st≠1):dR (r,h) (r,h.set j {B with es:=B.es.set k (e.set c<|.bf h.length 0)}++ [⟨[],0,[],z,true,false⟩]):=by
 intro w0 Sa S m w v hI hv;simp only at hI hv;have hlen:=hI.len;have Cj:=(bm.1 hB).1;have hG:∀p v,cv w S m p v->cv w S (m++ [(0,0,0)]) p v:=λp v hp=>hp.later (mi.refl w S) λi x hx=>fg _ hx;refine⟨m++ [(0,0,0)],Inv.Xb hI (λj=>j) (λj=>j<h.length) (by simp [hlen]) ?_ (λ_ _ _ _ h=>h) ?_,hG _ _ hv⟩
 .intro q X hq;rcases aJ _ _ _ _ hq with hq|⟨e1,e2⟩
  .have hql:q<h.length:=by have:=(bm.1 hq).1;rwa [nJ]at this
   have fL:(m++ [(0,0,0)])[q]?=m[q]?:=dy U;rw[cD]at hq;by_cases hjq:j=q
   .subst hjq;rw[if_pos rfl,if_pos Cj]at hq;cases hq;obtain⟨p1,p2⟩:=hp B (cw hB);refine⟨p1,.inr ⟨B,hB,fL,p2,rfl,rfl,rfl,hql,sS,λh=>(by rw[hs]at h;cases h),λi e' hi=> ?_⟩⟩;simp only at hi;rw[cD]at hi;by_cases hki:k=i
    .subst hki;rw[if_pos rfl,if_pos (bm.1 F).1]at hi;cases hi;refine⟨e,F,sS,λt p' ht=> ?_⟩;rw[cD]at ht;by_cases hct:c=t
     .subst hct;rw[if_pos rfl,if_pos (bm.1 Y).1]at ht;cases ht;refine⟨_,Y,λv hv=> ?_⟩;obtain⟨ad,rfl⟩:=vi hv;exact .bf _ _ _<|.vZ _ _ _
     .rw[if_neg hct]at ht;exact⟨p',ht,λv hv=>hG _ _ hv⟩
    .rw[if_neg hki]at hi;exact⟨e',hi,rfl,λt p' ht=>⟨p',ht,λv hv=>hG _ _ hv⟩⟩
   .rw[if_neg hjq]at hq;obtain⟨p1,p2⟩:=hp X<|cw hq;exact⟨p1,.inr ⟨X,hq,fL,p2,rfl,rfl,rfl,hql,rfl,λ_=>rfl,λi e' hi=>⟨e',hi,rfl,λt p' ht=>⟨p',ht,λv hv=>hG _ _ hv⟩⟩⟩⟩
  .rw[nJ]at e1;subst e1;subst e2;refine⟨rfl,.inl ⟨rfl,sS,λb o sz fL=> ?_⟩⟩;rw[<-hlen,lJ]at fL;cases fL;exact⟨.inr rfl,λh=>absurd h (nI _)⟩
 .intro i x hx;obtain⟨p1,X,p2,p3⟩:=hI.gV i x hx;have oR:=(bm.1 p2).1;refine⟨fg _ p1,?_⟩;rw[dy (by rw[nJ];exact oR),cD];by_cases Pf:j=i
  .subst Pf;rw[hB]at p2;cases p2;rw[if_pos rfl,if_pos Cj];exact⟨_,rfl,p3⟩
  .rw[if_neg Pf];exact⟨X,p2,p3⟩
theorem dR.trans {x y z:J×Hp}(O:dR x y)(h2:dR y z):dR x z:=by intro w0 Sa S m w v hI hv;obtain⟨m',a1,a2⟩:=O w0 Sa S m w v hI hv;exact h2 w0 Sa S m' w v a1 a2
section
variable {T:l_ J}{len:Nat}{q:J}{vis:l_ Nat}{c:Code}
def St.freeze {w0:fR} {Sa:Nat->Prop}{a:Act} {w:World} {t:Nat} {B:dW}(iu:St w0 Sa T [B] a w) (ht:T[t]?=some (.own 0 0 len)) (cy:B.st=0) (SQ:B.gV=false)
  (Qe:exp [B] ln (.own 0 0 len)=some (q,vis)) (cJ:∀X∈ou [B] ln (.own 0 0 len),X) (wA:rP (mG (λ_=>none) 4) (T.set t .any)=some (T.set t .any)):St w0 Sa (T.set t q) [] a w:=by
 obtain⟨S,m,hI,hT,Ak⟩:=iu;have hB:([B]:Hp)[0]?=some B:=rfl;let S':Nat->Prop:=λb=>S b\/∃o sz,m[0]?=some (b,o,sz)/\Rl B.es sz;have OL:∀b,S b->S' b:=by grind
 have hL:mi w S w S':=⟨OL,λ_ _=>rfl,λ_ c _ h=>⟨c,h,rfl⟩⟩
 have hpn:w0.gV=[]:=by
  cases hp:w0.gV with
  |nil=>rfl
  |cons x r=>
   obtain⟨_,X,h2,h3⟩:=hI.gV 0 x (by rw[hp];rfl);rw[hB]at h2;cases h2;rw[SQ]at h3;cases h3
 refine⟨S',[],⟨hI.qf,λb hb=> ?_,λb hb=> ?_,rfl,λid X b o sz h=>(by cases h),λid X b o sz h=>(by cases h),λid jd X X' b o sz o' nO h=>(by cases h),λid X b o sz h=>(by cases h),λid r X cj3 h=>(by cases h),λid r X h=>(by cases h),λid X b o sz h=>(by cases h),λid X h=>(by cases h),λid X b o sz h=>(by cases h),λid jd X X' b o sz o' nO h=>(by cases h),λi x hx=>(by rw[hpn]at hx;cases hx)⟩,⟨by simpa using hT.1,λk p hp=> ?_⟩,Ak⟩
 .rcases hb with hb|⟨o,sz,O,h2⟩
  .exact hI.sub b hb
  .exact .inr (hI.live 0 B b o sz hB cy O h2).1
 .rcases hb with hb|⟨o,sz,O,h2⟩
  .exact hI.lt b hb
  .obtain⟨c,et,e1,_⟩:=hI.oq 0 B b o sz hB U O h2;exact lt_of_block e1
 .obtain⟨m1,m2⟩:=j5 wA;by_cases hkt:k=t
  .subst hkt;rw[cD,if_pos rfl,if_pos (bm.1 ht).1]at hp;cases hp;refine .st _ _ (Mk hI OL Qe (λr _ X b o sz O h2 h3 h4 _=> .inr ?_) cJ<|hT.2 k _ ht);cases r with
   |zero=>
    cases O;exact⟨o,sz,h3,h4⟩
   |succ r=>cases O
  .rw[cD,if_neg λe=>hkt e.symm]at hp;have hp2:(T.set t .any)[k]?=some p:=by rw[cD,if_neg λe=>hkt e.symm];exact hp
   obtain⟨x,x1,x2⟩:=m2 k p hp2;rw[hp2]at x1;cases x1;have:=xQ (w:=w) (S:=S) (m:=m) (m':=[]) (f:=λ_=>none) (λid j y h=>by cases h) x2<|hT.2 k p hp;exact this.later hL λi x h=>by cases h
theorem aO.freeze {P:Program}{lt:LT}{B:dW}(t:Nat) (ht:T[t]?=some (.own 0 0 len)) (cy:B.st=0) (SQ:B.gV=false) (Qe:exp [B] ln (.own 0 0 len)=some (q,vis)) (cJ:∀X∈ou [B] ln (.own 0 0 len),X)
  (wA:rP (mG (λ_=>none) 4) (T.set t .any)=some (T.set t .any)) (hl:aO P c (T.set t q) [] lt):aO P c T [B] lt:=by
 obtain⟨x,O,n,h2⟩:=hl;exact⟨x,O,n,λw0 Sa a w Q hG iu hQ=>h2 w0 Sa a w Q hG (St.freeze iu ht cy SQ Qe cJ wA) hQ⟩
def aO.rle {P:Program}{h:Hp} {lt:LT} {p:J}(t:Nat)(ht:T[t]?=some p)(hpq:∀w S m v,cv w S m p v->cv w S m q v)(hl:aO P c (T.set t q) h lt):aO P c T h lt:=by
 obtain⟨x,O,n,h2⟩:=hl;refine⟨x,O,n,λw0 Sa a w Q hG iu hQ=>h2 w0 Sa a w Q hG ?_ hQ⟩;obtain⟨S,m,hI,hT,Ak⟩:=iu;refine⟨S,m,hI,⟨by simpa using hT.1,λk p' hp=> ?_⟩,Ak⟩;rw[cD]at hp;by_cases hkt:t=k
 .subst hkt;rw[if_pos rfl,if_pos (bm.1 ht).1]at hp;cases hp;exact hpq _ _ _ _<|hT.2 t p ht
 .rw[if_neg hkt]at hp;exact hT.2 k p' hp
end
def ic:l_ J->Int
 | [.sc (.int _ a)]=>a
 |_=>0
def vOf(f:Nat->l_ J):V8:=⟨ic<|f 0,ic<|f 1,ic<|f 2,ic<|f 3,ic<|f 4,ic<|f 5,ic<|f 6,ic<|f 7⟩
def aE4:l_ J->Option (J×l_ Prop)
 | [.rf n f,.sc (.string p)]=>some (FE 8 (Bu (vOf f) p).list,[n=8,∀i,i<8->f i=[gK ((vOf f).list.getD i 0)],p.size=64])
 |_=>none
def bg1 {n:Nat} {f g:Nat->l_ J}(h:∀i,i<n->f i=g i)(w:World)(Sx:Nat->Prop)(v:Value)(N:cf w Sx (.rf n f) v):cf w Sx (.rf n g) v:=fS h N
def ERS:Env:=aF 348 aE4<|aF 347 (bN (a1 aQ) (λs=>S (sF s)) λs=>s.size<=aq) EPD
def TM:an P ERS:=gi (ah MV λs h=>aa3 s h) λq r ob O h2=>by
 unfold aE4 at O;split at O
 .rename_i n f p;cases O;have e1:n=8:=h2 _ sS;have e2:∀i,i<8->f i=[gK<|(vOf f).list.getD i 0]:=h2 _ sS;have e3:p.size=64:=h2 _ sS;subst e1;have:=aa2 (vOf f) p e3;unfold Bu;rw[Qc];exact this.Wx (bg1 e2) λ_ _ _ h=>h
 .cases O
def bg2(T:y_)(vf:Nat->V8)(m:Nat)(hm:m<=140737488355328)(hT:T.size=64*m)(O:∀i,i<m->Bu (vf i) (T.extract (64*i)<|64*i+64)=vf (i+1))(lt:PS.LT)(iH:lt.ends (.ext 0,(M 37 [(2,S n_),(3,FE 8 (vf m).list)]),[])):∀k i,i+k=m->aO P (aD Tryz.f319 4) (M 37 [(2,S n_),(3,FE 8 (vf i).list),(4,S T),(5,I ((64*i:Nat):Int))]) [] lt:=by
 intro k
 induction k with
 |zero=>
  intro i hi;have e:i=m:=U;subst e;exact ao TM L0 [2,3,4,5] [2,3] (let Z:=(↑(64*i):Int);let V:=T.extract (64*i) (oU<|Z+64).toNat;let aG:=(2,S (n_:y_));(.d (Z<(T.size:Int)) (.o [(0:Int)<=Z,Z<=oU (Z+64),oU (Z+64)<=(T.size:Int),8=8,∀(uU:Nat),uU<8-> [gK<|(vf i).list.getD uU 0]=[gK<|(vOf λi_2=> [gK<|(vf i).list.getD i_2 0]).list.getD uU 0],V.size=64]<|bR (M 37 [aG,(3,J.rf 8 λuU=> [aI<|(Bu (vOf λi_2=> [gK<|(vf i).list.getD i_2 0]) V).list.getD uU 0]),(4,S T),(5,I<|oU<|Z+64)]) [])<|fv 0 (M 37 [aG,(3,J.rf 8 λuU=> [aI<|(vf i).list.getD uU 0])]) [])) ft
 |succ k ih=>
  intro i hi;have hl:i<m:=U;have g:=ih (i+1) U;have a1:=O i hl;have ew:oU (((64*i:Nat):Int)+64)=((64*i+64:Nat):Int):=by rw[wrap64 U U];omega
  have es:(T.extract (64*i)<|64*i+64).size=64:=by rw[AD];omega
  refine ao TM L0 [2,3,4,5] [2,3] (let Z:=(↑(64*i):Int);let aG:=(2,S (n_:y_));let aS:=oU (Z+64);let V:=T.extract (64*i) aS.toNat;(.d (Z<(T.size:Int)) (.o [(0:Int)<=Z,Z<=oU (Z+64),oU (Z+64)<=(T.size:Int),8=8,∀(uU:Nat),uU<8-> [gK<|(vf i).list.getD uU 0]=[gK<|(vOf λi_2=> [gK<|(vf i).list.getD i_2 0]).list.getD uU 0],V.size=64]<|bR (M 37 [aG,(3,J.rf 8 λuU=> [aI<|(Bu (vOf λi_2=> [gK<|(vf i).list.getD i_2 0]) V).list.getD uU 0]),(4,S T),(5,I aS)]) [])<|fv 0 (M 37 [aG,(3,J.rf 8 λuU=> [aI<|(vf i).list.getD uU 0])]) [])) ?_;try dsimp only
  simp only[ew,dL];clear ew;simp only[av]
  (repeat' with_reducible first|intro _|apply aNd_)<;>first|trivial|omega|(rw[<-a1]at g;exact g)
def bE7 {n:Nat} {f g:Nat->l_ J}(h:∀i,i<n->f i=g i)(w:World)(Sx:Nat->Prop)(m:Mp)(v:Value)(N:cv w Sx m (.rf n f) v):cv w Sx m (.rf n g) v:=by
 cases N with
 |st _ _ N=>exact .st _ _ (fS h N)
def aE5(T:y_)(vf:Nat->V8)(m:Nat)(hm:m<=140737488355328)(hT:T.size=64*m)(hv:vf 0=v0)(O:∀i,i<m->Bu (vf i) (T.extract (64*i)<|64*i+64)=vf (i+1))(lt:PS.LT)(iH:lt.ends (.ext 0,(M 37 [(2,S n_),(3,FE 8 (vf m).list)]),[])):aO P (aD Tryz.f319 4) (M 37 [(2,S n_),(3,.own 0 0 8),(4,S T),(5,I 0)]) [⟨jg v0.list,0,[],1,false,false⟩] lt:=by
 have g:=bg2 T vf m hm hT O lt iH m 0 U;rw[hv]at g;refine aO.freeze (q:= .rf 8 λi=>(jg v0.list).getD i []) (vis:=[0]) 3 rfl rfl rfl rfl ?_ rfl ?_
 .intro X hX;have:ou [⟨jg v0.list,0,[],1,false,false⟩] ln (.own 0 0 8)=[]:=rfl;rw[this]at hX;cases hX
 refine aO.rle (q:=FE 8 v0.list) 3 rfl (bE7 λi hi=> ?_) g;rcases(by omega:i=0\/i=1\/i=2\/i=3\/i=4\/i=5\/i=6\/i=7)with h|h|h|h|h|h|h|h<;>subst h<;>rfl
def TN(x:Int):Prop:=0<=x/\x<4294967296
def s8(x y:Int):TN (dM x y):=by unfold TN dM;rw[IntKind.wrap_u32];omega
def wW(f:Nat->Int):Nat->l_ UInt8
 |0=> []
 |i+1=>wW f i++oZ (f i).toNat 4
theorem Qf(f:Nat->Int):∀i,(wW f i).length=4*i
 |0=>rfl
 |i+1=>by unfold wW;rw[br,Qf f i,pS];omega
def aE6(v:V8)(N:∀i,TN (v.list.getD i 0))(m:Nat)(hm:m=8):aO P (aD Tryz.f319 9) (M 37 [(2,S n_),(3,FE 8 v.list),(6,S<|B<|wW (λj=>v.list.getD j 0) 0),(7,I 0)]) [] (.ite (ar m λ_=>false) (.out .ret (M 37 [(2,S n_)]) [])<|.out (.ext 2) (M 37 [(2,S n_),(6,S<|B<|wW (λj=>v.list.getD j 0) m)]) []):=by
 have WY:m<=aq:=by subst hm;decide
 have lp:=yM Tryz.f319 9 m (λ_=>false) (λi=>(M 37 [(2,S n_),(3,FE 8 v.list),(6,S<|B<|wW (λj=>v.list.getD j 0) i),(7,I i)])) [] (eR<|M 37 [(2,S n_)]) (ey 2<|M 37 [(2,S n_),(6,S<|B<|wW (λj=>v.list.getD j 0) m)]) λi hi lt aW az aR=>by
  obtain⟨r1,r2⟩:=N i;have e2:IntKind.u64.wrap (v.list.getD i 0)=v.list.getD i 0:=by rw[IntKind.wrap_u64];omega
  have hk4:P9 4:=by unfold P9;omega
  have h64:D5 (v.list.getD i 0):=by unfold D5;omega
  have e1:oU ((i:Int)+1)=((i+1:Nat):Int):=by rw[wrap64 U U];omega
  have hol:=Qf (λj=>v.list.getD j 0) i;have e3:B (wW (λj=>v.list.getD j 0)<|i+1)=B (wW (λj=>v.list.getD j 0) i)++B (oZ (v.list.getD i 0).toNat 4):=(jP _ _).symm;refine ao MV L0 [2,3,6,7] [2,10006] (let Z:=IntKind.u64.wrap (v.list.getD i 0);let V:=(2,S (n_:y_));(.d ((i:Int)<8) (.g i 8<|.k (a2 (oD IntKind.u64) bx) (IntKind.u64.wrap<|v.list.getD i 0,4) (P9 4/\D5 Z)<|.o [(B<|wW (λj=>v.list.getD j 0) i).size+(B<|oZ Z.toNat 4).size<=9223372036854775807]<|bR (M 37 [V,(3,J.rf 8 λi=> [aI<|v.list.getD i 0]),(6,S<|B (wW (λj=>v.list.getD j 0) i)++B (oZ Z.toNat 4)),(7,I<|oU<|(i:Int)+1)]) [])<|fv 2 (M 37 [V,(6,S<|B<|wW (λj=>v.list.getD j 0) i)]) [])) ?_;have Y:=(di:False↔False)
  (simp only[e1,e2];clear e1 e2)
  simp only[av]
  (repeat' with_reducible first|intro _|apply aNd_)<;>first|trivial|omega|(rw[jG,jG,pS,hol];omega)|(have h:i<m:=U;rw[e3]at aW;exact aW h rfl)|(have e:i=m:=U;subst e;exact aR rfl)
 exact lp
def FF(m k:Nat)(hk:k<=3):JU [U8<|IntKind.u8.wrap<|kp (m:Int)<|8*k]=uT m k:=by
 unfold uT;rw[WZ];have e1:kp (m:Int) (8*k)=((m/256^k:Nat):Int):=by unfold kp;have hb:IntKind.u32.bits=32:=rfl;rw[hb,Nat.min_eq_left U,show(256:Nat)^k=2^(8*k) by rw[show(256:Nat)=2^8 from rfl,<-Nat.pow_mul]];rw[Int.fdiv_eq_ediv_of_nonneg _<|Int.le_of_lt<|Int.pow_pos dD];rw[Int.natCast_ediv,Int.natCast_pow];rfl
 rw[e1];generalize m/256^k=q;have e2:IntKind.u8.wrap (q:Int)=((q%256:Nat):Int):=by rw[IntKind.wrap_u8];omega
 rw[e2];show UInt8.ofNat _=_;rw[dL]
def pU(x:Int)(h:TN x):dA (b4 x)=B (oZ x.toNat 4):=by
 obtain⟨m,rfl⟩:=k7 h.1;have h0:kp (m:Int) (8*0)=(m:Int):=by unfold kp;simp
 have k0:=FF m 0 U;rw[h0]at k0;show B [JU _,JU _,JU _,JU _]=B [_,_,_,_];rw[FF m 3 U,FF m 2 U,FF m 1 U,k0];rfl
def Jt(a b:l_ (l_ J)):dA (a++b)=dA a++dA b:=by show B _=B _++B _;rw[mr,jP]
def TO(v:V8):Prop:=TN v.a/\TN v.b/\TN v.c/\TN v.d/\TN v.e/\TN v.f/\TN v.g/\TN v.h
def TP(v:V8)(h:TO v):dA (Qd v)=B (wW (λj=>v.list.getD j 0) 8):=by obtain⟨a,b,c,d,e,f,g,k⟩:=h;unfold Qd;simp only[Jt];rw[pU _ a,pU _ b,pU _ c,pU _ d,pU _ e,pU _ f,pU _ g,pU _ k];have e0:dA []=B []:=rfl;rw[e0];simp only[jP];rfl
def bg3:TO v0:=by unfold TO TN;decide
def aE7(v:V8)(p:y_):TO (Bu v p):=⟨s8 _ _,s8 _ _,s8 _ _,s8 _ _,s8 _ _,s8 _ _,s8 _ _,s8 _ _⟩
def Qg(T:y_):∀i,TO (aa8 T i)
 |0=>bg3
 |_+1=>aE7 _ _
def aE8 {v:V8}(h:TO v)(i:Nat):TN (v.list.getD i 0):=by
 obtain⟨a,b,c,d,e,f,g,k⟩:=h;rcases(by omega:i=0\/i=1\/i=2\/i=3\/i=4\/i=5\/i=6\/i=7\/8<=i)with h|h|h|h|h|h|h|h|h
 .subst h;exact a
 .subst h;exact b
 .subst h;exact c
 .subst h;exact d
 .subst h;exact e
 .subst h;exact f
 .subst h;exact g
 .subst h;exact k
 .rw[cc,gx (show v.list.length<=i from h)];unfold TN;simp
def bX0(vf:Nat->V8)(m k:Nat):gD:=LOr 4 (λ_=>([2,3,4,5],[],λ_ _=> .out (.ext 0) (M 37 [(2,S n_),(3,FE 8 (vf m).list)]) [])) 9<|ax1 [2,3,6,7] k (λ_=>false) (λ_=>(M 37 [(2,S n_)])) (M 37 [(2,S n_),(6,S<|B<|wW (λj=>(vf m).list.getD j 0) k)])<|.ext 2
def aE9(s:y_)(hs:s.size<=aq)(vf:Nat->V8)(m:Nat)(hm:m<=140737488355328)(hT:(sF s).size=64*m)(hv:vf 0=v0)(O:∀i,i<m->Bu (vf i) ((sF s).extract (64*i)<|64*i+64)=vf (i+1))(N:TO (vf m))(k:Nat)(hk:k=8):Ok P 319 [S s] (S<|B<|wW (λj=>(vf m).list.getD j 0) k):=by
 have lp:=aE5 (sF s) vf m hm hT hv O _ (show PS.LT.ends (.out (.ext 0) (M 37 [(2,S n_),(3,FE 8 (vf m).list)]) []) _ from rfl);have lq:=aE6 (vf m) (aE8 N) k hk;refine al TM (bX0 vf m k) (let Z:=(n_:y_);(.k (a1 aQ) s (s.size<=140737488351232)<|.o [ax P (aD Tryz.f319 4) (M 37 [(2,S Z),(3,J.own 0 0 8),(4,S<|sF s),(5,I 0)]) [cM [[aI 1779033703],[aI 3144134277],[aI 1013904242],[aI 2773480762],[aI 1359893119],[aI 2600822924],[aI 528734635],[aI 1541459225]] 1] (Out.ext 0) (M 37 [(2,S Z),(3,J.rf 8 λi=> [aI<|(vf m).list.getD i 0])]) []]<|.n (ar k λx=>false) (.o [ax P (aD Tryz.f319 9) (M 37 [(2,S Z),(3,J.rf 8 λi=> [aI<|(vf m).list.getD i 0]),(6,S Z),(7,I 0)]) [] (Out.ret) (M 37 [(2,S Z)]) []]<|.e<|S Z)<|.o [ax P (aD Tryz.f319 9) (M 37 [(2,S Z),(3,J.rf 8 λi=> [aI<|(vf m).list.getD i 0]),(6,S Z),(7,I 0)]) [] (Out.ext 2) (M 37 [(2,S Z),(6,S<|B<|wW (λj=>(vf m).list.getD j 0) k)]) []]<|.e<|S<|B<|wW (λj=>(vf m).list.getD j 0) k)) ?_;simp only[av]
 (repeat' with_reducible first|intro _|apply aNd_)<;>first|trivial|exact absurd (show(ar k λ_=>false)=true by assumption) (by rw[Bn];simp)|exact(lq.f<|Bn _).one|exact lp.one
def bg4(s:y_)(hs:s.size<=aq):Ok P 319 [S s] (S<|dA<|Qd<|TL s):=by
 obtain⟨m,O,h2⟩:=Kv s;have e:(sF s).size/64=m:=U;have:=aE9 s hs (aa8<|sF s) m (by unfold aq at hs;omega) O rfl (λi _=>rfl) (Qg _ _) 8 rfl;have e2:TL s=aa8 (sF s) m:=by unfold TL;rw[e]
 rw[e2,TP _<|Qg _ _];exact this
def Ew(s:y_):y_:=mK<|dA<|Qd<|TL s
def aF0(s:y_):Ew s=dA (Qd<|TL s):=ni _
def ESC:Env:=aF 319 (bN (a1 aQ) (λs=>S (Ew s)) λs=>s.size<=70368744177664)<|aF 353 (bN (a1 aQ) (λs=>S (Ew s)) λs=>s.size<=70368744177664) EN
def aF1:an P ESC:=ah (ah aw λs h=>by rw[aF0];exact bg0 s h) λs h=>by rw[aF0];exact bg4 s (by unfold aq;omega)
def kby(k:Int):y_:=dA [[U8<|IntKind.u8.wrap k]]
def bE8(k:Int)(h:wf k):dA [[U8<|IntKind.u8.wrap<|(oU<|k.tmod 256+256).tmod 256]]=kby k:=by
 unfold kby;have O: -9223372036854775808<=k/\k<=9223372036854775807:=h;have e:IntKind.u8.wrap ((oU<|k.tmod 256+256).tmod 256)=IntKind.u8.wrap k:=by
  have hm:k.tmod 256=k-256*(k.tdiv 256):=by have:=Int.tmod_add_mul_tdiv k 256;omega
  have h2: -256<k.tmod 256/\k.tmod 256<256:=by grind
  rw[wrap64 U U,VW U,IntKind.wrap_u8,IntKind.wrap_u8];omega
 rw[e]
def Ju(k:Int)(s:y_):y_:=Ew<|kby k++s
def aF2(k:Int)(s:y_)(hs:s.size<=140737488355):Ok P 332 [I k,S s] (S<|Ju k s):=by
 have e1:(kby k).size=1:=rfl;have e2:(kby k++s).size=1+s.size:=by grind
 refine al aF1 L0 (let V:=[[U8<|IntKind.u8.wrap k]];let Z:=dA V++s;(.r true<|.o [(dA V).size+s.size<=9223372036854775807]<|.k (a1 aQ) Z (Z.size<=70368744177664)<|.e<|S<|Ew Z)) ?_;simp only[av]
 (repeat' with_reducible first|intro _|apply aNd_)<;>first|trivial|(show _+_<=_;rw[show(dA [[U8<|IntKind.u8.wrap k]]).size=1 from rfl];omega)|(show(kby k++s).size<=_;omega)
def aa9(k:Int)(s:y_)(hk:wf k)(hs:s.size<=140737488355):Ok P 281 [I k,S s] (S<|Ju k s):=by
 have e1:(kby k).size=1:=rfl;have e2:(kby k++s).size=1+s.size:=by grind
 have e3:=bE8 k hk;refine al aF1 L0 (let Z:=[[U8<|IntKind.u8.wrap<|(oU<|k.tmod 256+256).tmod 256]];let V:=dA Z++s;(.r true<|.o [(dA Z).size+s.size<=9223372036854775807]<|.k (a1 aQ) V (V.size<=70368744177664)<|.e<|S<|Ew V)) ?_;try dsimp only
 simp only[e3];simp only[av]
 (repeat' with_reducible first|intro _|apply aNd_)<;>first|trivial|omega
def aF3(x:eF)(s:y_):Ok P 331 [(af eF).au x,(k9 aQ).au s] (Bo<|decide<|x.bM=s):=by
 refine al aw L0 (.e<|Bo<|dN x.bM s) ?_;simp only[av,aL]
 repeat' with_reducible first|intro _|apply aNd_
 all_goals first|exact aM|rfl|exact ga
def EK1:Env:=G5<|aF 331 (bN (a2 (af eF)<|k9 aQ) λx=>Bo (decide<|x.1.bM=x.2)) EN
def bE9:an P EK1:=Jo<|ah aw λx _=>aF3 x.1 x.2
def ab0(x:ay)(s:y_)(hn:x.aU.n<=aq):Ok P 296 [(af ay).au x,S s] (I<|qu x.aU s):=by
 refine al bE9 L0 (let Z:=a2 (af eF) (k9 aQ);(.r ((ak eF).au x.aU)<|.o [x.aU.n<=140737488351232,∀(i:Nat),i<x.aU.n->Z.au (x.aU.f i,s)=Z.au (x.aU.f i,s)/\True/\True]<|.e<|I<|cZ x.aU.n λi=>decide ((x.aU.f i).bM=s))) ?_;simp only[av]
 repeat' with_reducible first|intro _|apply aNd_
 all_goals exact aM
def bX1:Env:=aF 332 (bN (a2 bx aQ) (λx=>S (Ju x.1 x.2)) λx=>x.2.size<=140737488355)<|aF 281 (bN (a2 bx aQ) (λx=>S (Ju x.1 x.2)) λx=>wf x.1/\x.2.size<=140737488355) EN
def Xc:an P bX1:=ah (ah aw λx h=>aa9 x.1 x.2 h.1 h.2) λx h=>aF2 x.1 x.2 h
def bg5(k:Int)(s:y_)(hs:s.size<=140737488355):Ok P 297 [I k,S s] (.agg [S<|Ju k s,I k,S s]):=by exact al Xc L0 (.k (a2 bx aQ) (k,s) (s.size<=140737488355)<|.e<|J.agg [S<|Ju k s,I k,S s]) ft
def EGT:Env:=aF 296 (bN (a2 (af ay) aQ) (λx=>I (qu x.1.aU x.2)) λx=>x.1.aU.n<=aq)<|aF 297 (bN (a2 bx aQ) (λx=> .agg [S<|Ju x.1 x.2,I x.1,S x.2]) λx=>x.2.size<=140737488355)<|aF 178 (bN (a2 (ak eF) aQ) (λx=>I (qu x.1 x.2)) λx=>x.1.n<=aq) bX1
def aF4:an P EGT:=ah (ah (ah Xc λx h=>aD3 x.1 x.2 h) λx h=>bg5 x.1 x.2 h) λx h=>ab0 x.1 x.2 h
def rb {l:bh eF} {s:y_}(h: ¬qu l s<0):qu l s<l.n/\(l.f (qu l s).toNat).bM=s:=by
 have ha:ar l.n (λi=>decide ((l.f i).bM=s))=true:=by have:=iw (n:=l.n) (b:=λi=>decide ((l.f i).bM=s));rw[<-this];exact cd (show 0<=qu l s by omega)
 have O:=dw.2 ha;have e:qu l s=(aE l.n λi=>decide ((l.f i).bM=s):Nat):=by unfold qu cZ;rw[if_pos ha]
 rw[e,dL];exact⟨U,cn<|dC O⟩
def fc(x:ay):Prop:=x.aU.n<=4096/\∀i,i<x.aU.n->(x.aU.f i).data.size<=1024
def Qh(x:ay)(s:y_):eF:=x.aU.f (qu x.aU s).toNat
def sG(x:ay)(s:y_)(k:Int):Int:=if qu x.aU s<0 then 35 else if(Qh x s).fe≠k then 1 else if Ju k (Qh x s).data≠s then 34 else 0
def aZ(x:ay)(s:y_)(k:Int):y_:=if sG x s k=0 then(Qh x s).data else n_
def Qi(x:ay)(s:y_)(k:Int):J:= .bg [S<|aZ x s k,I<|sG x s k]
def Xd {x:ay} {s:y_} {k:Int}(h:sG x s k=0):Qi x s k= .bg [S (Qh x s).data,I 0]:=by unfold Qi aZ;rw[h,if_pos rfl]
def FG {x:ay} {s:y_} {k e:Int}(h:sG x s k=e)(h0:e≠0):Qi x s k= .bg [S n_,I e]:=by unfold Qi aZ;rw[h,if_neg h0]
def bg6(x:ay)(s:y_)(k:Int)(hx:fc x):Ok P 259 [(af ay).au x,S s,I k] (Qi x s k):=by
 have hn:x.aU.n<=aq:=cm hx.1 dD;refine al aF4 L0 (let V:=qu x.aU s;let Z:=x.aU.f V.toNat;let aG:=S (n_:y_);(.k (a2 (af ay) aQ) (x,s) (x.aU.n<=140737488351232)<|.d (qu x.aU s<0) (.e<|J.bg [aG,I 35])<|.g V x.aU.n<|.u (Z.fe) k (.e<|J.bg [aG,I 1])<|.g V x.aU.n<|.g V x.aU.n<|.k (a2 bx aQ) (k,Z.data) (Z.data.size<=140737488355)<|.n (!(dN Z.bM (Ju k Z.data)&&(Z.fe==k&&(dN Z.data Z.data&&true)))) (.e<|J.bg [aG,I 34])<|.g V x.aU.n<|.e<|J.bg [S Z.data,I 0])) ?_;simp only[av,gl,nM,aL]
 repeat' with_reducible first|intro _|apply aNd_
 all_goals first|exact aM|exact(rb W).1|exact(FG (if_pos W) dD).symm|(exact cm (hx.2 _ (by have:=(rb (l:=x.aU) W).1;omega)) dD)|(have hq:=(rb W).2;refine(FG ?_ dD).symm;unfold sG Qh;grind)|(have hq:=(rb W).2;refine(Xd ?_).symm;unfold sG Qh;grind)
def bg7(x:ay)(s:y_)(k:Int)(hk:wf k)(hx:fc x):Ok P 240 [(af ay).au x,S s,I k] (Qi x s k):=by
 have hn:x.aU.n<=aq:=cm hx.1 dD;refine al aF4 L0 (let Z:=x.aU.f (qu x.aU s).toNat;let V:=S (n_:y_);(.k (a2 (ak eF) aQ) (x.aU,s) (x.aU.n<=140737488351232)<|.d (qu x.aU s<0) (.e<|J.bg [V,I 35])<|.g (qu x.aU s) x.aU.n<|.u (Z.fe) k (.e<|J.bg [V,I 1])<|.k (a2 bx aQ) (k,Z.data) (wf k/\Z.data.size<=140737488355)<|.m (dN (Ju k Z.data) s) (.e<|J.bg [V,I 34])<|.e<|J.bg [S Z.data,I 0])) ?_;simp only[av,bK,bO,aL]
 repeat' with_reducible first|intro _|apply aNd_
 all_goals first|exact aM|exact(rb W).1|exact(FG (if_pos W) dD).symm|(exact cm (hx.2 _ (by have:=(rb (l:=x.aU) W).1;omega)) dD)|(have hq:=(rb W).2;refine(FG ?_ dD).symm;unfold sG Qh;grind)|(have hq:=(rb W).2;refine(Xd ?_).symm;unfold sG Qh;grind)
section
variable {x:ay}{s:y_}{k:Int}
def iY(r:jl):Bool:=decide<|r.bM.size=32/\(0<=r.length/\r.length<=1048576)/\r.eB=yP r.length.toNat
def EHG:Env:=aF 333 (bN (a1 bx) (λz=>I (yP z.toNat:Nat)) pT)<|aF 282 (bN (a1 bx) (λz=>I (yP z.toNat:Nat)) pT) EN
def aF5:an P EHG:=ah (ah aw λz h=>aa5 z.toNat (by unfold pT at h;omega) z (by unfold pT at h;omega)) λz h=>aa4 z.toNat (by unfold pT at h;omega) z (by unfold pT at h;omega)
def aF6(r:jl):Ok P 299 [(af jl).au r] (Bo<|iY r):=by
 refine al aF5 L0 (let Z:ix:=bI;(.q r.bM.size 32 (.d (r.length>=0) (.d (r.length<=1048576) (.k (a1 bx) r.length (pT r.length)<|.e<|Bo<|r.eB==(↑(yP r.length.toNat):Int)) Z) Z) Z)) ?_;simp only[av]
 (repeat' with_reducible first|intro _|apply aNd_)<;>first|exact aM|(unfold iY;exact ga)
def Qj(r:jl):Ok P 242 [(af jl).au r] (Bo<|iY r):=by
 refine al aF5 L0 (let Z:ix:=bI;(.q r.bM.size 32 (.d (r.length>=0) (.d (r.length<=1048576) (.k (a1 bx) r.length (pT r.length)<|.e<|Bo<|r.eB==(↑(yP r.length.toNat):Int)) Z) Z) Z)) ?_;simp only[av]
 (repeat' with_reducible first|intro _|apply aNd_)<;>first|exact aM|(unfold iY;exact ga)
def jJ(x:ay)(s:y_)(k:Int):Int:=if sG x s k=1 then 2 else sG x s k
def bkR(x:ay)(s:y_)(k:Int):J:= .bg [S<|aZ x s k,I<|jJ x s k]
def EBG:Env:=aF 259 (bN (a3 (af ay) aQ bx) (λx=>Qi x.1 x.2.1 x.2.2) λx=>fc x.1)<|aF 240 (bN (a3 (af ay) aQ bx) (λx=>Qi x.1 x.2.1 x.2.2) λx=>wf x.2.2/\fc x.1) EN
def aF7:an P EBG:=ah (ah aw λx h=>bg7 x.1 x.2.1 x.2.2 h.1 h.2) λx h=>bg6 x.1 x.2.1 x.2.2 h
def M1(h:sG x s k≠0):aZ x s k=n_:=by unfold aZ;rw[if_neg h]
def D6(x:ay)(s:y_)(k:Int)(hk:wf k)(hx:fc x):Ok P 179 [(af ay).au x,S s,I k] (bkR x s k):=by
 refine al aF7 L0 (.k (a3 (af ay) aQ bx) (x,s,k) (wf k/\fc x)<|.q (sG x s k) 1 (.e<|J.bg [S (n_:y_),I 2])<|.e<|J.bg [S<|aZ x s k,I<|sG x s k]) ?_;simp only[av]
 (repeat' with_reducible first|intro _|apply aNd_)<;>first|exact aM|(have h:sG x s k=1:=W;unfold bkR jJ;rw[if_pos h,M1 U])|(unfold bkR jJ;rw[if_neg W])
def rB(x:ay)(k n:Nat):dW:=⟨[[I x.cap,(ak eF).au x.aU,.bf k n]],0,[],3,false,true⟩
def sB(L:l_ (l_ J))(gV:Bool):dW:=⟨L,0,[],1,true,gV⟩
def gB:dW:=⟨[],2,[],1,true,true⟩
def dP(x:ay)(s:y_)(k:Int)(L:l_ (l_ J)):l_ (l_ J):=if jJ x s k=0 then L++ [[S s]]else L
def Xe(h:sG x s k=1):bkR x s k= .bg [S n_,I 2]/\∀L,dP x s k L=L:=by
 have e:jJ x s k=2:=by unfold jJ;rw[if_pos h]
 unfold bkR dP;rw[e,M1 U];exact⟨rfl,λL=>if_neg dD⟩
def aF8(O:sG x s k≠1)(h:sG x s k≠0):bkR x s k= .bg [S n_,I<|sG x s k]/\∀L,dP x s k L=L:=by
 have e:jJ x s k=sG x s k:=by unfold jJ;rw[if_neg O]
 unfold bkR dP;rw[e,M1 h];exact⟨rfl,λL=>if_neg h⟩
def aF9(h:sG x s k=0):bkR x s k= .bg [S<|aZ x s k,I 0]/\∀L,dP x s k L=L++ [[S s]]:=by
 have e:jJ x s k=0:=by unfold jJ;rw[if_neg U];exact h
 unfold bkR dP;rw[e];exact⟨rfl,λL=>if_pos rfl⟩
def ab1(x:ay)(s:y_)(k:Int)(hx:fc x)(L:l_ (l_ J))(n:Nat)(hn:n=L.length)(hb:n<=1073741824):kD P 213 [.ptr 0 0 0,S s,I k] [rB x 1 n,sB L true] (bkR x s k) [rB x 2 (dP x s k L).length,gB,sB (dP x s k L) false]:=by
 refine cK aF7 L0 (let V:=sB L true;let aG:=(n_:y_);let aS:=(ak eF).au x.aU;let Z:=[gW [[I x.cap,aS,J.bf 1 n]] 3,ox V.es 1];let bn:=sG x s k;(.k (a3 (af ay) aQ bx) (x,s,k) (fc x)<|.q bn 1 (.s .fN<|.e (J.bg [S aG,I 2],Z))<|.u bn 0 (.e (J.bg [S aG,I bn],Z))<|.o [n=V.es.length,(n+1)*16<=140737488355328]<|.r true<|.r true<|.e (J.bg [S<|aZ x s k,I 0],[gW [[I x.cap,aS,J.bf 2<|n+ [[S s]].length]] 3,js 1,dn (if(rB x 1 n).par.contains (0+1+1+1)=true then dW.mk (V.es++ [[S s]]) 2 (1::V.par) 1 true false else dW.mk (V.es++ [[S s]]) 0 (1::V.par) 1 true false).es 1]))) ?_;simp only[av]
 (repeat' with_reducible first|intro _|apply aNd_)<;>first|exact aM|(rw[(Xe W).1,(Xe W).2,<-hn];exact dR.move 1 rfl rfl rfl rfl)|(rw[(aF8 W W).1,(aF8 W W).2,<-hn];exact dR.move 1 rfl rfl rfl rfl)|(have e:(L++ [[S s]]).length=n+1:=(by rw[br,hn];rfl);rw[(aF9 W).1,(aF9 W).2,e];exact dR.of_eq rfl)
end
abbrev PR:=y_×Int×l_ (l_ J)
def sH(f:Nat->l_ (l_ J)->PR)(sn:l_ (l_ J)):Nat->y_×l_ (l_ J)
 |0=>(⟨#[]⟩,sn)
 |j+1=>((sH f sn j).1++(f j (sH f sn j).2).1,(f j (sH f sn j).2).2.2)
def atW(f:Nat->l_ (l_ J)->PR)(sn:l_ (l_ J))(j:Nat):PR:=f j (sH f sn j).2
def Jv(f:Nat->l_ (l_ J)->PR)(sn:l_ (l_ J))(j:Nat):Bool:=decide<|(atW f sn j).2.1≠0
def Qk(f:Nat->l_ (l_ J)->PR)(sn:l_ (l_ J))(n:Nat):PR:=if ar n (Jv f sn)then(n_,(atW f sn<|aE n<|Jv f sn).2.1,(atW f sn<|aE n<|Jv f sn).2.2)else((sH f sn n).1,0,(sH f sn n).2)
def qv(L k i:Nat):Nat:=match k with
 |0=>min 1024 (L-1024*i)
 |k+1=>32*min 32 (ry L k-32*i)
def piece(d:y_)(j:Nat):y_:=d.extract (32*j)<|32*j+32
def fx(x:ay)(kd:Int)(L:Nat):Nat->y_->Nat->l_ (l_ J)->PR
 |0,s,i,sn=>if jJ x s kd≠0 then(⟨#[]⟩,jJ x s kd,dP x s kd sn)else if(aZ x s kd).size≠qv L 0 i then(⟨#[]⟩,2,dP x s kd sn)else(aZ x s kd,0,dP x s kd sn)
 |k+1,s,i,sn=>if jJ x s 2≠0 then(⟨#[]⟩,jJ x s 2,dP x s 2 sn)else if(aZ x s 2).size≠qv L (k+1) i then(⟨#[]⟩,2,dP x s 2 sn)else Qk (λj l=>fx x kd L k (piece (aZ x s 2) j) (32*i+j) l) (dP x s 2 sn) (qv L (k+1) i/32)
theorem Hu {L:Nat}(O:1<=L):∀k j,j<ry L k->j*eK k<L
 |0,j,h=>by
  have e:ry L 0=zN L:=rfl;rw[e]at h;unfold zN at h;show j*(1024*32^0)<L;omega
 |k+1,j,h=>by
  have e:ry L (k+1)=I6 (ry L k):=rfl;rw[e]at h;unfold I6 at h;have:=Hu O k (32*j) U;rw[kU]
  calc j*(eK k*32)=32*j*eK k:=by rw[xx (eK k) 32,<-Nat.mul_assoc,xx j 32]
   _<L:=this
def Ql(kd:Int)(L k i:Nat)(hL:L<=1048576)(O:1<=L)(hk:k<=4)(hi:i<ry L k)(z:Int)(hz:z=(k:Int))(zL:Int)(hzL:zL=(L:Int)):Ok P 334 [.agg [I kd,I zL,I 0,I zL],I z,I i] (I (qv L k i:Nat)):=by
 have hb:=tJ hL k;have hlen:pT zL:=by unfold pT;omega
 have hzn:zL.toNat=L:=U;by_cases h0:k=0
 .subst h0;have hw:=Hu O 0 i hi;rw[show eK 0=1024 by decide]at hw;have e1:oU ((i:Int)*1024)=((1024*i:Nat):Int):=by rw[wrap64 U U];omega
  have e2:oU (zL-((1024*i:Nat):Int))=((L-1024*i:Nat):Int):=by rw[hzL,wrap64 U U];omega
  refine al MZ L0 (let V:=zL-oU ((i:Int)*1024);let aG:=oU (z-1);let Z:=(↑(ry zL.toNat aG.toNat):Int)-oU ((i:Int)*32);(.q z 0 (.e<|I (if oU V<1024 then oU V else 1024))<|.k (a2 bx bx) (zL,oU<|z-1) (pT zL/\Br aG)<|.e<|I<|oU<|32*if oU Z<32 then oU Z else 32)) ?_;simp only[e1,e2];have e3:(if((L-1024*i:Nat):Int)<1024 then((L-1024*i:Nat):Int)else 1024)=((min 1024 (L-1024*i):Nat):Int):=by split<;>omega
  rw[e3];simp only[av,ev,jR]
  (repeat' with_reducible first|intro _|apply aNd_)<;>first|(exfalso;omega)|exact rfl
 .obtain⟨q,rfl⟩:∃q,k=q+1:=⟨k-1,U⟩
  have hb2:=tJ hL q;have Wa:i<I6 (ry L q):=hi;have hi3:32*i<ry L q:=by unfold I6 at Wa;omega
  have e0:oU (z-1)=(q:Int):=by rw[hz,wrap64 U U];omega
  have e1:oU ((i:Int)*32)=((32*i:Nat):Int):=by rw[wrap64 U U];omega
  have e2:oU (((ry L q:Nat):Int)-((32*i:Nat):Int))=((ry L q-32*i:Nat):Int):=by rw[wrap64 U U];omega
  have hlv:Br (q:Nat):=by unfold Br;omega
  refine al MZ L0 (let V:=zL-oU ((i:Int)*1024);let aG:=oU (z-1);let Z:=(↑(ry zL.toNat aG.toNat):Int)-oU ((i:Int)*32);(.q z 0 (.e<|I (if oU V<1024 then oU V else 1024))<|.k (a2 bx bx) (zL,oU<|z-1) (pT zL/\Br aG)<|.e<|I<|oU<|32*if oU Z<32 then oU Z else 32)) ?_;simp only[e0,e1,hzn,dL,e2];simp only[av]
  (repeat' with_reducible first|intro _|apply aNd_)<;>first|exact aM|(refine ba I ?_;show _=((32*min 32 (ry L q-32*i):Nat):Int);rw[wrap64]<;>(split<;>omega))
def s9(x:ay)(kd:Int)(L k:Nat)(s:y_)(i:Nat)(sn:l_ (l_ J)):PR:=mK<|fx x kd L k s i sn
def ux(x:ay)(kd:Int)(L k:Nat)(s:y_)(i:Nat)(sn:l_ (l_ J)):s9 x kd L k s i sn=fx x kd L k s i sn:=ni _
def Xf(x:ay):l_ J->Hp->Option (J×Hp×l_ Prop):=λaa h=>match aa,h with
 | [_,.sc (.string s),.sc (.int _ k)],[_,D]=>some (.bg [S (aZ x s k),I (jJ x s k)],[rB x 2 (dP x s k D.es).length,gB,sB (dP x s k D.es) false],[aa=[.ptr 0 0 0,S s,I k],h=[rB x 1 D.es.length,sB D.es true],fc x,D.es.length<=1073741824])
 |_,_=>none
def Qm {E:Env}(x:ay)(hE:an P E):an P (cF 213 (Xf x) E):=fC hE λaa h r h' ob O h2=>by
 unfold Xf at O;split at O
 .cases O;rw[h2 _ ch,h2 _<|fh _ ch];exact ab1 _ _ _ (h2 (fc _) sS) _ _ rfl<|h2 (_<=_) sS
 .cases O
def Bv:Nat->Nat
 |0=>1
 |k+1=>1+32*Bv k
def qG(L k i n:Nat):Prop:=1<=L/\L<=1048576/\k<=2/\i<ry L k/\n+Bv k<=536870912
def Bw {k:Nat}(h:k<=2):Bv k<=1057:=by rcases(by omega:k=0\/k=1\/k=2)with r|r|r<;>subst r<;>decide
def uy(x:ay)(s:y_)(k:Int)(L:l_ (l_ J)):(dP x s k L).length<=L.length+1:=by
 unfold dP;split
 .rw[br];simp
 .omega
theorem Bx {f:Nat->l_ (l_ J)->PR} {sn:l_ (l_ J)} {c:Nat}(h:∀j l,(f j l).2.2.length<=l.length+c):∀j,(sH f sn j).2.length<=sn.length+j*c
 |0=>by show sn.length<=_;omega
 |j+1=>by have O:=Bx h (sn:=sn) j;have h2:=h j (sH f sn j).2;rw[ed,sO];show(f j (sH f sn j).2).2.2.length<=_;omega
theorem CK {f:Nat->l_ (l_ J)->PR} {sn:l_ (l_ J)} {c:Nat}(h:∀j l,(f j l).1.size<=c):∀j,(sH f sn j).1.size<=j*c
 |0=>bJ _
 |j+1=>by have O:=CK h (sn:=sn) j;have h2:=h j (sH f sn j).2;rw[ed,sO];show((sH f sn j).1++(f j (sH f sn j).2).1).size<=_;rw[fy];omega
def M3(L k i:Nat):qv L (k+1) i/32<=32:=by show 32*min 32 (ry L k-32*i)/32<=32;omega
theorem Hv(x:ay)(kd:Int)(L:Nat):∀k s i sn,(fx x kd L k s i sn).2.2.length<=sn.length+Bv k
 |0,s,i,sn=>by
  have:=uy x s kd sn;unfold fx;split
  .exact this
  .split<;>exact this
 |k+1,s,i,sn=>by
  have O:=uy x s 2 sn;have h2:=M3 L k i;have h3:Bv (k+1)=1+32*Bv k:=rfl;unfold fx;split
  .show(dP x s 2 sn).length<=_;omega
  .split
   .show(dP x s 2 sn).length<=_;omega
   .have hf:∀j l,(fx x kd L k (piece (aZ x s 2) j) (32*i+j) l).2.2.length<=l.length+Bv k:=λj l=>Hv x kd L k _ _ _;unfold Qk;split
    .rename_i ha;have iH:=dw.2 ha;generalize aE _ _=j at iH;have a1:=Bx (f:=λj l=>fx x kd L k (piece (aZ x s 2) j) (32*i+j) l) hf (sn:=dP x s 2 sn) j;have a2:=hf j (sH (λj l=>fx x kd L k (piece (aZ x s 2) j) (32*i+j) l) (dP x s 2 sn) j).2;have a3:=il (Bv k) (show j+1<=32 by omega);rw[ed,sO]at a3;show(fx x kd L k _ _ _).2.2.length<=_;omega
    .have a1:=Bx (f:=λj l=>fx x kd L k (piece (aZ x s 2) j) (32*i+j) l) hf (sn:=dP x s 2 sn)<|qv L (k+1) i/32;have a3:=il (Bv k) h2;show(sH _ _ _).2.length<=_;omega
theorem x9(x:ay)(kd:Int)(L:Nat):∀k s i sn,(fx x kd L k s i sn).1.size<=eK k
 |0,s,i,sn=>by
  rw[show eK 0=1024 by decide];unfold fx;split
  .exact bJ _
  .split
   .exact bJ _
   .rename_i h;have:(aZ x s kd).size=min 1024 (L-1024*i):=by have h2:qv L 0 i=min 1024 (L-1024*i):=rfl;rw[h2]at h;omega
    show(aZ x s kd).size<=_;omega
 |k+1,s,i,sn=>by
  unfold fx;split
  .exact bJ _
  .split
   .exact bJ _
   .unfold Qk;split
    .exact bJ _
    .have a1:=CK (f:=λj l=>fx x kd L k (piece (aZ x s 2) j) (32*i+j) l) (sn:=dP x s 2 sn) (λj l=>x9 x kd L k _ _ _)<|qv L (k+1) i/32;have a3:=il (eK k)<|M3 L k i;rw[kU];show(sH _ _ _).1.size<=_;omega
def aG0(x:ay)(kd:Int)(L m:Nat):l_ J->Hp->Option (J×Hp×l_ Prop):=λaa h=>match aa,h with
 | [_,_,.sc (.string s),.sc (.int _ k),.sc (.int _ i)],[_,D]=>some (.bg [S (s9 x kd L k.toNat s i.toNat D.es).1,I (s9 x kd L k.toNat s i.toNat D.es).2.1],[rB x 2 (s9 x kd L k.toNat s i.toNat D.es).2.2.length,gB,sB (s9 x kd L k.toNat s i.toNat D.es).2.2 false],[aa=[.ptr 0 0 0,.agg [I kd,I L,I 0,I L],S s,I k.toNat,I i.toNat],h=[rB x 1 D.es.length,sB D.es true],fc x,qG L k.toNat i.toNat D.es.length,k.toNat<m])
 |_,_=>none
def zG(m:Nat):Prop:=∀(x:ay) (kd:Int) (L k:Nat) (s:y_) (i:Nat) (sn:l_ (l_ J)),fc x->qG L k i sn.length->k<m->kD P 300 [.ptr 0 0 0,.agg [I kd,I L,I 0,I L],S s,I k,I i] [rB x 1 sn.length,sB sn true] (.bg [S (fx x kd L k s i sn).1,I (fx x kd L k s i sn).2.1]) [rB x 2 (fx x kd L k s i sn).2.2.length,gB,sB (fx x kd L k s i sn).2.2 false]
def aG1 {E:Env}(x:ay)(kd:Int)(L:Nat) {m:Nat}(hE:an P E)(hm:zG m):an P (cF 300 (aG0 x kd L m) E):=fC hE λaa h r h' ob O h2=>by
 unfold aG0 at O;split at O
 .rename_i s _ k _ i _ D;cases O;rw[h2 _ ch,h2 _<|fh _ ch];simp only[ux];exact hm _ _ _ _ _ _ _ (h2 (fc x) sS) (h2 (qG L k.toNat i.toNat D.es.length) sS)<|h2 (k.toNat<m) sS
 .cases O
def R7(k:Int):Prop:=0<=k/\k<=4
def EPX(L:Nat):Env:=aF 334 (λq=>match q with
 | [.agg [.sc (.int _ kd),_,_,_],.sc (.int _ k),.sc (.int _ i)]=>some (I (qv L k.toNat i.toNat:Nat),[q=[.agg [I kd,I L,I 0,I L],I k.toNat,I i.toNat],qG L k.toNat i.toNat 0])
 |_=>none) (aF 335 (bN (a1 bx) (λk=>I (eK k.toNat:Nat)) R7) EN)
def bF0(L:Nat):an P (EPX L):=gi (ah aw λk h=>by
  have h2:0<=k/\k<=4:=h;have:=aC9 k.toNat U
  rwa [rM h2.1]at this) λq r ob O h2=>by
 split at O
 .rename_i kd _ _ _ _ k _ i;cases O;rw[h2 _ ch];obtain⟨n1,n2,n3,n4,_⟩:=h2 (qG L k.toNat i.toNat 0)<|fh _ ch;exact Ql _ _ _ _ n2 n1 U n4 _ rfl _ rfl
 .cases O
def EPt(x:ay)(kd:Int)(L m:Nat):Env:=cF 300 (aG0 x kd L m)<|cF 213 (Xf x)<|EPX L
def M4(x:ay)(kd:Int)(L m:Nat)(hm:zG m:=by assumption):an P (EPt x kd L m):=aG1 x kd L (Qm x<|bF0 L) hm
section
variable {x:ay}{kd:Int}{L i:Nat}{s:y_}{sn:l_ (l_ J)}
def aG2(h:jJ x s kd≠0):fx x kd L 0 s i sn=(n_,jJ x s kd,dP x s kd sn):=if_pos h
def ab2(h:jJ x s kd=0)(h2:(aZ x s kd).size≠qv L 0 i):fx x kd L 0 s i sn=(n_,2,dP x s kd sn):=by unfold fx;rw[if_neg U,if_pos h2]
def ab3(h:jJ x s kd=0)(h2:(aZ x s kd).size=qv L 0 i):fx x kd L 0 s i sn=(aZ x s kd,0,dP x s kd sn):=by unfold fx;rw[if_neg U,if_neg U]
def Xg {d:y_} {a b:Nat}(ha:a=0)(hb:b=d.size):d.extract a b=d:=by simp_all
def aG3(x:ay)(kd:Int)(L:Nat)(s:y_)(i:Nat)(sn:l_ (l_ J))(hx:fc x)(hn:qG L 0 i sn.length)(zi:Int)(hzi:zi=(i:Int))(hm:zG 0):kD P 300 [.ptr 0 0 0,.agg [I kd,I L,I 0,I L],S s,I 0,I zi] [rB x 1 sn.length,sB sn true] (.bg [S (fx x kd L 0 s i sn).1,I (fx x kd L 0 s i sn).2.1]) [rB x 2 (fx x kd L 0 s i sn).2.2.length,gB,sB (fx x kd L 0 s i sn).2.2 false]:=by
 obtain⟨n1,n2,n3,n4,n5⟩:=hn;have hw:=Hu n1 0 i n4;rw[show eK 0=1024 by decide]at hw;have hiN:zi.toNat=i:=U;have hq:oU (zi*((eK 0:Nat):Int))=((i*1024:Nat):Int):=by rw[show eK 0=1024 by decide,hzi,wrap64 U U];omega
 have hq1:oU ((L:Int)-((i*1024:Nat):Int))=((L-i*1024:Nat):Int):=by rw[wrap64 U U];omega
 have hq2:oU (0-((i*1024:Nat):Int))= -((i*1024:Nat):Int):=by rw[wrap64 U U];omega
 have hw0:R7 0:=by unfold R7;omega
 have yy:qG L 0 i 0:=⟨n1,n2,n3,n4,by have:=Bw n3;omega⟩
 have Qe:qv L 0 i=min 1024 (L-1024*i):=rfl;refine cK (M4 x kd L 0) L0 (let V:=(↑(aZ x s kd).size:Int);let aS:=zi*(↑(eK<|Int.toNat 0):Int);let bn:=zi*(↑(eK 0):Int);let aG:=(L:Int)-oU bn;let bH:=(L:Int)-oU aS;let cp:=(ak eF).au x.aU;let Z:=[gW [[I x.cap,cp,J.bf 2 (dP x s kd sn).length]] 3,js 1,dn (dP x s kd sn) 1];let cu:=(n_:y_);let dk:=J.agg [I kd,I L,I 0,I L];(.o [List.map cj [aT,S s,I kd]=[aT,S s,I kd],[dW.mk (List.map (List.map cj) [[I x.cap,cp,J.bf 1 sn.length]]) (rB x 1 sn.length).st [] (rB x 1 sn.length).sz false true,dW.mk sn (sB sn true).st [] (sB sn true).sz true true]=[rB x 1 sn.length,sB sn true],fc x,sn.length<=1073741824]<|.s .fN<|.u (jJ x s kd) 0 (.e (J.bg [S cu,I<|jJ x s kd],Z))<|.o [[dk,I 0,I zi]=[dk,I (↑0:Int),I zi.toNat],qG L 0 zi.toNat 0]<|.u V (↑(qv L 0 zi.toNat):Int) (.e (J.bg [S cu,I 2],Z))<|.k (a1 bx) 0 (R7 0)<|.o [(0:Int)<=if oU (0-oU bn)>0 then oU (0-oU bn) else 0,(if oU (0-oU bn)>0 then oU (0-oU bn) else 0)<=if oU aG<V then oU aG else V,(if oU aG<V then oU aG else V)<=V]<|.s .fN<|.e (J.bg [S<|(aZ x s kd).extract (if oU (0-oU aS)>0 then oU (0-oU aS)else 0).toNat (if oU bH<V then oU bH else V).toNat,I 0],Z))) ?_;try dsimp only
 simp only[hiN,show Int.toNat 0=0 from rfl,hq,hq1,hq2,Qe];simp only[av]
 (repeat' with_reducible first|intro _|apply aNd_)<;>first|exact aM|(subst hzi;rfl)|(rw[aG2 W];exact dR.of_eq rfl)|(rw[ab2 W (by rw[Qe];omega)];exact dR.of_eq rfl)|(rw[Xg (by rw[if_neg U];rfl) (by split<;>omega),ab3 W (by rw[Qe];omega)];exact dR.of_eq rfl)
end
def pB(kd:Int)(L:Nat):dW:=⟨[[I kd,I L,I 0,I L]],0,[],4,false,false⟩
def ab4 (x:ay) (kd:Int) (L q i:Nat) (d:y_) (n:Nat) (hx:fc x) (hm:zG (q+1)) (n1:1<=L) (n2:L<=1048576) (hq:q+1<=2) (hd:d.size=32*n) (hn:n<=32) (hi:∀j,j<n->32*i+j<ry L q) (Wa:i<=1024) (out:Nat->y_) (ls:Nat->l_ (l_ J)) (er:Nat->Int)
  (TQ:∀j,out (j+1)=out j++(s9 x kd L q (piece d j) (32*i+j)<|ls j).1) (hls:∀j,ls (j+1)=(s9 x kd L q (piece d j) (32*i+j)<|ls j).2.2) (Jw:∀j,er j=(s9 x kd L q (piece d j) (32*i+j)<|ls j).2.1)
  (hlen:∀j,j<n->(ls j).length+Bv q<=536870912) (kZ:∀j,j<=n->(out j).size<=j*eK q) (z zi:Int) (hz:z=((q+1:Nat):Int)) (hzi:zi=(i:Int)):
  aO P (aD f300 14) (M 116 [(0,.ptr 0 0 0),(3,I z),(4,I zi),(6,.ptr 2 0 0),(13,S d),(16,S<|out 0),(65,I n),(66,I 0)]) [rB x 3 (ls 0).length,gB,pB kd L,sB (ls 0) false]
   (.ite (ar n λj=>decide (er j≠0)) (.out .ret (M 116 [(10,S n_),(11,I<|er<|aE n λj=>decide (er j≠0))]) [rB x 2 (ls<|aE n (λj=>decide (er j≠0))+1).length,gB,sB (ls<|aE n (λj=>decide (er j≠0))+1) false])<|.out (.ext 0) (M 116 [(16,S<|out n)]) [rB x 2 (ls n).length,gB,sB (ls n) false]):=by
 have hnx:n<=aq:=cm hn dD;have hwq:=Ht (show q<=4 by omega);have lp:=qp f300 14 n (λj=>decide (er j≠0)) (λj=>(M 116 [(0,aT),(3,I z),(4,I zi),(6,.ptr 2 0 0),(13,S d),(16,S<|out j),(65,I n),(66,I j)])) (λj=> [rB x 3 (ls j).length,gB,pB kd L,sB (ls j) false]) (λj=>(.ret,(M 116 [(10,S n_),(11,I<|er j)]),[rB x 2 (ls<|j+1).length,gB,sB (ls<|j+1) false])) (.ext 0,(M 116 [(16,S<|out n)]),[rB x 2 (ls n).length,gB,sB (ls n) false]) λj hj ltj nC nq lO=>by
  have eZ:oU (z-1)=((q:Nat):Int):=by rw[hz,wrap64 U U];omega
  have eI:oU (zi*32)=((32*i:Nat):Int):=by rw[hzi,wrap64 U U];omega
  have eIJ:oU (((32*i:Nat):Int)+(j:Int))=((32*i+j:Nat):Int):=by rw[wrap64 U U];omega
  have eJ1:oU ((j:Int)+1)=((j+1:Nat):Int):=by rw[wrap64 U U];omega
  have eJ:oU ((j:Int)*32)=((32*j:Nat):Int):=by rw[wrap64 U U];omega
  have eJJ:oU (((j+1:Nat):Int)*32)=((32*j+32:Nat):Int):=by rw[wrap64 U U];omega
  have hAm:(32*i+j)*eK q<=32800*1073741824:=Nat.mul_le_mul U hwq;have eA:oU (((32*i+j:Nat):Int)*((eK q:Nat):Int))=(((32*i+j)*eK q:Nat):Int):=by rw[<-Int.natCast_mul,wrap64 U U]
  have hAw:j<n->(32*i+j)*eK q<L:=λh=>Hu n1 q _<|hi j h;have hw1:1<=eK q:=by unfold eK;exact Nat.mul_pos dD<|Nat.pow_pos dD
  have hpz:=x9 x kd L q (piece d j) (32*i+j)<|ls j;rw[<-ux]at hpz;have hsj:=kZ j U;have hjw:j*eK q<=32*1073741824:=Nat.mul_le_mul U hwq;have hwo:R7 ((q:Nat):Int):=by unfold R7;omega
  have yy:j<n->qG L q (32*i+j) (ls j).length:=λh=>⟨n1,n2,U,hi j h,hlen j h⟩
  have hpc:d.extract (32*j) (32*j+32)=piece d j:=rfl;refine ao (M4 x kd L<|q+1) L0 [0,3,4,6,13,16,65,66] [10,11,10016] (let aG:=oU (z-1);let bn:=oU (zi*32)+(j:Int);let bH:=(ak eF).au x.aU;let cp:=oU ((j:Int)+1)*32;let cu:=oU bn;let bu:=[I kd,I L,I 0,I L];let bC:=(66,I<|oU<|(j:Int)+1);let V:=(Out.norm,(M 116 [(0,aT),(3,I z),(4,I zi),(6,dK 2),(13,S d),(16,S<|out j),(65,I n),bC]),[gW [[I x.cap,bH,J.bf 3 (ls j).length]] 3,js 1,cM [bu] 4,dn (ls j) 1]);let bP:=(j:Int)*32;let aS:=d.extract (oU bP).toNat (oU cp).toNat;let Z:=s9 x kd L aG.toNat aS cu.toNat (ls j);let bY:=(↑(eK aG.toNat):Int);let dk:=oU bn*bY;let cN:=rB x 3 (ls j).length;(.d ((j:Int)<n) (.k (a1 bx) aG (R7 aG)<|.d (oU dk>=(L:Int)) (.e V)<|.k (a1 bx) aG (R7 aG)<|.d (oU (oU dk+bY)<=0) (.e V)<|.o [(0:Int)<=oU bP,oU bP<=oU cp,oU cp<=(d.size:Int),List.map cj [aT,J.agg bu,S aS,ofR<|Value.int IntKind.i64 aG,ofR<|Value.int IntKind.i64 cu]=[aT,J.agg bu,S aS,I aG.toNat,I cu.toNat],[dW.mk (List.map (List.map cj) [[I x.cap,bH,J.bf 1 (ls j).length]]) cN.st [] cN.sz false true,dW.mk (ls j) (sB (ls j) false).st [] (sB (ls j) false).sz true true]=[rB x 1 (ls j).length,sB (ls j) true],fc x,qG L aG.toNat cu.toNat (ls j).length,aG.toNat<q+1]<|.u (Z.snd.fst) 0 (kG (M 116 [(10,S (n_:y_)),(11,I Z.snd.fst)]) [gW [[I x.cap,bH,J.bf 2 Z.snd.snd.length]] 3,js 1,dn Z.snd.snd 1])<|.o [(out j).size+Z.fst.size<=9223372036854775807]<|bR (M 116 [(0,aT),(3,I z),(4,I zi),(6,dK 2),(13,S d),(16,S<|out j++Z.fst),(65,I n),bC]) [gW [[I x.cap,bH,J.bf 3 Z.snd.snd.length]] 3,js 1,cM [bu] 4,dn Z.snd.snd 1])<|fv 0 (M 116 [(16,S<|out j)]) [gW [[I x.cap,bH,J.bf 2 (ls j).length]] 3,js 1,dn (ls j) 1])) ?_;have JV:=@decide_eq_true_iff (er j≠0) _
  ((try dsimp only);simp only[eZ,eI,eJ1,eIJ,eJ,eJJ,eA,Int.toNat_natCast,hpc];clear eZ eI eJ eJJ eIJ eA hpc hi)
  simp only[av]
  (repeat' with_reducible first|intro _|apply aNd_)<;>first|exact aM|(exfalso;have e:oU ((((32*i+j)*eK q:Nat):Int)+((eK q:Nat):Int))=(((32*i+j)*eK q:Nat):Int)+((eK q:Nat):Int):=wrap64 U U;omega)|exact yy U|(have h:j<n:=U;have g:=nq h (cd (by rw[Jw];assumption));rw[Jw j,hls j]at g;exact g)|(have h:j<n:=U;have g:=nC h (fq (by rw[Jw];exact cI W));rw[TQ,hls]at g;exact g)|(have e:j=n:=U;subst e;exact lO rfl)
 exact lp
def bX2(x:ay)(n:Nat)(er:Nat->Int)(ls:Nat->l_ (l_ J))(out:Nat->y_):gD:=iy [0,3,4,6,13,16,65,66] n (λj=>decide (er j≠0)) (λj=>(M 116 [(10,S n_),(11,I<|er j)])) (M 116 [(16,S<|out n)]) (.ext 0) (λj=> [rB x 2 (ls<|j+1).length,gB,sB (ls<|j+1) false]) [rB x 2 (ls n).length,gB,sB (ls n) false]
def ab5 (x:ay) (kd:Int) (L q i n:Nat) (s:y_) (sn:l_ (l_ J)) (hx:fc x) (yy:qG L (q+1) i sn.length) (hm:zG (q+1)) (hn:n=qv L (q+1) i/32) (out:Nat->y_) (ls:Nat->l_ (l_ J)) (er:Nat->Int) (h0:out 0=n_) (Wb:ls 0=dP x s 2 sn)
  (TQ:∀j,out (j+1)=out j++(s9 x kd L q (piece (aZ x s 2) j) (32*i+j)<|ls j).1) (hls:∀j,ls (j+1)=(s9 x kd L q (piece (aZ x s 2) j) (32*i+j)<|ls j).2.2) (Jw:∀j,er j=(s9 x kd L q (piece (aZ x s 2) j) (32*i+j)<|ls j).2.1)
  (hlen:∀j,j<n->(ls j).length+Bv q<=536870912) (kZ:∀j,j<=n->(out j).size<=j*eK q) (z zi:Int) (hz:z=((q+1:Nat):Int)) (hzi:zi=(i:Int)) (r:PR)
  (R8:jJ x s 2≠0->r=(n_,jJ x s 2,dP x s 2 sn)) (Je:jJ x s 2=0->(aZ x s 2).size≠qv L (q+1) i->r=(n_,2,dP x s 2 sn))
  (hr3:jJ x s 2=0->(aZ x s 2).size=qv L (q+1) i->ar n (λj=>decide (er j≠0))=true->r=(n_,er<|aE n λj=>decide (er j≠0),ls<|aE n (λj=>decide (er j≠0))+1))
  (S5:jJ x s 2=0->(aZ x s 2).size=qv L (q+1) i->ar n (λj=>decide (er j≠0))=false->r=(out n,0,ls n)):
  kD P 300 [.ptr 0 0 0,.agg [I kd,I L,I 0,I L],S s,I z,I zi] [rB x 1 sn.length,sB sn true] (.bg [S r.1,I r.2.1]) [rB x 2 r.2.2.length,gB,sB r.2.2 false]:=by
 obtain⟨n1,n2,n3,n4,n5⟩:=yy;have Y:=Bw n3;have hb:=tJ n2<|q+1;have hi4:i<I6 (ry L q):=n4;have Qe:qv L (q+1) i=32*min 32 (ry L q-32*i):=rfl;have hi0:32*i<ry L q:=by unfold I6 at hi4;omega
 have lp:=λhd=>ab4 x kd L q i (aZ x s 2) n hx hm n1 n2 n3 hd U (λj hj=>U) U out ls er TQ hls Jw hlen kZ z zi hz hzi;rw[h0,Wb]at lp;have hiN:zi.toNat=i:=U;have hzN:z.toNat=q+1:=U;have hnn:(aZ x s 2).size=qv L (q+1) i->(aZ x s 2).size=32*n:=U;have hdiv:(aZ x s 2).size=qv L (q+1) i->oU ((((aZ x s 2).size:Nat):Int).tdiv 32)=(n:Int):=λh=>by rw[hnn h,show((32*n:Nat):Int).tdiv 32=((32*n/32:Nat):Int)from rfl,wrap64 U U];omega
 have hzw:R7 z:=by unfold R7;omega
 have ch6:qG L (q+1) i 0:=⟨n1,n2,n3,n4,U⟩
 refine cK (M4 x kd L<|q+1) (bX2 x n er ls out) (let aG:=(ak eF).au x.aU;let aS:=S (n_:y_);let bH:=[dW.mk (List.map (List.map cj) [[I x.cap,aG,J.bf 1 sn.length]]) (rB x 1 sn.length).st [] (rB x 1 sn.length).sz false true,dW.mk sn (sB sn true).st [] (sB sn true).sz true true]=[rB x 1 sn.length,sB sn true];let cu:=[gW [[I x.cap,aG,J.bf 2 (ls n).length]] 3,js 1,dn (ls n) 1];let eu:=zi*(↑(eK z.toNat):Int);let Z:=(L:Int)-oU eu;let V:=if oU (0-oU eu)>0 then oU (0-oU eu) else 0;let bC:=(0:Int)<=if oU (0-oU eu)>0 then oU (0-oU eu) else 0;let iz:=aD f300 14;let iC:=[I kd,I L,I 0,I L];let dV:=[[J.agg iC,I z,I zi]=[J.agg iC,I z.toNat,I zi.toNat],qG L z.toNat zi.toNat 0];let jn:=dP x s kd sn;let dk:=[gW [[I x.cap,aG,J.bf 2 jn.length]] 3,js 1,dn jn 1];let cN:=[gW [[I x.cap,aG,J.bf 3 jn.length]] 3,js 1,cM [iC] 4,dn jn 1];let iD:=dP x s 2 sn;let bu:=[gW [[I x.cap,aG,J.bf 2 iD.length]] 3,js 1,dn iD 1];let dE:=[gW [[I x.cap,aG,J.bf 3 iD.length]] 3,js 1,cM [iC] 4,dn iD 1];let ka:=(↑(qv L z.toNat zi.toNat):Int);let kV:=(M 116 [(16,S<|out n)]);let lg:=(J.bg [S<|out n,I 0],cu);let mA:=aZ x s kd;let bn:=(mA.size:Int);let bP:=(M 116 [(0,aT),(3,I z),(4,I zi),(6,dK 2),(13,S mA),(16,aS),(65,I<|oU<|bn.tdiv 32),(66,I 0)]);let fI:=if oU Z<bn then oU Z else bn;let lT:=aZ x s 2;let cp:=(lT.size:Int);let bY:=(M 116 [(0,aT),(3,I z),(4,I zi),(6,dK 2),(13,S lT),(16,aS),(65,I<|oU<|cp.tdiv 32),(66,I 0)]);let ia:=if oU Z<cp then oU Z else cp;(.q z 0 (.o [List.map cj [aT,S s,I kd]=[aT,S s,I kd],bH,fc x,sn.length<=1073741824]<|.u (jJ x s kd) 0 (.e (J.bg [aS,I<|jJ x s kd],dk))<|.o dV<|.u bn ka (.e (J.bg [aS,I 2],dk))<|.k (a1 bx) z (R7 z)<|.q z 0 (.o [bC,V<=if oU Z<bn then oU Z else bn,fI<=bn]<|.e (J.bg [S<|mA.extract V.toNat fI.toNat,I 0],dk))<|.n (ar n λj=>decide (er j≠0)) (.o [ax P iz bP cN (Out.ret) (M 116 [(10,aS),(11,I<|er<|aE n λj=>decide (er j≠0))]) [gW [[I x.cap,aG,J.bf 2 (ls<|(aE n λj=>decide (er j≠0))+1).length]] 3,js 1,dn (ls<|(aE n λj=>decide (er j≠0))+1) 1]]<|.e (J.bg [aS,I<|er<|aE n λj=>decide (er j≠0)],[gW [[I x.cap,aG,J.bf 2 (ls<|(aE n λj=>decide (er j≠0))+1).length]] 3,js 1,dn (ls<|(aE n λj=>decide (er j≠0))+1) 1]))<|.o [ax P iz bP cN (Out.ext 0) kV<|cu]<|.e lg)<|.o [List.map cj [aT,S s,ofV<|Value.int IntKind.i64 2]=[aT,S s,I 2],bH,fc x,sn.length<=1073741824]<|.u (jJ x s 2) 0 (.e (J.bg [aS,I<|jJ x s 2],bu))<|.o dV<|.u cp ka (.e (J.bg [aS,I 2],bu))<|.k (a1 bx) z (R7 z)<|.q z 0 (.o [bC,V<=if oU Z<cp then oU Z else cp,ia<=cp]<|.e (J.bg [S<|lT.extract V.toNat ia.toNat,I 0],bu))<|.n (ar n λj=>decide (er j≠0)) (.o [ax P iz bY dE (Out.ret) (M 116 [(10,aS),(11,I<|er<|aE n λj=>decide (er j≠0))]) [gW [[I x.cap,aG,J.bf 2 (ls<|(aE n λj=>decide (er j≠0))+1).length]] 3,js 1,dn (ls<|(aE n λj=>decide (er j≠0))+1) 1]]<|.e (J.bg [aS,I<|er<|aE n λj=>decide (er j≠0)],[gW [[I x.cap,aG,J.bf 2 (ls<|(aE n λj=>decide (er j≠0))+1).length]] 3,js 1,dn (ls<|(aE n λj=>decide (er j≠0))+1) 1]))<|.o [ax P iz bY dE (Out.ext 0) kV<|cu]<|.e lg)) ?_
 try dsimp only
 simp only[hiN,hzN];simp only[av]
 (repeat' with_reducible first|intro _|apply aNd_)<;>first|exact aM|(subst hzi;subst hz;rfl)|(rw[R8 W];exact dR.of_eq rfl)|(rw[Je W U];exact dR.of_eq rfl)|(rw[hdiv U];exact((lp<|hnn U).t W).one)|(rw[hdiv U];exact((lp<|hnn U).f W).one)|(rw[hr3 W U W];exact dR.of_eq rfl)|(rw[S5 W U W];exact dR.of_eq rfl)
def aG4(x:ay)(kd:Int)(L q:Nat)(s:y_)(i:Nat)(sn:l_ (l_ J))(hx:fc x)(yy:qG L (q+1) i sn.length)(hm:zG (q+1)):kD P 300 [.ptr 0 0 0,.agg [I kd,I L,I 0,I L],S s,I ((q+1:Nat):Int),I i] [rB x 1 sn.length,sB sn true] (.bg [S (fx x kd L (q+1) s i sn).1,I (fx x kd L (q+1) s i sn).2.1]) [rB x 2 (fx x kd L (q+1) s i sn).2.2.length,gB,sB (fx x kd L (q+1) s i sn).2.2 false]:=by
 obtain⟨n1,n2,n3,n4,n5⟩:=yy;have hq:=Bw n3;have hcc:Bv (q+1)=1+32*Bv q:=rfl;have h2:=M3 L q i;have O:=uy x s 2 sn;refine ab5 x kd L q i (qv L (q+1) i/32) s sn hx ⟨n1,n2,n3,n4,n5⟩ hm rfl (λj=>(sH (λj l=>fx x kd L q (piece (aZ x s 2) j) (32*i+j) l) (dP x s 2 sn) j).1) (λj=>(sH (λj l=>fx x kd L q (piece (aZ x s 2) j) (32*i+j) l) (dP x s 2 sn) j).2) (λj=>(atW (λj l=>fx x kd L q (piece (aZ x s 2) j) (32*i+j) l) (dP x s 2 sn) j).2.1) rfl rfl (λj=>by rw[ux];rfl) (λj=>by rw[ux];rfl) (λj=>by rw[ux];rfl) (λj hj=> ?_) (λj _=> ?_) _ _ rfl rfl (fx x kd L (q+1) s i sn) ?_ ?_ ?_ ?_
 .have a1:=Bx (f:=λj l=>fx x kd L q (piece (aZ x s 2) j) (32*i+j) l) (λj l=>Hv x kd L q _ _ _) (sn:=dP x s 2 sn) j;have a3:=il (Bv q) (show j+1<=32 by omega);rw[ed,sO]at a3;show(sH _ _ _).2.length+_<=_;omega
 .exact CK (f:=λj l=>fx x kd L q (piece (aZ x s 2) j) (32*i+j) l) (λj l=>x9 x kd L q _ _ _) j
 .intro h;unfold fx;rw[if_pos h]
 .intro h h3;unfold fx;rw[if_neg U,if_pos h3]
 .intro h h3 h4
  conv=>lhs;unfold fx
  rw[if_neg U,if_neg U];unfold Qk;rw[if_pos (show ar _ (Jv _ _)=true from h4)];rfl
 .intro h h3 h4
  conv=>lhs;unfold fx
  rw[if_neg U,if_neg U];unfold Qk;rw[if_neg (show ¬ar _ (Jv _ _)=true by rw[show ar _ (Jv _ _)=false from h4];simp)]
theorem aG5:∀m,zG m
 |0=>λ_ _ _ _ _ _ _ _ _ h=>absurd h (jC _)
 |m+1=>λx kd L k s i sn hx hn hk=>by
  have ih:=aG5 m;rcases fA k m with h|h
  .exact ih x kd L k s i sn hx hn h
  .have e:k=m:=U;subst e;cases k with
   |zero=>exact aG3 x kd L s i sn hx hn _ rfl ih
   |succ q=>exact aG4 x kd L q s i sn hx hn ih
def M5 {L:Nat}(h:L<=1048576):ry L (yP L)=1:=by have O:=tJ h<|yP L;have h2:=MY h<|bE<|yP L;omega
def dI(x:ay)(kd:Int)(r:jl)(sn:l_ (l_ J)):PR:=
 if iY r=false then(n_,2,sn)
 else if r.length=0 then(n_,if jJ x r.bM kd=0/\aZ x r.bM kd≠n_ then 2 else jJ x r.bM kd,dP x r.bM kd sn)
 else fx x kd r.length.toNat r.eB.toNat r.bM 0 sn
def ECT(x:ay)(kd:Int)(L:Nat):Env:=aF 299 (bN (a1<|af jl) λr=>Bo (iY r))<|EPt x kd L 3
def bF1(x:ay)(kd:Int)(L:Nat):an P (ECT x kd L):=ah (M4 x kd L 3<|aG5 3) λr _=>aF6 r
def bg8(x:ay)(kd:Int)(r:jl)(sn:l_ (l_ J))(hx:fc x)(hn:sn.length+1057<=536870912)(L:Nat)(hL:L=r.length.toNat):kD P 264 [.ptr 0 0 0,(af jl).au r,I kd] [rB x 1 sn.length,sB sn true] (.bg [S (dI x kd r sn).1,I (dI x kd r sn).2.1]) [rB x 2 (dI x kd r sn).2.2.length,gB,sB (dI x kd r sn).2.2 false]:=by
 have hrt:iY r=true->(r.bM.size=32/\(0<=r.length/\r.length<=1048576)/\r.eB=yP r.length.toNat):=λh=>cn h;have hlv:=zE r.length.toNat;have b92:iY r=true->r.length≠0->qG L r.eB.toNat 0 sn.length:=λh h0=>by
  obtain⟨_,h2,h3⟩:=hrt h;have Zr:r.eB.toNat=yP r.length.toNat:=U;refine⟨U,U,U,?_,?_⟩
  .rw[Zr,hL,M5 U];omega
  .have:=Bw (show r.eB.toNat<=2 by omega);omega
 refine cK (bF1 x kd L) L0 (let aG:=s9 x kd L r.eB.toNat r.bM 0 sn;let aS:=(n_:y_);let bn:=(ak eF).au x.aU;let cp:=[[I x.cap,bn,J.bf 1 sn.length]];let V:=[dW.mk (List.map (List.map cj) cp) (rB x 1 sn.length).st [] (rB x 1 sn.length).sz false true,dW.mk sn (sB sn true).st [] (sB sn true).sz true true]=[rB x 1 sn.length,sB sn true];let cu:=dP x r.bM kd sn;let Z:=[gW [[I x.cap,bn,J.bf 2 cu.length]] 3,js 1,dn cu 1];let bH:=(J.bg [S aS,I<|jJ x r.bM kd],Z);(.v (a1<|af jl) r<|.m (iY r) (.e (J.bg [S aS,I 2],[gW cp 3,ox sn 1]))<|.q r.length 0 (.o [List.map cj [aT,S r.bM,I kd]=[aT,S r.bM,I kd],V,fc x,sn.length<=1073741824]<|.q (jJ x r.bM kd) 0 (.m (dN (aZ x r.bM kd) aS) (.e (J.bg [S aS,I 2],Z))<|.e bH)<|.e bH)<|.o [List.map cj [aT,J.agg [I kd,I r.length,I 0,I r.length],S r.bM,I r.eB,ofV<|Value.int IntKind.i64 0]=[aT,J.agg [I kd,I L,I 0,I L],S r.bM,I r.eB.toNat,I (↑0:Int)],V,fc x,qG L r.eB.toNat 0 sn.length,r.eB.toNat<3]<|.e (J.bg [S aG.fst,I aG.snd.fst],[gW [[I x.cap,bn,J.bf 2 aG.snd.snd.length]] 3,js 1,dn aG.snd.snd 1]))) ?_;have k1:iY r=false->dI x kd r sn=(n_,2,sn):=λh=>if_pos h;have k2:iY r=true->r.length=0->dI x kd r sn=(n_,if jJ x r.bM kd=0/\aZ x r.bM kd≠n_ then 2 else jJ x r.bM kd,dP x r.bM kd sn):=λh h2=>by unfold dI;rw[if_neg (by rw[h];decide),if_pos h2]
 have k3:iY r=true->r.length≠0->dI x kd r sn=s9 x kd L r.eB.toNat r.bM 0 sn:=λh h2=>by unfold dI;rw[if_neg (by rw[h];decide),if_neg h2,ux,hL]
 simp only[av,bK,bO,aL]
 (repeat' with_reducible first|intro _|apply aNd_)<;>first|exact aM|(rw[k1 W];exact dR.move 1 rfl rfl rfl rfl)|(rw[k2 W W,if_pos ⟨W,W⟩];exact dR.of_eq rfl)|(rw[k2 W W,if_neg λq=>q.2 W];exact dR.of_eq rfl)|(rw[k2 W W,if_neg λq=>absurd q.1 W];exact dR.of_eq rfl)|exact b92 W W|(have hh:=hrt W;omega)|(rw[k3 W W];exact dR.of_eq rfl)|(have hh:=hrt W;have e1:r.length=(L:Int):=U;have e2:r.eB=((r.eB.toNat:Nat):Int):=U;show [J.ptr 0 0 0,.agg [I kd,I r.length,I 0,I r.length],S r.bM,I r.eB,I 0]=_;rw[e1];rw[<-e2])
def nmB(B:dW):dW:= {B with es:=bif B.sym then B.es else B.es.map (·.map cj),par:=[]}
theorem dR.norm {r r':J} {h h':Hp}(hh:h.map nmB=h')(N:cj r=r')(hp:h.all (λB=>B.st !=1)=true):dR (r,h) (r',h'):=by
 intro w0 Sa S m w v hI hv;simp only at hI hv;subst hh N;refine⟨m,Inv.Xb hI (λj=>j) (λ_=>True) (by rw[gS];exact hI.len) ?_ (λ_ _ _ _ h=>h) ?_,?_⟩
 .intro q X hq;rw[b9]at hq;cases hB:h[q]? with
  |none=>rw[hB]at hq;cases hq
  |some B=>
   rw[hB]at hq;cases hq;have O:B.st≠1:=by have:=cU.1 hp B<|cw hB;simpa using this
   exact⟨rfl,.inr ⟨B,hB,rfl,O,rfl,rfl,rfl,trivial,Turned.norm (B:=B) ⟨rfl,λ_=>rfl,λi e' hi=>⟨e',hi,rfl,λt p' ht=>⟨p',ht,λv hv=>hv⟩⟩⟩⟩⟩
 .intro i x hx;obtain⟨p1,X,p2,p3⟩:=hI.gV i x hx;refine⟨p1,nmB X,?_,p3⟩;rw[b9,p2];rfl
 .cases r with
  |bit b=>cases hv with
   |st _ _ h=>cases h;exact .st _ _<|.sc _
  |_=>exact hv
section
variable {s:y_}{w a n:Nat}{b:Bool}
abbrev Pt:=Nat×Bool
def dB(s:y_)(q:Pt)(gV:Bool):dW:=⟨[[S s,I q.1,Bo q.2]],0,[],3,false,gV⟩
def o7(s:y_)(w:Nat)(q:Pt):Bool:=q.2||decide (mz s q.1 w≠0)
def oy(s:y_)(w:Nat)(q:Pt):Int×Pt:=if o7 s w q then(0,q.1,true)else(gp s q.1 w w,q.1+w,false)
def FH{q:Pt}(h:q.1<=s.size):(oy s w q).2.1<=s.size:=by
 unfold oy;split
 .exact h
 .rename_i h2;have:mz s q.1 w=0:=by simp only[o7,jA,bK,not_or,tr]at h2;exact h2.2
  show q.1+w<=_;unfold mz at this;split at this
  .omega
  .omega
def uz{q:Pt}(h:o7 s w q=true):oy s w q=(0,q.1,true):=if_pos h
def FI{q:Pt}(O:q.2=false)(h2:mz s q.1 w=0):oy s w q=(((gp s q.1 w w:Nat):Int),q.1+w,false):=by
 have h: ¬o7 s w q=true:=by unfold o7;rw[O,h2];decide
 unfold oy;rw[if_neg h]
def Hw(h:b=true):o7 s w (a,b)=true:=by unfold o7;subst h;rfl
def By(h:mz s a w≠0):o7 s w (a,b)=true:=by unfold o7;rw[cd h,Bool.or_true]
def aG6(x:y_×Int×Int):Prop:=0<=x.2.1/\x.2.1<=x.1.size/\x.1.size<=aq/\1<=x.2.2/\x.2.2<=8
def EGN:Env:=aF 260 (bN (a3 aQ bx bx) (λx=>TF x.1 x.2.1.toNat x.2.2.toNat) aG6) EN
def TR:an P EGN:=ah aw λx h=>by
 obtain⟨h0,O,h2,h3,h4⟩:=h;have:=bE0 x.1 x.2.1.toNat x.2.2.toNat U h2 U U
 rwa [rM h0,rM U]at this
def Xh(s:y_)(a w:Nat)(b:Bool)(ha:a<=s.size)(hs:s.size<=aq)(O:1<=w)(h8:w<=8)(za zw:Int)(I7:za=(a:Int))(hzw:zw=(w:Int)):kD P 214 [.ptr 0 0 0,I zw] [⟨[[S s,I za,Bo b]],0,[],3,false,true⟩] (I (oy s w (a,b)).1) [dB s (oy s w (a,b)).2 true]:=by
 have hzA:za.toNat=a:=U;have hzW:zw.toNat=w:=U;have Qn:aG6 (s,za,zw):=(by omega:0<=za/\za<=s.size/\s.size<=aq/\1<=zw/\zw<=8)
 refine cK TR L0 (let Z:=(I 0,[gW [[S s,I za,fZ]] 3]);(.k (a3 aQ bx bx) (s,za,zw) (aG6 (s,za,zw))<|.n b (.e Z)<|.u (mz s za.toNat zw.toNat) 0 (.e Z)<|.e (I<|MX s za.toNat zw.toNat,[gW [[S s,I<|EB s za.toNat zw.toNat,Bo b]] 3]))) ?_;try dsimp only
 simp only[hzA,hzW];simp only[av]
 (repeat' with_reducible first|intro _|apply aNd_)<;>first|exact aM|(subst I7;rw[uz<|Hw W];exact dR.norm rfl rfl rfl)|(subst I7;rw[uz<|By W];exact dR.norm rfl rfl rfl)|(have hb:b=false:=W;have F:mz s a w=0:=W;subst I7;subst hb;rw[FI rfl F,show MX s a w=_ from if_pos F,show EB s a w=_ from if_pos F];exact dR.of_eq rfl)
def uA(s:y_)(n:Nat)(q:Pt):y_×Pt:=if q.2||decide (s.size<q.1+n)then(n_,q.1,true)else(s.extract q.1<|q.1+n,q.1+n,false)
def Xi{q:Pt}(h:q.1<=s.size):(uA s n q).2.1<=s.size:=by
 unfold uA;split
 .exact h
 .rename_i h2;simp only[jA,bK,not_or]at h2;show q.1+n<=_;omega
def uB(h:b=true\/s.size<a+n):uA s n (a,b)=(n_,a,true):=if_pos (by simp only[jA,bK];exact h)
def M6(h:b=false)(h2: ¬s.size<a+n):uA s n (a,b)=(s.extract a<|a+n,a+n,false):=by subst h;exact if_neg (by simpa using Nat.le_of_not_lt h2)
def ab6(s:y_)(a:Nat)(b:Bool)(ha:a<=s.size)(hs:s.size<=aq)(za:Int)(I7:za=(a:Int)):kD P 262 [.ptr 0 0 0] [⟨[[S s,I za,Bo b]],0,[],3,false,true⟩] (S (uA s 32 (a,b)).1) [dB s (uA s 32 (a,b)).2 true]:=by
 have hsx:s.size<=140737488351232:=hs;have e1:oU (((s.size:Nat):Int)-za)=(s.size:Int)-za:=wrap64 U U;have e2:oU (za+32)=((a+32:Nat):Int):=by rw[wrap64 U U];omega
 have e3:oU (((a+32:Nat):Int)-32)=(a:Int):=by rw[wrap64 U U];omega
 refine cK aw L0 (let Z:=(S (n_:y_),[gW [[S s,I za,fZ]] 3]);let V:=oU (za+32)-32;let aG:=oU (za+32);(.n b (.e Z)<|.d (oU ((s.size:Int)-za)<32) (.e Z)<|.o [(0:Int)<=oU V,oU V<=oU (za+32),oU (za+32)<=(s.size:Int)]<|.e (S<|s.extract (oU V).toNat aG.toNat,[gW [[S s,I aG,Bo b]] 3]))) ?_;try dsimp only
 simp only[e1,e2,e3,dL];simp only[av]
 (repeat' with_reducible first|intro _|apply aNd_)<;>first|exact aM|(subst I7;rw[uB<|.inl W];exact dR.norm rfl rfl rfl)|(rw[uB<|.inr U];subst I7;exact dR.norm rfl rfl rfl)|(have hb:b=false:=W;rw[M6 hb U];subst I7;subst hb;exact dR.of_eq rfl)
def aG7(s:y_)(a n:Nat)(b:Bool)(ha:a<=s.size)(hs:s.size<=aq)(hn:n<=70368744177664)(za zn:Int)(I7:za=(a:Int))(hzn:zn=(n:Int)):kD P 241 [.ptr 0 0 0,I zn] [⟨[[S s,I za,Bo b]],0,[],3,false,true⟩] (S (uA s n (a,b)).1) [dB s (uA s n (a,b)).2 true]:=by
 have hsx:s.size<=140737488351232:=hs;have e1:oU (((s.size:Nat):Int)-za)=(s.size:Int)-za:=wrap64 U U;have e2:oU (za+zn)=((a+n:Nat):Int):=by rw[wrap64 U U];omega
 have e3:oU (((a+n:Nat):Int)-zn)=(a:Int):=by rw[wrap64 U U];omega
 refine cK aw L0 (let Z:=(S (n_:y_),[gW [[S s,I za,fZ]] 3]);let V:=oU (za+zn)-zn;let aG:=oU (za+zn);(.n b (.e Z)<|.d (oU ((s.size:Int)-za)<zn) (.e Z)<|.o [(0:Int)<=oU V,oU V<=oU (za+zn),oU (za+zn)<=(s.size:Int)]<|.e (S<|s.extract (oU V).toNat aG.toNat,[gW [[S s,I aG,Bo b]] 3]))) ?_;try dsimp only
 simp only[e1,e2,e3,dL];simp only[av]
 (repeat' with_reducible first|intro _|apply aNd_)<;>first|exact aM|(subst I7;rw[uB<|.inl W];exact dR.norm rfl rfl rfl)|(rw[uB<|.inr U];subst I7;exact dR.norm rfl rfl rfl)|(have hb:b=false:=W;rw[M6 hb U];subst I7;subst hb;exact dR.of_eq rfl)
end
section
variable {s:y_}{a:Nat}
def M7(s:y_)(a:Nat):Int:=if mz s a 2≠0 then mz s a 2 else if s.size<a+2+gp s a 2 2 then 3 else 0
def gtR(s:y_)(a:Nat):J:= .bg [S (if M7 s a=0 then s.extract (a+2) (a+2+gp s a 2 2)else n_),I (if M7 s a=0 then((a+2+gp s a 2 2:Nat):Int)else 0),I<|M7 s a]
def aG8{e:Int}(h:M7 s a=e)(h0:e≠0):gtR s a= .bg [S n_,I 0,I e]:=by unfold gtR;rw[h,if_neg h0,if_neg h0]
def bF2(h:M7 s a=0):gtR s a= .bg [S<|s.extract (a+2)<|a+2+gp s a 2 2,I ((a+2+gp s a 2 2:Nat):Int),I 0]:=by unfold gtR;rw[h,if_pos rfl,if_pos rfl]
def TS(s:y_)(a:Nat)(ha:a<=s.size)(hs:s.size<=aq)(za:Int)(I7:za=(a:Int)):Ok P 298 [S s,I za] (gtR s a):=by
 have hsx:s.size<=140737488351232:=hs;have hzA:za.toNat=a:=U;have hac:=x8 s a 2 2;have Qn:aG6 (s,za,2):=(by omega:0<=za/\za<=s.size/\s.size<=aq/\(1:Int)<=2/\(2:Int)<=8)
 have h5:∀h:mz s a 2=0,s.size>=a+2:=λh=>by
  unfold mz at h;split at h
  .omega
  .omega
 have i1:mz s a 2=0->MX s a 2=((gp s a 2 2:Nat):Int):=λh=>if_pos h;have i2:mz s a 2=0->EB s a 2=((a+2:Nat):Int):=λh=>if_pos h;refine al TR L0 (let Z:=Int.toNat 2;let V:=oU (EB s za.toNat Z+MX s za.toNat Z);let aG:=EB s za.toNat 2+MX s za.toNat 2;let aS:=(n_:y_);let bn:=mz s za.toNat Z;(.k (a3 aQ bx bx) (s,za,2) (aG6 (s,za,2))<|.u bn 0 (.e<|J.bg [S aS,I 0,I bn])<|.d (oU ((s.size:Int)-EB s za.toNat Z)<MX s za.toNat Z) (.e<|J.bg [S aS,I 0,I 3])<|.o [(0:Int)<=EB s za.toNat 2,EB s za.toNat 2<=oU aG,oU aG<=(s.size:Int)]<|.e<|J.bg [S<|s.extract (EB s za.toNat Z).toNat V.toNat,I V,I 0])) ?_;try dsimp only
 simp only[hzA];by_cases h0:mz s a 2=0
 .have e1:oU (((s.size:Nat):Int)-((a+2:Nat):Int))=((s.size-(a+2):Nat):Int):=by have:=h5 h0;rw[wrap64 U U];omega
  have e2:oU (((a+2:Nat):Int)+((gp s a 2 2:Nat):Int))=((a+2+gp s a 2 2:Nat):Int):=by rw[wrap64 U U];omega
  have h6:=h5 h0;simp only[i1 h0,i2 h0,show Int.toNat 2=2 from rfl,e1,e2,dL];simp only[av,bK,bO,rL,sN]
  (repeat' with_reducible first|intro _|apply aNd_)<;>first|exact aM|(rw[aG8 (show M7 s a=3 by unfold M7;rw[if_neg U,if_pos U]) dD])|(rw[bF2 (show M7 s a=0 by unfold M7;rw[if_neg U,if_neg U])])
 .simp only[show Int.toNat 2=2 from rfl];simp only[av,bK,bO,rL,sN]
  (repeat' with_reducible first|intro _|apply aNd_)<;>first|exact aM|(exact(aG8 (show M7 s a=mz s a 2 from if_pos h0) h0).symm)
def zH(s:y_)(q:Pt):y_×Pt:=if(uA s (oy s 2 q).1.toNat (oy s 2 q).2).2.2 then(n_,q.1,true)else uA s (oy s 2 q).1.toNat (oy s 2 q).2
def bg9 {q:Pt}(h:q.1<=s.size):(zH s q).2.1<=s.size:=by
 unfold zH;split
 .exact h
 .exact Xi<|FH h
def Qo{b:Bool}(h:b=true\/M7 s a≠0):zH s (a,b)=(n_,a,true):=by
 unfold zH;rw[if_pos];by_cases hb:o7 s 2 (a,b)=true
 .rw[uz hb,uB<|.inl rfl]
 .have O:b=false:=by
   cases b with
   |false=>rfl
   |true=>exact absurd (Hw rfl) hb
  have h2:=mj λq=>hb<|By q;subst O;rw[FI rfl h2,uB<|.inr ?_];rcases h with h|h
  .cases h
  .unfold M7 at h;rw[if_neg U]at h;split at h
   .rw[dL];assumption
   .exact absurd rfl h
def bh0(h:M7 s a=0):zH s (a,false)=(s.extract (a+2)<|a+2+gp s a 2 2,a+2+gp s a 2 2,false):=by
 have h2:mz s a 2=0:=by
  unfold M7 at h;split at h
  .assumption
  .rename_i q;omega
 have h3: ¬s.size<a+2+gp s a 2 2:=by
  unfold M7 at h;rw[if_neg U]at h;split at h
  .cases h
  .assumption
 unfold zH;rw[FI rfl h2,M6 rfl (by rw[dL];exact h3),if_neg (show ¬(false=true)from dj),dL]
def bF3(x:y_×Int):Prop:=0<=x.2/\x.2<=x.1.size/\x.1.size<=aq
def EGX:Env:=aF 298 (bN (a2 aQ bx) (λx=>gtR x.1 x.2.toNat) bF3) EGN
def bF4:an P EGX:=ah TR λx h=>by have h2:0<=x.2/\x.2<=x.1.size/\x.1.size<=aq:=h;exact TS x.1 x.2.toNat U h2.2.2 x.2 U
def aG9(s:y_)(a:Nat)(b:Bool)(ha:a<=s.size)(hs:s.size<=aq)(za:Int)(I7:za=(a:Int)):kD P 261 [.ptr 0 0 0] [⟨[[S s,I za,Bo b]],0,[],3,false,true⟩] (S (zH s (a,b)).1) [dB s (zH s (a,b)).2 true]:=by
 have hzA:za.toNat=a:=U;have Qn:bF3 (s,za):=(by omega:0<=za/\za<=s.size/\s.size<=aq)
 refine cK bF4 L0 (let Z:=(S (n_:y_),[gW [[S s,I za,fZ]] 3]);let V:=za.toNat+2+gp s za.toNat 2 2;(.k (a2 aQ bx) (s,za) (bF3 (s,za))<|.n b (.e Z)<|.u (M7 s za.toNat) 0 (.e Z)<|.e (S (if M7 s za.toNat=0 then s.extract (za.toNat+2) V else(n_:y_)),[gW [[S s,I (if M7 s za.toNat=0 then(V:Int)else 0),Bo b]] 3]))) ?_;try dsimp only
 simp only[hzA];simp only[av]
 (repeat' with_reducible first|intro _|apply aNd_)<;>first|exact aM|(subst I7;rw[Qo<|.inl W];exact dR.norm rfl rfl rfl)|(subst I7;rw[Qo<|.inr W];exact dR.norm rfl rfl rfl)|(have hb:b=false:=W;have hg:M7 s a=0:=W;subst hb;rw[bh0 hg,if_pos hg,if_pos hg];exact dR.of_eq rfl)
end
def dB'(s:y_)(za:Int)(b:J):dW:=⟨[[S s,I za,b]],0,[],3,false,true⟩
def ab7(s:y_)(a w:Nat)(ha:a+w<=s.size)(hs:s.size<=aq)(h8:w<=8)(za zw:Int)(I7:za=(a:Int))(b:Bool):aO P (aD f180 6) (M 64 [(0,.ptr 0 0 0),(1,I zw),(5,I ((gp s a w 0:Nat):Int)),(6,I<|(w:Int)-1-((0:Nat):Int))]) [dB' s za<|Bo b]
  (.ite (ar w λj=>decide (36028797018963968<=gp s a w j)) (.out .ret (M 64 [(4,I 0)]) [dB' s za<|.bit true])<|.out (.ext 0) (M 64 [(0,.ptr 0 0 0),(1,I zw),(5,I ((gp s a w w:Nat):Int))]) [dB' s za<|Bo b]):=by
 have hsx:s.size<=140737488351232:=hs;have hwm:w<=aq:=by unfold aq;omega
 have lp:=yM f180 6 w (λj=>decide (36028797018963968<=gp s a w j)) (λj=>(M 64 [(0,aT),(1,I zw),(5,I ((gp s a w j:Nat):Int)),(6,I<|(w:Int)-1-(j:Nat))])) [dB' s za<|Bo b] (λj=>(.ret,(M 64 [(4,I 0)]),[dB' s za<|.bit true])) (.ext 0,(M 64 [(0,aT),(1,I zw),(5,I ((gp s a w w:Nat):Int))]),[dB' s za<|Bo b]) λj hj ltj nC nq lO=>by
  have GR:oU ((w:Int)-1-(j:Nat)-1)=(w:Int)-1-((j+1:Nat):Int):=by rw[wrap64 U U];omega
  have iH:=MW s<|a+(w-1-j);have hx:j<w->oU (za+((w:Int)-1-(j:Nat)))=((a+(w-1-j):Nat):Int):=λh=>by rw[I7,wrap64 U U];omega
  have bD9:j<w->gp s a w j<36028797018963968->aO P (aD f180 6) (M 64 [(0,.ptr 0 0 0),(1,I zw),(5,I<|oU<|oU (((gp s a w j:Nat):Int)*256)+oU ((s.data.toList.getD (oU<|za+((w:Int)-1-(j:Nat))).toNat 0).toNat:Int)),(6,I<|oU<|(w:Int)-1-(j:Nat)-1)]) [dB' s za<|Bo b] ltj:=λh Y=>by
   rw[hx h,dL,GR];have e1:oU (((gp s a w j:Nat):Int)*256)=((gp s a w j*256:Nat):Int):=by rw[wrap64 U U];omega
   have e2:oU (((s.data.toList.getD (a+(w-1-j)) 0).toNat:Nat):Int)=((byN s (a+(w-1-j)):Nat):Int):=wrap64 U (by have:(s.data.toList.getD (a+(w-1-j)) 0).toNat<256:=iH;omega);have e3:oU (((gp s a w j*256:Nat):Int)+((byN s (a+(w-1-j)):Nat):Int))=((gp s a w (j+1):Nat):Int):=by
    show _=((gp s a w j*256+byN s (a+(w-1-j)):Nat):Int)
    rw[wrap64 U U];omega
   rw[e1,e2,e3];exact nC h<|fq U
  refine ao aw L0 [0,1,5,6] [4,10000,10001,10005] (let Z:=(↑(gp s a w j):Int);let V:=oU (za+((w:Int)-1-(j:Int)));let aG:=[gW [[S s,I za,Bo b]] 3];(.d ((w:Int)-1-(j:Int)>=0) (.d (Z>=36028797018963968) (eH nq)<|.g V s.size<|bR (M 64 [(0,aT),(1,I zw),(5,I<|oU<|oU (Z*256)+oU (↑(s.data.toList.getD V.toNat 0).toNat:Int)),(6,I<|oU<|(w:Int)-1-(j:Int)-1)]) aG)<|fv 0 (M 64 [(0,aT),(1,I zw),(5,I Z)]) aG)) ?_;have JV:=@decide_eq_true_iff (36028797018963968<=gp s a w j) _;simp only[av]
  (repeat' with_reducible first|intro _|apply aNd_)<;>first|exact aM|(have h:j<w:=U;exact bD9 h U)|(have e:j=w:=U;subst e;exact lO rfl)
 exact lp
def aH0(s:y_)(a w:Nat)(h8:w<=8):ar w (λj=>decide (36028797018963968<=gp s a w j))=true↔9223372036854775808<=gp s a w w:=by
 rw[cG];constructor
 .rintro⟨j,O,h2⟩;have h2:=cn h2;have h3:=x8 s a w j;have hj:j=7:=by
   rcases(by omega:j=7\/j<=6)with h|h
   .exact h
   .have:=LQ (show 0<256 by decide) h;omega
  subst hj;have hw:w=8:=U;subst hw;show _<=gp s a 8 7*256+_;omega
 .intro h;have h3:=x8 s a w w;have hw:w=8:=by
   rcases(by omega:w=8\/w<=7)with h4|h4
   .exact h4
   .have:=LQ (show 0<256 by decide) h4;omega
  subst hw;refine⟨7,U,cd ?_⟩;have h5:=MW s<|a+(8-1-7);have h6:9223372036854775808<=gp s a 8 7*256+byN s (a+(8-1-7)):=h;omega
def bX3(s:y_)(a w:Nat)(za zw:Int)(b:Bool):gD:=iy [0,1,5,6] w (λj=>decide (36028797018963968<=gp s a w j)) (λ_=>(M 64 [(4,I 0)])) (M 64 [(0,.ptr 0 0 0),(1,I zw),(5,I ((gp s a w w:Nat):Int))]) (.ext 0) (λ_=> [dB' s za<|.bit true]) [dB' s za<|Bo b]
def Xj(s:y_)(a w:Nat)(b:Bool)(ha:a<=s.size)(hs:s.size<=aq)(O:1<=w)(h8:w<=8)(za zw:Int)(I7:za=(a:Int))(hzw:zw=(w:Int)):kD P 180 [.ptr 0 0 0,I zw] [⟨[[S s,I za,Bo b]],0,[],3,false,true⟩] (I (oy s w (a,b)).1) [dB s (oy s w (a,b)).2 true]:=by
 have hsx:s.size<=140737488351232:=hs;have lp:=λh=>ab7 s a w h hs h8 za zw I7 b;have e1:oU (((s.size:Nat):Int)-za)=(s.size:Int)-za:=wrap64 U U;have e2:oU (zw-1)=(w:Int)-1-((0:Nat):Int):=by rw[wrap64 U U];omega
 have e3:oU (za+zw)=((a+w:Nat):Int):=by rw[wrap64 U U];omega
 have OT:=aH0 s a w h8;have k1:s.size<a+w->mz s a w=3:=λh=>if_pos h;have k2: ¬s.size<a+w->ar w (λj=>decide (36028797018963968<=gp s a w j))=true->mz s a w=5:=λh h2=>by unfold mz;rw[if_neg h,if_pos<|OT.1 h2]
 have k3: ¬s.size<a+w->ar w (λj=>decide (36028797018963968<=gp s a w j))=false->mz s a w=0:=λh h2=>by unfold mz;rw[if_neg h,if_neg (λq=>by rw[OT.2 q]at h2;cases h2)]
 refine cK aw (bX3 s a w za zw b) (let Z:=(M 64 [(0,aT),(1,I zw),(5,I 0),(6,I<|oU<|zw-1)]);let aG:=[gW [[S s,I za,Bo b]] 3];let aS:=[gW [[S s,I za,fZ]] 3];let V:TcH:=(.e (I 0,aS));let bn:=I (↑(gp s a w w):Int);(.n b V<|.d (oU ((s.size:Int)-za)<zw) V<|.n (ar w λj=>decide (36028797018963968<=gp s a w j)) (.o [ax P (aD f180 6) Z aG (Out.ret) (M 64 [(4,I 0)])<|aS] V)<|.o [ax P (aD f180 6) Z aG (Out.ext 0) (M 64 [(0,aT),(1,I zw),(5,bn)]) aG]<|.e (bn,[gW [[S s,I<|oU<|za+zw,Bo b]] 3]))) ?_;try dsimp only
 simp only[e1,e2,e3];simp only[av,bK,bO]
 (repeat' with_reducible first|intro _|apply aNd_)<;>first|exact aM|(subst I7;rw[uz<|Hw W];exact dR.norm rfl rfl rfl)|(subst I7;rw[uz<|By (by rw[k1 U];decide)];exact dR.norm rfl rfl rfl)|(rw[uz<|By (by rw[k2 U W];decide)];subst I7;exact dR.norm rfl rfl rfl)|(have hb:b=false:=W;subst hb;rw[FI rfl<|k3 U W];exact dR.of_eq rfl)
section
variable {s:y_}{l:l_ J}{E:Env}{ci7:FuncId}{q:Pt}
def cH(s:y_)(w:Nat)(q:Pt):Int×Pt:=mK<|oy s w q
def mW(s:y_)(w:Nat)(q:Pt):cH s w q=oy s w q:=ni _
def n9(s:y_)(n:Nat)(q:Pt):y_×Pt:=mK<|uA s n q
def vC(s:y_)(n:Nat)(q:Pt):n9 s n q=uA s n q:=ni _
def yC(s:y_)(q:Pt):y_×Pt:=mK<|zH s q
def Bz(s:y_)(q:Pt):yC s q=zH s q:=ni _
def o8(w:Nat):Prop:=1<=w/\w<=8
def Jx(n:Nat):Prop:=n<=70368744177664
def BA:Hp->Option (y_×Int×Bool)
 | [⟨[[.sc (.string s),.sc (.int .i64 z),.sc (.bool b)]],0,[],3,false,true⟩]=>some (s,z,b)
 |_=>none
def r7 {h:Hp}{z:Int} {b:Bool}(e:BA h=some (s,z,b)):h=[⟨[[.sc<|.string s,.sc<|.int .i64 z,.sc<|.bool b]],0,[],3,false,true⟩]:=by
 unfold BA at e;split at e
 .cases e;rfl
 .cases e
def Xk:l_ J->Option Int
 | [.ptr 0 0 0,.sc (.int .i64 w)]=>some w
 |_=>none
def Qp {w:Int}(e:Xk l=some w):l=[.ptr 0 0 0,.sc<|.int .i64 w]:=by
 unfold Xk at e;split at e
 .cases e;rfl
 .cases e
def Hy:l_ J->Bool
 | [.ptr 0 0 0]=>true
 |_=>false
def wX(e:Hy l=true):l=[.ptr 0 0 0]:=by
 unfold Hy at e;split at e
 .rfl
 .cases e
def CL(s:y_):l_ J->Hp->Option (J×Hp×l_ Prop):=λaa h=>match Xk aa,BA h with
 |some w,some (s',z,b)=>some (I (cH s w.toNat (z.toNat,b)).1,[dB s (cH s w.toNat (z.toNat,b)).2 true],[s'=s,w=(w.toNat:Int),z=(z.toNat:Int),z.toNat<=s.size,o8 w.toNat])
 |_,_=>none
def TT(s:y_):l_ J->Hp->Option (J×Hp×l_ Prop):=λaa h=>match Xk aa,BA h with
 |some n,some (s',z,b)=>some (S (n9 s n.toNat (z.toNat,b)).1,[dB s (n9 s n.toNat (z.toNat,b)).2 true],[s'=s,n=(n.toNat:Int),z=(z.toNat:Int),z.toNat<=s.size,Jx n.toNat])
 |_,_=>none
def M8(s:y_)(f:Pt->y_×Pt):l_ J->Hp->Option (J×Hp×l_ Prop):=λaa h=>match Hy aa,BA h with
 |true,some (s',z,b)=>some (S (f (z.toNat,b)).1,[dB s (f (z.toNat,b)).2 true],[s'=s,z=(z.toNat:Int),z.toNat<=s.size])
 |_,_=>none
def ya(s:y_)(hE:an P E)(hF:∀a w b,a<=s.size->o8 w->kD P ci7 [.ptr 0 0 0,I w] [dB s (a,b) true] (I (oy s w (a,b)).1) [dB s (oy s w (a,b)).2 true]):an P (cF ci7 (CL s) E):=fC hE λaa h r h' ob O h2=>by
 unfold CL at O;split at O
 .rename_i w s' z b e1 e2;cases O;have k:=hF z.toNat w.toNat b (h2 (_<=s.size) sS)<|h2 (o8 _) sS;have es:s'=s:=h2 _ sS;have ew:w=(w.toNat:Int):=h2 _ sS;have ez:z=(z.toNat:Int):=h2 _ sS;subst es;rw[Qp e1,r7 e2,mW];dsimp only[dB]at k⊢;rw[<-ew,<-ez]at k;exact k
 .cases O
def ab8(s:y_)(hE:an P E)(hF:∀a n b,a<=s.size->Jx n->kD P ci7 [.ptr 0 0 0,I n] [dB s (a,b) true] (S (uA s n (a,b)).1) [dB s (uA s n (a,b)).2 true]):an P (cF ci7 (TT s) E):=fC hE λaa h r h' ob O h2=>by
 unfold TT at O;split at O
 .rename_i n s' z b e1 e2;cases O;have k:=hF z.toNat n.toNat b (h2 (_<=s.size) sS)<|h2 (Jx _) sS;have es:s'=s:=h2 _ sS;have ew:n=(n.toNat:Int):=h2 _ sS;have ez:z=(z.toNat:Int):=h2 _ sS;subst es;rw[Qp e1,r7 e2,vC];dsimp only[dB]at k⊢;rw[<-ew,<-ez]at k;exact k
 .cases O
def Kw(s:y_)(f:Pt->y_×Pt)(hE:an P E)(hF:∀a b,a<=s.size->kD P ci7 [.ptr 0 0 0] [dB s (a,b) true] (S (f (a,b)).1) [dB s (f (a,b)).2 true]):an P (cF ci7 (M8 s f) E):=fC hE λaa h r h' ob O h2=>by
 unfold M8 at O;split at O
 .rename_i s' z b e1 e2;cases O;have k:=hF z.toNat b<|h2 (_<=s.size) sS;have es:s'=s:=h2 _ sS;have ez:z=(z.toNat:Int):=h2 _ sS;subst es;rw[wX e1,r7 e2];dsimp only[dB]at k⊢;rw[<-ez]at k;exact k
 .cases O
def EDE(s:y_):Env:=cF 214 (CL s)<|cF 261 (M8 s<|yC s)<|cF 262 (M8 s<|n9 s 32) EN
def bF5(s:y_)(hs:s.size<=aq:=by assumption):an P (EDE s):=ya s (Kw s _ (Kw s _ aw λa b h=>by rw[vC];exact ab6 s a b h hs _ rfl) λa b h=>by rw[Bz];exact aG9 s a b h hs _ rfl) λa w b h hw=>Xh s a w b h hs hw.1 hw.2 _ _ rfl rfl
def ESE(s:y_):Env:=cF 180 (CL s)<|cF 241 (TT s) EN
def bF6(s:y_)(hs:s.size<=aq:=by assumption):an P (ESE s):=ya s (ab8 s aw λa n b h hn=>aG7 s a n b h hs hn _ _ rfl rfl) λa w b h hw=>Xj s a w b h hs hw.1 hw.2 _ _ rfl rfl
def yb {w:Nat}(h:q.1<=s.size):(cH s w q).2.1<=s.size:=by rw[mW];exact FH h
def FJ {n:Nat}(h:q.1<=s.size):(n9 s n q).2.1<=s.size:=by rw[vC];exact Xi h
def FK(h:q.1<=s.size):(yC s q).2.1<=s.size:=by rw[Bz];exact bg9 h
def nE(s:y_)(q:Pt):mL×Pt:=
 let i:=cH s 4 q;let p:=cH s 4 i.2;let v:=cH s 4 p.2;let m:=cH s 4 v.2;let a:=cH s 8 m.2;let t:=cH s 8 a.2
 let n:=yC s t.2;let u:=yC s n.2;let g:=yC s u.2;let k:=yC s g.2;let l:=cH s 4 k.2;let e:=cH s 1 l.2;let c:=n9 s 32 e.2
 (⟨⟨i.1,p.1,v.1,n.1,m.1,u.1,g.1,k.1,a.1,t.1,n_⟩,⟨c.1,l.1,e.1⟩⟩,c.2)
def Qq(s:y_)(q:Pt)(hs:s.size<=aq)(hq:q.1<=s.size):kD P 215 [.ptr 0 0 0] [dB s q true] ((af mL).au (nE s q).1) [dB s (nE s q).2 true]:=by
 refine cK (bF5 s) L0 (let bY:=cH s 4 q;let bn:=cH s 4 bY.snd;let cu:=cH s 4 bn.snd;let V:=cH s 4 cu.snd;let bH:=cH s 8 V.snd;let dk:=cH s 8 bH.snd;let Z:=yC s dk.snd;let bu:=yC s Z.snd;let aS:=yC s bu.snd;let bC:=yC s aS.snd;let aG:=cH s 4 bC.snd;let cp:=cH s 1 aG.snd;let bP:=n9 s 32 cp.snd;(.r s<|.o [4=(↑4:Int)]<|.r (q.fst:Int)<|.o [q.fst<=s.size,o8 4]<|.r s<|.o [4=(↑4:Int)]<|.r (bY.snd.fst:Int)<|.o [bY.snd.fst<=s.size,o8 4]<|.r s<|.o [4=(↑4:Int)]<|.r (bn.snd.fst:Int)<|.o [bn.snd.fst<=s.size,o8 4]<|.r s<|.o [4=(↑4:Int)]<|.r (cu.snd.fst:Int)<|.o [cu.snd.fst<=s.size,o8 4]<|.r s<|.o [8=(↑8:Int)]<|.r (V.snd.fst:Int)<|.o [V.snd.fst<=s.size,o8 8]<|.r s<|.o [8=(↑8:Int)]<|.r (bH.snd.fst:Int)<|.o [bH.snd.fst<=s.size,o8 8]<|.r s<|.r (dk.snd.fst:Int)<|.o [dk.snd.fst<=s.size]<|.r s<|.r (Z.snd.fst:Int)<|.o [Z.snd.fst<=s.size]<|.r s<|.r (bu.snd.fst:Int)<|.o [bu.snd.fst<=s.size]<|.r s<|.r (aS.snd.fst:Int)<|.o [aS.snd.fst<=s.size]<|.r s<|.o [4=(↑4:Int)]<|.r (bC.snd.fst:Int)<|.o [bC.snd.fst<=s.size,o8 4]<|.r s<|.o [1=(↑1:Int)]<|.r (aG.snd.fst:Int)<|.o [aG.snd.fst<=s.size,o8 1]<|.r s<|.r (cp.snd.fst:Int)<|.o [cp.snd.fst<=s.size]<|.e (J.agg [I bY.fst,I bn.fst,I cu.fst,S Z.fst,I V.fst,S bu.fst,S aS.fst,S bC.fst,I bH.fst,I dk.fst,S (n_:y_),S bP.fst,I aG.fst,I cp.fst],[gW [[S s,I bP.snd.fst,Bo bP.snd.snd]] 3]))) ?_;simp only[av]
 (repeat' with_reducible first|intro _|apply aNd_)<;>first|exact aM|exact dR.of_eq rfl|(repeat' (first|exact hq|refine yb ?_|refine FK ?_|refine FJ ?_))
def o9(s:y_)(q:Pt):mL×Pt:=
 let i:=cH s 4 q;let p:=cH s 4 i.2;let v:=cH s 4 p.2;let m:=cH s 4 v.2;let a:=cH s 8 m.2;let t:=cH s 8 a.2
 let n0:=cH s 2 t.2;let n:=n9 s n0.1.toNat n0.2;let u0:=cH s 2 n.2;let u:=n9 s u0.1.toNat u0.2;let g0:=cH s 2 u.2;let g:=n9 s g0.1.toNat g0.2;let k0:=cH s 2 g.2;let k:=n9 s k0.1.toNat k0.2
 let l:=cH s 4 k.2;let e:=cH s 1 l.2;let c:=n9 s 32 e.2
 (⟨⟨i.1,p.1,v.1,n.1,m.1,u.1,g.1,k.1,a.1,t.1,n_⟩,⟨c.1,l.1,e.1⟩⟩,c.2)
def bw2(s:y_)(q:Pt):0<=(cH s 2 q).1/\(cH s 2 q).1<=65535:=by
 rw[mW];unfold oy;split
 .exact⟨AF _,show(0:Int)<=65535 by decide⟩
 .have:=x8 s q.1 2 2;show(0:Int)<=((gp s q.1 2 2:Nat):Int)/\((gp s q.1 2 2:Nat):Int)<=65535;omega
def bF7(s:y_)(q:Pt):(cH s 2 q).1=(((cH s 2 q).1.toNat:Nat):Int):=by have:=bw2 s q;omega
def bF8(s:y_)(q:Pt):Jx (cH s 2 q).1.toNat:=by have:=bw2 s q;unfold Jx;omega
def Kx(s:y_)(q:Pt)(hs:s.size<=aq)(hq:q.1<=s.size):kD P 181 [.ptr 0 0 0] [dB s q true] (.bg [(af aV).au (o9 s q).1.aN,(af jl).au (o9 s q).1.bW]) [dB s (o9 s q).2 true]:=by
 refine cK (bF6 s) L0 (let eu:=cH s 4 q;let cu:=cH s 4 eu.snd;let cN:=cH s 4 cu.snd;let aS:=cH s 4 cN.snd;let dk:=cH s 8 aS.snd;let dE:=cH s 8 dk.snd;let V:=cH s 2 dE.snd;let bu:=n9 s V.fst.toNat V.snd;let bH:=cH s 2 bu.snd;let Z:=n9 s bH.fst.toNat bH.snd;let cp:=cH s 2 Z.snd;let bC:=n9 s cp.fst.toNat cp.snd;let aG:=cH s 2 bC.snd;let bP:=n9 s aG.fst.toNat aG.snd;let bn:=cH s 4 bP.snd;let bY:=cH s 1 bn.snd;let dV:=n9 s 32 bY.snd;(.r s<|.o [4=(↑4:Int)]<|.r (q.fst:Int)<|.o [q.fst<=s.size,o8 4]<|.r s<|.o [4=(↑4:Int)]<|.r (eu.snd.fst:Int)<|.o [eu.snd.fst<=s.size,o8 4]<|.r s<|.o [4=(↑4:Int)]<|.r (cu.snd.fst:Int)<|.o [cu.snd.fst<=s.size,o8 4]<|.r s<|.o [4=(↑4:Int)]<|.r (cN.snd.fst:Int)<|.o [cN.snd.fst<=s.size,o8 4]<|.r s<|.o [8=(↑8:Int)]<|.r (aS.snd.fst:Int)<|.o [aS.snd.fst<=s.size,o8 8]<|.r s<|.o [8=(↑8:Int)]<|.r (dk.snd.fst:Int)<|.o [dk.snd.fst<=s.size,o8 8]<|.r s<|.o [2=(↑2:Int)]<|.r (dE.snd.fst:Int)<|.o [dE.snd.fst<=s.size,o8 2]<|.r s<|.o [V.fst=(V.fst.toNat:Int)]<|.r (V.snd.fst:Int)<|.o [V.snd.fst<=s.size,Jx V.fst.toNat]<|.r s<|.o [2=(↑2:Int)]<|.r (bu.snd.fst:Int)<|.o [bu.snd.fst<=s.size,o8 2]<|.r s<|.o [bH.fst=(bH.fst.toNat:Int)]<|.r (bH.snd.fst:Int)<|.o [bH.snd.fst<=s.size,Jx bH.fst.toNat]<|.r s<|.o [2=(↑2:Int)]<|.r (Z.snd.fst:Int)<|.o [Z.snd.fst<=s.size,o8 2]<|.r s<|.o [cp.fst=(cp.fst.toNat:Int)]<|.r (cp.snd.fst:Int)<|.o [cp.snd.fst<=s.size,Jx cp.fst.toNat]<|.r s<|.o [2=(↑2:Int)]<|.r (bC.snd.fst:Int)<|.o [bC.snd.fst<=s.size,o8 2]<|.r s<|.o [aG.fst=(aG.fst.toNat:Int)]<|.r (aG.snd.fst:Int)<|.o [aG.snd.fst<=s.size,Jx aG.fst.toNat]<|.r s<|.o [4=(↑4:Int)]<|.r (bP.snd.fst:Int)<|.o [bP.snd.fst<=s.size,o8 4]<|.r s<|.o [1=(↑1:Int)]<|.r (bn.snd.fst:Int)<|.o [bn.snd.fst<=s.size,o8 1]<|.r s<|.o [32=(↑32:Int)]<|.r (bY.snd.fst:Int)<|.o [bY.snd.fst<=s.size,Jx 32]<|.e (J.bg [J.agg [I eu.fst,I cu.fst,I cN.fst,S bu.fst,I aS.fst,S Z.fst,S bC.fst,S bP.fst,I dk.fst,I dE.fst,S (n_:y_)],J.agg [S dV.fst,I bn.fst,I bY.fst]],[gW [[S s,I dV.snd.fst,Bo dV.snd.snd]] 3]))) ?_
 simp only[av]
 (repeat' with_reducible first|intro _|apply aNd_)<;>first|exact aM|exact bF8 s _|exact bF7 s _|exact dR.of_eq rfl|(show _<=_;omega)|(repeat' (first|exact hq|refine yb ?_|refine FK ?_|refine FJ ?_))
end
section
variable {p q:Pt}{s:y_}{w n:Nat}
def Jy(p q:Pt):Prop:=p.2=q.2/\(p.2=false->p=q)
def Jy.refl(p:Pt):Jy p p:=⟨rfl,λ_=>rfl⟩
theorem Jy.cases(h:Jy p q):(p.2=true/\q.2=true)\/(p.2=false/\p=q):=by
 cases hp:p.2 with
 |true=>exact .inl ⟨rfl,by rw[<-h.1];exact hp⟩
 |false=>exact .inr ⟨rfl,h.2 hp⟩
def BB(h:p.2=true):(oy s w p).2.2=true:=by unfold oy;rw[if_pos (by unfold o7;rw[h];rfl)]
def BC(h:p.2=true):(uA s n p).2.2=true:=by unfold uA;rw[if_pos (by rw[h];rfl)]
def Qr(h:p.2=true):(zH s p).2.2=true:=by unfold zH;rw[if_pos<|BC<|BB h]
def pV(h:Jy p q):Jy (cH s w p).2 (cH s w q).2/\((cH s w p).2.2=false->p.2=false/\(cH s w p).1=(cH s w q).1):=by
 rw[mW,mW];rcases h.cases with⟨O,h2⟩|⟨O,h2⟩
 .have a:=BB (s:=s) (w:=w) O;have b:=BB (s:=s) (w:=w) h2;exact⟨⟨a.trans b.symm,λh=>by rw[a]at h;cases h⟩,λh=>by rw[a]at h;cases h⟩
 .subst h2;exact⟨Jy.refl _,λ_=>⟨O,rfl⟩⟩
def aH1(h:Jy p q):Jy (n9 s n p).2 (n9 s n q).2/\((n9 s n p).2.2=false->p.2=false/\(n9 s n p).1=(n9 s n q).1):=by
 rw[vC,vC];rcases h.cases with⟨O,h2⟩|⟨O,h2⟩
 .have a:=BC (s:=s) (n:=n) O;have b:=BC (s:=s) (n:=n) h2;exact⟨⟨a.trans b.symm,λh=>by rw[a]at h;cases h⟩,λh=>by rw[a]at h;cases h⟩
 .subst h2;exact⟨Jy.refl _,λ_=>⟨O,rfl⟩⟩
def wY(h:Jy p q):Jy (yC s p).2 (n9 s (cH s 2 q).1.toNat (cH s 2 q).2).2/\((yC s p).2.2=false->p.2=false/\(yC s p).1=(n9 s (cH s 2 q).1.toNat (cH s 2 q).2).1):=by
 rw[Bz,vC,mW];rcases h.cases with⟨O,h2⟩|⟨O,h2⟩
 .have a:=Qr (s:=s) O;have b:=BC (s:=s) (n:=(oy s 2 q).1.toNat)<|BB (s:=s) (w:=2) h2;exact⟨⟨a.trans b.symm,λh=>by rw[a]at h;cases h⟩,λh=>by rw[a]at h;cases h⟩
 .subst h2;unfold zH;cases hb:(uA s (oy s 2 p).1.toNat (oy s 2 p).2).2.2 with
  |true=>
   rw[if_pos rfl];exact⟨⟨hb.symm,λh=>by cases h⟩,λh=>by cases h⟩
  |false=>
   rw[if_neg dj];exact⟨Jy.refl _,λ_=>⟨O,rfl⟩⟩
def BD(h:Jy p q):Jy (nE s p).2 (o9 s q).2/\((nE s p).2.2=false->p.2=false/\(nE s p).1=(o9 s q).1):=by have a1:=pV (s:=s) (w:=4) h;have a2:=pV (s:=s) (w:=4) a1.1;have a3:=pV (s:=s) (w:=4) a2.1;have a4:=pV (s:=s) (w:=4) a3.1;have a5:=pV (s:=s) (w:=8) a4.1;have a6:=pV (s:=s) (w:=8) a5.1;have b1:=wY (s:=s) a6.1;have b2:=wY (s:=s) b1.1;have b3:=wY (s:=s) b2.1;have b4:=wY (s:=s) b3.1;have a7:=pV (s:=s) (w:=4) b4.1;have a8:=pV (s:=s) (w:=1) a7.1;have c:=aH1 (s:=s) (n:=32) a8.1;refine⟨c.1,λhf=> ?_⟩;have d0:=c.2 hf;have d1:=a8.2 d0.1;have d2:=a7.2 d1.1;have d3:=b4.2 d2.1;have d4:=b3.2 d3.1;have d5:=b2.2 d4.1;have d6:=b1.2 d5.1;have d7:=a6.2 d6.1;have d8:=a5.2 d7.1;have d9:=a4.2 d8.1;have d10:=a3.2 d9.1;have d11:=a2.2 d10.1;have d12:=a1.2 d11.1;refine⟨d12.1,?_⟩;unfold nE o9;dsimp only;rw[d0.2,d1.2,d2.2,d3.2,d4.2,d5.2,d6.2,d7.2,d8.2,d9.2,d10.2,d11.2,d12.2]
def rh(h:(cH s w p).2.2=false):p.2=false/\(cH s w p).2.1=p.1+w:=by
 rw[mW]at h⊢;unfold oy at h⊢;split at h
 .cases h
 .rename_i q;rw[if_neg q];refine⟨?_,rfl⟩;cases hp:p.2 with
  |false=>rfl
  |true=>exact absurd (by unfold o7;rw[hp];rfl) q
def Xl(h:(n9 s n p).2.2=false):p.2=false/\(n9 s n p).2.1=p.1+n:=by
 rw[vC]at h⊢;unfold uA at h⊢;split at h
 .cases h
 .rename_i q;rw[if_neg q];refine⟨?_,rfl⟩;cases hp:p.2 with
  |false=>rfl
  |true=>exact absurd (by rw[hp];rfl) q
def FM(h:(yC s p).2.2=false):p.2=false/\p.1<=(yC s p).2.1:=by
 have hp:p.2=false:=by
  cases hp:p.2 with
  |false=>rfl
  |true=>rw[Bz,Qr hp]at h;cases h
 have h2:=(wY (s:=s)<|Jy.refl p)
 have e:=h2.1.2 h;rw[e]at h⊢;have k1:=Xl h;have k2:=rh k1.1;exact⟨hp,U⟩
def Qs(h:(nE s p).2.2=false):p.2=false/\p.1+32<=(nE s p).2.1:=by have c:=Xl h;have a8:=rh c.1;have a7:=rh a8.1;have b4:=FM a7.1;have b3:=FM b4.1;have b2:=FM b3.1;have b1:=FM b2.1;have a6:=rh b1.1;have a5:=rh a6.1;have a4:=rh a5.1;have a3:=rh a4.1;have a2:=rh a3.1;have a1:=rh a2.1;refine⟨a1.1,?_⟩;show _<=(n9 s 32 _).2.1;omega
def bh1(h:p.1<=s.size):(nE s p).2.1<=s.size:=by
 show(n9 s 32 _).2.1<=_
 repeat' (first|exact h|refine yb ?_|refine FK ?_|refine FJ ?_)
def bh2(h:p.1<=s.size):(o9 s p).2.1<=s.size:=by
 show(n9 s 32 _).2.1<=_
 repeat' (first|exact h|refine yb ?_|refine FK ?_|refine FJ ?_)
end
section
variable {c:Code}{T:l_ J}{h h':Hp}
def aO.hle {P:Program}{lt:LT}(hh:∀(w0:fR) (Sa S:Nat->Prop) (m:Mp) (w:World),Inv w0 Sa h S m w->Inv w0 Sa h' S m w)(hl:aO P c T h' lt):aO P c T h lt:=by obtain⟨x,O,n,h2⟩:=hl;refine⟨x,O,n,λw0 Sa a w Q hG iu hQ=>h2 w0 Sa a w Q hG ?_ hQ⟩;obtain⟨S,m,hI,hT,Ak⟩:=iu;exact⟨S,m,hh w0 Sa S m w hI,hT,Ak⟩
theorem Inv.norm {w0:fR} {Sa S:Nat->Prop} {m:Mp} {w:World}(hh:h.map nmB=h')(hp:h.all (λB=>B.st !=1)=true)(hI:Inv w0 Sa h S m w):Inv w0 Sa h' S m w:=by
 subst hh;refine Inv.Xb hI (λj=>j) (λ_=>True) (by rw[gS];exact hI.len) ?_ (λ_ _ _ _ h=>h) ?_
 .intro q X hq;rw[b9]at hq;cases hB:h[q]? with
  |none=>rw[hB]at hq;cases hq
  |some B=>
   rw[hB]at hq;cases hq;have O:B.st≠1:=by have:=cU.1 hp B<|cw hB;simpa using this
   exact⟨rfl,.inr ⟨B,hB,rfl,O,rfl,rfl,rfl,trivial,Turned.norm (B:=B) ⟨rfl,λ_=>rfl,λi e' hi=>⟨e',hi,rfl,λt p' ht=>⟨p',ht,λv hv=>hv⟩⟩⟩⟩⟩
 .intro i x hx;obtain⟨p1,X,p2,p3⟩:=hI.gV i x hx;refine⟨p1,nmB X,?_,p3⟩;rw[b9,p2];rfl
theorem aO.norm {P:Program}{lt:LT}(hh:h.map nmB=h')(hp:h.all (λB=>B.st !=1)=true)(hl:aO P c T h' lt):aO P c T h lt:=aO.hle (λ_ _ _ _ _ hI=>Inv.norm hh hp hI) hl
end
def Qt(s:y_)(q:Pt):mL×Pt:=mK<|nE s q
def M9(s:y_)(q:Pt):Qt s q=nE s q:=ni _
def aH2(s:y_):l_ J->Hp->Option (J×Hp×l_ Prop):=λaa h=>match Hy aa,BA h with
 |true,some (s',z,b)=>some ((af mL).au (Qt s (z.toNat,b)).1,[dB s (Qt s (z.toNat,b)).2 true],[s'=s,z=(z.toNat:Int),z.toNat<=s.size])
 |_,_=>none
def EEN(s:y_):Env:=cF 215 (aH2 s) EN
def aH3(s:y_)(hs:s.size<=aq:=by assumption):an P (EEN s):=fC aw λaa h r h' ob O h2=>by
 unfold aH2 at O;split at O
 .rename_i s' z b e1 e2;cases O;have k:=Qq s (z.toNat,b) hs<|h2 (z.toNat<=s.size) sS;have es:s'=s:=h2 _ sS;have ez:z=(z.toNat:Int):=h2 _ sS;subst es;rw[wX e1,r7 e2,M9];dsimp only[dB]at k⊢;rw[<-ez]at k;exact k
 .cases O
def Na (s:y_) (hs:s.size<=aq) (hs2:s.size<=1073741824) (m:Nat) (hm:m<=s.size+1) (qs:Nat->Pt) (el:Nat->l_ (l_ J)) (hq:∀i,qs (i+1)=(Qt s<|qs i).2) (Fw:∀i,el (i+1)=el i++ [aY.cells (Qt s<|qs i).1]) (hle:∀i,(el i).length=i) (hqs:∀i,(qs i).1<=s.size)
  (O:∀i,i<m->(qs i).1<s.size/\(qs i).2=false) (h2: ¬((qs m).1<s.size/\(qs m).2=false)):aO P (aD f265 3) (M 34 [(0,S s),(4,.ptr 0 0 0),(5,.bf 1 0)]) [dB s (qs 0) false,⟨el 0,0,[],14,true,false⟩]
  (.ite (ar m λ_=>false) (.out .ret (M 34 [(2,.dF),(3,.bit false)]) [])<|.out (.ext 0) (M 34 [(4,.ptr 0 0 0),(5,.bf 1 m)]) [dB s (qs m) false,⟨el m,0,[],14,true,false⟩]):=by
 have WY:m<=aq:=by unfold aq;omega
 have lp:=qp f265 3 m (λ_=>false) (λi=>(M 34 [(0,S s),(4,aT),(5,.bf 1 i)])) (λi=> [dB s (qs i) false,⟨el i,0,[],14,true,false⟩]) (eR<|M 34 [(2,.dF),(3,aP)]) (.ext 0,(M 34 [(4,aT),(5,.bf 1 m)]),[dB s (qs m) false,⟨el m,0,[],14,true,false⟩]) λi hi lt aW az aR=>by
  have hh:=O i;have hl:=hle i;have qV:=hqs i;have iH:(qs i).1<s.size->(qs i).2=false->i<m:=λa b=>by
   rcases fA i m with q|q
   .exact q
   .have e:i=m:=U;subst e;exact absurd ⟨a,b⟩ h2
  have hen: ¬((qs i).1<s.size/\(qs i).2=false)->i=m:=λa=>by
   rcases fA i m with q|q
   .exact absurd (O i q) a
   .omega
  refine ao (aH3 s) L0 [0,4,5] [2,3,10004,10005] (let Z:=Qt s (qs i);let aG:=(↑(qs i).fst:Int);let V:=(Out.ext 0,(M 34 [(4,aT),(5,J.bf 1 i)]),[cM [[S s,I aG,Bo (qs i).snd]] 3,dn (el i) 14]);(.d (aG<(s.size:Int)) (.m ((qs i).snd) (.r s<|.r aG<|.o [(qs i).fst<=s.size,i=(el i).length,(i+1)*160<=140737488355328]<|.r true<|.r true<|bR (M 34 [(0,S s),(4,aT),(5,J.bf 1<|i+1)]) [cM [[S s,I Z.snd.fst,Bo Z.snd.snd]] 3,dn (el i++ [[I Z.fst.aN.id,I Z.fst.aN.bo,I Z.fst.aN.vr,S Z.fst.aN.name,I Z.fst.aN.mode,S Z.fst.aN.Sg,S Z.fst.aN.Sf,S Z.fst.aN.wR,I Z.fst.aN.nz,I Z.fst.aN.nA,S Z.fst.aN.data,S Z.fst.bW.bM,I Z.fst.bW.length,I Z.fst.bW.eB]]) 14])<|.e V)<|.e V)) ?_;have Y:=(di:False↔False)
  simp only[av]
  (repeat' with_reducible first|intro _|apply aNd_)<;>first|exact aM|(have h:=iH U W;have g:=aW h rfl;rw[hq,Fw]at g;exact g)|(have e:=hen (λq=>by have:=q.2;simp_all);subst e;exact aR rfl)
 exact lp
def bX4(s:y_)(m:Nat)(qs:Nat->Pt)(el:Nat->l_ (l_ J)):gD:=tI [0,4,5] [(5,14)] m (λ_=>false) (λ_=>(M 34 [(2,.dF),(3,.bit false)])) (M 34 [(4,.ptr 0 0 0),(5,.bf 1 m)]) (.ext 0) (λ_=> []) [dB s (qs m) false,⟨el m,0,[],14,true,false⟩]
def Qu (s:y_) (hs:s.size<=aq) (hs2:s.size<=1073741824) (m:Nat) (hm:m<=s.size+1) (qs:Nat->Pt) (el:Nat->l_ (l_ J)) (hq:∀i,qs (i+1)=(Qt s<|qs i).2) (Fw:∀i,el (i+1)=el i++ [aY.cells (Qt s<|qs i).1]) (hle:∀i,(el i).length=i) (hqs:∀i,(qs i).1<=s.size)
  (O:∀i,i<m->(qs i).1<s.size/\(qs i).2=false) (h2: ¬((qs m).1<s.size/\(qs m).2=false)) (h0:qs 0=(0,false)) (he0:el 0=[]):Ok P 265 [S s] (.bg [.rf m λi=>(el m).getD i [],Bo<|!(qs m).2]):=by
 have lp:=Na s hs hs2 m hm qs el hq Fw hle hqs O h2;rw[h0,he0]at lp;have xZ:=aO.norm (h:=[⟨[[S s,I 0,.bit false]],0,[],3,false,false⟩,⟨[],0,[],14,true,false⟩]) rfl rfl lp;have hlm:=hle m;refine al (aH3 s) (bX4 s m qs el) (let Z:=(M 34 [(0,S s),(4,aT),(5,J.bf 1 0)]);let V:=[cM [[S s,I 0,aP]] 3,dn [] 14];(.n (ar m λx=>false) (.o [ax P (aD f265 3) Z V (Out.ret) (M 34 [(2,J.dF),(3,aP)]) []]<|.e<|J.bg [J.rf 0 λi=> [],Bo false])<|.o [ax P (aD f265 3) Z V (Out.ext 0) (M 34 [(4,aT),(5,J.bf 1 m)]) [cM [[S s,I (↑(qs m).fst:Int),Bo (qs m).snd]] 3,dn (el m) 14],m=(el m).length]<|.e<|J.bg [J.rf m λi=>(el m).getD i [],Bo !(qs m).snd])) ?_;simp only[av]
 (repeat' with_reducible first|intro _|apply aNd_)<;>first|exact aM|exact absurd (show(ar m λ_=>false)=true by assumption) (by rw[s7];simp)
def BE(s:y_):Nat->Pt
 |0=>(0,false)
 |i+1=>(nE s (BE s i)).2
def Xm(s:y_)(i:Nat):Bool:=decide<|¬((BE s i).1<s.size/\(BE s i).2=false)
def zJ(s:y_):Nat:=aE (s.size+1)<|Xm s
def nr(s:y_):bh mL:=⟨zJ s,λi=>(nE s<|BE s i).1⟩
def TU(s:y_):Bool:= !(BE s<|zJ s).2
theorem aH4(s:y_):∀i,(BE s i).1<=s.size
 |0=>bJ _
 |i+1=>bh1 (aH4 s i)
theorem aH5(s:y_):∀i,(BE s i).2=false->32*i<=(BE s i).1
 |0,_=>bJ _
 |i+1,h=>by have O:=Qs (s:=s) (p:=BE s i) h;have h2:=aH5 s i O.1;show _<=(nE s (BE s i)).2.1;omega
def aH6(s:y_):ar (s.size+1) (Xm s)=true:=by refine cG.2 ⟨s.size,U,?_⟩;refine cd ?_;rintro⟨O,h2⟩;have:=aH5 s s.size h2;omega
def TV(s:y_): ¬((BE s<|zJ s).1<s.size/\(BE s<|zJ s).2=false):=cn<|dC<|dw.2<|aH6 s
def aH7(s:y_) {i:Nat}(h:i<zJ s):(BE s i).1<s.size/\(BE s i).2=false:=by have:=gy (b:=Xm s) h;unfold Xm at this;simpa using this
def aH8(s:y_):zJ s<=s.size+1:=oT _ _
def Hz {α:Type}(f:Nat->l_ α)(m i:Nat)(h:i<m):((List.range m).map f).getD i []=f i:=by grind
def TW(s:y_)(hs:s.size<=1073741824):Ok P 265 [S s] (.bg [(ak mL).au<|nr s,Bo<|TU s]):=by
 have h:=Qu s (by unfold aq;omega) hs (zJ s) (aH8 s) (BE s) (λi=>(List.range i).map λj=>aY.cells (nE s<|BE s j).1) (λi=>by rw[M9];rfl) (λi=>by rw[M9,qi,mr];rfl) (λi=>sS) (aH4 s) (λi h=>aH7 s h) (TV s) rfl rfl;refine h.res λw Sx v N=> ?_;cases N with
 |bg cs vs hl Y=>
  refine .bg _ _ hl λi c v O h2=> ?_
  match i with
  |0=>
   cases O;exact fS (λj hj=>Hz _ _ _ hj)<|Y 0 _ v rfl h2
  |1=>exact Y 1 c v O h2
  |i+2=>cases O
def pW(m:Int):Bool:=decide<|2147483648<=m
def aH9(n:aV):Ok P 263 [(af aV).au n] (Bo<|pW n.mode):=by
 refine al aw L0 (.e<|Bo<|decide<|n.mode>=2147483648) ?_;simp only[av]
 repeat' with_reducible first|intro _|apply aNd_
 all_goals exact aM
def bh3(k x:mL):Ok P 267 [(af mL).au k,(uh mL).au x] (Bo<|decide<|k.aN.bo≠x.aN.id):=by
 refine al aw L0 (.e<|Bo<|k.aN.bo !=x.aN.id) ?_;simp only[av]
 repeat' with_reducible first|intro _|apply aNd_
 all_goals exact ga
abbrev AR:=Int×l_ (l_ J)×l_ (l_ J)
def pX(f:Nat->l_ (l_ J)->l_ (l_ J)->AR)(ns sn:l_ (l_ J)):Nat->l_ (l_ J)×l_ (l_ J)
 |0=>(ns,sn)
 |j+1=>if(f j (pX f ns sn j).1 (pX f ns sn j).2).1≠0 then pX f ns sn j else(f j (pX f ns sn j).1 (pX f ns sn j).2).2
def atA(f:Nat->l_ (l_ J)->l_ (l_ J)->AR)(ns sn:l_ (l_ J))(j:Nat):AR:=f j (pX f ns sn j).1 (pX f ns sn j).2
def Jz(f:Nat->l_ (l_ J)->l_ (l_ J)->AR)(ns sn:l_ (l_ J))(n:Nat):AR:=if ar n (λj=>decide ((atA f ns sn j).1≠0))then atA f ns sn (aE n λj=>decide ((atA f ns sn j).1≠0))else(0,pX f ns sn n)
def oz(m:Int):Int:=if pW m then 3 else 1
def Qv(n:aV)(d:y_):aV:= {n with data:=d}
def wZ(d:y_)(id:Int):Bool:=ar (nr d).n λi=>decide<|((nr d).f i).aN.bo≠id
def jv(x:ay)(most:Nat):Nat->mL->l_ (l_ J)->l_ (l_ J)->AR
 |0,_,ns,sn=>(2,ns,sn)
 |g+1,e,ns,sn=>
  if most<=ns.length then(2,ns,sn)
  else if(dI x (oz e.aN.mode) e.bW sn).2.1≠0 then((dI x (oz e.aN.mode) e.bW sn).2.1,ns,(dI x (oz e.aN.mode) e.bW sn).2.2)
  else if pW e.aN.mode=false then(0,ns++ [aY.cells<|Qv e.aN (dI x (oz e.aN.mode) e.bW sn).1],(dI x (oz e.aN.mode) e.bW sn).2.2)
  else if TU (dI x (oz e.aN.mode) e.bW sn).1=false\/wZ (dI x (oz e.aN.mode) e.bW sn).1 e.aN.id=true then(2,ns++ [aY.cells e.aN],(dI x (oz e.aN.mode) e.bW sn).2.2)
  else Jz (λj a b=>jv x most g ((nr (dI x (oz e.aN.mode) e.bW sn).1).f j) a b) (ns++ [aY.cells e.aN]) (dI x (oz e.aN.mode) e.bW sn).2.2 (nr (dI x (oz e.aN.mode) e.bW sn).1).n
def fK(x:ay)(kd:Int)(r:jl)(sn:l_ (l_ J)):PR:=mK<|dI x kd r sn
def jt(x:ay)(kd:Int)(r:jl)(sn:l_ (l_ J)):fK x kd r sn=dI x kd r sn:=ni _
def lU(s:y_):bh mL:=mK<|nr s
def r8(s:y_):lU s=nr s:=ni _
def tK(x:ay)(most g:Nat)(e:mL)(ns sn:l_ (l_ J)):AR:=mK<|jv x most g e ns sn
def Nb(x:ay)(most g:Nat)(e:mL)(ns sn:l_ (l_ J)):tK x most g e ns sn=jv x most g e ns sn:=ni _
def bB(most k n:Nat):dW:=⟨[[.ptr 1 0 0,.bf k n,I most]],0,[],3,false,true⟩
def nB(ns:l_ (l_ J))(gV:Bool):dW:=⟨ns,0,[],11,true,gV⟩
def gN:dW:=⟨[],2,[],11,true,true⟩
def ab9(n:Nat):Prop:=n+1057<=536870912
def aI0(x:ay):l_ J->Hp->Option (J×Hp×l_ Prop):=λaa h=>match aa,h with
 | [_,.agg [.sc (.string c),.sc (.int _ l),.sc (.int _ e)],.sc (.int _ kd)],[_,D]=>some (.bg [S (fK x kd ⟨c,l,e⟩ D.es).1,I (fK x kd ⟨c,l,e⟩ D.es).2.1],[rB x 2 (fK x kd ⟨c,l,e⟩ D.es).2.2.length,gB,sB (fK x kd ⟨c,l,e⟩ D.es).2.2 false],[aa=[.ptr 0 0 0,.agg [S c,I l,I e],I kd],h=[rB x 1 D.es.length,sB D.es true],fc x,ab9 D.es.length])
 |_,_=>none
def aI1 {E:Env}(x:ay)(hE:an P E):an P (cF 264 (aI0 x) E):=fC hE λaa h r h' ob O h2=>by
 unfold aI0 at O;split at O
 .rename_i c _ l _ e _ kd _ D;cases O;rw[h2 _ ch,h2 _<|fh _ ch,jt];exact bg8 x kd ⟨c,l,e⟩ D.es (h2 (fc x) sS) (h2 (ab9 _) sS) _ rfl
 .cases O
def HA(most n k g:Nat):Prop:=most<=1024/\n<=most/\most<n+g/\k+2048*(most-n)+1057<=536870912
def aI2:J->Option mL
 | .agg [.sc (.int .i64 a),.sc (.int .i64 b),.sc (.int .i64 c),.sc (.string d),.sc (.int .i64 e),.sc (.string f),.sc (.string g),.sc (.string h),.sc (.int .i64 i),.sc (.int .i64 j),.sc (.string k),.sc (.string l),.sc (.int .i64 m),.sc (.int .i64 n)]=>some ⟨⟨a,b,c,d,e,f,g,h,i,j,k⟩,⟨l,m,n⟩⟩
 |_=>none
def aI3 {p:J} {e:mL}(h:aI2 p=some e):p=(af mL).au e:=by
 unfold aI2 at h;split at h
 .cases h;rfl
 .cases h
def aI4(x:ay)(most g:Nat):l_ J->Hp->Option (J×Hp×l_ Prop):=λaa h=>match aa,h with
 | [b,p],[_,_,ci9,D]=>match aI2 p with
  |some e=>some (I (tK x most g e ci9.es D.es).1,[bB most 4 (tK x most g e ci9.es D.es).2.1.length,rB x 5 (tK x most g e ci9.es D.es).2.2.length,gN,gB,nB (tK x most g e ci9.es D.es).2.1 false,sB (tK x most g e ci9.es D.es).2.2 false],[b= .ptr 0 0 0,h=[bB most 2 ci9.es.length,rB x 3 D.es.length,nB ci9.es true,sB D.es true],fc x,HA most ci9.es.length D.es.length g])
  |none=>none
 |_,_=>none
def HC(x:ay)(most g:Nat):Prop:=∀(e:mL) (ns sn:l_ (l_ J)),fc x->HA most ns.length sn.length g->kD P 216 [.ptr 0 0 0,(af mL).au e] [bB most 2 ns.length,rB x 3 sn.length,nB ns true,sB sn true] (I (jv x most g e ns sn).1) [bB most 4 (jv x most g e ns sn).2.1.length,rB x 5 (jv x most g e ns sn).2.2.length,gN,gB,nB (jv x most g e ns sn).2.1 false,sB (jv x most g e ns sn).2.2 false]
def aI5 {E:Env} {x:ay} {most g:Nat}(hE:an P E)(hm:HC x most g):an P (cF 216 (aI4 x most g) E):=fC hE λaa h r h' ob O h2=>by
 unfold aI4 at O;split at O
 .rename_i b p _ _ ci9 D;split at O
  .rename_i e F;cases O;rw[aI3 F,h2 (b= .ptr 0 0 0) sS,h2 _<|fh _ ch,Nb];exact hm e ci9.es D.es (h2 (fc x) sS)<|h2 (HA _ _ _ _) sS
  .cases O
 .cases O
def EA1:Env:=Pu<|aF 267 (bN (a2 (af mL)<|uh mL) λq=>Bo (decide<|q.1.aN.bo≠q.2.aN.id))<|aF 263 (bN (a1<|af aV) λn=>Bo (pW n.mode))<|aF 265 (bN (a1 aQ) (λs=> .bg [(ak mL).au<|lU s,Bo<|TU s]) λs=>s.size<=1073741824) EN
def bF9:an P EA1:=Pv<|ah (ah (ah aw λs h=>by rw[r8];exact TW s h) λn _=>aH9 n) λq _=>bh3 q.1 q.2
def EAd(x:ay)(most g:Nat):Env:=cF 216 (aI4 x most g)<|cF 264 (aI0 x) EA1
def aI6(x:ay)(most g:Nat)(hm:HC x most g:=by assumption):an P (EAd x most g):=aI5 (aI1 x bF9) hm
def Qw(x:ay)(kd:Int)(r:jl)(sn:l_ (l_ J)):(dI x kd r sn).2.2.length<=sn.length+1057:=by
 unfold dI;split
 .show sn.length<=_;omega
 .rename_i h;split
  .have:=uy x r.bM kd sn;show(dP x r.bM kd sn).length<=_;omega
  .have h2:iY r=true:=by grind
   have h3:=cn h2;have h4:=zE r.length.toNat;have h5:=Hv x kd r.length.toNat r.eB.toNat r.bM 0 sn;have h6:=Bw (show r.eB.toNat<=2 by omega);omega
def CM(x:ay)(kd:Int)(r:jl)(sn:l_ (l_ J)):(dI x kd r sn).1.size<=1048576:=by
 unfold dI;split
 .exact bJ _
 .rename_i h;split
  .exact bJ _
  .have h2:iY r=true:=by grind
   have h3:=cn h2;have h4:=zE r.length.toNat;have h5:=x9 x kd r.length.toNat r.eB.toNat r.bM 0 sn;have h6:eK r.eB.toNat<=1048576:=by rcases(by omega:r.eB.toNat=0\/r.eB.toNat=1\/r.eB.toNat=2)with q|q|q<;>rw[q]<;>decide
   omega
def HD(most:Nat)(ns sn ns' sn':l_ (l_ J)):Prop:=ns.length<=ns'.length/\(ns.length<=most->ns'.length<=most)/\sn'.length+2048*(most-ns'.length)<=sn.length+2048*(most-ns.length)
def HD.refl(most:Nat)(ns sn:l_ (l_ J)):HD most ns sn ns sn:=⟨bE _,λh=>h,bE _⟩
def HD.trans {most:Nat} {a b c d e f:l_ (l_ J)}(h:HD most a b c d)(k:HD most c d e f):HD most a b e f:=⟨cm h.1 k.1,λq=>k.2.1 (h.2.1 q),cm k.2.2 h.2.2⟩
theorem BF {most:Nat} {f:Nat->l_ (l_ J)->l_ (l_ J)->AR}(hf:∀j a b,(f j a b).1=0->HD most a b (f j a b).2.1 (f j a b).2.2) {ns sn:l_ (l_ J)}:∀j,HD most ns sn (pX f ns sn j).1 (pX f ns sn j).2
 |0=>HD.refl _ _ _
 |j+1=>by
  unfold pX;split
  .exact BF hf j
  .rename_i h;exact(BF hf j).trans<|hf j _ _ U
theorem HF(x:ay)(most:Nat):∀g e ns sn,(jv x most g e ns sn).1=0->ns.length<(jv x most g e ns sn).2.1.length/\HD most ns sn (jv x most g e ns sn).2.1 (jv x most g e ns sn).2.2
 |0,e,ns,sn,h=>by cases h
 |g+1,e,ns,sn,h=>by
  have Y:=Qw x (oz e.aN.mode) e.bW sn;unfold jv at h⊢;split at h
  .cases h
  .rename_i O;rw[if_neg O];split at h
   .rename_i h2;exact absurd h h2
   .rename_i h2;rw[if_neg h2];split at h
    .rename_i h3;rw[if_pos h3];have e1:(ns++ [aY.cells<|Qv e.aN (dI x (oz e.aN.mode) e.bW sn).1]).length=ns.length+1:=sS;refine⟨?_,?_,?_,?_⟩
     .show _<(ns++_).length;omega
     .show _<=(ns++_).length;omega
     .intro _;show(ns++_).length<=_;omega
     .show(dI x (oz e.aN.mode) e.bW sn).2.2.length+2048*(most-(ns++ [aY.cells<|Qv e.aN (dI x (oz e.aN.mode) e.bW sn).1]).length)<=_;rw[e1];omega
    .rename_i h3;rw[if_neg h3];split at h
     .cases h
     .rename_i h4;rw[if_neg h4];have e1:(ns++ [aY.cells e.aN]).length=ns.length+1:=sS;have k1:HD most ns sn (ns++ [aY.cells e.aN]) (dI x (oz e.aN.mode) e.bW sn).2.2:=⟨U,λ_=>U,by rw[e1];omega⟩
      have k2:=λj=>BF (most:=most) (f:=λj a b=>jv x most g ((nr (dI x (oz e.aN.mode) e.bW sn).1).f j) a b) (λj a b q=>(HF x most g _ a b q).2) (ns:=ns++ [aY.cells e.aN]) (sn:=(dI x (oz e.aN.mode) e.bW sn).2.2) j;unfold Jz at h⊢;split at h
      .rename_i ha;have:=dC<|dw.2 ha;exact absurd h<|cn this
      .rename_i ha;rw[if_neg ha];have k3:=k2 (nr (dI x (oz e.aN.mode) e.bW sn).1).n;refine⟨?_,k1.trans k3⟩;have:=k3.1;show _<(pX _ _ _ _).1.length;omega
def ac0(x:ay)(most g:Nat)(K:bh mL)(hK:K.n<=aq)(hx:fc x)(hm:HC x most g)(na sa:Nat->l_ (l_ J))(er:Nat->Int)(Jw:∀j,er j=(tK x most g (K.f j) (na j)<|sa j).1)(hna:∀j,er j=0->na (j+1)=(tK x most g (K.f j) (na j)<|sa j).2.1/\sa (j+1)=(tK x most g (K.f j) (na j)<|sa j).2.2)(Qn:∀j,HA most (na j).length (sa j).length g):
  aO P (aD f216 18) (M 94 [(0,.ptr 0 0 0),(81,(ak mL).au K),(82,I K.n),(83,I 0)]) [bB most 4 (na 0).length,rB x 5 (sa 0).length,gN,gB,nB (na 0) false,sB (sa 0) false]
   (.ite (ar K.n λj=>decide (er j≠0)) (.out .ret (M 94 [(4,I (er (aE K.n λj=>decide (er j≠0))))]) [bB most 4 (tK x most g (K.f (aE K.n λj=>decide (er j≠0))) (na (aE K.n λj=>decide (er j≠0))) (sa (aE K.n λj=>decide (er j≠0)))).2.1.length,rB x 5 (tK x most g (K.f (aE K.n λj=>decide (er j≠0))) (na (aE K.n λj=>decide (er j≠0))) (sa (aE K.n λj=>decide (er j≠0)))).2.2.length,gN,gB,nB (tK x most g (K.f (aE K.n λj=>decide (er j≠0))) (na (aE K.n λj=>decide (er j≠0))) (sa (aE K.n λj=>decide (er j≠0)))).2.1 false,sB (tK x most g (K.f (aE K.n λj=>decide (er j≠0))) (na (aE K.n λj=>decide (er j≠0))) (sa (aE K.n λj=>decide (er j≠0)))).2.2 false])
    (.out (.ext 0) (M 94 [(0,.ptr 0 0 0)]) [bB most 4 (na K.n).length,rB x 5 (sa K.n).length,gN,gB,nB (na K.n) false,sB (sa K.n) false])):=by
 have lp:=qp f216 18 K.n (λj=>decide (er j≠0)) (λj=>(M 94 [(0,aT),(81,(ak mL).au K),(82,I K.n),(83,I j)])) (λj=> [bB most 4 (na j).length,rB x 5 (sa j).length,gN,gB,nB (na j) false,sB (sa j) false]) (λj=>(.ret,(M 94 [(4,I<|er j)]),[bB most 4 (tK x most g (K.f j) (na j)<|sa j).2.1.length,rB x 5 (tK x most g (K.f j) (na j)<|sa j).2.2.length,gN,gB,nB (tK x most g (K.f j) (na j)<|sa j).2.1 false,sB (tK x most g (K.f j) (na j)<|sa j).2.2 false])) (.ext 0,(M 94 [(0,aT)]),[bB most 4 (na K.n).length,rB x 5 (sa K.n).length,gN,gB,nB (na K.n) false,sB (sa K.n) false]) λj hj ltj nC nq lO=>by
  have hpj:=Qn j;have e1:oU ((j:Int)+1)=((j+1:Nat):Int):=by unfold aq at hK;rw[wrap64 U U];omega
  refine ao (aI6 x most g) L0 [0,81,82,83] [4,10000] (let Z:=tK x most g (K.f j) (na j) (sa j);let cp:=(ak eF).au x.aU;let aS:=[gW [[dK 1,J.bf 4 Z.snd.fst.length,I most]] 3,gW [[I x.cap,cp,J.bf 5 Z.snd.snd.length]] 3,js 11,js 1,dn Z.snd.fst 11,dn Z.snd.snd 1];let cu:=bB most 4 (na j).length;let dk:=rB x 5 (sa j).length;let bu:=[[dK 1,J.bf 4 (na j).length,I most]];let aG:=if [].contains 0=true then dW.mk bu 2 cu.par cu.sz false cu.gV else bB most 4 (na j).length;let bC:=[[I x.cap,cp,J.bf 5 (sa j).length]];let V:=if [].contains 1=true then dW.mk bC 2 dk.par dk.sz false dk.gV else rB x 5 (sa j).length;let bP:=sB (sa j) false;let bn:=if [].contains (0+1+1+1+1+1)=true then dW.mk (sa j) 2 bP.par bP.sz true bP.gV else sB (sa j) false;let bY:=nB (na j) false;let bH:=if [].contains (0+1+1+1+1)=true then dW.mk (na j) 2 bY.par bY.sz true bY.gV else nB (na j) false;(.d ((j:Int)<K.n) (.g j K.n<|.r (aT)<|.o [[dW.mk (List.map (List.map cj) [[dK 1,J.bf 2 (na j).length,I most]]) aG.st [] aG.sz false true,dW.mk (List.map (List.map cj) [[I x.cap,cp,J.bf (0+1+1+1) (sa j).length]]) V.st [] V.sz false true,dW.mk (na j) bH.st [] bH.sz true true,dW.mk (sa j) bn.st [] bn.sz true true]=[bB most 2 (na j).length,rB x 3 (sa j).length,nB (na j) true,sB (sa j) true],fc x,HA most (na j).length (sa j).length g]<|.u (Z.fst) 0 (kG (M 94 [(4,I Z.fst)]) aS)<|bR (M 94 [(0,aT),(81,(ak mL).au K),(82,I K.n),(83,I<|oU<|(j:Int)+1)]) aS)<|fv 0 (M 94 [(0,aT)]) [gW bu 3,gW bC 3,js 11,js 1,dn (na j) 11,dn (sa j) 1])) ?_;have JV:=@decide_eq_true_iff (er j≠0) _
  ((try dsimp only);simp only[e1];clear e1)
  simp only[av]
  (repeat' with_reducible first|intro _|apply aNd_)<;>first|exact aM|(have h:j<K.n:=U;have g:=nq h (cd (by rw[Jw];assumption));rw[Jw j]at g;exact g)|(have h:j<K.n:=U;have h0:er j=0:=(by rw[Jw];assumption);have g:=nC h (fq<|cI h0);rw[(hna j h0).1,(hna j h0).2]at g;exact g)|(have e:j=K.n:=U;subst e;exact lO rfl)
 exact lp
def bX5(x:ay)(most:Nat)(K:bh mL)(na sa:Nat->l_ (l_ J))(er:Nat->Int)(nx sx:Nat->l_ (l_ J)):gD:=iy [0,81,82,83] K.n (λj=>decide (er j≠0)) (λj=>(M 94 [(4,I<|er j)])) (M 94 [(0,.ptr 0 0 0)]) (.ext 0) (λj=> [bB most 4 (nx j).length,rB x 5 (sx j).length,gN,gB,nB (nx j) false,sB (sx j) false]) [bB most 4 (na K.n).length,rB x 5 (sa K.n).length,gN,gB,nB (na K.n) false,sB (sa K.n) false]
def aI7 (x:ay) (most g:Nat) (e:mL) (ns sn:l_ (l_ J)) (hx:fc x) (hp:HA most ns.length sn.length (g+1)) (hm:HC x most g) (hKn:(lU (fK x 3 e.bW sn).1).n<=aq) (Aj:(fK x 3 e.bW sn).1.size<=1073741824) (na sa nx sx:Nat->l_ (l_ J)) (er:Nat->Int) (r:AR)
  (h0:na 0=ns++ [aY.cells e.aN]/\sa 0=(fK x 3 e.bW sn).2.2) (Jw:∀j,er j=(tK x most g ((lU (fK x 3 e.bW sn).1).f j) (na j)<|sa j).1) (hnx:∀j,nx j=(tK x most g ((lU (fK x 3 e.bW sn).1).f j) (na j)<|sa j).2.1/\sx j=(tK x most g ((lU (fK x 3 e.bW sn).1).f j) (na j)<|sa j).2.2) (hna:∀j,er j=0->na (j+1)=nx j/\sa (j+1)=sx j) (Qn:ns.length<most->∀j,HA most (na j).length (sa j).length g)
  (Zl:most<=ns.length->r=(2,ns,sn)) (R8: ¬most<=ns.length->pW e.aN.mode=true->(fK x 3 e.bW sn).2.1≠0->r=((fK x 3 e.bW sn).2.1,ns,(fK x 3 e.bW sn).2.2)) (hq1: ¬most<=ns.length->pW e.aN.mode=false->(fK x 1 e.bW sn).2.1≠0->r=((fK x 1 e.bW sn).2.1,ns,(fK x 1 e.bW sn).2.2))
  (Je: ¬most<=ns.length->pW e.aN.mode=false->(fK x 1 e.bW sn).2.1=0->r=(0,ns++ [aY.cells<|Qv e.aN (fK x 1 e.bW sn).1],(fK x 1 e.bW sn).2.2))
  (hr3: ¬most<=ns.length->pW e.aN.mode=true->(fK x 3 e.bW sn).2.1=0->(TU (fK x 3 e.bW sn).1=false\/(ar (lU (fK x 3 e.bW sn).1).n λi=>decide (((lU (fK x 3 e.bW sn).1).f i).aN.bo≠e.aN.id))=true)->r=(2,ns++ [aY.cells e.aN],(fK x 3 e.bW sn).2.2))
  (S5: ¬most<=ns.length->pW e.aN.mode=true->(fK x 3 e.bW sn).2.1=0->TU (fK x 3 e.bW sn).1=true->(ar (lU (fK x 3 e.bW sn).1).n λi=>decide (((lU (fK x 3 e.bW sn).1).f i).aN.bo≠e.aN.id))=false->(ar (lU (fK x 3 e.bW sn).1).n λj=>decide (er j≠0))=true->r=(er<|aE (lU (fK x 3 e.bW sn).1).n λj=>decide (er j≠0),nx<|aE (lU (fK x 3 e.bW sn).1).n λj=>decide (er j≠0),sx<|aE (lU (fK x 3 e.bW sn).1).n λj=>decide (er j≠0)))
  (hr5: ¬most<=ns.length->pW e.aN.mode=true->(fK x 3 e.bW sn).2.1=0->TU (fK x 3 e.bW sn).1=true->(ar (lU (fK x 3 e.bW sn).1).n λi=>decide (((lU (fK x 3 e.bW sn).1).f i).aN.bo≠e.aN.id))=false->(ar (lU (fK x 3 e.bW sn).1).n λj=>decide (er j≠0))=false->r=(0,na (lU (fK x 3 e.bW sn).1).n,sa (lU (fK x 3 e.bW sn).1).n)):
  kD P 216 [.ptr 0 0 0,(af mL).au e] [bB most 2 ns.length,rB x 3 sn.length,nB ns true,sB sn true] (I r.1) [bB most 4 r.2.1.length,rB x 5 r.2.2.length,gN,gB,nB r.2.1 false,sB r.2.2 false]:=by
 obtain⟨p1,p0,p2,p3⟩:=hp;have hcp:ab9 sn.length:=by unfold ab9;omega
 have zg:∀c:l_ J,(ns++ [c]).length=ns.length+1:=sS;have lp:=λh=>ac0 x most g (lU (fK x 3 e.bW sn).1) hKn hx hm na sa er Jw (λj q=>by rw[(hna j q).1,(hna j q).2,(hnx j).1,(hnx j).2];exact⟨rfl,rfl⟩)<|Qn h;simp only[<-(hnx _).1,<-(hnx _).2]at lp;rw[h0.1,h0.2,zg]at lp
 refine cK (aI6 x most g) (bX5 x most (lU (fK x 3 e.bW sn).1) na sa er nx sx) (let V:=fK x 1 e.bW sn;let aS:=(ak eF).au x.aU;let bn:=gW [[dK 1,J.bf 4<|ns.length+1,I most]] 3;let bH:=fK x 3 e.bW sn;let Z:=lU bH.fst;let aG:=[gW [[dK 1,J.bf 4 (na Z.n).length,I most]] 3,gW [[I x.cap,aS,J.bf 5 (sa Z.n).length]] 3,js 11,js 1,dn (na Z.n) 11,dn (sa Z.n) 1];let cp:=[dW.mk (List.map (List.map cj) [[I x.cap,aS,J.bf 1 sn.length]]) (rB x 3 sn.length).st [] (rB x 3 sn.length).sz false true,dW.mk sn (sB sn true).st [] (sB sn true).sz true true]=[rB x 1 sn.length,sB sn true];let cu:=gW [[I x.cap,aS,J.bf 5 bH.snd.snd.length]] 3;let dk:=gW [[I x.cap,aS,J.bf 5 V.snd.snd.length]] 3;let bC:=lU V.fst;let bP:=dn (ns++ [(aY.cells e.aN)]) 11;let cN:=gW [[dK 1,J.bf 2 ns.length,I most]] 3;let dV:=a2 (af mL) (uh mL);let eu:=dn bH.snd.snd 1;let fI:=dn V.snd.snd 1;let ia:=J.agg (aY.cells e.bW);let iz:=aD f216 18;let iD:=[(ns.length+1)*128<=140737488355328];let ka:=[bn,cu,js 11,js 1,bP,eu];let kV:=[bn,dk,js 11,js 1,bP,fI];let lg:=pW e.aN.mode;let mA:=a1 (af aV);let lT:=ak mL;let bY:=(M 94 [(0,aT),(81,lT.au bC),(82,I bC.n),(83,I 0)]);let dE:=(M 94 [(0,aT),(81,lT.au Z),(82,I Z.n),(83,I 0)]);let r9:=aY.cells e;let bu:=dn (ns++ [List.take 11<|List.drop 0 r9]) 11;let iC:=(I 2,[bn,cu,js 11,js 1,bu,eu]);let jn:=(I 2,[bn,dk,js 11,js 1,bu,fI]);let vD:=(M 94 [(0,aT)]);(.d ((ns.length:Int)>=most) (.e (I 2,[cN,gW [[I x.cap,aS,J.bf 3 sn.length]] 3,ox ns 11,ox sn 1]))<|.v mA e.aN<|.n lg (.o [List.map cj [aT,ia,ofV<|Value.int IntKind.i64 3]=[aT,ia,I 3],cp,fc x,ab9 sn.length]<|.u (bH.snd.fst) 0 (.e (I bH.snd.fst,[cN,gW [[I x.cap,aS,J.bf 4 bH.snd.snd.length]] 3,ox ns 11,js 1,eu]))<|.v mA e.aN<|.r ns.length<|.o iD<|.r true<|.r true<|.m lg (.e (I 0,[bn,cu,js 11,js 1,dn (ns++ [List.take 11<|List.drop 0<|PS.splice r9 10 [S bH.fst]]) 11,eu]))<|.k (a1 aQ) bH.fst (bH.fst.size<=1073741824)<|.m (TU bH.fst) (.e iC)<|.r (lT.au Z)<|.o [Z.n<=140737488351232,∀(i:Nat),i<Z.n->dV.au (Z.f i,e)=dV.au (Z.f i,e)/\True/\True]<|.n (ar Z.n λi=>decide ((Z.f i).aN.bo≠e.aN.id)) (.e iC)<|.n (ar Z.n λj=>decide (er j≠0)) (.o [ax P iz dE ka (Out.ret) (M 94 [(4,I<|er<|aE Z.n λj=>decide (er j≠0))]) [gW [[dK 1,J.bf 4 (nx<|aE Z.n λj=>decide (er j≠0)).length,I most]] 3,gW [[I x.cap,aS,J.bf 5 (sx<|aE Z.n λj=>decide (er j≠0)).length]] 3,js 11,js 1,dn (nx<|aE Z.n λj=>decide (er j≠0)) 11,dn (sx<|aE Z.n λj=>decide (er j≠0)) 1]]<|.e (I<|er<|aE Z.n λj=>decide (er j≠0),[gW [[dK 1,J.bf 4 (nx<|aE Z.n λj=>decide (er j≠0)).length,I most]] 3,gW [[I x.cap,aS,J.bf 5 (sx<|aE Z.n λj=>decide (er j≠0)).length]] 3,js 11,js 1,dn (nx<|aE Z.n λj=>decide (er j≠0)) 11,dn (sx<|aE Z.n λj=>decide (er j≠0)) 1]))<|.o [ax P iz dE ka (Out.ext 0) vD<|aG]<|.e (I 0,aG))<|.o [List.map cj [aT,ia,ofV<|Value.int IntKind.i64 1]=[aT,ia,I 1],cp,fc x,ab9 sn.length]<|.u (V.snd.fst) 0 (.e (I V.snd.fst,[cN,gW [[I x.cap,aS,J.bf 4 V.snd.snd.length]] 3,ox ns 11,js 1,fI]))<|.v mA e.aN<|.r ns.length<|.o iD<|.r true<|.r true<|.m lg (.e (I 0,[bn,dk,js 11,js 1,dn (ns++ [List.take 11<|List.drop 0<|PS.splice r9 10 [S V.fst]]) 11,fI]))<|.k (a1 aQ) V.fst (V.fst.size<=1073741824)<|.m (TU V.fst) (.e jn)<|.r (lT.au bC)<|.o [bC.n<=140737488351232,∀(i:Nat),i<bC.n->dV.au (bC.f i,e)=dV.au (bC.f i,e)/\True/\True]<|.n (ar bC.n λi=>decide ((bC.f i).aN.bo≠e.aN.id)) (.e jn)<|.n (ar Z.n λj=>decide (er j≠0)) (.o [ax P iz bY kV (Out.ret) (M 94 [(4,I<|er<|aE Z.n λj=>decide (er j≠0))]) [gW [[dK 1,J.bf 4 (nx<|aE Z.n λj=>decide (er j≠0)).length,I most]] 3,gW [[I x.cap,aS,J.bf 5 (sx<|aE Z.n λj=>decide (er j≠0)).length]] 3,js 11,js 1,dn (nx<|aE Z.n λj=>decide (er j≠0)) 11,dn (sx<|aE Z.n λj=>decide (er j≠0)) 1]]<|.e (I<|er<|aE Z.n λj=>decide (er j≠0),[gW [[dK 1,J.bf 4 (nx<|aE Z.n λj=>decide (er j≠0)).length,I most]] 3,gW [[I x.cap,aS,J.bf 5 (sx<|aE Z.n λj=>decide (er j≠0)).length]] 3,js 11,js 1,dn (nx<|aE Z.n λj=>decide (er j≠0)) 11,dn (sx<|aE Z.n λj=>decide (er j≠0)) 1]))<|.o [ax P iz bY kV (Out.ext 0) vD<|aG]<|.e (I 0,aG))) ?_
 simp only[av,bK,bO]
 (repeat' with_reducible first|intro _|apply aNd_)<;>first|exact aM|exact absurd (show pW e.aN.mode=true by assumption) (by rw[show pW e.aN.mode=false by assumption];exact dj)|(rw[Zl U];exact dR.trans (dR.move 2 rfl rfl rfl rfl) (dR.move 3 rfl rfl rfl rfl))|(rw[R8 U W W];exact dR.trans (dR.move 2 rfl rfl rfl rfl) (dR.keep [0,1,2,3,5,4] rfl rfl dD rfl))|(rw[hq1 U W W];exact dR.trans (dR.move 2 rfl rfl rfl rfl) (dR.keep [0,1,2,3,5,4] rfl rfl dD rfl))|(rw[Je U W W];exact dR.of_eq (by rw[zg];rfl))|(rw[hr3 U W W<|.inl W];exact dR.of_eq (by rw[zg];rfl))|(rw[hr3 U W W<|.inr W];exact dR.of_eq (by rw[zg];rfl))|(rw[S5 U W W W W W];exact dR.of_eq rfl)|(rw[hr5 U W W W W W];exact dR.of_eq rfl)
def aI8 {f:Nat->l_ (l_ J)->l_ (l_ J)->AR} {ns sn:l_ (l_ J)} {j:Nat}(h:(atA f ns sn j).1=0):pX f ns sn (j+1)=(atA f ns sn j).2:=by show(if(f j (pX f ns sn j).1 (pX f ns sn j).2).1≠0 then _ else _)=_;rw[if_neg (by unfold atA at h;omega)];rfl
def ac1(x:ay)(most g:Nat)(hm:HC x most g):HC x most (g+1):=by
 intro e ns sn hx hp;obtain⟨p1,p2,p3,p4⟩:=hp;have k3:pW e.aN.mode=true->oz e.aN.mode=3:=λh=>if_pos h;have k1:pW e.aN.mode=false->oz e.aN.mode=1:=λh=>if_neg (by rw[h];exact dj);have Y:=Qw x 3 e.bW sn;have hz:=CM x 3 e.bW sn;have b93:=aH8 (dI x 3 e.bW sn).1;have hgr:=λj=>BF (most:=most) (f:=λj a b=>jv x most g ((nr (dI x 3 e.bW sn).1).f j) a b) (λj a b q=>(HF x most g _ a b q).2) (ns:=ns++ [aY.cells e.aN]) (sn:=(dI x 3 e.bW sn).2.2) j;have zg:(ns++ [aY.cells e.aN]).length=ns.length+1:=sS;refine aI7 x most g e ns sn hx ⟨p1,p2,p3,p4⟩ hm ?_ ?_ (λj=>(pX (λj a b=>jv x most g ((nr (dI x 3 e.bW sn).1).f j) a b) (ns++ [aY.cells e.aN]) (dI x 3 e.bW sn).2.2 j).1) (λj=>(pX (λj a b=>jv x most g ((nr (dI x 3 e.bW sn).1).f j) a b) (ns++ [aY.cells e.aN]) (dI x 3 e.bW sn).2.2 j).2) (λj=>(atA (λj a b=>jv x most g ((nr (dI x 3 e.bW sn).1).f j) a b) (ns++ [aY.cells e.aN]) (dI x 3 e.bW sn).2.2 j).2.1) (λj=>(atA (λj a b=>jv x most g ((nr (dI x 3 e.bW sn).1).f j) a b) (ns++ [aY.cells e.aN]) (dI x 3 e.bW sn).2.2 j).2.2) (λj=>(atA (λj a b=>jv x most g ((nr (dI x 3 e.bW sn).1).f j) a b) (ns++ [aY.cells e.aN]) (dI x 3 e.bW sn).2.2 j).1) (jv x most (g+1) e ns sn) ?_ ?_ ?_ ?_ ?_ ?_ ?_ ?_ ?_ ?_ ?_ ?_
 .rw[jt,r8];show zJ _<=_;unfold aq;omega
 .rw[jt];omega
 .rw[jt];exact⟨rfl,rfl⟩
 .intro j;rw[jt,r8,Nb];rfl
 .intro j;rw[jt,r8,Nb];exact⟨rfl,rfl⟩
 .intro j h;have:=aI8 h;exact⟨ba Prod.fst this,ba Prod.snd this⟩
 .intro h j;obtain⟨g1,g2,g3⟩:=hgr j;rw[zg]at g1 g2 g3;refine⟨p1,g2 U,?_,?_⟩
  .omega
  .omega
 .intro h;unfold jv;rw[if_pos h]
 .intro h hd h2;rw[jt]at h2⊢;unfold jv;rw[if_neg h,k3 hd,if_pos h2]
 .intro h hd h2;rw[jt]at h2⊢;unfold jv;rw[if_neg h,k1 hd,if_pos h2]
 .intro h hd h2;rw[jt]at h2⊢;unfold jv;rw[if_neg h,k1 hd,if_neg U,if_pos hd]
 .intro h hd h2 h3;rw[jt]at h2⊢;rw[jt,r8]at h3;unfold jv;rw[if_neg h,k3 hd,if_neg U,if_neg (by rw[hd];exact λq=>Bool.noConfusion q),if_pos (show TU (dI x 3 e.bW sn).1=false\/wZ (dI x 3 e.bW sn).1 e.aN.id=true from h3)]
 .intro h hd h2 h3 h4 h5;rw[jt]at h2 h3;rw[jt,r8]at h4 h5⊢;have h6: ¬(TU (dI x 3 e.bW sn).1=false\/wZ (dI x 3 e.bW sn).1 e.aN.id=true):=by
   rintro(q|q)
   .rw[h3]at q;cases q
   .rw[show wZ (dI x 3 e.bW sn).1 e.aN.id=false from h4]at q;cases q
  conv=>lhs;unfold jv
  rw[if_neg h,k3 hd,if_neg U,if_neg (by rw[hd];exact λq=>Bool.noConfusion q),if_neg h6];unfold Jz;rw[if_pos h5]
 .intro h hd h2 h3 h4 h5;rw[jt]at h2 h3;rw[jt,r8]at h4 h5⊢;have h6: ¬(TU (dI x 3 e.bW sn).1=false\/wZ (dI x 3 e.bW sn).1 e.aN.id=true):=by
   rintro(q|q)
   .rw[h3]at q;cases q
   .rw[show wZ (dI x 3 e.bW sn).1 e.aN.id=false from h4]at q;cases q
  conv=>lhs;unfold jv
  rw[if_neg h,k3 hd,if_neg U,if_neg (by rw[hd];exact λq=>Bool.noConfusion q),if_neg h6];unfold Jz;rw[if_neg (by rw[h5];exact dj)]
theorem Xn(x:ay)(most:Nat):∀g,HC x most g
 |0=>λ_ _ _ _ h=>by obtain⟨_,O,h2,_⟩:=h;omega
 |g+1=>ac1 x most g (Xn x most g)
abbrev RR:=y_×Int
def Qx(f:Nat->RR):Nat->y_
 |0=>⟨#[]⟩
 |j+1=>Qx f j++(f j).1
def TX(f:Nat->RR)(n:Nat):RR:=if ar n (λj=>decide ((f j).2≠0))then(n_,(f<|aE n λj=>decide ((f j).2≠0)).2)else(Qx f n,0)
def Nc(n w:Nat):Nat:=(n+w-1)/w
def ji(x:ay)(kd:Int):Nat->Nat->y_->RR
 |0,n,s=>if jJ x s kd≠0 then(⟨#[]⟩,jJ x s kd)else if(aZ x s kd).size≠n then(⟨#[]⟩,2)else(aZ x s kd,0)
 |k+1,n,s=>if jJ x s 2≠0 then(⟨#[]⟩,jJ x s 2)else if(aZ x s 2).size≠32*Nc n (eK k)then(⟨#[]⟩,2)else TX (λj=>ji x kd k (min (eK k) (n-j*eK k)) (piece (aZ x s 2) j)) (Nc n (eK k))
def ta(k:Nat):1<=eK k:=by unfold eK;exact Nat.mul_pos dD<|Nat.pow_pos dD
def TY {n k:Nat}(h:n<=eK (k+1)):Nc n (eK k)<=32:=by unfold Nc;rw[kU]at h;have O:=ta k;have h2:n+eK k-1<33*eK k:=U;have:=(ES O).2 h2;omega
theorem CN {f:Nat->RR} {c:Nat}(h:∀j,(f j).1.size<=c):∀j,(Qx f j).size<=j*c
 |0=>bJ _
 |j+1=>by have O:=CN h j;have h2:=h j;rw[ed,sO];show((Qx f j)++(f j).1).size<=_;rw[fy];omega
theorem CO(x:ay)(kd:Int):∀k n s,n<=eK k->(ji x kd k n s).1.size<=eK k
 |0,n,s,h=>by
  unfold ji;split
  .exact bJ _
  .split
   .exact bJ _
   .show(aZ x s kd).size<=_;omega
 |k+1,n,s,h=>by
  unfold ji;split
  .exact bJ _
  .split
   .exact bJ _
   .unfold TX;split
    .exact bJ _
    .have a1:=CN (f:=λj=>ji x kd k (min (eK k)<|n-j*eK k) (piece (aZ x s 2) j)) (c:=eK k) (λj=>CO x kd k _ _ (Fm _ _))<|Nc n<|eK k;have a2:=il (eK k)<|TY h;rw[kU];show(Qx _ _).size<=_;omega
def BG(x:ay)(kd:Int)(k n:Nat)(s:y_):RR:=mK<|ji x kd k n s
def w6(x:ay)(kd:Int)(k n:Nat)(s:y_):BG x kd k n s=ji x kd k n s:=ni _
def aI9(m k n:Nat):Prop:=k<=2/\k<m/\n<=eK k
def bw3(x:ay)(kd:Int)(m:Nat):l_ J->Option (J×l_ Prop):=λq=>match q with
 | [st,.sc (.string s),a,.sc (.int .i64 k),.sc (.int .i64 n),b,c,d]=>some (.bg [S (BG x kd k.toNat n.toNat s).1,I (BG x kd k.toNat n.toNat s).2],[st=(af ay).au x,a=I kd,k=(k.toNat:Int),n=(n.toNat:Int),b=I 0,c=I n,d=Bo true,aI9 m k.toNat n.toNat])
 |_=>none
def CP(x:ay)(kd:Int)(m:Nat):Prop:=∀(k n:Nat) (s:y_),aI9 m k n->Ok P 283 [(af ay).au x,S s,I kd,I k,I n,I 0,I n,Bo true] (.bg [S (ji x kd k n s).1,I (ji x kd k n s).2])
def ac2(x:ay×y_×Int):Prop:=wf x.2.2/\fc x.1
def ERd(x:ay)(kd:Int)(m:Nat):Env:=aF 283 (bw3 x kd m)<|aF 320 (bN (a1 bx) (λk=>I ((eK k.toNat-1+1:Nat):Int)) R7)<|aF 179 (bN (a3 (af ay) aQ bx) (λx=>bkR x.1 x.2.1 x.2.2) ac2) EN
def Nd(x:ay)(kd:Int)(m:Nat)(hm:CP x kd m:=by assumption):an P (ERd x kd m):=gi (ah (ah aw λq h=>D6 q.1 q.2.1 q.2.2 h.1 h.2) λk h=>by
  have h2:0<=k/\k<=4:=h;have:=bf5 k.toNat U;rw[Nat.sub_add_cancel<|ta _]
  rwa [rM h2.1]at this) λq r ob O h2=>by
 unfold bw3 at O;split at O
 .rename_i st s a k n b c d;cases O;have e1:st=(af ay).au x:=h2 _ sS;have e2:a=I kd:=h2 _ sS;have e5:b=I 0:=h2 _ sS;have e6:c=I n:=h2 _ sS;have ek:k=(k.toNat:Int):=h2 _ sS;have en:n=(n.toNat:Int):=h2 _ sS;have e7:d=Bo true:=h2 _ sS;subst e1 e2 e5 e6 e7;have k1:=hm k.toNat n.toNat s<|h2 _ sS;rw[<-ek,<-en]at k1;rw[w6];exact k1
 .cases O
def bG0 {n k j:Nat}(h:j<Nc n (eK k)):j*eK k<n:=by unfold Nc at h;have O:=ta k;have:=(Nat.le_div_iff_mul_le O).1 (show j+1<=_ from h);rw[ed,sO]at this;omega
def ac3(x:ay)(kd:Int)(k n:Nat)(d:y_)(hm:CP x kd (k+1))(hk:k+1<=2)(hn:n<=eK (k+1))(c:Nat)(Y:c=Nc n (eK k))(hd:d.size=32*c)(out:Nat->y_)(er:Nat->Int)(TQ:∀j,out (j+1)=out j++(BG x kd k (min (eK k)<|n-j*eK k)<|piece d j).1)(Jw:∀j,er j=(BG x kd k (min (eK k)<|n-j*eK k)<|piece d j).2)(kZ:∀j,(out j).size<=j*eK k)(z zn zu:Int)(hz:z=((k+1:Nat):Int))(hzn:zn=(n:Int))(hzu:zu=((eK k:Nat):Int)):
  aO P (aD Tryz.f283 17) (M 135 [(2,I kd),(3,I z),(4,I zn),(5,I 0),(6,I zn),(7,Bo true),(8,.ptr 0 0 0),(20,S d),(22,I zu),(23,I c),(24,S<|out 0),(25,I 0)]) [⟨[aY.cells x],0,[],2,false,false⟩]
   (.ite (ar c λj=>decide (er j≠0)) (.out .ret (M 135 [(16,S n_),(17,I<|er<|aE c λj=>decide (er j≠0))]) [])<|.out (.ext 0) (M 135 [(24,S<|out c)]) []):=by
 have bh4:=TY hn;rw[<-Y]at bh4;have hcm:c<=aq:=cm bh4 dD;have hwk:=Ht (show k<=4 by omega);have hw1:=ta k;have GR:=kU k;have lp:=yM Tryz.f283 17 c (λj=>decide (er j≠0)) (λj=>(M 135 [(2,I kd),(3,I z),(4,I zn),(5,I 0),(6,I zn),(7,Bo true),(8,aT),(20,S d),(22,I zu),(23,I c),(24,S<|out j),(25,I j)])) [(cM [aY.cells x] 2)] (λj=>(.ret,(M 135 [(16,S n_),(17,I<|er j)]),[])) (ey 0<|M 135 [(24,S<|out c)]) λj hj ltj nC nq lO=>by
  have hjw:j*eK k<=32*1073741824:=Nat.mul_le_mul U hwk;have eZ:oU (z-1)=((k:Nat):Int):=by rw[hz,wrap64 U U];omega
  have eU:oU ((j:Int)*zu)=((j*eK k:Nat):Int):=by rw[hzu,<-Int.natCast_mul,wrap64 U U]
  have eD:oU (zn-((j*eK k:Nat):Int))=zn-((j*eK k:Nat):Int):=wrap64 U U;have e0:oU (0-((j*eK k:Nat):Int))=0-((j*eK k:Nat):Int):=wrap64 U U;have eJ1:oU ((j:Int)+1)=((j+1:Nat):Int):=by rw[wrap64 U U];omega
  have eJ:oU (32*(j:Int))=((32*j:Nat):Int):=by rw[wrap64 U U];omega
  have eJJ:oU (((32*j:Nat):Int)+32)=((32*j+32:Nat):Int):=by rw[wrap64 U U];omega
  have hjn:j<c->j*eK k<n:=λh=>bG0 (by rw[<-Y];exact h);have eS:j<c->(if zn-((j*eK k:Nat):Int)<zu then zn-((j*eK k:Nat):Int)else zu)=((min (eK k) (n-j*eK k):Nat):Int):=λh=>by have:=hjn h;split<;>omega
  have hpz:=CO x kd k (min (eK k)<|n-j*eK k) (piece d j)<|Fm _ _;rw[<-w6]at hpz;have hsj:=kZ j;have hpc:d.extract (32*j) (32*j+32)=piece d j:=rfl;refine ao (Nd x kd<|k+1) L0 [2,3,4,5,6,7,8,20,22,23,24,25] [16,17,10024] (let bH:=oU (32*(j:Int))+32;let cp:=(j:Int)*zu;let V:=zn-oU cp;let aG:=if oU V<zu then oU V else zu;let bn:=if aG<if 0>oU (0-oU cp) then 0 else oU (0-oU cp) then if oU V<zu then oU V else zu else if 0>oU (0-oU cp) then 0 else oU (0-oU cp);let cu:=oU (z-1);let Z:=BG x kd cu.toNat aG.toNat (d.extract (oU<|32*(j:Int)).toNat (oU bH).toNat);let aS:nV:=(.u (Z.snd) 0 (kG (M 135 [(16,S (n_:y_)),(17,I Z.snd)]) [])<|.o [(out j).size+Z.fst.size<=9223372036854775807]<|bR (M 135 [(2,I kd),(3,I z),(4,I zn),(5,I 0),(6,I zn),(7,Bo true),(8,aT),(20,S d),(22,I zu),(23,I c),(24,S<|out j++Z.fst),(25,I<|oU<|(j:Int)+1)]) [cM [(aY.cells x)] 2]);(.d ((j:Int)<c) (.o [(0:Int)<=oU (32*(j:Int)),oU (32*(j:Int))<=oU bH,oU bH<=(d.size:Int),J.agg [I x.cap,J.rf x.aU.n λi=>aY.cells (x.aU.f i)]=(af ay).au x,I kd=I kd,oU (z-1)=(cu.toNat:Int),aG=(aG.toNat:Int),I bn=I 0,I (if aG<if 0>oU V then 0 else oU V then if oU V<zu then oU V else zu else if 0>oU V then 0 else oU V)=I aG,Bo true=Bo true,aI9 (k+1) cu.toNat aG.toNat]<|.d (bn>=if aG<if 0>oU V then 0 else oU V then if oU V<zu then oU V else zu else if 0>oU V then 0 else oU V) (.s .fN aS) aS)<|fv 0 (M 135 [(24,S<|out j)]) [])) ?_;have JV:=@decide_eq_true_iff (er j≠0) _
  ((try dsimp only);simp only[eZ,eU,eJ1,eJ,eJJ,eD,e0,Int.toNat_natCast,hpc];clear eZ eU eJ1 eJ eJJ eD e0 hpc)
  simp only[av]
  (repeat' with_reducible first|intro _|apply aNd_)<;>first|exact aM|(have h:j<c:=U;have hj:=hjn h;refine ba I ?_;rw[eS h];(repeat' split)<;>omega)|(have h:j<c:=U;rw[eS h,dL];exact⟨U,U,Fm _ _⟩)|(have h:j<c:=U;rename_i hq;rw[eS h,dL]at hq⊢;have g:=nq h (cd (by rw[Jw];exact hq));rw[Jw j]at g;exact g)|(have h:j<c:=U;rename_i hq;rw[eS h,dL]at hq⊢;have g:=nC h (fq (by rw[Jw];exact cI hq));rw[TQ]at g;exact g)|(have h:j<c:=U;rw[eS h,dL];omega)|(have e:j=c:=U;subst e;exact lO rfl)
 exact lp
section
variable {x:ay}{kd:Int}{n:Nat}{s:y_}
def aJ0(h:jJ x s kd≠0):ji x kd 0 n s=(n_,jJ x s kd):=if_pos h
def ac4(h:jJ x s kd=0)(h2:(aZ x s kd).size≠n):ji x kd 0 n s=(n_,2):=by unfold ji;rw[if_neg U,if_pos h2]
def ac5(h:jJ x s kd=0)(h2:(aZ x s kd).size=n):ji x kd 0 n s=(aZ x s kd,0):=by unfold ji;rw[if_neg U,if_neg U]
def aJ1(x:ay)(kd:Int)(n:Nat)(s:y_)(hx:fc x)(hk:wf kd)(hm:CP x kd 0)(zn:Int)(hzn:zn=(n:Int)):Ok P 283 [(af ay).au x,S s,I kd,I 0,I zn,I 0,I zn,Bo true] (.bg [S (ji x kd 0 n s).1,I (ji x kd 0 n s).2]):=by
 have hb:ac2 (x,s,kd):=⟨hk,hx⟩
 refine al (Nd x kd 0) L0 (let Z:=(↑(aZ x s kd).size:Int);let V:=(n_:y_);(.k (a3 (af ay) aQ bx) (x,s,kd) (ac2 (x,s,kd))<|.s .fN<|.u (jJ x s kd) 0 (.e<|J.bg [S V,I<|jJ x s kd])<|.u Z zn (.e<|J.bg [S V,I 2])<|.o [(0:Int)<=0,(0:Int)<=zn,zn<=Z]<|.e<|J.bg [S<|(aZ x s kd).extract 0 zn.toNat,I 0])) ?_;simp only[av]
 (repeat' with_reducible first|intro _|apply aNd_)<;>first|exact aM|(rw[aJ0 W])|(rw[ac4 W U])|(rw[Xg rfl U,ac5 W U])
def bX6(c:Nat)(er:Nat->Int)(out:Nat->y_):gD:=iy [2,3,4,5,6,7,8,20,22,23,24,25] c (λj=>decide (er j≠0)) (λj=>(M 135 [(16,S n_),(17,I<|er j)])) (M 135 [(24,S<|out c)]) (.ext 0) (λ_=> []) []
def ac6 (x:ay) (kd:Int) (k n:Nat) (s:y_) (hx:fc x) (hm:CP x kd (k+1)) (hk:k+1<=2) (hn:n<=eK (k+1)) (c:Nat) (Y:c=Nc n (eK k)) (out:Nat->y_) (er:Nat->Int) (h0:out 0=n_) (TQ:∀j,out (j+1)=out j++(BG x kd k (min (eK k)<|n-j*eK k)<|piece (aZ x s 2) j).1) (Jw:∀j,er j=(BG x kd k (min (eK k)<|n-j*eK k)<|piece (aZ x s 2) j).2) (kZ:∀j,(out j).size<=j*eK k) (z zn:Int) (hz:z=((k+1:Nat):Int)) (hzn:zn=(n:Int)) (r:RR)
  (R8:jJ x s 2≠0->r=(n_,jJ x s 2)) (Je:jJ x s 2=0->(aZ x s 2).size≠32*c->r=(n_,2)) (hr3:jJ x s 2=0->(aZ x s 2).size=32*c->ar c (λj=>decide (er j≠0))=true->r=(n_,er<|aE c λj=>decide (er j≠0))) (S5:jJ x s 2=0->(aZ x s 2).size=32*c->ar c (λj=>decide (er j≠0))=false->r=(out c,0)):
  Ok P 283 [(af ay).au x,S s,I kd,I z,I zn,I 0,I zn,Bo true] (.bg [S r.1,I r.2]):=by
 have bh4:=TY hn;rw[<-Y]at bh4;have hw1:=ta k;have hwk:=Ht (show k<=4 by omega);have GR:=kU k;have hb:ac2 (x,s,2):=⟨⟨show(-9223372036854775808:Int)<=2 by decide,show(2:Int)<=9223372036854775807 by decide⟩,hx⟩
 have lp:=λhd=>ac3 x kd k n (aZ x s 2) hm hk hn c Y hd out er TQ Jw kZ z zn ((eK k:Nat):Int) hz hzn rfl;rw[h0]at lp;have eZ:oU (z-1)=((k:Nat):Int):=by rw[hz,wrap64 U U];omega
 have eW:eK k-1+1=eK k:=U;have eN:oU (oU (zn+((eK k:Nat):Int))-1)=((n+eK k-1:Nat):Int):=by rw[hzn,wrap64 (x:=(n:Int)+((eK k:Nat):Int)) U U,wrap64 U U];omega
 have eC:oU (((n+eK k-1:Nat):Int).tdiv ((eK k:Nat):Int))=((c:Nat):Int):=by rw[show((n+eK k-1:Nat):Int).tdiv ((eK k:Nat):Int)=((Nc n (eK k):Nat):Int)from rfl,<-Y,wrap64 U U]
 have e32:oU (32*((c:Nat):Int))=((32*c:Nat):Int):=by rw[wrap64 U U];omega
 have hwo:R7 ((k:Nat):Int):=by unfold R7;omega
 refine al (Nd x kd<|k+1) (bX6 c er out) (let aG:=S (n_:y_);let bn:=oU (z-1);let V:=(↑(eK bn.toNat-1+1):Int);let aS:=(oU<|oU (zn+V)-1).tdiv V;let Z:=(M 135 [(2,I kd),(3,I z),(4,I zn),(5,I 0),(6,I zn),(7,Bo true),(8,aT),(20,S<|aZ x s 2),(22,I V),(23,I<|oU aS),(24,aG),(25,I 0)]);let bH:=a3 (af ay) aQ bx;let cp:=(↑(aZ x s kd).size:Int);let cu:=[cM [(aY.cells x)] 2];let dk:=aD Tryz.f283 17;(.q z 0 (.k bH (x,s,kd) (ac2 (x,s,kd))<|.u (jJ x s kd) 0 (.e<|J.bg [aG,I<|jJ x s kd])<|.u cp zn (.e<|J.bg [aG,I 2])<|.o [(0:Int)<=0,(0:Int)<=zn,zn<=cp]<|.e<|J.bg [S<|(aZ x s kd).extract 0 zn.toNat,I 0])<|.k bH (x,s,2) (ac2 (x,s,2))<|.u (jJ x s 2) 0 (.e<|J.bg [aG,I<|jJ x s 2])<|.k (a1 bx) bn (R7 bn)<|.u (↑(aZ x s 2).size:Int) (oU<|32*oU aS) (.e<|J.bg [aG,I 2])<|.n (ar c λj=>decide (er j≠0)) (.o [ax P dk Z cu (Out.ret) (M 135 [(16,aG),(17,I<|er<|aE c λj=>decide (er j≠0))]) []]<|.e<|J.bg [aG,I<|er<|aE c λj=>decide (er j≠0)])<|.o [ax P dk Z cu (Out.ext 0) (M 135 [(24,S<|out c)]) []]<|.e<|J.bg [S<|out c,I 0])) ?_;try dsimp only
 simp only[eZ,dL,eW,eN,eC,e32];simp only[av]
 (repeat' with_reducible first|intro _|apply aNd_)<;>first|exact aM|(rw[R8 W])|(rw[Je W U])|(rw[hr3 W U W])|(rw[S5 W U W])
end
def aJ2(x:ay)(kd:Int)(k n:Nat)(s:y_)(hx:fc x)(hm:CP x kd (k+1))(hk:k+1<=2)(hn:n<=eK (k+1)):Ok P 283 [(af ay).au x,S s,I kd,I ((k+1:Nat):Int),I n,I 0,I n,Bo true] (.bg [S (ji x kd (k+1) n s).1,I (ji x kd (k+1) n s).2]):=by
 refine ac6 x kd k n s hx hm hk hn _ rfl (λj=>Qx (λj=>ji x kd k (min (eK k)<|n-j*eK k) (piece (aZ x s 2) j)) j) (λj=>(ji x kd k (min (eK k)<|n-j*eK k)<|piece (aZ x s 2) j).2) rfl (λj=>by rw[w6];rfl) (λj=>by rw[w6]) (λj=> ?_) _ _ rfl rfl (ji x kd (k+1) n s) ?_ ?_ ?_ ?_
 .exact CN (f:=λj=>ji x kd k (min (eK k)<|n-j*eK k) (piece (aZ x s 2) j)) (λj=>CO x kd k _ _ (Fm _ _)) j
 .intro h;unfold ji;rw[if_pos h]
 .intro h h3;unfold ji;rw[if_neg U,if_pos h3]
 .intro h h3 h4
  conv=>lhs;unfold ji
  rw[if_neg U,if_neg U];unfold TX;rw[if_pos h4]
 .intro h h3 h4
  conv=>lhs;unfold ji
  rw[if_neg U,if_neg U];unfold TX;rw[if_neg (by rw[h4];exact dj)]
theorem aJ3(x:ay)(kd:Int)(hx:fc x)(hk:wf kd):∀m,CP x kd m
 |0=>λ_ _ _ h=>absurd h.2.1 (jC _)
 |m+1=>λk n s h=>by
  have ih:=aJ3 x kd hx hk m;rcases fA k m with q|q
  .exact ih k n s ⟨h.1,q,h.2.2⟩
  .have e:k=m:=by have:=h.2.1;omega
   subst e;cases k with
   |zero=>exact aJ1 x kd n s hx hk ih _ rfl
   |succ k=>exact aJ2 x kd k n s hx ih h.1 h.2.2
theorem Nf {L:Nat}(h:1<=L):∀k,ry L k=Nc L (eK k)
 |0=>by
  show zN L=Nc L (eK 0);rw[show eK 0=1024 by decide];unfold zN Nc;omega
 |k+1=>by show I6 (ry L k)=_;rw[Nf h k,kU];unfold I6 Nc;have hw:=ta k;generalize eK k=w at hw;have e1:(L+w-1)/w+31=(L+w-1+31*w)/w:=(LU _ _ hw).symm;rw[e1,Nat.div_div_eq_div_mul];congr 1;omega
def aJ4 {L:Nat}(h:L<=1048576):L<=eK (yP L):=by
 by_cases h0:L=0
 .omega
 .have O:=M5 h;rw[Nf U]at O;unfold Nc at O;have hw:=ta<|yP L;generalize eK (yP L)=w at O hw;have h2:L+w-1<2*w:=(ES hw).1 U;omega
def cW(x:ay)(kd:Int)(r:jl):RR:=if iY r=false then(n_,2)else ji x kd r.eB.toNat r.length.toNat r.bM
def ERC(x:ay)(kd:Int):Env:=aF 242 (bN (a1<|af jl) λr=>Bo (iY r))<|ERd x kd 3
def bG1(x:ay)(kd:Int)(hx:fc x:=by assumption)(hk:wf kd:=by assumption):an P (ERC x kd):=ah (Nd x kd 3<|aJ3 x kd hx hk 3) λr _=>Qj r
def aJ5(x:ay)(kd:Int)(r:jl)(hx:fc x)(hk:wf kd):Ok P 243 [(af ay).au x,I kd,(af jl).au r] (.bg [S (cW x kd r).1,I (cW x kd r).2]):=by
 have hrt:iY r=true->(r.bM.size=32/\(0<=r.length/\r.length<=1048576)/\r.eB=yP r.length.toNat):=λh=>cn h;have hp:iY r=true->aI9 3 r.eB.toNat r.length.toNat:=λh=>by obtain⟨_,h2,h3⟩:=hrt h;have h4:=zE r.length.toNat;have h5:r.eB.toNat=yP r.length.toNat:=U;exact⟨U,U,by rw[h5];exact aJ4 U⟩
 refine al (bG1 x kd) L0 (let Z:=BG x kd r.eB.toNat r.length.toNat r.bM;(.v (a1<|af jl) r<|.m (iY r) (.e<|J.bg [S (n_:y_),I 2])<|.o [J.agg [I x.cap,J.rf x.aU.n λi=>aY.cells (x.aU.f i)]=(af ay).au x,I kd=I kd,r.eB=(r.eB.toNat:Int),r.length=(r.length.toNat:Int),I 0=I 0,I r.length=I r.length,Bo true=Bo true,aI9 3 r.eB.toNat r.length.toNat]<|.e<|J.bg [S Z.fst,I Z.snd])) ?_;simp only[av]
 (repeat' with_reducible first|intro _|apply aNd_)<;>first|exact aM|(unfold cW;rw[if_pos W])|(have h:=hrt W;omega)|exact hp W|(unfold cW;rw[if_neg<|by simp_all,w6])
theorem Qy {f:Nat->l_ (l_ J)->PR} {g:Nat->RR} {c:Nat}(h:∀j l,j<c->(f j l).1=(g j).1/\(f j l).2.1=(g j).2)(sn:l_ (l_ J)):∀j,j<=c->(sH f sn j).1=Qx g j
 |0,_=>rfl
 |j+1,hj=>by have O:=Qy h sn j U;show(sH f sn j).1++(f j (sH f sn j).2).1=Qx g j++(g j).1;rw[O,(h j _ U).1]
def aJ6 {f:Nat->l_ (l_ J)->PR} {g:Nat->RR} {c:Nat}(h:∀j l,j<c->(f j l).1=(g j).1/\(f j l).2.1=(g j).2)(sn:l_ (l_ J)):(Qk f sn c).1=(TX g c).1/\(Qk f sn c).2.1=(TX g c).2:=by
 have hb:∀j,j<c->Jv f sn j=decide ((g j).2≠0):=λj hj=>by unfold Jv atW;rw[(h j _ hj).2]
 have ha:=ng hb;unfold Qk TX;cases Y:ar c (Jv f sn)with
 |true=>
  rw[ha]at Y;rw[if_pos rfl,if_pos Y];have l1:=dw.2 Y;have hf:aE c (Jv f sn)=aE c λj=>decide ((g j).2≠0):=ru l1 (by rw[hb _ l1];exact dC l1) λj hj=>by rw[hb j U];exact gy hj
  rw[hf];exact⟨rfl,(h _ _ l1).2⟩
 |false=>
  rw[ha]at Y;rw[if_neg dj,if_neg (by rw[Y];exact dj)];exact⟨Qy h sn c<|bE _,rfl⟩
theorem Ky(x:ay)(kd:Int) {L:Nat}(O:1<=L)(hL:L<=1048576):∀k s i sn,i<ry L k->(fx x kd L k s i sn).1=(ji x kd k (min (eK k)<|L-i*eK k) s).1/\(fx x kd L k s i sn).2.1=(ji x kd k (min (eK k)<|L-i*eK k) s).2
 |0,s,i,sn,hi=>by
  have e:qv L 0 i=min (eK 0) (L-i*eK 0):=by rw[show eK 0=1024 by decide];show min 1024 (L-1024*i)=_;omega
  unfold fx ji;rw[e];split
  .exact⟨rfl,rfl⟩
  .split<;>exact⟨rfl,rfl⟩
 |k+1,s,i,sn,hi=>by
  have hw:=ta k;have hb:=Nf O k;have Wa:i<I6 (ry L k):=hi;have hi3:32*i<ry L k:=by unfold I6 at Wa;omega
  have e1:i*eK (k+1)=32*i*eK k:=by rw[kU,xx (eK k) 32,<-Nat.mul_assoc,xx i 32]
  have iH:=Hu O k (32*i) hi3;have ec:Nc (min (eK<|k+1)<|L-i*eK (k+1)) (eK k)=min 32 (ry L k-32*i):=by
   rw[e1,hb,kU];unfold Nc;generalize eK k=w at hw iH;have q1:(L+w-1)/w-32*i=(L-32*i*w+w-1)/w:=by have:L+w-1=(L-32*i*w+w-1)+32*i*w:=U;rw[this,LU _ _ hw,Nat.add_sub_cancel]
   rw[q1];rcases Nat.le_total (w*32) (L-32*i*w)with h|h
   .rw[Nat.min_eq_left h,show w*32+w-1=(w-1)+32*w by omega,LU _ _ hw,Nat.div_eq_of_lt U];have:32<=(L-32*i*w+w-1)/w:=(Nat.le_div_iff_mul_le hw).2 U;omega
   .rw[Nat.min_eq_right h];have:(L-32*i*w+w-1)/w<33:=(ES hw).2 U;omega
  have ee:qv L (k+1) i=32*Nc (min (eK<|k+1)<|L-i*eK (k+1)) (eK k):=by rw[ec];rfl
  have e32:qv L (k+1) i/32=Nc (min (eK<|k+1)<|L-i*eK (k+1)) (eK k):=U;unfold fx ji;rw[e32,ee];split
  .exact⟨rfl,rfl⟩
  .split
   .exact⟨rfl,rfl⟩
   .refine aJ6 (λj l hj=> ?_) _;rw[ec]at hj;have ih:=Ky x kd O hL k (piece (aZ x s 2) j) (32*i+j) l U;have em:min (eK k) (L-(32*i+j)*eK k)=min (eK k) (min (eK<|k+1) (L-i*eK (k+1))-j*eK k):=by
     rw[e1,kU,ed];have:j*eK k+eK k<=eK k*32:=by have:=il (eK k) (show j+1<=32 by omega);rw[ed,sO]at this;omega
     omega
    rw[em]at ih;exact ih
def yc(x:ay)(kd:Int)(r:jl)(sn:l_ (l_ J)):(dI x kd r sn).1=(cW x kd r).1/\(dI x kd r sn).2.1=(cW x kd r).2:=by
 unfold dI cW;split
 .exact⟨rfl,rfl⟩
 .rename_i h;have h2:iY r=true:=by grind
  obtain⟨h3,h4,h5⟩:r.bM.size=32/\(0<=r.length/\r.length<=1048576)/\r.eB=yP r.length.toNat:=cn h2;split
  .rename_i h0;have e0:r.length.toNat=0:=U;have e1:r.eB.toNat=0:=by rw[h5,e0];decide
   rw[e0,e1];unfold ji;by_cases hb:jJ x r.bM kd=0
   .rw[if_neg (show ¬(jJ x r.bM kd≠0)from cI hb)];by_cases hz:aZ x r.bM kd=⟨#[]⟩
    .rw[if_neg λq=>q.2 hz,hz,if_neg (show ¬((n_:y_).size≠0)from cI rfl)];exact⟨rfl,hb⟩
    .rw[if_pos ⟨hb,hz⟩,if_pos (show(aZ x r.bM kd).size≠0 from λq=>hz (sK<|LS q))];exact⟨rfl,rfl⟩
   .rw[if_neg λq=>hb q.1,if_pos hb];exact⟨rfl,rfl⟩
  .rename_i h0;have hl:r.eB.toNat=yP r.length.toNat:=U;have:=Ky x kd (L:=r.length.toNat) U U r.eB.toNat r.bM 0 sn (by rw[hl,M5 U];omega);rw[sP,u3,Nat.min_eq_right (by rw[hl];exact aJ4 U)]at this;exact this
def rB0(x:ay)(k n:Nat):dW:=⟨[[I x.cap,(ak eF).au x.aU,.bf k n]],0,[],3,false,false⟩
def TZ(a b:J):dR (.ptr 0 0 0,[⟨[[a,b,.dF]],0,[],3,false,false⟩]) (.ptr 0 0 0,[⟨[[a,b,.bf 1 0]],0,[],3,false,false⟩,⟨[],0,[],1,true,false⟩]):=dR.dF (h:=[⟨[[a,b,.dF]],0,[],3,false,false⟩]) 0 0 2 1 rfl rfl rfl rfl (by intro X hX;simp only[mq]at hX;subst hX;exact⟨rfl,show(0:Nat)≠1 by decide⟩)
def Ng(x:ay):kD P 147 [(af ay).au x] [] (.ptr 0 0 0) [rB0 x 1 0,sB [] false]:=by
 refine cK aw L0 (.e (aT,[cM [[I x.cap,(ak eF).au x.aU,J.dF]] 3])) ?_;simp only[av]
 repeat' with_reducible first|intro _|apply aNd_
 all_goals exact TZ _ _
def bh5 {w:World} {S:Nat->Prop} {m:Mp} {cs:l_ J} {vs:Array Value}(h:cv w S m (.bg cs) (.tuple vs)):∀(i:Nat) c v,cs[i]?=some c->vs[i]?=some v->cv w S m c v:=by
 cases h with
 |st _ _ h=>cases h with
  |bg _ _ hl Y=>exact λi c v O h2=> .st _ _<|Y i c v O h2
 |bg _ _ hl Y=>exact Y
def T4 {w0:fR} {Sa:Nat->Prop} {T T':l_ J} {h h':Hp} {a:Act} {w:World}(hle:dR (.bg T,h) (.bg T',h'))(hl:T'.length=T.length)(iu:St w0 Sa T h a w):St w0 Sa T' h' a w:=by
 obtain⟨S,m,hI,hT,hd⟩:=iu;obtain⟨m',g1,g2⟩:=hle w0 Sa S m w (.tuple a.tmps) hI (.bg _ _ hT.1 λi c v O h2=>by have:=hT.2 i c O;rw[mn,h2]at this;exact this)
 refine⟨S,m',g1,⟨hl.trans hT.1,λt p ht=> ?_⟩,hd⟩;have iH:t<a.tmps.size:=by have:=(bm.1 ht).1;rw[hl,hT.1]at this;exact this
 rw[mn,jc iH];exact bh5 g2 t p _ ht<|jc iH
def aJ7(z j:Nat)(h:Hp):Option Hp:=match h[j]? with
 |some ⟨[[p,.dF,q]],st,par,sz,false,gV⟩=>some (h.set j ⟨[[p,.bf h.length 0,q]],st,par,sz,false,gV⟩++ [⟨[],0,[],z,true,false⟩])
 |_=>none
def ac7 {z j:Nat} {h h':Hp}(r:J)(hn:aJ7 z j h=some h')(hp:∀X∈h,X.par=[]/\X.st≠1):dR (r,h) (r,h'):=by
 unfold aJ7 at hn;split at hn
 .rename_i p q st par sz gV hj;cases hn;exact dR.dF j 0 1 z hj rfl rfl rfl hp
 .cases hn
def calm(h:Hp):Bool:=h.all λX=>X.par.isEmpty&&X.st !=1
def Qz {h:Hp}(Y:calm h=true):∀X∈h,X.par=[]/\X.st≠1:=by intro X hX;have:=cU.1 Y X hX;rw[fG]at this;exact⟨LV.1 this.1,by simpa using this.2⟩
def bG2(E:Env)(k z:Nat)(id:Nat)(ops:Array Oper)(dr:Bool)(T:l_ J)(h:Hp):Option (l_ J×Hp×l_ Prop):=match id==k with
 |true=>match rq P E ops dr T h []with
  |some (T',h',ob,[])=>match aJ7 z (h'.length-1) h' with
   |some h2=>some (T',h2,(calm h'=true)::ob.map Ob.holds)
   |none=>none
  |_=>none
 |false=>none
def bh6 {E:Env}(hE:an P E)(N:E.r=λ_ _ _ _ _=>none)(k z:Nat)(id:Nat)(ops:Array Oper)(dr:Bool)(T:l_ J)(h:Hp)(T':l_ J)(h':Hp)(ob:l_ Prop)(hd:bG2 E k z id ops dr T h=some (T',h',ob))(cJ:∀X∈ob,X):tz P id ops dr T h T' h':=by
 unfold bG2 at hd;split at hd
 .split at hd
  .rename_i T1 O tX F;split at hd
   .rename_i h2 hn;cases hd;intro w0 Sa a w Q hG iu hQ;refine lN (E:=E) (L:=L0) (c:= .region id ops dr) (T':=T') (h':=O) (s:=[]) (s':=[]) (o:= .norm) (ob:=tX) hE hG ?_ ?_ iu ?_
    .simp only[exec,N,F]
    .intro X hX;exact cJ _<|fh _<|jB.2 ⟨X,hX,rfl⟩
    .intro a' w' ko;exact hQ a' w'<|T4 (ac7 _ hn<|Qz<|cJ _ ch) rfl ko
   .cases hd
  .cases hd
 .cases hd
end
end Go.Proofs.YtnpcbfcfcjdhlaaGreatDoor
namespace Go.Proofs
open Go.Shelf
def ac8:Go.Shelf.Ren:=⟨λ|6=>217|15=>269|14=>268|28=>310|29=>311|20=>302|21=>303|22=>304|23=>305|24=>306|25=>307|26=>308|27=>309|46=>336|47=>337|48=>338|49=>339|50=>340|57=>355|n=>n,λ|22=>38|24=>67|25=>318|3=>3|39=>349|0=>0|53=>382|55=>366|4=>4|46=>375|45=>374|50=>379|5=>5|9=>9|66=>400|70=>404|76=>417|77=>418|n=>n,λ|n=>n⟩
def Tryz.gA:Go.Proofs.SlLaysF0.n6 Tryz.prog ac8:= {
 mixed:=kK
 f6:=⟨ "slices.SortFunc[[]filespace/api.Node,filespace/api.Node]",by decide,func217.trans (ba some kK)⟩
 f14:=⟨ "slices.pdqsortCmpFunc[filespace/api.Node]",by decide,func268.trans (ba some kK)⟩
 f15:=du func269
 f20:=⟨ "slices.insertionSortCmpFunc[filespace/api.Node]",by decide,func302.trans (ba some kK)⟩
 f21:=⟨ "slices.heapSortCmpFunc[filespace/api.Node]",by decide,func303.trans (ba some kK)⟩
 f22:=⟨ "slices.breakPatternsCmpFunc[filespace/api.Node]",by decide,func304.trans (ba some kK)⟩
 f23:=⟨ "slices.choosePivotCmpFunc[filespace/api.Node]",by decide,func305.trans (ba some kK)⟩
 f24:=⟨ "slices.reverseRangeCmpFunc[filespace/api.Node]",by decide,func306.trans (ba some kK)⟩
 f25:=⟨ "slices.partialInsertionSortCmpFunc[filespace/api.Node]",by decide,func307.trans (ba some kK)⟩
 f26:=⟨ "slices.partitionEqualCmpFunc[filespace/api.Node]",by decide,func308.trans (ba some kK)⟩
 f27:=⟨ "slices.partitionCmpFunc[filespace/api.Node]",by decide,func309.trans (ba some kK)⟩
 f28:=du func310
 f29:=du func311
 f46:=⟨ "slices.siftDownCmpFunc[filespace/api.Node]",by decide,func336.trans (ba some kK)⟩
 f47:=du func337
 f48:=du func338
 f49:=⟨ "slices.medianAdjacentCmpFunc[filespace/api.Node]",by decide,func339.trans (ba some kK)⟩
 f50:=⟨ "slices.medianCmpFunc[filespace/api.Node]",by decide,func340.trans (ba some kK)⟩
 f57:=⟨ "slices.order2CmpFunc[filespace/api.Node]",by decide,func355.trans (ba some kK)⟩
 t0:=underlying0
 a0:=isAgg0
 z0:=sizeOf0
 v0:=zeroValue0
 t3:=underlying3
 a3:=isAgg3
 z3:=sizeOf3
 v3:=zeroValue3
 t4:=underlying4
 a4:=isAgg4
 z4:=sizeOf4
 v4:=zeroValue4
 t5:=underlying5
 a5:=isAgg5
 z5:=sizeOf5
 v5:=zeroValue5
 t9:=underlying9
 a9:=isAgg9
 z9:=sizeOf9
 v9:=zeroValue9
 t22:=underlying38
 a22:=isAgg38
 z22:=sizeOf38
 v22:=zeroValue38
 t25:=underlying318
 a25:=isAgg318
 z25:=sizeOf318
 v25:=zeroValue318
 t39:=underlying349
 a39:=isAgg349
 z39:=sizeOf349
 v39:=zeroValue349
 t45:=underlying374
 a45:=isAgg374
 z45:=sizeOf374
 v45:=zeroValue374
 t46:=underlying375
 a46:=isAgg375
 z46:=sizeOf375
 v46:=zeroValue375
 t50:=underlying379
 a50:=isAgg379
 z50:=sizeOf379
 v50:=zeroValue379
 t53:=underlying382
 a53:=isAgg382
 z53:=sizeOf382
 v53:=zeroValue382
 t55:=underlying366
 a55:=isAgg366
 z55:=sizeOf366
 v55:=zeroValue366
 t66:=underlying400
 a66:=isAgg400
 z66:=sizeOf400
 v66:=zeroValue400
 t70:=underlying404
 a70:=isAgg404
 z70:=sizeOf404
 v70:=zeroValue404
 t76:=underlying417
 a76:=isAgg417
 z76:=sizeOf417
 v76:=zeroValue417
 t77:=underlying418
 a77:=isAgg418
 z77:=sizeOf418
 v77:=zeroValue418}
end Go.Proofs
namespace Go.Proofs.YtnpcbfcfcjdhlaaGreatDoor
open Go.PS Wf Go.RowKit Go.Sort Go.Lib
def pY(x:aV):l_ Value:=[.int .i64 x.id,.int .i64 x.bo,.int .i64 x.vr,.string x.name,.int .i64 x.mode,.string x.Sg,.string x.Sf,.string x.wR,.int .i64 x.nz,.int .i64 x.nA,.string x.data]
def aJ8(x y:aV):Int:=Lib.compareInt x.id y.id
def ac9(x y:aV)(cj2:World):Calls P 218 #[.agg #[.int .i64 x.id,.int .i64 x.bo,.int .i64 x.vr,.string x.name,.int .i64 x.mode,.string x.Sg,.string x.Sf,.string x.wR,.int .i64 x.nz,.int .i64 x.nA,.string x.data],.agg #[.int .i64 y.id,.int .i64 y.bo,.int .i64 y.vr,.string y.name,.int .i64 y.mode,.string y.Sg,.string y.Sf,.string y.wR,.int .i64 y.nz,.int .i64 y.nA,.string y.data]] cj2 λe w'=>e= .returned (.int .i64<|aJ8 x y)/\∃q os',w'=grow (cj2.drewN q) os':=by
 have bX7:=λW'=>cmp_Compare_int x.id y.id W';have Y:aJ8 x y=Lib.compareInt x.id y.id:=rfl;rw[Y];generalize Lib.compareInt x.id y.id=r at bX7⊢;clear Y;go_enter func218,ntmps218
 go_wp2_with (go_at_call 219;refine(bX7 _).mono ?_;rintro e w' ⟨rfl,rfl⟩)
 go_ret;exact⟨rfl,0,_,by rw[alloc_eq_grow,alloc_eq_grow,grow_grow];rfl⟩
def aJ9(x y:aV)(cj2:World):Calls P 218 #[.agg (pY x).toArray,.agg (pY y).toArray] cj2 λe w'=>e= .returned (.int .i64<|aJ8 x y)/\∃q os',w'=grow (cj2.drewN q) os':=ac9 x y cj2
def ltN(x y:aV):Bool:=decide<|x.id<y.id
def aK0:Go.Proofs.ltOf aJ8=ltN:=by
 funext x y;show decide (Lib.compareInt x.id y.id<0)=decide (x.id<y.id);rw[oM];unfold Lib.compareInt;split
 .simp_all
 .split<;>simp_all
def Xo:SWO ltN:=⟨λx=>by unfold ltN;simp,λx y z O h2=>by unfold ltN at*;simp at*;omega,λx y z O h2=>by unfold ltN at*;simp at*;omega⟩
instance:Inhabited aV:=⟨⟨0,0,0,n_,0,n_,n_,n_,0,0,n_⟩⟩
def gA(d:Array aV):Array aV:=pdq ltN d 0 d.size (Lib.bitLen d.size) true true
def T5(oq off cap:Nat)(d:Array aV)(w:World)(hH:HoldsK pY 11 w oq off d)(hblk:oq<w.heap.size)(kZ:d.size<4611686018427387904):
  Calls P 217 #[.slice (some ⟨oq,off,none⟩) d.size cap,.func (.func 218) #[] #[]] w λe w'=>e= .returned (.tuple #[])/\∃n os,w'=sortWorldK pY 11 w oq off n (gA d) os:=by
 have eg:∀args w,(callFunc 218 args).run P w= .ok (.enter 218 args) w:=sS;have h:=AnyQ.slices_SortFunc_eq Tryz.gA 11 isAgg67 sizeOf67 pY (λ_=>rfl) (λx v hv=>by simp [pY]at hv;rcases hv with rfl|rfl|rfl|rfl|rfl|rfl|rfl|rfl|rfl|rfl|rfl<;>rfl) aJ8 (by rw[aK0];exact Xo) 218 #[] oq off cap d w eg (λ_ _ _ _ x y=>aJ9 x y _) hH hblk kZ;rw[aK0]at h;exact h
end Go.Proofs.YtnpcbfcfcjdhlaaGreatDoor
namespace Go.Proofs.YtnpcbfcfcjdhlaaGreatDoor
section
open Go.PS Wf Go.RowKit
def Inv.Xp {w0:fR} {w:World} {Sa S:Nat->Prop} {h:Hp} {m:Mp} (hI:Inv w0 Sa h S m w) {id b o z:Nat} {B:dW} {c c':Array Value} {et:TypeId} {es':l_ (l_ J)} (hB:h[id]?=some B) (cy:B.st=0) (hp:B.par=[]) (hm:m[id]?=some (b,o,z)) (hb:w.heap[b]?=some (.cells c et (0,0))) (nP:B.es≠ [])
  (kZ:c'.size=c.size) (hlen:es'.length=B.es.length) (hz:∀e∈es',e.length=z) (vd:B.sym=true->oA es') (Tf:∀(i j:Nat) e p v,es'[i]?=some e->e[j]?=some p->c'[o+i*z+j]?=some v->∀w2 S2,cf w2 S2 p v):
  Inv w0 Sa (h.set id {B with es:=es'}) S m (w.setRow b c'):=by
 have ub:Rl B.es z:= .inl nP;obtain⟨zy,SD⟩:=hI.live id B b o z hB cy hm ub;have zd:=setRow_heap w b c c' et (0,0) hb;have jD:∀k,k≠b->(w.setRow b c').heap[k]?=w.heap[k]?:=λk hk=>setRow_other w b k _ hk;have hL:mi w S (w.setRow b c') S:=⟨λ_ h=>h,λk hk=>jD k (λe=>SD (e▸hk)),λk ck etk hk=>by
  by_cases I8:k=b
  .subst I8;rw[hb]at hk;cases hk;exact⟨c',zd,kZ⟩
  .exact⟨ck,(jD k I8).trans hk,rfl⟩⟩
 have jW:∀ {q:Nat} {X:dW},(h.set id {B with es:=es'})[q]?=some X->(q=id/\X= {B with es:=es'})\/(q≠id/\h[q]?=some X):=by
  intro q X hq;rw[cD]at hq;by_cases qV:id=q
  .subst qV;rw[if_pos rfl,if_pos (bm.1 hB).1]at hq;cases hq;exact .inl ⟨rfl,rfl⟩
  .rw[if_neg qV]at hq;exact .inr ⟨λe=>qV e.symm,hq⟩
 have back:∀ {q:Nat} {X:dW},(h.set id {B with es:=es'})[q]?=some X->∃cj3,h[q]?=some cj3/\cj3.st=X.st/\cj3.par=X.par/\cj3.sz=X.sz/\cj3.sym=X.sym/\cj3.gV=X.gV/\(∀z,Rl X.es z->Rl cj3.es z):=by
  intro q X hq;rcases jW hq with⟨rfl,rfl⟩|⟨_,O⟩
  .exact⟨B,hB,rfl,rfl,rfl,rfl,rfl,λz N=>ir hlen N⟩
  .exact⟨X,O,rfl,rfl,rfl,rfl,rfl,λ_ h=>h⟩
 have noB:∀ {q:Nat} {X:dW} {o2 z2:Nat},q≠id->h[q]?=some X->X.st<=1->m[q]?=some (b,o2,z2)->Rl X.es z2->False:=by
  intro q X o2 z2 hq hX hx fL N;rcases(by omega:X.st=0\/X.st=1)with h0|O
  .exact hq<|hI.uniq q id X B b o2 z2 o z hX h0 fL hB cy hm N ub
  .rcases hI.tZ q X b o2 z2 hX O fL N with hS|⟨jd,B',o',z',q1,q2,q3,q4,q5,_⟩
   .exact SD hS
   .have:=hI.uniq jd id B' B b o' z' o z q1 q2 q3 hB cy hm q4 ub;subst this;rw[hB]at q1;cases q1;rw[hp]at q5;cases q5
 refine⟨hI.qf.setRow zy hb kZ,hI.sub,λk hk=>by simpa using hI.lt k hk,by simpa using hI.len,?_,?_,?_,?_,?_,?_,?_,?_,?_,?_,?_⟩
 .intro q X b2 o2 z2 hq hx fL N;rcases jW hq with⟨rfl,rfl⟩|⟨bX8,O⟩
  .rw[hm]at fL;cases fL;obtain⟨c1,SB,e1,e2,_⟩:=hI.oq q B b o z hB U hm ub;rw[hb]at e1;cases e1;exact⟨c',et,zd,by show _+es'.length*_<=_;rw[hlen,kZ];exact e2,hz,λi j e p v q1 q2 q3=> .st _ _ (Tf i j e p v q1 q2 q3 _ _)⟩
  .by_cases Ai:b2=b
   .subst Ai;exact(noB bX8 O hx fL N).elim
   .obtain⟨c1,SB,e1,e2,e3,e4⟩:=hI.oq q X b2 o2 z2 O hx fL N;exact⟨c1,SB,(jD b2 Ai).trans e1,e2,e3,λi j e p v q1 q2 q3=>(e4 i j e p v q1 q2 q3).later hL λ_ _ h=>h⟩
 .intro q X b2 o2 z2 hq hx fL N;obtain⟨cj3,y1,y2,_,_,_,_,y7⟩:=back hq;exact hI.live q cj3 b2 o2 z2 y1 (y2.trans hx) fL<|y7 _ N
 .intro q q' X X' b2 o2 z2 o' z' hq hx fL uc xN kz N qD;obtain⟨cj3,y1,y2,_,_,_,_,y7⟩:=back hq;obtain⟨Y',Gi,I0,_,_,_,_,y7'⟩:=back uc;exact hI.uniq q q' cj3 Y' b2 o2 z2 o' z' y1 (y2.trans hx) fL Gi (I0.trans xN) kz (y7 _ N)<|y7' _ qD
 .intro q X b2 o2 z2 hq hx fL N;rcases jW hq with⟨rfl,rfl⟩|⟨bX8,O⟩
  .exact absurd (show B.st=1 from hx) U
  .rcases hI.tZ q X b2 o2 z2 O hx fL N with hS|⟨jd,B',o',z',q1,q2,q3,q4,q5,q6⟩
   .exact .inl hS
   .refine .inr ⟨jd,B',o',z',?_,q2,q3,q4,q5,q6⟩;rw[cD,if_neg,q1];rintro rfl;rw[hB]at q1;cases q1;rw[hp]at q5;cases q5
 .intro q r X Xr hq N SE;obtain⟨cj3,y1,_,y3,_⟩:=back hq;obtain⟨R,r1,r2,_⟩:=back SE;rw[<-r2];exact hI.qU q r cj3 R y1 (y3▸N) r1
 .intro q r X hq N;obtain⟨cj3,y1,_,y3,_⟩:=back hq;rw[nJ];exact hI.oP q r cj3 y1<|y3▸N
 .intro q X b2 o2 z2 hq fL N;obtain⟨cj3,y1,_,_,y4,_,_,y7⟩:=back hq;rw[<-y4];exact hI.Ci q cj3 b2 o2 z2 y1 fL<|y7 _ N
 .intro q X hq hx;rcases jW hq with⟨rfl,rfl⟩|⟨_,O⟩
  .exact vd hx
  .exact hI.syms q X O hx
 .intro q X b2 o2 z2 hq hx fL;rcases jW hq with⟨rfl,rfl⟩|⟨_,O⟩
  .exact absurd (show B.st=3 from hx) U
  .obtain⟨q1,q2,q3⟩:=hI.maps q X b2 o2 z2 O hx fL;exact⟨q1,q2.same<|jD b2<|q2.ne hb,q3⟩
 .intro q q' X X' b2 o2 z2 o' z' hq hx fL uc xN kz;obtain⟨cj3,y1,y2,_⟩:=back hq;obtain⟨Y',Gi,I0,_⟩:=back uc;exact hI.ua q q' cj3 Y' b2 o2 z2 o' z' y1 (y2.trans hx) fL Gi (I0.trans xN) kz
 .intro i x hx;obtain⟨O,X,h2,h3⟩:=hI.gV i x hx;obtain⟨X',h4,h5⟩:=xM (C:= {B with es:=es'}) hB rfl h2;exact⟨O,X',h4,by rw[h5,h3]⟩
end
section
open Go.PS Wf Go.RowKit Go.Sort
def ad0(x:aV):aY.cells x=(pY x).map J.sc:=rfl
def QA(x:aV):(pY x).length=11:=rfl
def EC {cj2:World} {b:Nat} {c:Array Value} {et:TypeId} {fr:Nat×Nat}(f:Array Value->Array Value)(hb:cj2.heap[b]?=some (.cells c et fr)):mapBlock cj2 b f=cj2.setRow b (f c):=by
 unfold mapBlock World.setRow;congr 1;apply LP;intro i;rw[Ay,Ay];by_cases h:b=i
 .subst h;rw[if_pos rfl,if_pos rfl,hb];rfl
 .rw[if_neg h,if_neg h]
def vE(d:Array aV):PermIn 0 d.size d (gA d)/\SortedIn ltN 0 d.size (gA d):=pdq_sorts ltN Xo d 0 d.size (Lib.bitLen d.size) true true (bJ _) (bE _)<|Or.inl rfl
def kH(d:Array aV):(gA d).size=d.size:=(vE d).1.1
def bh7(d:Array aV)(i j:Nat)(hi:i<d.size)(hj:j<11):(flatK pY 11 d)[i*11+j]! =(pY d[i]!)[j]!:=by rw[get_flatK pY 11 d (i*11+j) U];rw[show(i*11+j)/11=i by omega,show(i*11+j)%11=j by omega]
def bG3(d:Array aV)(i j:Nat)(e:l_ J)(p:J)(O:(d.toList.map aY.cells)[i]?=some e)(h2:e[j]?=some p):i<d.size/\j<11/\p= .sc (pY d[i]!)[j]!:=by
 rw[b9]at O;cases hd:d.toList[i]? with
 |none=>rw[hd]at O;cases O
 |some x=>
  rw[hd]at O;cases O;have hi:i<d.size:=by have:=(bm.1 hd).1;simpa using this
  have hx:d[i]! =x:=by rw[rJ]at hd;rw[getElem!_def,hd]
  rw[show aY.cells x=(pY x).map J.sc from rfl,b9]at h2;cases F:(pY x)[j]? with
  |none=>rw[F]at h2;cases h2
  |some v=>
   rw[F]at h2;cases h2;refine⟨hi,(bm.1 F).1,?_⟩;rw[hx,getElem!_def,F]
def bh8(d:Array aV)(hd:0<d.size)(kZ:d.size<4611686018427387904):kD P 217 [.bf 0 d.size,.sc<|.func (.func 218) #[] #[]] [nB (d.toList.map aY.cells) true] (.sc<|.tuple #[]) [nB ((gA d).toList.map aY.cells) true]:=by
 refine⟨kK,λw0 S vs hG hI hD hl ha=> ?_⟩
 match vs,hl with
 | [v0,v1],_=>
  have h0:=qW (ha 0 _ v0 rfl rfl);have O:=jr (ha 1 _ v1 rfl rfl);subst O;have hB:([nB (d.toList.map aY.cells) true]:Hp)[0]?=some (nB (d.toList.map aY.cells) true):=rfl;have nP:(nB (d.toList.map aY.cells) true).es≠ []:=by
   intro h;have:(d.toList.map aY.cells).length=0:=by rw[show d.toList.map aY.cells=[]from h];rfl
   rw[gS,j0]at this;omega
  rcases lx h0 with⟨h2,_⟩|⟨b,o,sz,cap,c,et,rfl,hm,mE,hb,iq,hlen⟩
  .exact absurd (show d.size=0 from h2) U
  have ub:Rl (nB (d.toList.map aY.cells) true).es sz:=U;have hs:11=sz:=hI.Ci 0 _ b o sz hB hm ub;subst hs;obtain⟨c1,SB,e1,e2,e3,e4⟩:=hI.oq 0 _ b o 11 hB (bJ 1) hm ub;rw[hb]at e1;cases e1;have Aj:o+d.size*11<=c.size:=by
   have:(nB (d.toList.map aY.cells) true).es.length=d.size:=by show(d.toList.map aY.cells).length=_;simp
   rw[this]at e2;exact e2
  have wx:∀i j,i<d.size->j<11->c[o+i*11+j]?=some (pY d[i]!)[j]!:=by
   intro i j hi hj;have hk:o+i*11+j<c.size:=U;have kC:(nB (d.toList.map aY.cells) true).es[i]?=some (aY.cells d[i]!):=by show(d.toList.map aY.cells)[i]?=_;rw[b9,rJ,jc hi,tp d i hi];rfl
   have hej:(aY.cells d[i]!)[j]?=some (.sc (pY d[i]!)[j]!):=by rw[ad0,b9,bX (by rw[QA];exact hj),tp (pY d[i]!) j (by rw[QA];exact hj)];rfl
   have:=jr<|e4 i j _ _ c[o+i*11+j] kC hej<|jc hk;rw[jc hk,this]
  have hH:HoldsK pY 11 w0.w b o d:=by intro j hj;rw[size_flatK]at hj;refine⟨?_,Lib.frozen_of_heap hb _⟩;rw[Lib.cell_of_heap hb,get_flatK pY 11 d j hj];have:=wx (j/11) (j%11) U U;rw[show o+j/11*11+j%11=o+j by omega]at this;exact this
  have I5:=T5 b o cap d w0.w hH (lt_of_block hb) kZ;rw[sP,rG];refine I5.mono ?_;rintro e w' ⟨rfl,n,os,rfl⟩;have hb2:(Sort.ahead w0.w n).heap[b]?=some (.cells c et (0,0)):=hb;have ew:sortWorldK pY 11 w0.w b o n (gA d) os=grow ((Sort.ahead w0.w n).setRow b<|putCells id o (flatK pY 11<|gA d) c) os:=by unfold sortWorldK putRowK putRow;rw[EC _ hb2]
  rw[ew];have DI:Inv w0 S [nB (d.toList.map aY.cells) true] S w0.gV (Sort.ahead w0.w n):=hI.grown ⟨rfl,rfl,rfl,bE _,λ_ _=>rfl⟩;have zf:∀k,k<c.size->(putCells id o (flatK pY 11<|gA d) c)[k]?=some (if o<=k/\k<o+(flatK pY 11<|gA d).size then(flatK pY 11<|gA d)[k-o]! else c[k]!):=by intro k hk;unfold putCells;rw[Array.getElem?_mapIdx,jc hk,tp c k hk];rfl
  have Ck:=Inv.Xp DI (c':=putCells id o (flatK pY 11 (gA d)) c) (es':=(gA d).toList.map aY.cells) hB rfl rfl hm hb2 nP (by unfold putCells;simp) (by show((gA d).toList.map aY.cells).length=(d.toList.map aY.cells).length;simp [kH]) (λe F=>by
   obtain⟨x,_,rfl⟩:=jB.1 F;rfl) (λ_=>λe F=>by
   obtain⟨x,_,rfl⟩:=jB.1 F;rfl) (λi j e p v q1 q2 q3 w2 S2=>by
   obtain⟨r1,r2,r3⟩:=bG3 _ _ _ _ _ q1 q2;rw[kH]at r1;rw[zf _ U,if_pos ⟨U,by rw[size_flatK,kH];omega⟩]at q3;rw[show o+i*11+j-o=i*11+j by omega,bh7 _ _ _ (by rw[kH];exact r1) r2]at q3;cases q3;rw[r3];exact .sc _)
  have hI3:Inv w0 S [nB ((gA d).toList.map aY.cells) true] S w0.gV (grow ((Sort.ahead w0.w n).setRow b<|putCells id o (flatK pY 11<|gA d) c) os):=by
   refine Inv.grown Ck ⟨rfl,rfl,rfl,?_,λk hk=> ?_⟩
   .show _<=(_++os).size;rw[Array.size_append];exact Nat.le_add_right _ _
   .show(_++os)[k]?=_;exact Fe hk
  exact⟨_,S,w0.gV,rfl,hI3,λ_ h=>h,.st _ _<|.sc _⟩
end
section
open Go.PS Wf
def kW(d:Array aV):l_ (l_ J):=d.toList.map aY.cells
def aK1(d:Array aV)(rs:l_ (l_ J)):l_ J->Hp->Option (J×Hp×l_ Prop):=λaa h=>match aa,h with
 | [.bf i n,.sc f],[D]=>some (.sc (.tuple #[]),[nB rs true],[[J.bf i n,J.sc f]=[.bf 0 d.size,.sc (.func (.func 218) #[] #[])],[D]=[nB (kW d) true],0<d.size,d.size<4611686018427387904,rs=kW (gA d)])
 |_,_=>none
def aK2 {E:Env}(d:Array aV)(rs:l_ (l_ J))(hE:an P E):an P (cF 217 (aK1 d rs) E):=fC hE λaa h r h' ob O h2=>by
 unfold aK1 at O;split at O
 .rename_i i n f D;cases O;rw[h2 _ ch,h2 _<|fh _ ch,h2 (rs=kW (gA d)) sS];exact bh8 d (h2 (0<d.size) sS)<|h2 (d.size<_) sS
 .cases O
def T6(s:y_)(e:mL)(q:Pt):l_ J->Hp->Option (J×Hp×l_ Prop):=λaa h=>match Hy aa,BA h with
 |true,some (s',z,b)=>some ((af mL).au e,[dB s q true],[s'=s,z=(z.toNat:Int),z.toNat<=s.size,nE s (z.toNat,b)=(e,q)])
 |_,_=>none
def ad1 {E:Env}(s:y_)(e:mL)(q:Pt)(hs:s.size<=aq)(hE:an P E):an P (cF 215 (T6 s e q) E):=fC hE λaa h r h' ob O h2=>by
 unfold T6 at O;split at O
 .rename_i s' z b e1 e2;cases O;have k:=Qq s (z.toNat,b) hs<|h2 (z.toNat<=s.size) sS;rw[h2 (nE s (z.toNat,b)=(e,q)) sS]at k;have es:s'=s:=h2 _ sS;have ez:z=(z.toNat:Int):=h2 _ sS;subst es;rw[wX e1,r7 e2];dsimp only[dB]at k⊢;rw[<-ez]at k;exact k
 .cases O
def Xq(x:ay)(most:Nat)(e:mL)(sn:l_ (l_ J))(er:Int)(n1 n2:l_ (l_ J)):Prop:=jv x most (most+1) e [] sn=(er,n1,n2)
def aK3:Hp->Option (Int×Int×J×Nat×l_ (l_ J))
 | [⟨[[.ptr 1 0 0,.bf 2 0,.sc (.int .i64 z)]],0,[],3,false,true⟩,⟨[[.sc (.int .i64 c),bl,.bf 3 n]],0,[],3,false,true⟩,⟨[],0,[],11,true,true⟩,⟨L,0,[],1,true,true⟩]=>some (z,c,bl,n,L)
 |_=>none
def aK4 {h:Hp} {z c:Int} {bl:J} {n:Nat} {L:l_ (l_ J)}(e:aK3 h=some (z,c,bl,n,L)):h=[⟨[[.ptr 1 0 0,.bf 2 0,.sc<|.int .i64 z]],0,[],3,false,true⟩,⟨[[.sc<|.int .i64 c,bl,.bf 3 n]],0,[],3,false,true⟩,⟨[],0,[],11,true,true⟩,⟨L,0,[],1,true,true⟩]:=by
 unfold aK3 at e;split at e
 .cases e;rfl
 .cases e
def aK5(x:ay)(most:Nat)(e:mL)(er:Int)(n1 n2:l_ (l_ J)):l_ J->Hp->Option (J×Hp×l_ Prop):=λaa h=>match aa,aK3 h with
 | [b,p],some (z,c,bl,n,L)=>some (I er,[bB most 4 n1.length,rB x 5 n2.length,gN,gB,nB n1 false,sB n2 false],[[b,p]=[.ptr 0 0 0,(af mL).au e],z=(most:Int),c=x.cap,bl=(ak eF).au x.aU,n=L.length,fc x,HA most 0 L.length (most+1),Xq x most e L er n1 n2])
 |_,_=>none
def aK6 {E:Env}(x:ay)(most:Nat)(e:mL)(er:Int)(n1 n2:l_ (l_ J))(hE:an P E):an P (cF 216 (aK5 x most e er n1 n2) E):=fC hE λaa h r h' ob O h2=>by
 unfold aK5 at O;split at O
 .rename_i b p z c bl n L eh;cases O;have k:=Xn x most (most+1) e [] L (h2 (fc x) sS)<|h2 (HA _ _ _ _) sS;rw[h2 (Xq x most e L er n1 n2) sS]at k;have e1:=h2 (z=(most:Int)) sS;have e2:=h2 (c=x.cap) sS;have e3:=h2 (bl=(ak eF).au x.aU) sS;have e4:=h2 (n=L.length) sS;subst e1 e2 e3 e4;rw[h2 _ ch,aK4 eh];exact k
 .cases O
def QB(T:ct)(hT:wf T)(f:Nat->l_ J)(hf:∀i,i<T.aj.n->f i=aY.cells (T.aj.f i)):Ok P 80 [.agg [I T.next,.rf T.aj.n f]] (Bo<|eb T):=by
 refine(CI T hT).conv rfl λi p p' q1 q2 w S v N=> ?_
 match i with
 |0=>
  cases q1;cases q2;cases N with
  |agg _ vs hl Y=>
   refine .agg _ vs hl λi c v O h2=> ?_
   match i with
   |0=>cases O;exact Y 0 _ v rfl h2
   |1=>cases O;exact fS hf<|Y 1 _ v rfl h2
   |i+2=>cases O
 |i+1=>cases q1
def aK7(T:ct):l_ J->Option (J×l_ Prop):=λaa=>match aa with
 | [.agg [.sc (.int .i64 nx),.rf n f]]=>some (Bo (eb T),[nx=T.next,n=T.aj.n,∀i,i<n->f i=aY.cells (T.aj.f i),wf T])
 |_=>none
def aK8 {E:Env}(T:ct)(hE:an P E):an P (aF 80 (aK7 T) E):=gi hE λaa r ob O h2=>by
 unfold aK7 at O;split at O
 .rename_i nx n f;cases O;have e1:=h2 (nx=T.next) sS;have e2:=h2 (n=T.aj.n) sS;have e3:=h2 (∀i,i<n->f i=aY.cells (T.aj.f i)) sS;subst e1 e2;exact QB T (h2 (wf T) sS) f e3
 .cases O
def ETe(x:ay)(s:y_)(most:Nat)(d:Array aV)(rs:l_ (l_ J))(e:mL)(q:Pt)(er:Int)(n1 n2:l_ (l_ J))(T:ct):Env:=Pk (bG2 E0 9 11)<|cF 217 (aK1 d rs)<|cF 216 (aK5 x most e er n1 n2)<|cF 215 (T6 s e q)<|cF 214 (CL s)<|cF 213 (Xf x)<|aF 80 (aK7 T) EN
def bG4(x:ay)(s:y_)(most:Nat)(d:Array aV)(rs:l_ (l_ J))(e:mL)(q:Pt)(er:Int)(n1 n2:l_ (l_ J))(T:ct)(hs:s.size<=aq:=by assumption):an P (ETe x s most d rs e q er n1 n2 T):=vq (aK2 d rs<|aK6 x most e er n1 n2<|ad1 s e q hs<|ya s (Qm x<|aK8 T aw) λa w b h hw=>Xh s a w b h hs hw.1 hw.2 _ _ rfl rfl)<|bh6 (Ba P) rfl 9 11
def zT(k:Int):J:= .bg [.agg [I 0,.dF],I k]
def oH(x:ay)(L:l_ (l_ J)):Hp:=[rB x 2 L.length,gB,sB L false]
def Kz (x:ay) (s t:y_) (most:Nat) (d:Array aV) (rs sn:l_ (l_ J)) (e:mL) (q:Pt) (er:Int) (n1 n2:l_ (l_ J)) (T:ct) (hx:fc x) (ht:aZ x s 4=t) (hs:t.size<=aq) (hn:sn.length<=1048576)
  (F:nE t (cH t 4 (cH t 4 (0,false)).2).2=(e,q)) (hm:1<=(cH t 4 (cH t 4 (0,false)).2).1->(cH t 4 (cH t 4 (0,false)).2).1<=1024->(cH t 4 (cH t 4 (0,false)).2).1=(most:Int)) (ha:Xq x most e (dP x s 4 sn) er n1 n2)
  (O:n1=kW d) (hd0:er=0->0<d.size) (hdz:d.size<4611686018427387904) (hrs:rs=kW (gA d)) (Ov:(cH t 4 (0,false)).1=T.next) (hT2:n1.length=T.aj.n) (hT3:∀i,i<n1.length->rs.getD i []=aY.cells (T.aj.f i)) (hT4:er=0->wf T) (r:J) (H:Hp)
  (R8:jJ x s 4≠0->r=zT (jJ x s 4)/\H=oH x (dP x s 4 sn)) (Je:jJ x s 4=0->(q.2=true\/(q.1:Int)≠((aZ x s 4).size:Int)\/(cH t 4 (cH t 4 (0,false)).2).1<1\/(cH t 4 (cH t 4 (0,false)).2).1>1024)->r=zT 2/\H=oH x (dP x s 4 sn))
  (hr3:jJ x s 4=0-> ¬(q.2=true\/(q.1:Int)≠((aZ x s 4).size:Int)\/(cH t 4 (cH t 4 (0,false)).2).1<1\/(cH t 4 (cH t 4 (0,false)).2).1>1024)->er≠0->r=zT er/\H=oH x n2)
  (S5:jJ x s 4=0-> ¬(q.2=true\/(q.1:Int)≠((aZ x s 4).size:Int)\/(cH t 4 (cH t 4 (0,false)).2).1<1\/(cH t 4 (cH t 4 (0,false)).2).1>1024)->er=0->((n1.length:Int)≠(most:Int)\/eb T=false)->r=zT 2/\H=oH x n2)
  (hr5:jJ x s 4=0-> ¬(q.2=true\/(q.1:Int)≠((aZ x s 4).size:Int)\/(cH t 4 (cH t 4 (0,false)).2).1<1\/(cH t 4 (cH t 4 (0,false)).2).1>1024)->er=0->(n1.length:Int)=(most:Int)->eb T=true->r= .bg [.agg [I T.next,.bf 2 n1.length],I 0]/\H=[rB x 3 n2.length,gB,nB rs false,sB n2 false]):
  kD P 148 [.ptr 0 0 0,S s] [rB x 1 sn.length,sB sn true] r H:=by
 have hq1:(cH t 4 (0,false)).2.1<=t.size:=yb<|bJ _;have hq2:(cH t 4 (cH t 4 (0,false)).2).2.1<=t.size:=yb hq1;have hsl:=uy x s 4 sn;refine cK (bG4 x t most d rs e q er n1 n2 T) L0 (let bn:=cH t 4 (0,false);let V:=cH t 4 bn.snd;let bH:=(ak eF).au x.aU;let aG:=[gW [[I x.cap,bH,J.bf 2 n2.length]] 3,js 1,dn n2 1];let cp:=J.agg [I 0,J.dF];let cu:=dP x s 4 sn;let aS:=[gW [[I x.cap,bH,J.bf 2 cu.length]] 3,js 1,dn cu 1];let dk:=J.sc (Value.func (Fn.func 218) #[] #[]);let bu:=J.bg [cp,I 2];let Z:TcH:=(.e (bu,aS));(.o [List.map cj [aT,S s,ofV<|Value.int IntKind.i64 4]=[aT,S s,I 4],[dW.mk (List.map (List.map cj) [[I x.cap,bH,J.bf 1 sn.length]]) (rB x 1 sn.length).st [] (rB x 1 sn.length).sz false true,dW.mk sn (sB sn true).st [] (sB sn true).sz true true]=[rB x 1 sn.length,sB sn true],fc x,sn.length<=1073741824]<|.u (jJ x s 4) 0 (.e (J.bg [cp,I<|jJ x s 4],aS))<|.o [aZ x s 4=t,4=(↑4:Int),0=(↑0:Int),0<=t.size,o8 4]<|.r t<|.o [4=(↑4:Int)]<|.r (bn.snd.fst:Int)<|.o [bn.snd.fst<=t.size,o8 4]<|.r t<|.r (V.snd.fst:Int)<|.o [V.snd.fst<=t.size,nE t V.snd=(e,q)]<|.n q.snd Z<|.u q.fst (↑(aZ x s 4).size:Int) Z<|.d (V.fst<1) Z<|.d (V.fst>1024) Z<|.r true<|.o [[aT,cj<|(af mL).au e]=[aT,(af mL).au e],V.fst=(most:Int)]<|.r x.cap<|.o [(J.rf x.aU.n λi=>aY.cells (x.aU.f i))=(ak eF).au x.aU]<|.r (cu.length)<|.o [fc x,HA most 0 cu.length<|most+1,Xq x most e cu er n1 n2]<|.u er 0 (.e (J.bg [cp,I er],aG))<|.o [[J.bf 0 n1.length,dk]=[J.bf 0 d.size,dk],[dW.mk n1 (nB n1 false).st [] (nB n1 false).sz true true]=[nB (kW d) true],0<d.size,d.size<4611686018427387904,rs=kW (gA d)]<|.u n1.length (V.fst) (.e (bu,aG))<|.o [n1.length=rs.length,bn.fst=T.next,n1.length=T.aj.n,∀(i:Nat),i<n1.length->rs.getD i []=aY.cells (T.aj.f i),wf T]<|.m (eb T) (.e (bu,aG))<|.e (J.bg [J.agg [I bn.fst,J.bf 2 n1.length],I 0],[gW [[I x.cap,bH,J.bf 3 n2.length]] 3,js 1,dn rs 11,dn n2 1]))) ?_
 have hnb:q.2=false->(q.1:Int)=((aZ x s 4).size:Int)-> ¬(cH t 4 (cH t 4 (0,false)).2).1<1-> ¬(cH t 4 (cH t 4 (0,false)).2).1>1024-> ¬(q.2=true\/(q.1:Int)≠((aZ x s 4).size:Int)\/(cH t 4 (cH t 4 (0,false)).2).1<1\/(cH t 4 (cH t 4 (0,false)).2).1>1024):=by
  intro a b c f g;rcases g with g|g|g|g
  .rw[a]at g;cases g
  .exact g b
  .exact c g
  .exact f g
 have h1l:n1.length=d.size:=by rw[O];simp only[kW,gS,j0]
 have Fy:n1.length=rs.length:=by rw[h1l,hrs];simp only[kW,gS,j0,kH]
 simp only[av,bK,bO,rL,sN,gl,nM]
 (repeat' with_reducible first|intro _|apply aNd_)<;>first|exact aM|exact hT3 _ W|exact hT4 W|(unfold HA;have:=hm U U;omega)|(rw[h1l];done)|(rw[O];rfl)|(have h:=R8 W;rw[h.1,h.2];exact dR.of_eq rfl)|(have h:=Je W (.inl W);rw[h.1,h.2];exact dR.of_eq rfl)|(have h:=Je W (.inr<|.inl W);rw[h.1,h.2];exact dR.of_eq rfl)|(have h:=Je W (.inr<|.inr<|.inl W);rw[h.1,h.2];exact dR.of_eq rfl)|(have h:=Je W (.inr<|.inr<|.inr W);rw[h.1,h.2];exact dR.of_eq rfl)|(have h:=hr3 W (hnb W W W W) W;rw[h.1,h.2];exact dR.of_eq rfl)|(have h:=S5 W (hnb W W W W) W (.inl (by rw[<-hm U U];assumption));rw[h.1,h.2];exact dR.of_eq rfl)|(have h:=S5 W (hnb W W W W) W (.inr W);rw[h.1,h.2];exact dR.of_eq rfl)|(have h:=hr5 W (hnb W W W W) W (by rw[<-hm U U];assumption) W;rw[h.1,h.2,Ov];exact dR.of_eq rfl)
def vF(l:l_ (l_ J)):Prop:=∃d:l_ aV,l=d.map aY.cells
def vF.snoc {l:l_ (l_ J)}(h:vF l)(n:aV):vF (l++ [aY.cells n]):=by obtain⟨d,rfl⟩:=h;exact⟨d++ [n],sS⟩
theorem BH {f:Nat->l_ (l_ J)->l_ (l_ J)->AR}(hf:∀j a b,vF a->vF (f j a b).2.1) {ns sn:l_ (l_ J)}(hn:vF ns):∀j,vF (pX f ns sn j).1
 |0=>hn
 |j+1=>by
  unfold pX;split
  .exact BH hf hn j
  .exact hf _ _ _<|BH hf hn j
theorem BI(x:ay)(most:Nat):∀g e ns sn,vF ns->vF (jv x most g e ns sn).2.1
 |0,_,_,_,h=>h
 |g+1,e,ns,sn,h=>by
  unfold jv;split
  .exact h
  .split
   .exact h
   .split
    .exact h.snoc _
    .split
     .exact h.snoc _
     .unfold Jz;split
      .exact BI x most g _ _ _<|BH (λj a b ha=>BI x most g _ a b ha) (h.snoc _) _
      .exact BH (λj a b ha=>BI x most g _ a b ha) (h.snoc _) _
def KA(x:ay)(most g:Nat)(e:mL)(sn:l_ (l_ J)):∃d:Array aV,(jv x most g e [] sn).2.1=kW d:=by obtain⟨d,hd⟩:=BI x most g e [] sn ⟨[],rfl⟩;exact⟨d.toArray,by unfold kW;rw[hd]⟩
def add_pos(x:ay)(most g:Nat)(e:mL)(sn:l_ (l_ J))(d:Array aV)(h:(jv x most g e [] sn).1=0)(hd:(jv x most g e [] sn).2.1=kW d):0<d.size:=by have:=(HF x most g e [] sn h).1;rw[hd]at this;simp only[kW,gS,j0,qj]at this;exact this
def sb(t:y_):Int×Pt:=oy t 4 (0,false)
def cX(t:y_):Int×Pt:=oy t 4 (sb t).2
def lV(t:y_):mL×Pt:=nE t (cX t).2
def sd(t:y_):Bool:=decide<|(lV t).2.2=true\/((lV t).2.1:Int)≠(t.size:Int)\/(cX t).1<1\/(cX t).1>1024
def pZ(x:ay)(s:y_)(sn:l_ (l_ J)):AR:=jv x (cX<|aZ x s 4).1.toNat ((cX<|aZ x s 4).1.toNat+1) (lV<|aZ x s 4).1 []<|dP x s 4 sn
def fJ(x:ay)(s:y_)(sn:l_ (l_ J)):Array aV:=Classical.choose<|KA x (cX<|aZ x s 4).1.toNat ((cX<|aZ x s 4).1.toNat+1) (lV<|aZ x s 4).1<|dP x s 4 sn
def CQ(x:ay)(s:y_)(sn:l_ (l_ J)):(pZ x s sn).2.1=kW (fJ x s sn):=as1<|KA x (cX<|aZ x s 4).1.toNat ((cX<|aZ x s 4).1.toNat+1) (lV<|aZ x s 4).1<|dP x s 4 sn
def oF(x:ay)(s:y_)(sn:l_ (l_ J)):ct:=⟨(sb<|aZ x s 4).1,⟨(fJ x s sn).size,λi=>(gA<|fJ x s sn)[i]!⟩⟩
def pa(x:ay)(s:y_)(sn:l_ (l_ J)):Int:=
 if jJ x s 4≠0 then jJ x s 4
 else if sd (aZ x s 4)=true then 2
 else if(pZ x s sn).1≠0 then(pZ x s sn).1
 else if((fJ x s sn).size:Int)≠(cX<|aZ x s 4).1\/eb (oF x s sn)=false then 2
 else 0
def KB(x:ay)(s:y_)(sn:l_ (l_ J))(i:Nat)(hi:i<(fJ x s sn).size):(kW<|gA<|fJ x s sn).getD i []=aY.cells ((oF x s sn).aj.f i):=by
 have hz:i<(gA<|fJ x s sn).size:=by rw[kH];exact hi
 unfold kW;rw[cc,b9,rJ,jc hz];show aY.cells _=aY.cells ((gA<|fJ x s sn)[i]!);rw[tp _ i hz]
end
section
open Go.PS Wf Go.Sort
section
variable {s:y_}{q:Pt}{most:Nat}
def rj {w:Nat}:wf (oy s w q).1:=by
 show _/\_;unfold oy;split
 .exact⟨show(-9223372036854775808:Int)<=0 by decide,show(0:Int)<=9223372036854775807 by decide⟩
 .rename_i h;have h0:mz s q.1 w=0:=by simp only[o7,jA,bK,not_or,tr]at h;exact h.2
  have:gp s q.1 w w<9223372036854775808:=by
   unfold mz at h0;split at h0
   .omega
   .split at h0
    .omega
    .omega
  refine⟨?_,?_⟩
  .show _<=((gp s q.1 w w:Nat):Int);omega
  .show((gp s q.1 w w:Nat):Int)<=_;omega
def bh9 {n:Nat}(hs:s.size<=aq):wf (uA s n q).1:=by
 show ByteArray.size _<=aq;unfold uA;split
 .exact bJ _
 .show(s.extract _ _).size<=_;rw[AD];omega
def FN(hs:s.size<=aq):wf (zH s q).1:=by
 unfold zH;split
 .exact bJ _
 .exact bh9 hs
def Xs(hs:s.size<=aq):wf (nE s q).1.aN:=by unfold nE;simp only[mW,Bz];exact⟨rj,rj,rj,FN hs,rj,FN hs,FN hs,FN hs,rj,rj,bJ _⟩
def w7(most:Nat)(l:l_ (l_ J)):Prop:=l.length<=most/\∃d:l_ aV,l=d.map aY.cells/\∀n∈d,wf n
def w7.snoc {l:l_ (l_ J)}(h:w7 most l)(hm: ¬most<=l.length)(n:aV)(hn:wf n):w7 most (l++ [aY.cells n]):=by
 obtain⟨h0,d,rfl,hd⟩:=h;refine⟨by rw[br];show _+1<=_;omega,d++ [n],sS,λx hx=> ?_⟩;rcases kx.1 hx with q|q
 .exact hd x q
 .rw[mq.1 q];exact hn
theorem Xt {f:Nat->l_ (l_ J)->l_ (l_ J)->AR}(hf:∀j a b,w7 most a->w7 most (f j a b).2.1) {ns sn:l_ (l_ J)}(hn:w7 most ns):∀j,w7 most (pX f ns sn j).1
 |0=>hn
 |j+1=>by
  unfold pX;split
  .exact Xt hf hn j
  .exact hf _ _ _<|Xt hf hn j
theorem bw4(x:ay)(most:Nat):∀g e ns sn,wf e.aN->w7 most ns->w7 most (jv x most g e ns sn).2.1
 |0,_,_,_,_,h=>h
 |g+1,e,ns,sn,F,h=>by
  have hz:=CM x (oz e.aN.mode) e.bW sn;have hzm:(dI x (oz e.aN.mode) e.bW sn).1.size<=aq:=by unfold aq;omega
  unfold jv;split
  .exact h
  .rename_i hm;split
   .exact h
   .split
    .refine h.snoc hm _ ?_;obtain⟨a,b,c,d,e,f,g,h,i,j,k⟩:=F;exact⟨a,b,c,d,e,f,g,h,i,j,hzm⟩
    .split
     .exact h.snoc hm _ F
     .have hk:∀j a b,w7 most a->w7 most (jv x most g ((nr (dI x (oz e.aN.mode) e.bW sn).1).f j) a b).2.1:=λj a b ha=>bw4 x most g _ a b (Xs hzm) ha;unfold Jz;split
      .exact hk _ _ _<|Xt hk (h.snoc hm _ F) _
      .exact Xt hk (h.snoc hm _ F) _
def QC {d d':l_ aV}(h:d.map aY.cells=d'.map aY.cells):d=d':=by have:=ba (List.map<|aY.of (α:=aV)) h;rw[qP,qP]at this;have e:(aY.of∘aY.cells:aV->aV)=id:=rfl;rw[e,xE,xE]at this;exact this
def yd(x:ay)(s:y_)(hx:fc x):(aZ x s 4).size<=aq:=by
 unfold aZ;split
 .rename_i h;have O: ¬qu x.aU s<0:=λq=>by unfold sG at h;rw[if_pos q]at h;omega
  exact cm (hx.2 _ (by have:=(rb O).1;omega)) dD
 .exact bJ _
def HG(x:ay)(s:y_)(sn:l_ (l_ J))(hx:fc x):(fJ x s sn).size<=(cX<|aZ x s 4).1.toNat/\∀i:Nat,wf ((gA<|fJ x s sn)[i]!:aV):=by
 have h:=bw4 x (cX<|aZ x s 4).1.toNat ((cX<|aZ x s 4).1.toNat+1) (lV<|aZ x s 4).1 [] (dP x s 4 sn) (Xs<|yd x s hx) ⟨bJ _,[],rfl,λn h=>by cases h⟩;have e:=CQ x s sn;unfold pZ at e;rw[e]at h;obtain⟨O,d,h2,h3⟩:=h;have hd:=QC h2;refine⟨by simpa [kW]using O,λi=> ?_⟩;rcases fA i (gA<|fJ x s sn).size with q|q
 .rw[tp _ i q];have hp:=(vE<|fJ x s sn).1;have hs:=hp.1;have hpp:=hp.2.2;rw[Fo U,Fo<|bE _]at hpp;refine h3 _ ?_;rw[<-hd];exact hpp.subset sS
 .rw[getElem!_neg _ i U];have z:wf (0:Int):=⟨show(-9223372036854775808:Int)<=0 by decide,show(0:Int)<=9223372036854775807 by decide⟩
  exact⟨z,z,z,bJ _,z,bJ _,bJ _,bJ _,z,z,bJ _⟩
end
end
section
open Go.PS Wf
def KC(x:ay)(s:y_)(sn:l_ (l_ J)):l_ (l_ J):=if jJ x s 4≠0\/sd (aZ x s 4)=true then dP x s 4 sn else(pZ x s sn).2.2
def KD (x:ay) (s:y_) (sn:l_ (l_ J)) (hx:fc x) (hn:sn.length<=1048576) (r:J) (H:Hp)
  (k1:jJ x s 4≠0->r=zT (jJ x s 4)/\H=oH x (dP x s 4 sn)) (k2:jJ x s 4=0->sd (aZ x s 4)=true->r=zT 2/\H=oH x (dP x s 4 sn))
  (k3:jJ x s 4=0-> ¬sd (aZ x s 4)=true->(pZ x s sn).1≠0->r=zT (pZ x s sn).1/\H=oH x (pZ x s sn).2.2)
  (k4:jJ x s 4=0-> ¬sd (aZ x s 4)=true->(pZ x s sn).1=0->(((fJ x s sn).size:Int)≠(cX<|aZ x s 4).1\/eb (oF x s sn)=false)->r=zT 2/\H=oH x (pZ x s sn).2.2)
  (k5:jJ x s 4=0-> ¬sd (aZ x s 4)=true->(pZ x s sn).1=0->((fJ x s sn).size:Int)=(cX<|aZ x s 4).1->eb (oF x s sn)=true->r= .bg [.agg [I (oF x s sn).next,.bf 2 (fJ x s sn).size],I 0]/\H=[rB x 3 (pZ x s sn).2.2.length,gB,nB (kW<|gA<|fJ x s sn) false,sB (pZ x s sn).2.2 false]):
  kD P 148 [.ptr 0 0 0,S s] [rB x 1 sn.length,sB sn true] r H:=by
 have e1:cH (aZ x s 4) 4 (0,false)=sb (aZ x s 4):=mW _ _ _;have e2:cH (aZ x s 4) 4 (sb<|aZ x s 4).2=cX (aZ x s 4):=mW _ _ _;have e3:nE (aZ x s 4) (cX<|aZ x s 4).2=((lV<|aZ x s 4).1,(lV<|aZ x s 4).2):=rfl;have hb:((lV<|aZ x s 4).2.2=true\/((lV<|aZ x s 4).2.1:Int)≠((aZ x s 4).size:Int)\/(cX<|aZ x s 4).1<1\/(cX<|aZ x s 4).1>1024)↔sd (aZ x s 4)=true:=(bp).symm;by_cases Y:1<=(cX<|aZ x s 4).1/\(cX<|aZ x s 4).1<=1024
 .have hw:=HG x s sn hx;have nP:=CQ x s sn;have hlen:(pZ x s sn).2.1.length=(fJ x s sn).size:=by rw[nP];simp [kW]
  refine Kz x s (aZ x s 4) (cX<|aZ x s 4).1.toNat (fJ x s sn) (kW<|gA<|fJ x s sn) sn (lV<|aZ x s 4).1 (lV<|aZ x s 4).2 (pZ x s sn).1 (pZ x s sn).2.1 (pZ x s sn).2.2 (oF x s sn) hx rfl (yd x s hx) hn ?_ ?_ rfl nP ?_ ?_ rfl ?_ hlen ?_ ?_ r H k1 ?_ ?_ ?_ ?_
  .rw[e1,e2];exact e3
  .rw[e1,e2];intro _ _;omega
  .intro h;exact add_pos x (cX<|aZ x s 4).1.toNat ((cX<|aZ x s 4).1.toNat+1) (lV<|aZ x s 4).1 (dP x s 4 sn) _ h nP
  .have:=hw.1;omega
  .rw[e1];rfl
  .intro i hi;exact KB x s sn i U
  .intro _;refine⟨rj,?_,hw.2⟩;show(fJ x s sn).size<=aq;have:=hw.1;unfold aq;omega
  .rw[e1,e2,hb];exact k2
  .rw[e1,e2,hb];exact k3
  .rw[e1,e2,hb];intro a b c d;refine k4 a b c ?_;rcases d with d|d
   .exact .inl (by rw[hlen]at d;omega)
   .exact .inr d
  .rw[e1,e2,hb];intro a b c d f;rw[hlen]at d⊢;exact k5 a b c U f
 .have gZ:=hb.1 U;refine Kz x s (aZ x s 4) 0 #[] (kW<|gA #[]) sn (lV<|aZ x s 4).1 (lV<|aZ x s 4).2 2 [] (dP x s 4 sn) ⟨(sb<|aZ x s 4).1,⟨0,λ_=>default⟩⟩ hx rfl (yd x s hx) hn ?_ ?_ ?_ rfl U dD rfl ?_ rfl ?_ (λh=>U) r H k1 ?_ ?_ ?_ ?_
  .rw[e1,e2];exact e3
  .rw[e1,e2];intro _ _;omega
  .show jv _ _ _ _ _ _=_;unfold jv;rw[if_pos<|bJ _]
  .rw[e1]
  .intro i hi;exact absurd hi<|jC _
  .rw[e1,e2,hb];exact k2
  .rw[e1,e2,hb];intro _ h;exact absurd gZ h
  .rw[e1,e2,hb];intro _ h;exact absurd gZ h
  .rw[e1,e2,hb];intro _ h;exact absurd gZ h
def ad4(x:ay)(s:y_)(sn:l_ (l_ J))(hx:fc x)(hn:sn.length<=1048576)(F:pa x s sn≠0):kD P 148 [.ptr 0 0 0,S s] [rB x 1 sn.length,sB sn true] (zT<|pa x s sn) (oH x<|KC x s sn):=by
 refine KD x s sn hx hn _ _ ?_ ?_ ?_ ?_ ?_
 .intro h;exact⟨by unfold pa;rw[if_pos h],by unfold KC;rw[if_pos<|.inl h]⟩
 .intro h k;exact⟨by unfold pa;rw[if_neg U,if_pos k],by unfold KC;rw[if_pos<|.inr k]⟩
 .intro h k l;exact⟨by unfold pa;rw[if_neg U,if_neg k,if_pos l],by unfold KC;rw[if_neg (by rintro(q|q);exact q h;exact k q)]⟩
 .intro h k l m;exact⟨by unfold pa;rw[if_neg U,if_neg k,if_neg U,if_pos m],by unfold KC;rw[if_neg (by rintro(q|q);exact q h;exact k q)]⟩
 .intro h k l m o;refine absurd ?_ F;unfold pa;rw[if_neg U,if_neg k,if_neg U,if_neg (by rintro(q|q);exact q m;rw[o]at q;cases q)]
def T7(x:ay)(s:y_)(sn:l_ (l_ J))(hx:fc x)(hn:sn.length<=1048576)(F:pa x s sn=0):kD P 148 [.ptr 0 0 0,S s] [rB x 1 sn.length,sB sn true] (.bg [.agg [I (oF x s sn).next,.bf 2 (fJ x s sn).size],I 0]) [rB x 3 (pZ x s sn).2.2.length,gB,nB (kW<|gA<|fJ x s sn) false,sB (pZ x s sn).2.2 false]:=by
 unfold pa at F;refine KD x s sn hx hn _ _ ?_ ?_ ?_ ?_ ?_
 .intro h;rw[if_pos h]at F;exact absurd F h
 .intro h k;rw[if_neg U,if_pos k]at F;omega
 .intro h k l;rw[if_neg U,if_neg k,if_pos l]at F;exact absurd F l
 .intro h k l m;rw[if_neg U,if_neg k,if_neg U,if_pos m]at F;omega
 .intro _ _ _ _ _;exact⟨rfl,rfl⟩
def aK9(x:ay):l_ J->Hp->Option (J×Hp×l_ Prop):=λaa h=>match h with
 | []=>some (.ptr 0 0 0,[rB0 x 1 0,sB [] false],[aa=[(af ay).au x]])
 |_=>none
def aL0 {E:Env}(x:ay)(hE:an P E):an P (cF 147 (aK9 x) E):=fC hE λaa h r h' ob O h2=>by
 unfold aK9 at O;split at O
 .cases O;rw[h2 _ ch];exact Ng x
 .cases O
def w8(x:ay)(s:y_):Int:=mK<|pa x s []
def w9(x:ay)(s:y_):w8 x s=pa x s []:=ni _
def yS(x:ay)(s:y_):l_ (l_ J):=mK<|kW<|gA<|fJ x s []
def HH(x:ay)(s:y_):yS x s=kW (gA<|fJ x s []):=ni _
def aL1(x:ay)(s:y_)(ok:Bool):l_ J->Hp->Option (J×Hp×l_ Prop):=λaa h=>match h with
 | [⟨[[.sc (.int .i64 c),bl,.bf 1 0]],0,[],3,false,true⟩,⟨[],0,[],1,true,true⟩]=>
  some (bif ok then .bg [.agg [I (oF x s []).next,.bf 2 (yS x s).length],I 0]else zT (w8 x s),bif ok then [rB x 3 (pZ x s []).2.2.length,gB,nB (yS x s) false,sB (pZ x s []).2.2 false]else oH x (KC x s []),[aa=[.ptr 0 0 0,S s],c=x.cap,bl=(ak eF).au x.aU,fc x,(ok=true↔pa x s []=0)])
 |_=>none
def KE(x:ay)(s:y_):(yS x s).length=(fJ x s []).size:=by rw[HH];simp [kW,kH]
def aL2 {E:Env}(x:ay)(s:y_)(ok:Bool)(hE:an P E):an P (cF 148 (aL1 x s ok) E):=fC hE λaa h r h' ob O h2=>by
 unfold aL1 at O;split at O
 .rename_i c bl;cases O;have e1:=h2 (aa=_) ch;have e2:=h2 (c=x.cap) sS;have e3:=h2 (bl=(ak eF).au x.aU) sS;have e4:=h2 (fc x) sS;have e5:=h2 (ok=true↔pa x s []=0) sS;subst e1 e2 e3;cases ok with
  |true=>
   have k:=T7 x s [] e4 (bJ _)<|e5.1 rfl;rw[<-HH,<-KE]at k;exact k
  |false=>
   have k:=ad4 x s [] e4 (bJ _) (λq=>by have:=e5.2 q;cases this);rw[<-w9]at k;exact k
 .cases O
def EGt(x:ay)(s:y_)(ok:Bool):Env:=cF 147 (aK9 x)<|cF 148 (aL1 x s ok) EN
def aL3(x:ay)(s:y_)(ok:Bool):an P (EGt x s ok):=aL0 x<|aL2 x s ok aw
def BJ(x:ay)(s:y_):ct:=if pa x s []=0 then oF x s []else⟨0,⟨0,λ_=>default⟩⟩
def bi0(x:ay)(s:y_)(hx:fc x)(F:pa x s []=0):Ok P 84 [(af ay).au x,S s] (.bg [.agg [I (oF x s []).next,.rf (yS x s).length λi=>(yS x s).getD i []],I 0]):=by
 have hi:(True↔pa x s []=0):=by grind
 refine al (aL3 x s true) L0 (.o [List.map cj [((af ay).au x)]=[(af ay).au x],List.map cj [aT,S s]=[aT,S s]]<|.r x.cap<|.o [(J.rf x.aU.n λi=>aY.cells (x.aU.f i))=(ak eF).au x.aU,fc x,true=true↔pa x s []=0]<|.r ((yS x s).length)<|.e<|J.bg [J.agg [I (oF x s []).next,J.rf (yS x s).length λi=>(yS x s).getD i []],I 0]) ?_;simp only[av]
 (repeat' with_reducible first|intro _|apply aNd_)<;>first|exact aM|(simp only[jZ];exact hi)
def bG5(x:ay)(s:y_)(hx:fc x)(F:pa x s []≠0):Ok P 84 [(af ay).au x,S s] (.bg [.agg [I 0,.rf 0 λ_=> []],I<|w8 x s]):=by
 have hi:(False↔pa x s []=0):=by grind
 refine al (aL3 x s false) L0 (.o [List.map cj [((af ay).au x)]=[(af ay).au x],List.map cj [aT,S s]=[aT,S s]]<|.r x.cap<|.o [(J.rf x.aU.n λi=>aY.cells (x.aU.f i))=(ak eF).au x.aU,fc x,false=true↔pa x s []=0]<|.e<|J.bg [J.agg [I 0,J.rf 0 λi=> []],I<|w8 x s]) ?_;simp only[av]
 (repeat' with_reducible first|intro _|apply aNd_)<;>first|exact aM|(simp only[jZ];exact hi)
def HI {s:y_} {p:Pt}(h:(o9 s p).2.2=false):(nE s p).2.2=false/\(o9 s p).2=(nE s p).2/\(nE s p).1=(o9 s p).1/\p.1+32<=(o9 s p).2.1:=by have k:=BD (s:=s)<|Jy.refl p;have e:=k.1.1.trans h;have q:=k.1.2 e;exact⟨e,q.symm,(k.2 e).2,by rw[<-q];exact(Qs e).2⟩
def BK(d:y_)(id:Int)(p:Pt):Bool:=decide<|(o9 d p).2.2=true\/(o9 d p).1.aN.bo≠id
def BL {d:y_} {id:Int} {p:Pt}(h:BK d id p=false):(o9 d p).2.2=false/\(o9 d p).1.aN.bo=id:=by
 have h:=fW h;refine⟨?_,mj λq=>h (.inr q)⟩;cases q:(o9 d p).2.2 with
 |false=>rfl
 |true=>exact absurd (.inl q) h
def yD(d:y_)(id:Int):Nat->Pt
 |0=>(0,false)
 |i+1=>bif BK d id (yD d id i)then(d.size,false)else(o9 d (yD d id i)).2
def bi1 {d:y_} {id:Int} {i:Nat}(h:BK d id (yD d id i)=true):yD d id (i+1)=(d.size,false):=by show(bif _ then _ else _)=_;rw[h];rfl
def T8 {d:y_} {id:Int} {i:Nat}(h:BK d id (yD d id i)=false):yD d id (i+1)=(o9 d<|yD d id i).2:=by show(bif _ then _ else _)=_;rw[h];rfl
theorem CR(d:y_)(id:Int):∀i,(yD d id i).2=false/\(yD d id i).1<=d.size/\min (32*i) d.size<=(yD d id i).1
 |0=>⟨rfl,bJ _,by show min (32*0) _<=0;omega⟩
 |i+1=>by
  have ih:=CR d id i;cases h:BK d id (yD d id i)with
  |true=>
   rw[bi1 h];exact⟨rfl,bE _,Nat.min_le_right _ _⟩
  |false=>
   rw[T8 h];have ha:=HI (BL h).1;exact⟨(BL h).1,bh2 ih.2.1,U⟩
def uC(d:y_)(id:Int):Nat:=aE (d.size+1) λi=>decide<|d.size<=(yD d id i).1
def aL4(d:y_)(id:Int):ar (d.size+1) (λi=>decide (d.size<=(yD d id i).1))=true:=by refine cG.2 ⟨d.size,U,cd ?_⟩;have:=(CR d id d.size).2.2;omega
def Xu(d:y_)(id:Int):d.size<=(yD d id<|uC d id).1:=cn<|dC<|dw.2<|aL4 d id
def Nh {d:y_} {id:Int} {i:Nat}(h:i<uC d id):(yD d id i).1<d.size:=Nat.lt_of_not_le<|fW<|gy (b:=λi=>decide (d.size<=(yD d id i).1)) h
def bi2(d:y_)(id:Int):uC d id<=d.size+1:=oT _ _
def T9(d:y_)(id:Int):Bool:=ar (uC d id) λi=>BK d id<|yD d id i
def JA(d:y_)(id:Int)(i:Nat):mL:=(o9 d<|yD d id i).1
theorem Ni(d:y_)(id:Int):∀i,(∀j,j<i->BK d id (yD d id j)=false)->BE d i=yD d id i
 |0,_=>rfl
 |i+1,h=>by have e:=Ni d id i λj hj=>h j U;have hb:=h i U;rw[T8 hb,(HI (BL hb).1).2.1,<-e];rfl
def Xv {d:y_} {n:Nat}(h:∀i,i<n->(BE d i).1<d.size/\(BE d i).2=false)(h2: ¬((BE d n).1<d.size/\(BE d n).2=false)):zJ d=n:=by
 rcases rD (zJ d) n with q|q|q
 .exact absurd (h _ q)<|TV d
 .exact q
 .exact absurd (aH7 d q) h2
def ad5(d:y_)(id:Int)(h:T9 d id=false):TU d=true/\wZ d id=false/\zJ d=uC d id/\∀i,i<uC d id->(nr d).f i=JA d id i:=by
 have hb:=λi hi=>bc.1 h i hi;have hs:∀i,i<=uC d id->BE d i=yD d id i:=λi hi=>Ni d id i λj hj=>hb j U;have Y:zJ d=uC d id:=by
  refine Xv (λi hi=> ?_) ?_
  .rw[hs i U];exact⟨Nh hi,(CR d id i).1⟩
  .rw[hs _<|bE _];have:=Xu d id;rintro⟨q,_⟩;omega
 have hf:∀i,i<uC d id->(nr d).f i=JA d id i:=λi hi=>by show(nE d<|BE d i).1=_;rw[hs i U];exact(HI (BL<|hb i hi).1).2.2.1
 refine⟨?_,?_,Y,hf⟩
 .unfold TU;rw[Y,hs _<|bE _,(CR d id _).1];rfl
 .refine bc.2 λi hi=>fq ?_;have Wa:i<uC d id:=by rw[<-Y];exact hi
  rw[hf i Wa];exact λq=>q (BL<|hb i Wa).2
def aL5(d:y_)(id:Int)(h:T9 d id=true):TU d=false\/wZ d id=true:=by
 have O:=dw.2 h;have h2:=dC O;have h3:∀j,j<aE (uC d id) (λi=>BK d id (yD d id i))->BK d id (yD d id j)=false:=λj hj=>gy (b:=λi=>BK d id (yD d id i)) hj;generalize aE (uC d id) (λi=>BK d id (yD d id i))=k at O h2 h3;have hs:∀i,i<=k->BE d i=yD d id i:=λi hi=>Ni d id i λj hj=>h3 j U;have hl:∀i,i<=k->(BE d i).1<d.size/\(BE d i).2=false:=λi hi=>by rw[hs i hi];exact⟨Nh U,(CR d id i).1⟩
 cases hq:(nE d<|yD d id k).2.2 with
 |true=>
  left;have hk:(BE d<|k+1).2=true:=by show(nE d<|BE d k).2.2=true;rw[hs k<|bE _];exact hq
  have Y:zJ d=k+1:=Xv (λi hi=>hl i U) (by rw[hk];rintro⟨_,q⟩;cases q);unfold TU;rw[Y,hk];rfl
 |false=>
  right;have ke:=BD (s:=d) (Jy.refl<|yD d id k);have hq2:=ke.1.1.symm.trans hq;have hp:(o9 d<|yD d id k).1.aN.bo≠id:=by
   rcases cn h2 with q|q
   .rw[hq2]at q;cases q
   .exact q
  have Y:k<zJ d:=by
   rcases fA k (zJ d)with q|q
   .exact q
   .exact absurd (hl _ q)<|TV d
  refine cG.2 ⟨k,Y,cd ?_⟩;show(nE d<|BE d k).1.aN.bo≠id;rw[hs k<|bE _,(ke.2 hq).2];exact hp
def ib(l:l_ aV):l_ (l_ J):=l.map aY.cells
def se(l:l_ aV):(ib l).length=l.length:=gS ..
def BM(a b:l_ aV):ib (a++b)=ib a++ib b:=mr ..
abbrev LR:=Int×l_ aV
def pc(f:Nat->l_ aV->LR)(a0:l_ aV):Nat->l_ aV
 |0=>a0
 |j+1=>if(f j (pc f a0 j)).1≠0 then pc f a0 j else pc f a0 j++(f j (pc f a0 j)).2
def JB(f:Nat->l_ aV->LR)(a0:l_ aV)(j:Nat):Int:=(f j<|pc f a0 j).1
def QD(f:Nat->l_ aV->LR)(a0:l_ aV)(c:Nat):LR:=if ar c (λj=>decide (JB f a0 j≠0))=true then(JB f a0<|aE c λj=>decide (JB f a0 j≠0),[])else(0,pc f a0 c)
def kI(x:ay):Nat->Nat->mL->LR
 |0,_,_=>(2,[])
 |g+1,m,e=>
  if m<1\/iY e.bW=false then(2,[])
  else if pW e.aN.mode=false then((cW x 1 e.bW).2,[Qv e.aN (cW x 1 e.bW).1])
  else if(cW x 3 e.bW).2≠0 then((cW x 3 e.bW).2,[])
  else if T9 (cW x 3 e.bW).1 e.aN.id=true then(2,[])
  else QD (λj a=>kI x g (m-a.length) (JA (cW x 3 e.bW).1 e.aN.id j)) [e.aN] (uC (cW x 3 e.bW).1 e.aN.id)
theorem HJ {f:Nat->l_ aV->LR} {m:Nat}(hf:∀j a,(f j a).2.length<=m-a.length) {a0:l_ aV}(h0:a0.length<=m):∀j,(pc f a0 j).length<=m
 |0=>h0
 |j+1=>by
  have ih:=HJ hf h0 j;unfold pc;split
  .exact ih
  .rw[br];have:=hf j<|pc f a0 j;omega
theorem Xw(f:Nat->l_ aV->LR)(a0:l_ aV):∀j,a0.length<=(pc f a0 j).length
 |0=>bE _
 |j+1=>by
  have ih:=Xw f a0 j;unfold pc;split
  .exact ih
  .rw[br];omega
theorem xa(x:ay):∀g m e,(kI x g m e).2.length<=m
 |0,_,_=>bJ _
 |g+1,m,e=>by
  unfold kI;split
  .exact bJ _
  .rename_i h;have hm:1<=m:=by rcases fA m 1 with q|q;exact absurd (.inl q) h;exact q
   split
   .exact hm
   .split
    .exact bJ _
    .split
     .exact bJ _
     .unfold QD;split
      .exact bJ _
      .exact HJ (f:=λj a=>kI x g (m-a.length) (JA (cW x 3 e.bW).1 e.aN.id j)) (λj a=>xa x g _ _) (a0:=[e.aN]) hm _
theorem Xx {most:Nat} {f:Nat->l_ (l_ J)->l_ (l_ J)->AR} {f':Nat->l_ aV->LR} {ns sn:l_ (l_ J)} {a0:l_ aV} {c:Nat} (h0:ns.length+a0.length<=most)
  (h:∀j a b,j<c->ns.length+a.length<=most->((f j (ns++ib a) b).1=0↔(f' j a).1=0)/\((f j (ns++ib a) b).1=0->(f j (ns++ib a) b).2.1=(ns++ib a)++ib (f' j a).2/\ns.length+(a.length+(f' j a).2.length)<=most)):
  ∀j,j<=c->(pX f (ns++ib a0) sn j).1=ns++ib (pc f' a0 j)/\ns.length+(pc f' a0 j).length<=most
 |0,_=>⟨rfl,h0⟩
 |j+1,hj=>by
  obtain⟨i1,i2⟩:=Xx (sn:=sn) h0 h j U;obtain⟨k1,k2⟩:=h j (pc f' a0 j) (pX f (ns++ib a0) sn j).2 U i2;unfold pX pc;rw[i1];by_cases hz:(f j (ns++ib (pc f' a0 j)) (pX f (ns++ib a0) sn j).2).1=0
  .rw[if_neg<|cI hz,if_neg<|cI<|k1.1 hz];obtain⟨l1,l2⟩:=k2 hz;rw[l1,BM,lG,br];exact⟨rfl,l2⟩
  .rw[if_pos hz,if_pos λq=>hz (k1.2 q)];exact⟨i1,i2⟩
def bi3 {most:Nat} {f:Nat->l_ (l_ J)->l_ (l_ J)->AR} {f':Nat->l_ aV->LR} {ns sn:l_ (l_ J)} {a0:l_ aV} {c:Nat} (h0:ns.length+a0.length<=most)
  (h:∀j a b,j<c->ns.length+a.length<=most->((f j (ns++ib a) b).1=0↔(f' j a).1=0)/\((f j (ns++ib a) b).1=0->(f j (ns++ib a) b).2.1=(ns++ib a)++ib (f' j a).2/\ns.length+(a.length+(f' j a).2.length)<=most)):
  ((Jz f (ns++ib a0) sn c).1=0↔(QD f' a0 c).1=0)/\((Jz f (ns++ib a0) sn c).1=0->(Jz f (ns++ib a0) sn c).2.1=ns++ib (QD f' a0 c).2):=by
 have ha:=Xx (sn:=sn) h0 h;have hk:∀j,j<c->decide ((atA f (ns++ib a0) sn j).1≠0)=decide (JB f' a0 j≠0):=λj hj=>by obtain⟨i1,i2⟩:=ha j U;obtain⟨k1,k2⟩:=h j (pc f' a0 j) (pX f (ns++ib a0) sn j).2 hj i2;unfold atA JB;rw[i1];exact oM.2<|not_congr k1
 have aB9:=ng hk;unfold Jz QD;rw[aB9];cases Y:ar c (λj=>decide (JB f' a0 j≠0))with
 |true=>
  rw[Y]at aB9;have e1:=cn<|dC<|dw.2 aB9;have e2:=cn<|dC<|dw.2 Y;rw[if_pos rfl,if_pos rfl];exact⟨⟨λq=>absurd q e1,λq=>absurd q e2⟩,λq=>absurd q e1⟩
 |false=>
  rw[if_neg dj,if_neg dj];exact⟨di,λ_=>(ha c<|bE _).1⟩
theorem Xy(x:ay)(most:Nat):∀g e ns sn,ns.length<=most->((jv x most g e ns sn).1=0↔(kI x g (most-ns.length) e).1=0)/\((jv x most g e ns sn).1=0->(jv x most g e ns sn).2.1=ns++ib (kI x g (most-ns.length) e).2)
 |0,e,ns,sn,_=>by
  show((2:Int)=0↔(2:Int)=0)/\((2:Int)=0->_)
  exact⟨di,λh=>absurd h dD⟩
 |g+1,e,ns,sn,hn=>by
  have two: ¬(2:Int)=0:=dD;unfold jv kI;by_cases O:most<=ns.length
  .rw[if_pos O,if_pos<|.inl U];exact⟨di,λh=>absurd h two⟩
  .rw[if_neg O];by_cases h2:iY e.bW=false
   .have Y:=(yc x (oz e.aN.mode) e.bW sn).2;have h3:(cW x (oz e.aN.mode) e.bW).2=2:=by unfold cW;rw[if_pos h2]
    rw[h3]at Y;rw[if_pos U,if_pos<|.inr h2,Y];exact⟨di,λh=>absurd h two⟩
   .rw[if_neg (show ¬(most-ns.length<1\/iY e.bW=false) by rintro(q|q);omega;exact h2 q)];by_cases h3:pW e.aN.mode=false
    .have hk:oz e.aN.mode=1:=if_neg (by rw[h3];exact dj);obtain⟨c1,c2⟩:=yc x 1 e.bW sn;rw[hk,if_pos h3,if_pos h3,c2,c1];by_cases h4:(cW x 1 e.bW).2≠0
     .rw[if_pos h4];exact⟨di,λh=>absurd h h4⟩
     .rw[if_neg h4];exact⟨⟨λ_=>mj h4,λ_=>rfl⟩,λ_=>rfl⟩
    .have hk:oz e.aN.mode=3:=if_pos (by simpa using h3);obtain⟨c1,c2⟩:=yc x 3 e.bW sn;rw[hk,if_neg h3,if_neg h3,c2,c1];by_cases h4:(cW x 3 e.bW).2≠0
     .rw[if_pos h4,if_pos h4];exact⟨di,λh=>absurd h h4⟩
     .rw[if_neg h4,if_neg h4];cases h5:T9 (cW x 3 e.bW).1 e.aN.id with
      |true=>
       rw[if_pos<|aL5 _ _ h5,if_pos rfl];exact⟨di,λh=>absurd h two⟩
      |false=>
       obtain⟨g1,g2,g3,g4⟩:=ad5 _ _ h5;rw[if_neg (by rw[g1,g2];rintro(q|q)<;>cases q),if_neg dj];have Gm:(nr (cW x 3 e.bW).1).n=uC (cW x 3 e.bW).1 e.aN.id:=g3;rw[Gm];exact bi3 (most:=most) (f:=λj a b=>jv x most g ((nr (cW x 3 e.bW).1).f j) a b) (f':=λj a=>kI x g (most-ns.length-a.length) (JA (cW x 3 e.bW).1 e.aN.id j)) (ns:=ns) (a0:=[e.aN]) (sn:=(dI x 3 e.bW sn).2.2) (c:=uC (cW x 3 e.bW).1 e.aN.id) (by show ns.length+1<=most;omega) λj a b hj ha=>by
        have Zr:(ns++ib a).length=ns.length+a.length:=by rw[br,se]
        have ih:=Xy x most g (JA (cW x 3 e.bW).1 e.aN.id j) (ns++ib a) b U;have hl:=xa x g (most-ns.length-a.length)<|JA (cW x 3 e.bW).1 e.aN.id j;rw[g4 j hj];rw[Zr,<-Nat.sub_sub]at ih;exact⟨ih.1,λq=>⟨ih.2 q,U⟩⟩
def CS {w:World} {S:Nat->Prop} {a:J} {n:Nat} {f g:Nat->l_ J} {v:Value}(h:∀i,i<n->f i=g i)(N:cf w S (.agg [a,.rf n f]) v):cf w S (.agg [a,.rf n g]) v:=by
 cases N with
 |agg _ vs hl Y=>
  refine .agg _ vs hl λi c v O h2=> ?_
  match i with
  |0=>cases O;exact Y 0 _ v rfl h2
  |1=>cases O;exact fS h<|Y 1 _ v rfl h2
  |i+2=>cases O
def rz {w:World} {S:Nat->Prop} {a b c:J} {v:Value}(h:∀v,cf w S a v->cf w S b v)(N:cf w S (.bg [a,c]) v):cf w S (.bg [b,c]) v:=by
 cases N with
 |bg _ vs hl Y=>
  refine .bg _ vs hl λi c v O h2=> ?_
  match i with
  |0=>cases O;exact h _<|Y 0 _ v rfl h2
  |1=>cases O;exact Y 1 _ v rfl h2
  |i+2=>cases O
def aL6(x:ay)(s:y_)(hx:fc x):wf (BJ x s):=by
 have z:wf (0:Int):=⟨show(-9223372036854775808:Int)<=0 by decide,show(0:Int)<=9223372036854775807 by decide⟩
 unfold BJ;split
 .rename_i h;have hw:=HG x s [] hx;refine⟨rj,?_,hw.2⟩;show(fJ x s []).size<=aq;have hb:sd (aZ x s 4)=false:=by
   cases q:sd (aZ x s 4)with
   |false=>rfl
   |true=>
    unfold pa at h;by_cases O:jJ x s 4≠0
    .rw[if_pos O]at h;exact absurd h O
    .rw[if_neg O,if_pos q]at h;omega
  have hb:=fW hb;have:(cX<|aZ x s 4).1<=1024:=xH.1 λq=>hb<|.inr<|.inr<|.inr q;have:=hw.1;unfold aq;omega
 .exact⟨z,bJ _,λ_=>⟨z,z,z,bJ _,z,bJ _,bJ _,bJ _,z,z,bJ _⟩⟩
def aL7(x:ay)(s:y_)(hx:fc x):Ok P 84 [(af ay).au x,S s] (.bg [(af ct).au<|BJ x s,I<|pa x s []]):=by
 by_cases F:pa x s []=0
 .refine(bi0 x s hx F).res λw Sx v N=> ?_;rw[F];refine rz (λv h=> ?_) N;unfold BJ;rw[if_pos F];have h2:=KE x s;have h3:(oF x s []).aj.n=(yS x s).length:=h2.symm;show cf w Sx (.agg [I (oF x s []).next,.rf (oF x s []).aj.n _]) v;rw[h3];refine CS (λi hi=> ?_) h;rw[HH];exact KB x s [] i U
 .refine(bG5 x s hx F).res λw Sx v N=> ?_;rw[w9]at N;refine rz (λv h=> ?_) N;unfold BJ;rw[if_neg F];exact CS (λi hi=>absurd hi (jC _)) h
def aL8(x:ay)(s:y_)(h:pa x s []=0):eb (BJ x s)=true:=by
 unfold BJ;rw[if_pos h];unfold pa at h;by_cases O:jJ x s 4≠0
 .rw[if_pos O]at h;exact absurd h O
 .rw[if_neg O]at h;by_cases h2:sd (aZ x s 4)=true
  .rw[if_pos h2]at h;omega
  .rw[if_neg h2]at h;by_cases h3:(pZ x s []).1≠0
   .rw[if_pos h3]at h;exact absurd h h3
   .rw[if_neg h3]at h;cases q:eb (oF x s [])with
    |true=>rfl
    |false=>rw[if_pos<|.inr q]at h;omega
