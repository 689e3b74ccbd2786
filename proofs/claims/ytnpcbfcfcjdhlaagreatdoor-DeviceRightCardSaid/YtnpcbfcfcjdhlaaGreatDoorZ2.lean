/- Z2. -/
import Derived.Test.YtnpcbfcfcjdhlaaGreatDoorZ1
import Derived.OpenShut
import Derived.WideShapes
import Derived.Test.YtnpcbfcfcjdhlaaGreatDoorProg
import Derived.OrdersHeld
import Derived.Shelf.Strings.Builder1
import Derived.Shelf.Strings.Builder2
import Derived.Shelf.Strings.OnBuilder
import Derived.Shelf.Small.Bits
import Derived.Shelf.Small.Strs
import Derived.Shelf.Small.Wraps
import Derived.Shelf.Utf8.RuneCount
import Derived.Shelf.Strconv.Itoa0
import Derived.Shelf.Strconv.Itoa1
import Derived.Shelf.LaysM
import Derived.Shelf.Strconv.Itoa2
import Derived.Shelf.Strconv.Itoa3
import Derived.Shelf.Strconv.Itoa4
import Derived.Shelf.Strings.Search1
import Derived.Shelf.Strings.Search2
import Derived.Shelf.Strings.Search3
import Derived.Shelf.Strings.Count
import Derived.Shelf.Strings.Shaped
import Derived.Shelf.Strings.Prefix
import Derived.Shelf.Strings.Split
import Derived.Shelf.Strings.Replace
import Derived.Shelf.Strings.SplitShaped
import Derived.Shelf.Unicode.Decode
import Derived.Shelf.Strings.RuneCount
import Derived.Shelf.Strings.Explode
import Derived.Shelf.Unicode.DecodeSlow
import Derived.Shelf.Unicode.DecodeAny
import Derived.Shelf.Slices.Turned
import Derived.Shelf.Slices.Reverse
import Derived.Ground.Names2Prog
import Derived.Shelf.Slices.Clone
import Derived.Shelf.Slices.SearchI
import Derived.Shelf.Slices.Cells
import Derived.Shelf.Slices.Empties
import Derived.Ground.SlgnProg
import Derived.Shelf.SlicesE.Clone
import Derived.Deep.Draws
import Derived.Sort.Grow
set_option linter.all false
set_option linter.defProp false
set_option maxHeartbeats 9999999
open Go.Proofs.Tryz
noncomputable section
namespace Go.PS
section
open Go.RowKit
section
variable {O h2:Hp}{n:Nat}{p:J}{f:Callee}{args:Array Operand}
section
variable {P:Program} {w0:fR} {w:World} {Sa S:Nat->Prop} {h h':Hp} {m:Mp} {a:Act} {o:Oper} {T T':l_ J} {s s':l8} {ob:l_ Prop} {v:J} {ops:Array Oper} {Q:Exit->Act->World->Prop} {E:Env}
def GM(h:Hp):kill h []=h:=by apply k6;intro i;rw[kS];cases h[i]?<;>simp
def Reads(u:Option (l_ Nat))(O h2:Hp):Prop:=
 match u with
 |none=>O=h2
 |some l=>∀id∈l,O[id]?=h2[id]?
def av7(hs:yK p=true):exp O n p=exp h2 n p:=by
 have cell:∀ {n:Nat} {p:J},fO p=true->exp O n p=exp h2 n p:=by
  intro n p hs;cases n with
  |zero=>rfl
  |succ n=>cases p<;>first|rfl|cases hs
 cases n with
 |zero=>rfl
 |succ n=>
  cases p with
  |agg cs=>
   have:∀ {cs:l_ J},cs.all fO=true->tw (exp O n) cs=tw (exp h2 n) cs:=by
    intro cs
    induction cs with
    |nil=>intro _;rfl
    |cons c cs ih=>
     intro Y;simp only[List.all_cons,fG]at Y;simp only[tw];rw[cell Y.1,ih Y.2]
   simp only[exp,this hs]
  |_=>first|rfl|cases hs
theorem J3:∀ {cs:l_ J},(∀c∈cs,yK c=true)->tw (exp O n) cs=tw (exp h2 n) cs
 | [],_=>rfl
 |c::cs,Y=>by simp only[tw];rw[av7 (h2:=h2) (Y c sS),J3 λc' h'=>Y c' (by simp [h'])]
theorem tE {α β:Type} {f g:α->l_ β}:∀ {l:l_ α},(∀x∈l,f x=g x)->l.flatMap f=l.flatMap g
 | [],_=>rfl
 |x::l,h=>by simp only[Fb];rw[h x sS,tE λy hy=>h y (by simp [hy])]
def Zz(hs:yK p=true):ou O n p=ou h2 n p:=by
 have cell:∀ {n:Nat} {p:J},fO p=true->ou O n p=ou h2 n p:=by
  intro n p hs;cases n with
  |zero=>rfl
  |succ n=>cases p<;>first|rfl|cases hs
 cases n with
 |zero=>rfl
 |succ n=>
  cases p with
  |agg cs=>exact tE λc Y=>cell<|cU.1 hs c Y
  |_=>first|rfl|cases hs
def S3{g:FuncId} {ps:l_ J}(cy:Ge T f args=true)(Y:u9 P T f args=some (g,ps)):ps.all yK=true:=by
 unfold Ge at cy;rw[fG]at cy;have vU:∀ {qs:l_ J},Dy T args.toList=some qs->∀c∈qs,yK c=true:=by intro qs hqs c Y;obtain⟨k,hk⟩:=mY Y;obtain⟨x,x1,x2⟩:=(AW hqs).2 k c hk;have:=cU.1 cy.1 x<|cw x1;rw[x2]at this;simpa using this
 unfold u9 at Y;split at Y
 .rename_i f' ps' wD;split at Y
  .cases Y;exact cU.2<|vU wD
  .rename_i g' cs hf;cases Y;refine cU.2 λc Y=> ?_;rcases kx.1 Y with Y|Y
   .exact vU wD c Y
   .have h2:=cy.2;simp only[hf,jz,xv]at h2;exact cU.1 h2 c Y
  .cases Y
 .rename_i r name ps' wD;have h2:=cy.2;split at Y
  .rename_i t q hf;split at Y
   .cases Y;refine cU.2 λc Y=> ?_;rcases fB.1 Y with rfl|Y
    .simpa [hf,bt1]using h2
    .exact vU wD c Y
   .cases Y
  .cases Y
 .cases Y
def nf(F:ql P T h o s=some (v,h',ob,s')):h'=h/\∀h2,ql P T h2 o s=some (v,h2,ob,s'):=by
 unfold ql at F;split at F
 .cases F
 .rename_i at5;split at F
  .rename_i jM;split at F
   .rename_i v1 hp;cases F;refine⟨rfl,λh2=> ?_⟩;unfold ql;split
    .rename_i cs b aX;exact absurd aX<|at5 cs b
    .rw[if_pos jM,hp]
   .cases F
  .cases F
def xW{Wg:Array TypeId}(aX:o.op= .call ⟨f,args,Wg⟩)(Y:Dz P E T h f args s=some (v,h',ob,s')):h'=h/\∀h2,Reads (mh T o).1 h h2->Dz P E T h2 f args s=some (v,h2,ob,s'):=by
 unfold Dz at Y;split at Y
 .rename_i g ps OY;split at Y
  .rename_i ci6 vis hex;split at Y
   .rename_i r1 tX hEg;split at Y
    .rename_i iJ;cases Y;refine⟨rfl,λh2 N=> ?_⟩;have key:tw (exp h2 ln) ps=some (ci6,vis)/\ps.flatMap (ou h2 ln)=ps.flatMap (ou h ln):=by
      by_cases cy:(ps.all yK)=true
      .have jM:∀c∈ps,yK c=true:=by grind
       exact⟨by rw[<-hex];exact J3 jM,tE λc Y=>Zz (jM c Y)⟩
      .have:h=h2:=by
        have hu:(mh T o).1=none:=by simp only[mh,aX,OI];rw[if_neg];intro Y;exact cy<|S3 Y OY
        rw[hu]at N;exact N
       rw[<-this];exact⟨hex,rfl⟩
     unfold Dz;rw[OY];simp only[key.1,hEg,key.2];rw[if_pos iJ]
    .cases Y
   .cases Y
  .cases Y
 .cases Y
def Wp(hs:xL o=false)(F:evalOp P E true T h o s=some (v,h',ob,s')):h'=h/\∀h2,Reads (mh T o).1 h h2->evalOp P E true T h2 o s=some (v,h2,ob,s'):=by
 unfold evalOp at F;split at F
 case h_9 t x y aX=>simp [xL,aX]at hs
 case h_8 t x aX=>
  split at F
  .rename_i p hp;have oq:∀ {h2:Hp},Reads (mh T o).1 h h2->∀ {id i off:Nat},p= .ptr id i off->h[id]?=h2[id]?:=by intro h2 N id i off hpp;subst hpp;simp only[mh,aX,hp,Reads]at N;exact N id sS
   have ldp:∀ {h2:Hp},Reads (mh T o).1 h h2->rO P h2 t p=rO P h t p:=by
    intro h2 N;cases p with
    |ptr id i off=>simp only[rO];rw[oq N rfl]
    |_=>rfl
   have lde:∀ {h2:Hp},Reads (mh T o).1 h h2->∀e,F8 P h2 t e p=F8 P h t e p:=by
    intro h2 N e;cases p with
    |ptr id i off=>simp only[F8];rw[oq N rfl]
    |_=>rfl
   have ldo:∀ {h2:Hp},Reads (mh T o).1 h h2->∀tl,Gb P h2 t tl p=Gb P h t tl p:=by
    intro h2 N tl;cases tl with
    |elem e=>simp only[Gb];exact lde N e
    |cell x=>
     cases p with
     |ptr id i off=>simp only[Gb];rw[oq N rfl]
     |_=>rfl
   split at F
   .rename_i tl AU;split at F
    .rename_i q X hq;cases F;exact⟨rfl,λh2 N=>by simp only[evalOp,aX,hp,AU,ldo N,hq]⟩
    .cases F
   rename_i AU;split at F
   .rename_i e s2;split at F
    .rename_i q X hq;cases F;exact⟨rfl,λh2 N=>by simp only[evalOp,aX,hp,AU,lde N,hq]⟩
    .cases F
   .split at F
    .rename_i q hq;cases F;exact⟨rfl,λh2 N=>by simp only[evalOp,aX,hp,AU,ldp N,hq]⟩
    .cases F
   .split at F
    .rename_i q X hq;cases F;refine⟨rfl,λh2 N=> ?_⟩;have:loadT P h2 t p=loadT P h t p:=by
      cases p with
      |ptr id i off=>cases off<;>simp only[loadT];rw[oq N rfl]
      |_=>rfl
     simp only[evalOp,aX,hp,AU,this,hq]
    .cases F
   .rename_i DJ hn2 hn3;split at F
    .rename_i q hq;cases F;refine⟨rfl,λh2 N=> ?_⟩;simp only[evalOp,aX,hp,AU,ldp N,hq]
    .rename_i hq0;split at F
     .rename_i q X hq;cases F;refine⟨rfl,λh2 N=> ?_⟩;simp only[evalOp,aX,hp,AU,ldp N,hq0,hq]
     .cases F
  .cases F
 case h_12 t x i aX=>
  split at F
  .rename_i p n hp hi;split at F
   .rename_i q AK hq;cases F;refine⟨rfl,λh2 N=> ?_⟩;have:JT P h2 t n (mg p)=some (v,ob):=by
     cases p with
     |own id off len=>
      have:h[id]?=h2[id]?:=by simp only[mh,aX,hp,Reads,jz,mg]at N;exact N id sS
      simp only[JT,mg]at hq⊢;rw[<-this];exact hq
     |bf id len=>
      have:h[id]?=h2[id]?:=by simp only[mh,aX,hp,Reads,jz,mg]at N;exact N id sS
      simp only[JT,mg]at hq⊢;rw[<-this];exact hq
     |_=>exact hq
    simp only[evalOp,aX,hp,hi,this]
   .cases F
  .cases F
 case h_13 t x lo hi mx aX=>
  split at F
  .rename_i p hp;split at F
   .rename_i q AK hq;cases F;refine⟨rfl,λh2 N=> ?_⟩;have:Cp P T h2 t (mg p) lo hi mx=some (v,ob):=by
     cases p with
     |own id off len=>
      have:h[id]?=h2[id]?:=by simp only[mh,aX,hp,Reads,jz,mg]at N;exact N id sS
      simp only[Cp,mg]at hq⊢;rw[<-this];exact hq
     |bf id len=>
      have:h[id]?=h2[id]?:=by simp only[mh,aX,hp,Reads,jz,mg]at N;exact N id sS
      simp only[Cp,mg]at hq⊢;rw[<-this];exact hq
     |sc y=>cases y<;>first|exact hq|cases hq
     |_=>exact hq
    simp only[evalOp,aX,hp,this]
   .cases F
  .cases F
 case h_18 t l c aX=>cases F
 case h_19 src dst x aX=>
  have Fw:∀ {h2:Hp},Reads (mh T o).1 h h2->DB P h2 src dst (dU T x)=DB P h src dst (dU T x):=by
   intro h2 N;cases hx:dU T x with
   |none=>simp [DB]
   |some q=>
    have:u5 h2 q=u5 h q:=by
     cases q with
     |own id off len=>
      have:h[id]?=h2[id]?:=by simp only[mh,aX,hx,Reads,jz,mg]at N;exact N id sS
      simp only[u5,mT,this]
     |bf id len=>
      have:h[id]?=h2[id]?:=by simp only[mh,aX,hx,Reads,jz,mg]at N;exact N id sS
      simp only[u5,this]
     |_=>rfl
    unfold DB;split
    .split
     .rename_i q' hq;cases hq;rw[this]
     .rfl
    .rfl
  split at F
  .rename_i v1 tX Y;cases F;refine⟨rfl,λh2 N=> ?_⟩;rw[<-Fw N]at Y;simp only[evalOp,aX,Y]
  .rename_i Y;obtain⟨q1,q2⟩:=nf F;refine⟨q1,λh2 N=> ?_⟩;rw[<-Fw N]at Y;simp only[evalOp,aX,Y];exact q2 h2
 case h_20 g cs aX=>
  split at F
  .rename_i ps wD;cases F;exact⟨rfl,λh2 _=>by simp only[evalOp,aX,wD]⟩
  .cases F
 case h_21 f args Wg aX=>
  split at F
  .rename_i r Y;cases F;obtain⟨q1,q2⟩:=xW aX Y;refine⟨q1,λh2 N=> ?_⟩;simp only[evalOp,aX,q2 h2 N]
  .cases F
 case h_22 f name args Wg aX=>
  split at F
  .rename_i r Y;cases F;obtain⟨q1,q2⟩:=xW aX Y;refine⟨q1,λh2 N=> ?_⟩;simp only[evalOp,aX,q2 h2 N]
  .cases F
 case h_10 x aX=>
  split at F
  .rename_i id i off hp;cases F;exact⟨rfl,λh2 _=>by simp only[evalOp,aX,hp]⟩
  .rename_i cs off hp;cases F;exact⟨rfl,λh2 _=>by simp only[evalOp,aX,hp]⟩
  .rename_i hp1 hp2;obtain⟨q1,q2⟩:=nf F;refine⟨q1,λh2 _=> ?_⟩;simp only[evalOp,aX];exact q2 h2
 case h_17 k t x y t' aX=>
  split at F
  .rename_i v1 tX hb;cases F;exact⟨rfl,λh2 _=>by simp only[evalOp,aX,hb]⟩
  .rename_i hp1;obtain⟨q1,q2⟩:=nf F;refine⟨q1,λh2 _=> ?_⟩;simp only[evalOp,aX,hp1];exact q2 h2
 case h_23 x t aX=>
  split at F
  .rename_i p z hp hz;split at F
   .rename_i n hl;cases F;exact⟨rfl,λh2 _=>by simp only[evalOp,aX,hp,hz,hl]⟩
   .cases F
  .rename_i hp1;obtain⟨q1,q2⟩:=nf F;refine⟨q1,λh2 _=> ?_⟩;simp only[evalOp,aX];exact q2 h2
 case h_26 t x y aX=>
  split at F
  .rename_i id p hx hy;split at F
   .rename_i B hB;split at F
    .rename_i v1 hl;cases F;refine⟨rfl,λh2 N=> ?_⟩;have hb:h[id]?=h2[id]?:=by simp only[mh,aX,hx,Reads]at N;exact N id sS
     simp only[evalOp,aX,hx,hy,<-hb,hB,hl]
    .cases F
   .cases F
  .cases F
 case h_30 O h2 h3 h4 h5 h6 h7 h8 h9 h10 h11 h12 h13 h14 h15 h16 h17 h18 h19 h20 h21 h22 h23 h24 h25 h26 h27 h28 h29=>
  obtain⟨q1,q2⟩:=nf F;refine⟨q1,λg2 _=> ?_⟩;unfold evalOp;split;all_goals first
   |exact q2 g2
   |(rename_i aX;first|exact(O _ aX).elim|exact(O _ _ aX).elim|exact(O _ _ _ aX).elim|exact(O _ _ _ _ aX).elim|exact(O _ _ _ _ _ aX).elim|exact(h2 _ aX).elim|exact(h2 _ _ aX).elim|exact(h2 _ _ _ aX).elim|exact(h2 _ _ _ _ aX).elim|exact(h2 _ _ _ _ _ aX).elim|exact(h3 _ aX).elim|exact(h3 _ _ aX).elim|exact(h3 _ _ _ aX).elim|exact(h3 _ _ _ _ aX).elim|exact(h3 _ _ _ _ _ aX).elim|exact(h4 _ aX).elim|exact(h4 _ _ aX).elim|exact(h4 _ _ _ aX).elim|exact(h4 _ _ _ _ aX).elim|exact(h4 _ _ _ _ _ aX).elim|exact(h5 _ aX).elim|exact(h5 _ _ aX).elim|exact(h5 _ _ _ aX).elim|exact(h5 _ _ _ _ aX).elim|exact(h5 _ _ _ _ _ aX).elim|exact(h6 _ aX).elim|exact(h6 _ _ aX).elim|exact(h6 _ _ _ aX).elim|exact(h6 _ _ _ _ aX).elim|exact(h6 _ _ _ _ _ aX).elim|exact(h7 _ aX).elim|exact(h7 _ _ aX).elim|exact(h7 _ _ _ aX).elim|exact(h7 _ _ _ _ aX).elim|exact(h7 _ _ _ _ _ aX).elim|exact(h8 _ aX).elim|exact(h8 _ _ aX).elim|exact(h8 _ _ _ aX).elim|exact(h8 _ _ _ _ aX).elim|exact(h8 _ _ _ _ _ aX).elim|exact(h9 _ aX).elim|exact(h9 _ _ aX).elim|exact(h9 _ _ _ aX).elim|exact(h9 _ _ _ _ aX).elim|exact(h9 _ _ _ _ _ aX).elim|exact(h10 _ aX).elim|exact(h10 _ _ aX).elim|exact(h10 _ _ _ aX).elim|exact(h10 _ _ _ _ aX).elim|exact(h10 _ _ _ _ _ aX).elim|exact(h11 _ aX).elim|exact(h11 _ _ aX).elim|exact(h11 _ _ _ aX).elim|exact(h11 _ _ _ _ aX).elim|exact(h11 _ _ _ _ _ aX).elim|exact(h12 _ aX).elim|exact(h12 _ _ aX).elim|exact(h12 _ _ _ aX).elim|exact(h12 _ _ _ _ aX).elim|exact(h12 _ _ _ _ _ aX).elim|exact(h13 _ aX).elim|exact(h13 _ _ aX).elim|exact(h13 _ _ _ aX).elim|exact(h13 _ _ _ _ aX).elim|exact(h13 _ _ _ _ _ aX).elim|exact(h14 _ aX).elim|exact(h14 _ _ aX).elim|exact(h14 _ _ _ aX).elim|exact(h14 _ _ _ _ aX).elim|exact(h14 _ _ _ _ _ aX).elim|exact(h15 _ aX).elim|exact(h15 _ _ aX).elim|exact(h15 _ _ _ aX).elim|exact(h15 _ _ _ _ aX).elim|exact(h15 _ _ _ _ _ aX).elim|exact(h16 _ aX).elim|exact(h16 _ _ aX).elim|exact(h16 _ _ _ aX).elim|exact(h16 _ _ _ _ aX).elim|exact(h16 _ _ _ _ _ aX).elim|exact(h17 _ aX).elim|exact(h17 _ _ aX).elim|exact(h17 _ _ _ aX).elim|exact(h17 _ _ _ _ aX).elim|exact(h17 _ _ _ _ _ aX).elim|exact(h18 _ aX).elim|exact(h18 _ _ aX).elim|exact(h18 _ _ _ aX).elim|exact(h18 _ _ _ _ aX).elim|exact(h18 _ _ _ _ _ aX).elim|exact(h19 _ aX).elim|exact(h19 _ _ aX).elim|exact(h19 _ _ _ aX).elim|exact(h19 _ _ _ _ aX).elim|exact(h19 _ _ _ _ _ aX).elim|exact(h20 _ aX).elim|exact(h20 _ _ aX).elim|exact(h20 _ _ _ aX).elim|exact(h20 _ _ _ _ aX).elim|exact(h20 _ _ _ _ _ aX).elim|exact(h21 _ aX).elim|exact(h21 _ _ aX).elim|exact(h21 _ _ _ aX).elim|exact(h21 _ _ _ _ aX).elim|exact(h21 _ _ _ _ _ aX).elim|exact(h22 _ aX).elim|exact(h22 _ _ aX).elim|exact(h22 _ _ _ aX).elim|exact(h22 _ _ _ _ aX).elim|exact(h22 _ _ _ _ _ aX).elim|exact(h23 _ aX).elim|exact(h23 _ _ aX).elim|exact(h23 _ _ _ aX).elim|exact(h23 _ _ _ _ aX).elim|exact(h23 _ _ _ _ _ aX).elim|exact(h24 _ aX).elim|exact(h24 _ _ aX).elim|exact(h24 _ _ _ aX).elim|exact(h24 _ _ _ _ aX).elim|exact(h24 _ _ _ _ _ aX).elim|exact(h25 _ aX).elim|exact(h25 _ _ aX).elim|exact(h25 _ _ _ aX).elim|exact(h25 _ _ _ _ aX).elim|exact(h25 _ _ _ _ _ aX).elim|exact(h26 _ aX).elim|exact(h26 _ _ aX).elim|exact(h26 _ _ _ aX).elim|exact(h26 _ _ _ _ aX).elim|exact(h26 _ _ _ _ _ aX).elim|exact(h27 _ aX).elim|exact(h27 _ _ aX).elim|exact(h27 _ _ _ aX).elim|exact(h27 _ _ _ _ aX).elim|exact(h27 _ _ _ _ _ aX).elim|exact(h28 _ aX).elim|exact(h28 _ _ aX).elim|exact(h28 _ _ _ aX).elim|exact(h28 _ _ _ _ aX).elim|exact(h28 _ _ _ _ _ aX).elim|exact(h29 _ aX).elim|exact(h29 _ _ aX).elim|exact(h29 _ _ _ aX).elim|exact(h29 _ _ _ _ aX).elim|exact(h29 _ _ _ _ _ aX).elim)
 all_goals
  rename_i aX
  (repeat' (split at F))<;>first
   |(cases F;done)
   |exact absurd rfl ‹¬true=true›
   |(cases F;exact⟨rfl,λh2 _=>by simp [evalOp, *]⟩)
end
end
section
variable {E:Env} {P:Program} {w0:fR} {w:World} {Sa S:Nat->Prop} {h h':Hp} {m:Mp} {a:Act} {o:Oper} {T T':l_ J} {s s':l8} {ob:l_ Ob} {v:J} {ops:Array Oper} {Q:Exit->Act->World->Prop}
def av8(hT:SF w S m T a) {x:Operand} {p:J}(hx:dU T x=some p):cv w S m p (a.eval x):=by
 cases x with
 |tmp t=>exact hT.2 t p hx
 |const c=>simp [dU]at hx;subst hx;exact .st _ _ (OM w S c)
 |global g=>simp [dU]at hx;subst hx;exact .st _ _ (.sc _)
 |func f=>simp [dU]at hx;subst hx;exact .st _ _ (.sc _)
theorem SF.put(hT:SF w S m T a) {d:Option Tmp} {u:Value}(N:cv w S m v u):SF w S m (PS.put T d v) (a.put d u):=by
 cases d with
 |none=>exact hT
 |some d=>
  refine⟨by simp [PS.put,Act.put,hT.1],λt p ht=> ?_⟩;simp only[PS.put,cD]at ht;simp only[Act.put,mn,Ar];by_cases hdt:d=t
  .subst hdt;by_cases hl:d<T.length
   .simp [hl]at ht;subst ht;have:d<a.tmps.size:=by rw[<-hT.1];exact hl
    simp [this];exact N
   .simp [hl]at ht
  .rw[if_neg hdt]at ht;rw[if_neg hdt];have:=hT.2 t p ht
   rwa [mn]at this
def SF.go(hT:SF w S m T a) {w':World} {S':Nat->Prop} {m':Mp}(hG:yx w S m w' S' m'):SF w' S' m' T a:=⟨hT.1,λt p ht=>hG _ _ (hT.2 t p ht)⟩
inductive zp:J->J->Prop where
 |refl (p:J):zp p p
 |bit (c:Bool):zp (.sc (.bool c)) (.bit c)
def zp.trans {p q r:J}(O:zp p q)(h2:zp q r):zp p r:=by
 cases O with
 |refl=>exact h2
 |bit c=>cases h2 with
  |refl=>exact .bit c
def zp.rep {p q:J}(hd:zp p q) {u:Value}(N:cv w S m p u):cv w S m q u:=by
 cases hd with
 |refl=>exact N
 |bit c=>rw[jr N];exact .st _ _ (.bit c)
def wa(T T':l_ J):Prop:=T'.length=T.length/\∀(t:Nat) p',T'[t]?=some p'->∃p,T[t]?=some p/\zp p p'
theorem wa.refl(T:l_ J):wa T T:=⟨rfl,λ_ p h=>⟨p,h,.refl p⟩⟩
theorem wa.trans {A B C:l_ J}(O:wa A B)(h2:wa B C):wa A C:=
 ⟨h2.1.trans O.1,λt p h=>let⟨q,q1,q2⟩:=h2.2 t p h;let⟨r,r1,r2⟩:=O.2 t q q1;⟨r,r1,r2.trans q2⟩⟩
def SF.wM(hT:SF w S m T a)(hd:wa T T'):SF w S m T' a:=
 ⟨hd.1.trans hT.1,λt p h=>let⟨q,q1,q2⟩:=hd.2 t p h;q2.rep (hT.2 t q q1)⟩
def CA {t:Nat} {b:Bool}(hd:dec T t s=some (b,T',ob,s'))(cJ:∀X∈ob,X.holds):wa T T'/\T'[t]?=some (.bit b):=by
 have key:∀ {c:Bool},T[t]?=some (.sc<|.bool c)->wa T (T.set t<|.bit c)/\(T.set t<|.bit c)[t]?=some (.bit c):=by
  intro c Y;have hl:=(bm.1 Y).1;refine⟨⟨sS,λt' p' h'=> ?_⟩,by simp [hl]⟩;rw[cD]at h';by_cases htt:t=t'
  .subst htt;simp [hl]at h';subst h';exact⟨_,Y,.bit c⟩
  .rw[if_neg htt]at h';exact⟨p',h',.refl _⟩
 unfold dec at hd;split at hd
 .rename_i c Y;cases hd;exact⟨wa.refl _,Y⟩
 .rename_i c Y;split at hd
  .rename_i b' s2;cases hd;have:c=b:=cJ (.dec c b) sS;subst this;exact key Y
  .split at hd
   .cases hd;exact key Y
   .cases hd;exact key Y
  .cases hd;have:c=true:=cJ (.dec c true) sS;subst this;exact key Y
  .cases hd
 .cases hd
def vm {b:Bool}(hw:V2 ops T o s=some (b,T',ob,s'))(cJ:∀X∈ob,X.holds):wa T T'/\∀ {w:World} {S:Nat->Prop} {m:Mp} {a:Act},(∀t∈o.looksAt ops,∀p,T'[t]?=some p->t<a.tmps.size/\cv w S m p (a.tmps.getD t Go.undef))->Region.wanted o (yielded ops a.tmps)=b:=by
 unfold V2 at hw;split at hw
 .rename_i hg;cases hw;exact⟨wa.refl _,λ_=>by simp [Region.wanted,hg]⟩
 .rename_i j want hg;split at hw
  .rename_i t ht;have O9:t∈o.looksAt ops:=by simp [Oper.looksAt,hg,ht]
   have bU0:∀ {a:Act} {x:Value},t<a.tmps.size->a.tmps.getD t Go.undef=x->a.tmps[t]?=some x:=by intro a x hl hx;rw[mn]at hx;rw[jc hl]at hx⊢;simpa using hx
   have av9:∀ {b0:Bool} {T0:l_ J},(dec T t s=some (b0,T',ob,s'))->b=(b0==want)->wa T T'/\∀ {w:World} {S:Nat->Prop} {m:Mp} {a:Act},(∀t∈o.looksAt ops,∀p,T'[t]?=some p->t<a.tmps.size/\cv w S m p (a.tmps.getD t Go.undef))->Region.wanted o (yielded ops a.tmps)=b:=by intro b0 T0 hd Ai;obtain⟨q1,q2⟩:=CA hd cJ;refine⟨q1,λ{w S m a} hT=> ?_⟩;obtain⟨hl,N⟩:=hT t O9 _ q2;have:=bU0 hl<|py N;simp only[Region.wanted,hg,yielded,ht,Aq,this,Ai];cases b0<;>cases want<;>rfl
   split at hw
   .split at hw
    .rename_i b0 T1 tX s1 hd;cases hw;exact av9 (T0:=T) hd rfl
    .cases hw
   .split at hw
    .rename_i b0 T1 tX s1 hd;cases hw;exact av9 (T0:=T) hd rfl
    .cases hw
   .rename_i x hx hp;cases hw;refine⟨wa.refl _,λ{w S m a} hT=> ?_⟩;obtain⟨hl,N⟩:=hT t O9 _ hp;have:=bU0 hl (jr N);simp only[Region.wanted,hg,yielded,ht,Aq,this];split
    .rename_i bb Ai;cases Ai;exact absurd rfl<|hx bb
    .cases want<;>rfl
   .cases hw
  .cases hw
def GN(hp:V3 T o s=some (T',ob,s'))(cJ:∀X∈ob,X.holds):wa T T':=by
 unfold V3 at hp;split at hp
 .split at hp
  .rename_i b T1 tX s1 hd;cases hp;exact(CA hd cJ).1
  .cases hp
 .cases hp;exact wa.refl _
def put_defers(a:Act)(d:Option Tmp)(u:Value):(a.put d u).defers=a.defers:=by cases d<;>rfl
def GO {dr:Bool} {i:Nat} {K:Act->World->Prop}(hi:ops[i]?=some o)(hE:an P E)(qg:GI P w0.g)(hs:L2 P E dr ops T h o s=some (T',h',ob,s'))(cJ:∀X∈ob,X.holds)(iu:St w0 Sa T h a w)(hK:∀a' w',St w0 Sa T' h' a' w'->K a' w'):
  wpOp P ops Q i K a w:=by
 unfold L2 at hs;obtain⟨S,m,hI,hT,hd⟩:=iu;unfold wpOp;simp only[hi];split at hs
 .rename_i T1 tX s1 hw;split at hs
  .rename_i T2 OH s2 hp;split at hs
   .rename_i v h2 ob3 s3 F;cases hs;obtain⟨d1,d2⟩:=vm hw λX hX=>cJ X (by simp [hX]);have d3:=GN hp λX hX=>cJ X (by simp [hX]);have Ov:=hT.wM d1;have hT2:=Ov.wM d3;have DO:=d2 (w:=w) (S:=S) (m:=m) λt _ p hp=>⟨by rw[<-Ov.1];exact(bm.1 hp).1,Ov.2 t p hp⟩;rw[if_pos DO];refine .inl<|vl hI (λx _ p hx=>av8 hT2 hx) hE qg F (λX hX=>cJ (.xK X) (tm _<|jB.2 ⟨X,hX,rfl⟩)) ?_;rintro v' w' ⟨S',m',mV,hG,N⟩;exact hK _ _ ⟨S',m',mV,(hT2.go hG).put N,by rw[put_defers];exact hd⟩
   .cases hs
  .cases hs
 .rename_i T1 tX s1 hw;cases hs;obtain⟨d1,d2⟩:=vm hw cJ;have Ov:=hT.wM d1;have DO:=d2 (w:=w) (S:=S) (m:=m) λt _ p hp=>⟨by rw[<-Ov.1];exact(bm.1 hp).1,Ov.2 t p hp⟩;rw[if_neg (by rw[DO];simp)];exact hK _ _ ⟨S,m,hI,Ov.put (.st _ _<|.sc _),by rw[put_defers];exact hd⟩
 .cases hs
theorem A5(hE:an P E)(qg:GI P w0.g) {dr:Bool}:∀ {os:l_ Oper} {i:Nat} {T T':l_ J} {h h':Hp} {s s':l8} {ob:l_ Ob} {a:Act} {w:World},ops.toList.drop i=os->Cq P E dr ops os T h s=some (T',h',ob,s')->(∀X∈ob,X.holds)->
  St w0 Sa T h a w->(∀a' w',St w0 Sa T' h' a' w'->Q .normal a' w')->wpOps P ops Q (List.range' i os.length) a w
 | [],i,T,T',h,h',s,s',ob,a,w,_,N,_,iu,hQ=>by
  simp [Cq]at N;obtain⟨rfl,rfl,_⟩:=N;exact hQ a w iu
 |o::os,i,T,T',h,h',s,s',ob,a,w,hos,N,cJ,iu,hQ=>by
  simp only[Cq]at N;split at N
  .rename_i T1 O tX s1 hs;split at N
   .rename_i T2 h2 OH s2 Je;cases N;have hi:ops[i]?=some o:=by
     have:(ops.toList.drop i)[0]?=some o:=by rw[hos];rfl
     rw[iO]at this;simpa using this
    have b63:ops.toList.drop (i+1)=os:=by
     have:(ops.toList.drop i).drop 1=os:=by rw[hos];rfl
     rw[xC]at this;exact this
    rw[iP,List.range'_succ,wpOps_cons];refine GO hi hE qg hs (λX hX=>cJ X (by simp [hX])) iu λa' w' ko=> ?_;exact A5 hE qg b63 Je (λX hX=>cJ X (by simp [hX])) ko hQ
   .cases N
  .cases N
def Mt {id:Nat}(hE:an P E)(qg:GI P w0.g)(N:Cq P E false ops ops.toList T h s=some (T',h',ob,s'))(cJ:∀X∈ob,X.holds)(iu:St w0 Sa T h a w)(hQ:∀a' w',St w0 Sa T' h' a' w'->Q .normal a' w'):
  (Code.region id ops false).wp P Q a w:=by
 refine wp_region ?_;have:=A5 hE qg (Q:=Q) (i:=0) sS N cJ iu hQ;rw[List.range_eq_range'];simpa using this
end
section
variable {P:Program} {w0:fR} {w:World} {Sa S:Nat->Prop} {h h':Hp} {m:Mp} {a:Act} {o:Oper} {T T':l_ J} {s s':l8} {ob:l_ Prop} {v:J} {ops:Array Oper} {Q:Exit->Act->World->Prop} {E:Env}
def zp.back {p q:J}(hd:zp p q) {u:Value}(N:cv w S m q u):cv w S m p u:=by
 cases hd with
 |refl=>exact N
 |bit c=>rw[py N];exact .st _ _ (.sc _)
end
section
variable {P:Program} {w0:fR} {w:World} {Sa S:Nat->Prop} {h h':Hp} {m:Mp} {a:Act} {o:Oper} {T T':l_ J} {s s':l8} {ob:l_ Prop} {v:J} {ops:Array Oper} {Q:Exit->Act->World->Prop} {E:Env}
def Pb(hs:xL o=true)(F:evalOp P E true T h o s=some (v,h',ob,s')):∃id,(mh T o).2=[id]/\∀q,q≠id->h'[q]?=h[q]?:=by
 obtain⟨t,x,y,aX⟩:∃t x y,o.op= .store t x y:=by
  unfold xL at hs;split at hs
  .rename_i t x y aX;exact⟨t,x,y,aX⟩
  .cases hs
 simp only[evalOp,aX]at F;split at F
 .rename_i p q hp hq;split at F
  .cases F
  .rename_i OV;split at F
   .split at F
    .rename_i h2 OH cy;cases F;unfold LZ at cy;split at cy
     .rename_i id i off cs n Aj hz AU;split at cy
      .rename_i B hB;have oS:B.par=[]:=by simpa [Sj,hB]using OV
       split at cy
       .split at cy
        .split at cy
         .cases cy;rw[oS,GM];refine⟨id,by simp [mh,aX,hp],λq hq=> ?_⟩;rw[cD,if_neg λe=>hq e.symm]
         .cases cy
        .cases cy;rw[oS,GM];refine⟨id,by simp [mh,aX,hp],λq hq=> ?_⟩;rw[cD,if_neg λe=>hq e.symm]
       .cases cy
      .cases cy
     .cases cy
    .cases F
   split at F
   .rename_i h2 cy;cases F;unfold Co at cy;split at cy
    .rename_i id i off cs n Aj hz AU;split at cy
     .rename_i B hB;split at cy
      .rename_i e hee;split at cy
       .cases cy;have oS:B.par=[]:=by simpa [Sj,hB]using OV
        rw[oS,GM];refine⟨id,by simp [mh,aX,hp],λq hq=> ?_⟩;rw[cD,if_neg λe=>hq e.symm]
       .cases cy
      .cases cy
     .cases cy
    .cases cy
   .cases F
 .cases F
def A6 {α:Type}(l:l_ α)(x:α) {q:Nat}(hq:q≠l.length):(l++ [x])[q]?=l[q]?:=by grind
def Mu {t:TypeId} {x y r:J}(ha:AI P h t x y=some (r,h',ob)) {q:Nat}(h0:q≠h.length)(hid:∀id off len,mg x= .own id off len->q≠id/\∀B,h[id]?=some B->q∉B.par):h'[q]?=h[q]?:=by
 unfold AI at ha;split at ha
 .split at ha
  .split at ha
   .split at ha
    .split at ha
     .cases ha;exact A6 _ _ h0
     .split at ha
      .cases ha;rfl
      .cases ha;exact A6 _ _ h0
    .rename_i id len;obtain⟨hq,hp⟩:=hid id 0 len rfl;split at ha
     .split at ha
      .cases ha;rw[A6 _ _<|by simpa using h0,cD,if_neg λe=>hq e.symm]
      .cases ha
     .cases ha
    .rename_i id off len;obtain⟨hq,hp⟩:=hid id off len rfl;split at ha
     .rename_i B hB;split at ha
      .split at ha
       .cases ha;rw[A6 _ _<|by simpa using h0,cD,if_neg λe=>hq e.symm]
       .cases ha;rw[A6 _ _ (by rw[jL];simpa using h0),kS,cD,if_neg λe=>hq e.symm];have:=hp B hB;cases h[q]? with
        |none=>rfl
        |some X=>simp [this]
      .cases ha
     .cases ha
    .cases ha
   .cases ha
  .cases ha
 .cases ha
def DP {f:Callee} {args:Array Operand}(Y:JR P E T h f args s=some (v,h',ob,s')):∀q,q∉L4 P T h h' f args->h'[q]?=h[q]?:=by
 intro q hq;unfold JR at Y;split at Y
 .rename_i g ps OY;unfold L4 at hq;rw[OY]at hq;simp only[fB,kx,jB,List.mem_range,not_or,not_exists,not_and]at hq;obtain⟨q1,⟨q2,q3⟩,q4⟩:=hq;split at Y
  .split at Y
   .split at Y
    .split at Y
     .rename_i r' bs qD hbs;cases Y;have hl:(mu (kill h<|nb h<|handed h ps) (handed h ps) bs).length=h.length:=by rw[tC,jL]
      rcases fA q h.length with iH|hge
      .rw[dy U,kF _ _ _ _ q2,kS];cases h[q]? with
       |none=>rfl
       |some B=>simp [q3]
      .rw[gx hge,gx];rcases fA q (mu (kill h<|nb h<|handed h ps) (handed h ps) bs++bs.drop (handed h ps).length).length with iH|b64
       .exact absurd U<|q4 (q-h.length) U
       .exact b64
     .cases Y
    .cases Y
   .cases Y
  .cases Y
 .cases Y
def Pc(hal:Ss o=true)(F:evalOp P E false T h o s=some (v,h',ob,s')):∀q,q∉AL P T h h' o->h'[q]?=h[q]?:=by
 intro q hq;have fresh:∀ {X:dW},q∉ [h.length]->(h++ [X])[q]?=h[q]?:=by grind
 unfold Ss at hal;split at hal
 .rename_i t aX;simp only[evalOp,aX,jZ,ky]at F;simp only[AL,aX]at hq;split at F
  .cases F;exact fresh hq
  .cases F
 .rename_i t x aX;simp only[evalOp,aX,jZ,ky]at F;simp only[AL,aX]at hq;split at F
  .split at F
   .cases F;exact fresh hq
   .cases F
  .cases F
 .rename_i t n parts aX;simp only[evalOp,aX,jZ,ky]at F;simp only[AL,aX]at hq;split at F
  .split at F
   .split at F
    .split at F
     .cases F;exact fresh hq
     .cases F
    .cases F
   .cases F
  .cases F
 .rename_i t l c aX;simp only[evalOp,aX,jZ,ky]at F;simp only[AL,aX]at hq;split at F
  .split at F
   .rename_i r h2 OH hm;cases F;unfold V0 at hm;split at hm
    .split at hm
     .split at hm
      .cases hm;exact fresh hq
      .cases hm
     .cases hm
    .cases hm
   .cases F
  .cases F
 .rename_i args Wg aX;unfold evalOp at F;split at F<;>rename_i ZA<;>rw[aX]at ZA<;>try (cases ZA;done)
  .cases ZA;simp only[jZ,ky]at F;split at F
   .rename_i p q' z hp uc hz;split at F
    .rename_i r h2 OH ha;cases F;refine Mu ha (λe=> ?_) (λid off len hid=>⟨λe=> ?_,λB hB hp2=> ?_⟩)
     .refine hq ?_;simp only[AL,aX];split<;>simp [e]
     .refine hq ?_;simp only[AL,aX,hp,jz,hid];simp [e]
     .refine hq ?_;simp only[AL,aX,hp,jz,hid,hB,xv];simp [hp2]
    .cases F
   .cases F
  .exact(nf F).1▸rfl
 .rename_i f args Wg aX;simp only[evalOp,aX,jZ,ky]at F;simp only[AL,aX]at hq;split at F
  .rename_i r Y;cases F;rw[(xW aX Y).1]
  .exact DP F q hq
 .rename_i f n args Wg aX;simp only[evalOp,aX,jZ,ky]at F;simp only[AL,aX]at hq;split at F
  .rename_i r Y;cases F;rw[(xW aX Y).1]
  .exact DP F q hq
 .rename_i t r aX;unfold evalOp at F;split at F<;>rename_i ZA<;>rw[aX]at ZA<;>try (cases ZA;done)
  .simp only[jZ,ky]at F;simp only[AL,aX]at hq;split at F
   .cases F;exact fresh hq
   .cases F
  .exact(nf F).1▸rfl
 .rename_i t x y u aX;simp only[evalOp,aX,jZ,ky]at F;split at F
  .rename_i id p v1 hx hy hu;split at F
   .split at F
    .cases F;simp only[AL,aX,hx]at hq;rw[cD,if_neg];rintro rfl;exact hq sS
    .cases F
   .cases F
  .cases F
 .cases hal
structure Rc(E:Env)(P:Program)(ops:Array Oper)(o:Oper)(Ta Tb Tc:l_ J)(ha Y:Hp)(v:J)(wn:Bool)(u:Option (l_ Nat)×l_ Nat):Prop where
 wM:wa Ta Tb
 want:∀ {w:World} {S:Nat->Prop} {m:Mp} {a:Act},(∀t∈o.looksAt ops,∀p,Tb[t]?=some p->t<a.tmps.size/\cv w S m p (a.tmps.getD t Go.undef))->Region.wanted o (yielded ops a.tmps)=wn
 yes:wn=true->∃dr s s' ob,evalOp P E dr Tb ha o s=some (v,Y,ob,s')/\(∀X∈ob,X)/\(u.2=[]->Y=ha/\∀h2,Reads u.1 ha h2->evalOp P E dr Tb h2 o s=some (v,h2,ob,s'))/\∀q,q∉u.2->Y[q]?=ha[q]?
 no:wn=false->v= .sc Go.undef/\Y=ha/\u=(some [],[])
 next:Tc=put Tb o.dst v
def S4 {u:Option (l_ Nat)×l_ Nat}(F:as8 P E T h o s=some ((v,h',ob,s'),u))(cJ:∀X∈ob,X):
  ∃dr s s' ob,evalOp P E dr T h o s=some (v,h',ob,s')/\(∀X∈ob,X)/\(u.2=[]->h'=h/\∀h2,Reads u.1 h h2->evalOp P E dr T h2 o s=some (v,h2,ob,s'))/\∀q,q∉u.2->h'[q]?=h[q]?:=by
 unfold as8 at F;split at F
 .rename_i r N;cases F;refine⟨true,s,s',ob,N,cJ,λhu=> ?_,λq hq=> ?_⟩
  .cases hs:xL o with
   |false=>exact Wp hs N
   |true=>
    obtain⟨id,i1,_⟩:=Pb hs N;rw[i1]at hu;cases hu
  .cases hs:xL o with
   |false=>rw[(Wp hs N).1]
   |true=>
    obtain⟨id,i1,i2⟩:=Pb hs N;exact i2 q λe=>hq (by rw[i1];simp [e])
 .split at F
  .rename_i hal;split at F
   .rename_i r N;cases F;refine⟨false,s,s',ob,N,cJ,λhu=> ?_,Pc hal N⟩;exfalso;unfold AL at hu;split at hu
    .split at hu<;>cases hu
    .cases hu
    .cases hu
    .split at hu<;>cases hu
    .cases hu
   .cases F
  .cases F
theorem CB:∀ {os:l_ Oper} {T T':l_ J} {h h':Hp} {s s':l8} {ob:l_ Ob} {us:l_ (Option (l_ Nat)×l_ Nat)},Su P E ops os T h s=some (T',h',ob,s',us)->(∀X∈ob,X.holds)->
  ∃(Ts Tb:Nat->l_ J) (H:Nat->Hp) (cj1:Nat->J) (cj2:Nat->Bool),Ts 0=T/\H 0=h/\Ts os.length=T'/\H os.length=h'/\us.length=os.length/\
   ∀(k:Nat) o u,os[k]?=some o->us[k]?=some u->Rc E P ops o (Ts k) (Tb k) (Ts<|k+1) (H k) (H<|k+1) (cj1 k) (cj2 k) u
 | [],T,T',h,h',s,s',ob,us,N,_=>by
  simp [Su]at N;obtain⟨rfl,rfl,_,_,rfl⟩:=N;exact⟨λ_=>T,λ_=>T,λ_=>h,λ_=> .dF,λ_=>true,rfl,rfl,rfl,rfl,rfl,λk o u q=>by simp at q⟩
 |o::os,T,T',h,h',s,s',ob,us,N,cJ=>by
  have glue:∀ {Tb1 Tc1:l_ J} {hc1:Hp} {v1:J} {wn1:Bool} {u1:Option (l_ Nat)×l_ Nat} {us1:l_ (Option (l_ Nat)×l_ Nat)},Rc E P ops o T Tb1 Tc1 h hc1 v1 wn1 u1->
    (∃(Ts Tb:Nat->l_ J) (H:Nat->Hp) (cj1:Nat->J) (cj2:Nat->Bool),Ts 0=Tc1/\H 0=hc1/\Ts os.length=T'/\H os.length=h'/\us1.length=os.length/\
     ∀(k:Nat) o u,os[k]?=some o->us1[k]?=some u->Rc E P ops o (Ts k) (Tb k) (Ts (k+1)) (H k) (H (k+1)) (cj1 k) (cj2 k) u)->
    ∃(Ts Tb:Nat->l_ J) (H:Nat->Hp) (cj1:Nat->J) (cj2:Nat->Bool),Ts 0=T/\H 0=h/\Ts (o::os).length=T'/\H (o::os).length=h'/\(u1::us1).length=(o::os).length/\
     ∀(k:Nat) o' u,(o::os)[k]?=some o'->(u1::us1)[k]?=some u->Rc E P ops o' (Ts k) (Tb k) (Ts<|k+1) (H k) (H<|k+1) (cj1 k) (cj2 k) u:=by
   intro Tb1 Tc1 hc1 v1 wn1 u1 us1 hrc ⟨Ts,Tb,H,cj1,cj2,e1,e2,e3,e4,e5,e6⟩;refine⟨λk=>match k with|0=>T|k+1=>Ts k,λk=>match k with|0=>Tb1|k+1=>Tb k,λk=>match k with|0=>h|k+1=>H k,λk=>match k with|0=>v1|k+1=>cj1 k,λk=>match k with|0=>wn1|k+1=>cj2 k,
    rfl,rfl,e3,e4,by simp [e5],λk o' u q1 q2=> ?_⟩
   cases k with
   |zero=>
    simp at q1 q2;subst q1;subst q2;show Rc E P ops o T Tb1 (Ts 0) h (H 0) v1 wn1 u1;rw[e1,e2];exact hrc
   |succ k=>
    simp at q1 q2;exact e6 k o' u q1 q2
  simp only[Su]at N;split at N
  .rename_i T1 tX s1 hw;split at N
   .rename_i T2 OH s2 hp;split at N
    .rename_i v1 O ob3 s3 u1 F;split at N
     .rename_i T3 h3 ob4 s4 us4 S5;cases N;obtain⟨d1,d2⟩:=vm hw (λX hX=>cJ X (by simp [hX]));have d3:=GN hp (λX hX=>cJ X (by simp [hX]));refine glue (Tb1:=T2) (v1:=v1) (wn1:=true) ⟨d1.trans d3,λ{w S m a} hT=>d2 (w:=w) (S:=S) (m:=m) λt ht p hpt=> ?_,λ_=>S4 F λX hX=>cJ (.xK X) (qO _<|tm _<|jB.2 ⟨X,hX,rfl⟩),(λh=>by cases h),rfl⟩
       (CB S5 λX hX=>cJ X (by simp [hX]))
      have hl:=(bm.1 hpt).1;have Et:t<T2.length:=by rw[d3.1];exact hl
      obtain⟨q,q1,q2⟩:=d3.2 t T2[t] (by simp [Et]);rw[hpt]at q1;cases q1;obtain⟨r1,r2⟩:=hT t ht T2[t] (by simp [Et]);exact⟨r1,q2.back r2⟩
     .cases N
    .cases N
   .cases N
  .rename_i T1 tX s1 hw;split at N
   .rename_i T3 h3 ob4 s4 us4 S5;cases N;obtain⟨d1,d2⟩:=vm hw λX hX=>cJ X (by simp [hX]);exact glue (Tb1:=T1) (v1:= .sc Go.undef) (wn1:=false) ⟨d1,d2,(λh=>by cases h),λ_=>⟨rfl,rfl,rfl⟩,rfl⟩<|CB S5 λX hX=>cJ X (by simp [hX])
   .cases N
  .cases N
structure Mv(ops:Array Oper):Prop where
 back:∀(i:Nat) o,ops[i]?=some o->∀e∈o.after,Region.binds .any e=true->e.on<i
 look:∀(i j:Nat) o q d,ops[i]?=some o->ops[j]?=some q->i≠j->q.dst=some d->d∈o.looksAt ops->(j<i->mU ops i j=true)/\(i<j->mU ops j i=true)
 b65:∀(i j:Nat) o q d,ops[i]?=some o->ops[j]?=some q->o.dst=some d->q.dst=some d->i=j
def Pd(hd:L3 ops=true):Mv ops:=by
 unfold L3 at hd;have lt:∀ {i:Nat} {o:Oper},ops[i]?=some o->i<ops.size:=λhi=>by
  rcases fA _ _ with h|h
  .exact h
  .rw[tk h]at hi;cases hi
 have key:∀ {i:Nat} {o:Oper},ops[i]?=some o->(o.after.all λe=> !Region.binds .any e||decide (e.on<i))=true/\∀ {j:Nat} {q:Oper},ops[j]?=some q->i≠j->
   V5 ops i j o q=true:=by
  intro i o hi;have O:=cU.1 hd i (by simp [lt hi]);simp only[hi,fG]at O;refine⟨O.1,λ{j q} hj nP=> ?_⟩;have h2:=cU.1 O.2 j (by simp [lt hj]);simp only[hj]at h2;rw[jA]at h2;rcases h2 with h2|h2
  .exact absurd (by simpa using h2) nP
  .exact h2
 refine⟨λi o hi e F hb=> ?_,λi j o q d hi hj nP hd hl=> ?_,λi j o q d hi hj O h2=> ?_⟩
 .have:=(key hi).1;rw[LM]at this;have:=this e F;simpa [hb]using this
 .have:=(key hi).2 hj nP;simp only[V5,hd,fG,jA,gl,V4]at this;rcases this.1 with h3|h3
  .have:(o.looksAt ops).contains d=true:=by simpa using hl
   rw[this]at h3;cases h3
  .exact⟨λiH=>by rwa [if_pos iH]at h3,λiH=>by rwa [if_neg U]at h3⟩
 .by_cases nP:i=j
  .exact nP
  .have:=(key hi).2 hj nP;simp [V5,h2,O]at this
inductive Wq(ops:Array Oper):Nat->Nat->Prop where
 |aw0 {i j:Nat} (h:mU ops i j=true):Wq ops i j
 |step {i j k:Nat} (h:mU ops i j=true) (r:Wq ops j k):Wq ops i k
theorem zq:∀ {r l:l_ Nat} {x:Nat},x∈u6 l r->x∈l\/x∈r
 | [],_,_,h=> .inl h
 |y::r,l,x,h=>by
  unfold u6 at h;split at h
  .rcases zq h with O|O
   .exact .inl O
   .exact .inr<|fh _ O
  .rcases zq h with O|O
   .rcases kx.1 O with h2|h2
    .exact .inl h2
    .exact .inr (by simp at h2;simp [h2])
   .exact .inr<|fh _ O
theorem Wr:∀(os:l_ Oper) (k:Nat) (acc:l_ (l_ Nat)),ops.toList.drop k=os->acc.length=k->(∀i,∀j∈acc.getD i [],Wq ops i j)->∀i,∀j∈(bb6 os acc).getD i [],Wq ops i j
 | [],k,acc,_,_,hA=>hA
 |o::r,k,acc,hd,Ws,hA=>by
  have hl:=Ws;have ho:ops[k]?=some o:=by
   have:(ops.toList.drop k)[0]?=some o:=by rw[hd];rfl
   rw[iO]at this;simpa using this
  refine Wr r (k+1) _ (by rw[<-xC,hd];rfl) (by simp [hl]) λi j hj=> ?_;rcases rD i k with h|h|h
  .rw[cc,dy U,<-cc]at hj;exact hA i j hj
  .subst h;rw[cc,<-hl,lJ]at hj;simp only[xv]at hj;have key:∀(es:l_ _) (l:l_ Nat),(∀e∈es,e∈o.after.toList)->(∀x∈l,Wq ops acc.length x)->∀x∈es.foldl (λl e=>if Region.binds .any e then u6 l (e.on::acc.getD e.on [])else l) l,Wq ops acc.length x:=by
    intro es
    induction es with
    |nil=>intro l _ hl x hx;exact hl x hx
    |cons e es ih=>
     intro l kC hl x hx;refine ih _ (λe' he'=>kC e' (fh _ he')) ?_ x hx;intro y hy;dsimp only at hy;split at hy
     .rename_i hb;have GP:mU ops acc.length e.on=true:=by unfold mU;rw[Ws,ho];simp only[Array.any_eq_true'];exact⟨e,by simpa using kC e ch,by simp [hb]⟩
      rcases zq hy with O|O
      .exact hl y O
      .rcases fB.1 O with rfl|O
       .exact .aw0 GP
       .exact .step GP<|hA _ y O
     .exact hl y hy
   have:=key o.after.toList [] (λ_ h=>h) (λ_ h=>by cases h) j hj
   rwa [hl]at this
  .rw[cc,gx (by simp;omega)]at hj;cases hj
def ZB {i j:Nat}(h:bz6 ops i j=true):(j<i->Wq ops i j)/\(i<j->Wq ops j i):=by
 have hA:=Wr (ops:=ops) ops.toList 0 [] rfl rfl (λi j hj=>by simp at hj);unfold bz6 V4 at h;rw[jA]at h;refine⟨λiH=> ?_,λiH=> ?_⟩
 .rw[if_pos iH,if_pos iH]at h;rcases h with h|h
  .exact .aw0 h
  .exact hA i j (by simpa using h)
 .rw[if_neg U,if_neg U]at h;rcases h with h|h
  .exact .aw0 h
  .exact hA j i (by simpa using h)
end
section
variable {Ta Tc:l_ J}{ha Y:Hp}{wn:Bool}{u:Option (l_ Nat)×l_ Nat}{t i:Nat}{l:Array Bool}
section
variable {E:Env} {P:Program} {w0:fR} {w:World} {Sa S:Nat->Prop} {h h':Hp} {m:Mp} {a:Act} {o:Oper} {T T':l_ J} {s s':l8} {ob:l_ Ob} {v:J} {ops:Array Oper} {Q:Exit->Act->World->Prop}
variable {Ts Tb:Nat->l_ J} {H:Nat->Hp} {cj1:Nat->J} {cj2:Nat->Bool} {us:l_ (Option (l_ Nat)×l_ Nat)}
def Pe(hR:∀(k:Nat) o u,ops[k]?=some o->us[k]?=some u->Rc E P ops o (Ts k) (Tb k) (Ts<|k+1) (H k) (H<|k+1) (cj1 k) (cj2 k) u)(I2:us.length=ops.size):
  ∀k,k<=ops.size->∀(t:Nat) p,(Ts k)[t]?=some p->(∃j,j<k/\∃o,ops[j]?=some o/\o.dst=some t/\zp (cj1 j) p)\/
   ((∀j,j<k->∀o,ops[j]?=some o->o.dst≠some t)/\∃q,(Ts 0)[t]?=some q/\zp q p):=by
 intro k
 induction k with
 |zero=>intro _ t p hp;exact .inr ⟨λj hj=>absurd hj (jC _),p,hp,.refl p⟩
 |succ k ih=>
  intro hk t p hp;have Cl:k<ops.size:=U;have ho:ops[k]?=some ops[k]:=sS;have hu:us[k]?=some (us[k]' U):=sS;have rc:=hR k ops[k] _ ho hu;have old:ops[k].dst≠some t->(Tb k)[t]?=some p->(∃j,j<k+1/\∃o,ops[j]?=some o/\o.dst=some t/\zp (cj1 j) p)\/((∀j,j<k+1->∀o,ops[j]?=some o->o.dst≠some t)/\∃q,(Ts 0)[t]?=some q/\zp q p):=by
   intro nP hb;obtain⟨q,q1,q2⟩:=rc.wM.2 t p hb;rcases ih U t q q1 with⟨j,j1,o,j2,j3,j4⟩|⟨j1,r,r1,r2⟩
   .exact .inl ⟨j,U,o,j2,j3,j4.trans q2⟩
   .refine .inr ⟨λj hj o ho'=> ?_,r,r1,r2.trans q2⟩;by_cases hjk:j=k
    .subst hjk;rw[ho]at ho';cases ho';exact nP
    .exact j1 j U o ho'
  rw[rc.next]at hp;cases hd:ops[k].dst with
  |none=>rw[hd]at hp;exact old (by rw[hd];simp) hp
  |some d=>
   rw[hd]at hp;simp only[PS.put,cD]at hp;by_cases hdt:d=t
   .subst hdt;by_cases hl:d<(Tb k).length
    .simp [hl]at hp;subst hp;exact .inl ⟨k,U,ops[k],ho,hd,.refl _⟩
    .simp [hl]at hp
   .rw[if_neg hdt]at hp;exact old (by rw[hd];simpa using hdt) hp
def bc1 {o:Oper} {Tb:l_ J}{v:J}(rc:Rc E P ops o Ta Tb Tc ha Y v wn u)(hu:u.2=[]):Y=ha:=by
 cases hw:wn with
 |false=>exact(rc.no hw).2.1
 |true=>
  obtain⟨_,_,_,_,_,_,O,_⟩:=rc.yes hw;exact(O hu).1
def aw1 {o:Oper} {Tb:l_ J}{v:J}(rc:Rc E P ops o Ta Tb Tc ha Y v wn u) {q:Nat}(hq:q∉u.2):Y[q]?=ha[q]?:=by
 cases hw:wn with
 |false=>rw[(rc.no hw).2.1]
 |true=>
  obtain⟨_,_,_,_,_,_,_,h2⟩:=rc.yes hw;exact h2 q hq
def zr (hR:∀(k:Nat) o u,ops[k]?=some o->us[k]?=some u->Rc E P ops o (Ts k) (Tb k) (Ts<|k+1) (H k) (H<|k+1) (cj1 k) (cj2 k) u) (I2:us.length=ops.size) {x y:Nat} (hxy:x<=y) (hy:y<=ops.size)
  (yy:∀j,x<=j->j<y->∀u,us[j]?=some u->u.2=[]):H x=H y:=by
 obtain⟨d,rfl⟩:∃d,y=x+d:=⟨y-x,U⟩
 clear hxy
 induction d with
 |zero=>rfl
 |succ d ih=>
  rw[ih U λj O h2=>yy j O U];have Cl:x+d<ops.size:=U;have ho:ops[x+d]?=some ops[x+d]:=sS;have hu:us[x+d]?=some (us[x+d]' U):=sS;exact(bc1 (hR (x+d) ops[x+d] _ ho hu)<|yy (x+d) U U _ hu).symm
def DQ (hR:∀(k:Nat) o u,ops[k]?=some o->us[k]?=some u->Rc E P ops o (Ts k) (Tb k) (Ts<|k+1) (H k) (H<|k+1) (cj1 k) (cj2 k) u) (I2:us.length=ops.size) {q x y:Nat} (hxy:x<=y) (hy:y<=ops.size)
  (hq:∀j,x<=j->j<y->∀u,us[j]?=some u->q∉u.2):(H x)[q]?=(H y)[q]?:=by
 obtain⟨d,rfl⟩:∃d,y=x+d:=⟨y-x,U⟩
 clear hxy
 induction d with
 |zero=>rfl
 |succ d ih=>
  rw[ih U λj O h2=>hq j O U];have Cl:x+d<ops.size:=U;have ho:ops[x+d]?=some ops[x+d]:=sS;have hu:us[x+d]?=some (us[x+d]' U):=sS;exact(aw1 (hR (x+d) ops[x+d] _ ho hu)<|hq (x+d) U U _ hu).symm
def xX(l:Array Bool)(i:Nat):Prop:=l[i]?=some true
structure Mid(w0:fR)(Sa:Nat->Prop)(ops:Array Oper)(us:l_ (Option (l_ Nat)×l_ Nat))(Ts:Nat->l_ J)(H:Nat->Hp)(cj1:Nat->J)(l:Array Bool)(a:Act)(w:World):Prop where
 size:l.size=ops.size
 closed:∀i j,xX l i->mU ops i j=true->xX l j
 defers:a.defers=[]
 tmps:(Ts 0).length=a.tmps.size
 mem:∃S m c,c<=ops.size/\Inv w0 Sa (H c) S m w/\(∀(j:Nat) u,us[j]?=some u->u.2≠ []->(xX l j↔j<c))/\
  (∀(t j:Nat) o,ops[j]?=some o->o.dst=some t->xX l j->cv w S m (cj1 j) (a.tmps.getD t Go.undef)\/a.tmps.size<=t)/\
  (∀t:Nat,(∀(j:Nat) o,ops[j]?=some o->o.dst=some t-> ¬xX l j)->∀p,(Ts 0)[t]?=some p->cv w S m p (a.tmps.getD t Go.undef))
def yL {a:Act}{u:Value}(h:t<a.tmps.size):(a.put (some t) u).tmps.getD t Go.undef=u:=by simp [Act.put,Array.getD_eq_getD_getElem?,h]
def nU {a:Act} {d:Option Tmp}{u:Value}(h:d≠some t):(a.put d u).tmps.getD t Go.undef=a.tmps.getD t Go.undef:=by
 cases d with
 |none=>rfl
 |some d=>
  have:d≠t:=λe=>h (by rw[e]);simp [Act.put,Array.getD_eq_getD_getElem?,this]
def iW(a:Act)(d:Option Tmp)(u:Value):(a.put d u).tmps.size=a.tmps.size:=by cases d<;>simp [Act.put]
def A7 {j:Nat}(hi:i<l.size):xX (l.setIfInBounds i true) j↔xX l j\/j=i:=by
 unfold xX;rw[Ar];by_cases h:i=j
 .subst h;simp [hi]
 .rw[if_neg h];constructor
  .exact .inl
  .rintro(O|O)
   .exact O
   .exact absurd O.symm h
def GQ(hi:i∈Region.ready .any ops l):∃o,ops[i]?=some o/\ ¬xX l i/\∀j,mU ops i j=true->xX l j:=by
 unfold Region.ready at hi;rw[List.mem_filter]at hi;obtain⟨O,h2⟩:=hi;have iH:i<ops.size:=by grind
 have ho:ops[i]?=some ops[i]:=sS;rw[fG]at h2;refine⟨ops[i],ho,λhL=> ?_,λj hj=> ?_⟩
 .have:=h2.1;unfold xX at hL;rw[mn,hL]at this;simp at this
 .have:=h2.2;rw[ho]at this;simp only[jz,xv]at this;unfold mU at hj;rw[ho]at hj;simp only[Array.any_eq_true']at hj;obtain⟨e,e1,e2⟩:=hj;rw[fG]at e2;rw[LM]at this;have:=this e e1;simp only[e2.2,Bool.not_true,Fc]at this;have hej:e.on=j:=by grind
  rw[hej]at this;unfold xX;rw[mn]at this;cases hl:l[j]? with
  |none=>rw[hl]at this;simp at this
  |some b=>rw[hl]at this;simp at this;rw[this]
def DR(hu:Cr ops us=true):∀(i j:Nat) u v,us[i]?=some u->us[j]?=some v->i≠j->v.2≠ []->(u.2≠ []\/u.1=none\/∃l q,u.1=some l/\q∈l/\q∈v.2)->
  (j<i->Wq ops i j)/\(i<j->Wq ops j i):=by
 intro i j u v hi hj nP hv Y;unfold Cr at hu;rw[jA]at hu;rcases hu with hu|hu
 .have:=cU.1 hu v<|cw hj;exact absurd (by simpa using this) hv
 .have O:=cU.1 hu j (by simpa using(bm.1 hj).1);simp only[hj,jA]at O;rcases O with O|O
  .exact absurd (by simpa using O) hv
  .have h2:=cU.1 O i (by simpa using(bm.1 hi).1);simp only[hi,jA]at h2;rcases h2 with(h2|h2)|h2
   .exact absurd (by simpa using h2) nP
   .exfalso;unfold bt2 at h2;rw[jA,fG]at h2;rcases h2 with h2|⟨h2,h3⟩
    .exact hv (by simpa using h2)
    .rcases Y with Y|Y|⟨l,q,Y,q1,q2⟩
     .exact Y (by simpa using h2)
     .rw[Y]at h3;cases h3
     .rw[Y]at h3;have:=cU.1 h3 q q1;simp [q2]at this
   .exact ZB h2
def Mid.Wt(hM:Mid w0 Sa ops us Ts H cj1 l a w) {i j:Nat}(N:Wq ops i j):xX l i->xX l j:=by
 induction N with
 |aw0 h=>intro hi;exact hM.closed _ _ hi h
 |step h _ ih=>intro hi;exact ih (hM.closed _ _ hi h)
def mid_step (hE:an P E) (qg:GI P w0.g) (hD:Mv ops) (hR:∀(k:Nat) o u,ops[k]?=some o->us[k]?=some u->Rc E P ops o (Ts k) (Tb k) (Ts<|k+1) (H k) (H<|k+1) (cj1 k) (cj2 k) u) (I2:us.length=ops.size) (hU:Cr ops us=true)
  {l:Array Bool} {i:Nat} {K:Act->World->Prop} (hM:Mid w0 Sa ops us Ts H cj1 l a w) (hi:i∈Region.ready .any ops l) (hK:∀a' w',Mid w0 Sa ops us Ts H cj1 (l.setIfInBounds i true) a' w'->K a' w'):wpOp P ops Q i K a w:=by
 obtain⟨o,ho,ue,GP⟩:=GQ hi;have iH:i<ops.size:=by
  rcases fA i ops.size with h|h
  .exact h
  .rw[tk h]at ho;cases ho
 have oR:i<l.size:=by rw[hM.size];exact iH
 have hu:us[i]?=some (us[i]' U):=sS;have rc:=hR i o _ ho hu;obtain⟨S,m,c,Y,hI,cy,hw1,GR⟩:=hM.mem;have later:∀ {j:Nat},mU ops j i=true-> ¬xX l j:=λF hL=>ue (hM.closed _ _ hL F);have aw2:∀ {j:Nat},Wq ops j i-> ¬xX l j:=λF hL=>ue (hM.Wt F hL);have aw3:∀ {j:Nat},Wq ops i j->xX l j:=by
  intro j N;cases N with
  |aw0 h=>exact GP _ h
  |step h r=>exact hM.Wt r<|GP _ h
 have O9:∀t∈o.looksAt ops,∀p,(Tb i)[t]?=some p->t<a.tmps.size/\cv w S m p (a.tmps.getD t Go.undef):=by
  intro t ht p hp;obtain⟨q,q1,q2⟩:=rc.wM.2 t p hp;have hlen:∀k,k<=ops.size->(Ts k).length=(Ts 0).length:=by
   intro k
   induction k with
   |zero=>intro _;rfl
   |succ k ih=>
    intro hk;have Cl:k<ops.size:=U;have rk:=hR k ops[k] (us[k]' U) (by simp [Cl]) (by simp [I2,Cl]);rw[rk.next];have:(PS.put (Tb k) ops[k].dst<|cj1 k).length=(Tb k).length:=by cases ops[k].dst<;>simp [PS.put]
    rw[this,rk.wM.1];exact ih U
  have hts:t<a.tmps.size:=by rw[<-hM.tmps,<-hlen i U];exact(bm.1 q1).1
  refine⟨hts,q2.rep ?_⟩;rcases Pe hR I2 i U t q q1 with⟨j,j1,oj,j2,j3,j4⟩|⟨j1,r,r1,r2⟩
  .have hj:=(hD.look i j o oj t ho j2 U j3 ht).1 j1;rcases hw1 t j oj j2 j3 (GP j hj)with O|O
   .exact j4.rep O
   .exact absurd O<|Nat.not_le.2 hts
  .refine r2.rep (GR t (λj oj j2 j3=> ?_) r r1);rcases rD j i with h|h|h
   .exact absurd j3<|j1 j h oj j2
   .subst h;exact ue
   .exact later<|(hD.look i j o oj t ho j2 U j3 ht).2 h
 have bU1:∀x∈o.op.operands,∀p,dU (Tb i) x=some p->cv w S m p (a.eval x):=by
  intro x hx p hp;cases x with
  |tmp t=>
   refine(O9 t ?_ p hp).2;exact qO _<|List.mem_filterMap.2 ⟨.tmp t,by simpa using hx,rfl⟩
  |const c=>simp [dU]at hp;subst hp;exact .st _ _<|OM w S c
  |global g=>simp [dU]at hp;subst hp;exact .st _ _<|.sc _
  |func f=>simp [dU]at hp;subst hp;exact .st _ _<|.sc _
 have done:∀ {u:Value} {w':World} {S':Nat->Prop} {m':Mp} {c':Nat},c'<=ops.size->Inv w0 Sa (H c') S' m' w'->yx w S m w' S' m'->cv w' S' m' (cj1 i) u->(∀(j:Nat) uj,us[j]?=some uj->uj.2≠ []->(xX l j\/j=i↔j<c'))->
   Mid w0 Sa ops us Ts H cj1 (l.setIfInBounds i true) (a.put o.dst u) w':=by
  intro u w' S' m' c' hc' mV hG N AX;refine⟨by simp [hM.size],λx y hx F=> ?_,by rw[put_defers];exact hM.defers,by rw[iW];exact hM.tmps,S',m',c',hc',mV,λj oj j1 j2=> ?_,λt j oj j1 j2 j3=> ?_,λt yy p hp=> ?_⟩
  .rw[A7 oR]at hx⊢;rcases hx with hx|rfl
   .exact .inl<|hM.closed x y hx F
   .exact .inl<|GP y F
  .rw[A7 oR];exact AX j oj j1 j2
  .rw[A7 oR]at j3;by_cases hd:o.dst=some t
   .have:i=j:=hD.b65 i j o oj t ho j1 hd j2;subst this;rw[hd,iW];by_cases hts:t<a.tmps.size
    .rw[yL hts];exact .inl N
    .exact .inr U
   .rw[nU hd,iW];rcases j3 with j3|rfl
    .rcases hw1 t j oj j1 j2 j3 with O|O
     .exact .inl<|hG _ _ O
     .exact .inr O
    .rw[ho]at j1;cases j1;exact absurd j2 hd
  .have hd:o.dst≠some t:=λhd=>yy i o ho hd<|(A7 oR).2<|.inr rfl;rw[nU hd];exact hG _ _<|GR t (λj oj j1 j2 j3=>yy j oj j1 j2 ((A7 oR).2<|.inl j3)) p hp
 have front:(us[i]' U).2≠ []\/(us[i]' U).1=none->(∀(j:Nat) uj,us[j]?=some uj->uj.2≠ []->j≠i->(xX l j↔j<i)):=by
  intro Y j uj j1 j2 nP;obtain⟨q1,q2⟩:=DR hU i j _ uj hu j1 (λe=>nP e.symm) j2<|Y.imp_right .inl;rcases rD j i with h|h|h
  .exact⟨λ_=>h,λ_=>aw3 (q1 h)⟩
  .exact absurd h nP
  .exact⟨λhL=>absurd hL (aw2<|q2 h),λh'=>U⟩
 have same:(∀(j:Nat) uj,us[j]?=some uj->uj.2≠ []->j≠i->(xX l j↔j<i))->H i=H c:=by
  intro hf;rcases Nat.le_total i c with hic|hic
  .refine zr hR I2 hic Y λj O h2 uj j1=>mj λj2=> ?_;have h3:=(cy j uj j1 j2).2 h2;by_cases Pf:j=i
   .subst Pf;exact ue h3
   .rw[hf j uj j1 j2 Pf]at h3;omega
  .refine(zr hR I2 hic U λj O h2 uj j1=>mj λj2=> ?_).symm;have h3:=(hf j uj j1 j2 U).2 h2;rw[cy j uj j1 j2]at h3;omega
 have DO:=rc.want O9;unfold wpOp;simp only[ho];have stay:(us[i]' U).2=[]->∀(j:Nat) uj,us[j]?=some uj->uj.2≠ []->(xX l j\/j=i↔j<c):=by
  intro hu0 j uj j1 j2;rw[<-cy j uj j1 j2];constructor
  .rintro(h|rfl)
   .exact h
   .rw[hu]at j1;cases j1;exact absurd hu0 j2
  .exact .inl
 have goes:(us[i]' U).2≠ []->∀(j:Nat) uj,us[j]?=some uj->uj.2≠ []->(xX l j\/j=i↔j<i+1):=by
  intro hu0 j uj j1 j2;by_cases Pf:j=i
  .subst Pf;exact⟨λ_=>rK _,λ_=> .inr rfl⟩
  .rw[front (.inl hu0) j uj j1 j2 Pf];omega
 cases hw:cj2 i with
 |false=>
  rw[hw]at DO;rw[if_neg (by rw[DO];simp)];obtain⟨hv,hH,hu0⟩:=rc.no hw;refine hK _ _ ?_;exact done Y hI (yx.refl _ _ _) (by rw[hv];exact .st _ _ (.sc _)) (stay<|by rw[hu0])
 |true=>
  rw[hw]at DO;rw[if_pos DO];obtain⟨dr,s1,s2,tX,F,cJ,hro,_⟩:=rc.yes hw;refine .inl ?_;by_cases hu0:(us[i]' U).2=[]
  .obtain⟨_,AT⟩:=hro hu0;have bB1:Reads (us[i]' U).1 (H i) (H c):=by
    cases hu1:(us[i]' U).1 with
    |none=>exact same<|front<|.inr hu1
    |some lr=>
     intro q hq;have hqw:∀(j:Nat) uj,us[j]?=some uj->q∈uj.2->(xX l j↔j<i):=by
      intro j uj j1 j2;have nP:uj.2≠ []:=λh=>by rw[h]at j2;cases j2
      have Pf:i≠j:=λh=>by subst h;rw[hu]at j1;cases j1;exact nP hu0
      obtain⟨q1,q2⟩:=DR hU i j _ uj hu j1 Pf nP<|.inr<|.inr ⟨lr,q,hu1,hq,j2⟩;rcases rD j i with h|h|h
      .exact⟨λ_=>h,λ_=>aw3 (q1 h)⟩
      .exact absurd h.symm Pf
      .exact⟨λhL=>absurd hL (aw2<|q2 h),λh'=>U⟩
     rcases Nat.le_total i c with hic|hic
     .refine DQ hR I2 hic Y λj O h2 uj j1 j2=> ?_;have h3:=(cy j uj j1 (λh=>by rw[h]at j2;cases j2)).2 h2;rw[hqw j uj j1 j2]at h3;omega
     .refine(DQ hR I2 hic U λj O h2 uj j1 j2=> ?_).symm;have h3:=(hqw j uj j1 j2).2 h2;rw[cy j uj j1 (λh=>by rw[h]at j2;cases j2)]at h3;omega
   refine vl hI bU1 hE qg (AT (H c) bB1) cJ ?_;rintro u w' ⟨S',m',mV,hG,N⟩;exact hK _ _<|done Y mV hG N<|stay hu0
  .rw[same<|front<|.inl hu0]at F;refine vl hI bU1 hE qg F cJ ?_;rintro u w' ⟨S',m',mV,hG,N⟩;exact hK _ _<|done (c':=i+1) U mV hG N<|goes hu0
def mid_end (hR:∀(k:Nat) o u,ops[k]?=some o->us[k]?=some u->Rc E P ops o (Ts k) (Tb k) (Ts<|k+1) (H k) (H<|k+1) (cj1 k) (cj2 k) u) (I2:us.length=ops.size) {l:Array Bool}
  (hM:Mid w0 Sa ops us Ts H cj1 l a w) (jM:∀i,i<ops.size->xX l i):St w0 Sa (Ts ops.size) (H ops.size) a w:=by
 obtain⟨S,m,c,Y,hI,cy,hw1,GR⟩:=hM.mem;have lt:∀ {j:Nat} {oj:Oper},ops[j]?=some oj->j<ops.size:=by
  intro j oj hj;rcases fA j ops.size with h|h
  .exact h
  .rw[tk h]at hj;cases hj
 have hH:H c=H ops.size:=zr hR I2 Y (bE _) λj O h2 uj j1=>mj λj2=>by have:=(cy j uj j1 j2).1<|jM j h2;omega
 have hlen:∀k,k<=ops.size->(Ts k).length=(Ts 0).length:=by
  intro k
  induction k with
  |zero=>intro _;rfl
  |succ k ih=>
   intro hk;have Cl:k<ops.size:=U;have rk:=hR k ops[k] (us[k]' U) (by simp [Cl]) (by simp [I2,Cl]);rw[rk.next];have:(PS.put (Tb k) ops[k].dst<|cj1 k).length=(Tb k).length:=by cases ops[k].dst<;>simp [PS.put]
   rw[this,rk.wM.1];exact ih U
 refine⟨S,m,by rw[<-hH];exact hI,⟨by rw[hlen _<|bE _];exact hM.tmps,λt p hp=> ?_⟩,hM.defers⟩;have hts:t<a.tmps.size:=by rw[<-hM.tmps,<-hlen _ (bE _)];exact(bm.1 hp).1
 rcases Pe hR I2 ops.size (bE _) t p hp with⟨j,j1,oj,j2,j3,j4⟩|⟨j1,r,r1,r2⟩
 .rcases hw1 t j oj j2 j3 (jM j j1)with O|O
  .exact j4.rep O
  .omega
 .exact r2.rep<|GR t (λj oj j2 j3=>absurd j3 (j1 j (lt j2) oj j2)) r r1
def ZC(hD:Mv ops) {l:Array Bool}(hl:l.size=ops.size)(N:Region.ready .any ops l=[]):∀i,i<ops.size->xX l i:=by
 intro i
 induction i using Nat.strongRecOn with
 |_ i ih=>
  intro hi;refine mj λhn=> ?_;have:i∈Region.ready .any ops l:=by
   unfold Region.ready;rw[List.mem_filter];refine⟨by simp [hi],?_⟩;have ho:ops[i]?=some ops[i]:=sS;rw[fG];constructor
   .have oR:i<l.size:=U;unfold xX at hn;rw[jc oR]at hn;rw[mn,jc oR];simpa using hn
   .rw[ho];simp only[jz,xv];rw[LM];intro e F;cases hb:Region.binds .any e with
    |false=>rfl
    |true=>
     have iH:=hD.back i ops[i] ho e F hb;have:=ih e.on iH U;unfold xX at this;rw[mn,this];rfl
  rw[N]at this;cases this
theorem J4 (hE:an P E) (qg:GI P w0.g) (hD:Mv ops) (hR:∀(k:Nat) o u,ops[k]?=some o->us[k]?=some u->Rc E P ops o (Ts k) (Tb k) (Ts<|k+1) (H k) (H<|k+1) (cj1 k) (cj2 k) u) (I2:us.length=ops.size) (hU:Cr ops us=true)
  (hQ:∀a' w',St w0 Sa (Ts ops.size) (H ops.size) a' w'->Q .normal a' w'):
  ∀(fuel:Nat) (l:Array Bool) (a:Act) (w:World),Mid w0 Sa ops us Ts H cj1 l a w->((List.range ops.size).filter λi=> !(l.getD i true)).length<=fuel->wpAny P .any ops Q fuel l a w
 |0,l,a,w,hM,hf=>by
  have jM:∀i,i<ops.size->xX l i:=by
   intro i hi;have oS:((List.range ops.size).filter λi=> !(l.getD i true))=[]:=oL U;have:=List.filter_eq_nil_iff.1 oS i (by simp [hi]);have oR:i<l.size:=by rw[hM.size];exact hi
   unfold xX;rw[mn]at this;rw[jc oR]at this⊢;simpa using this
  refine⟨?_,hQ a w<|mid_end hR I2 hM jM⟩;unfold Region.ready;rw[List.filter_eq_nil_iff];intro i hi;have:=jM i (by simpa using hi);unfold xX at this;rw[mn,this];simp
 |fuel+1,l,a,w,hM,hf=>by
  refine⟨λN=>hQ a w (mid_end hR I2 hM<|ZC hD hM.size N),λi hi=> ?_⟩;obtain⟨o,ho,ue,_⟩:=GQ hi;refine mid_step hE qg hD hR I2 hU hM hi λa' w' hM'=>J4 hE qg hD hR I2 hU hQ fuel _ a' w' hM' ?_;have iH:i<ops.size:=by
   rcases fA i ops.size with h|h
   .exact h
   .rw[tk h]at ho;cases ho
  have oR:i<l.size:=by rw[hM.size];exact iH
  have OL:((List.range ops.size).filter λj=> !((l.setIfInBounds i true).getD j true))=((List.range ops.size).filter λj=> !(l.getD j true)).filter (λj=>j !=i):=by
   rw[List.filter_filter];apply List.filter_congr;intro j _;rw[mn,mn,Ar];by_cases h:i=j
   .subst h;simp [oR]
   .rw[if_neg h];have:(j !=i)=true:=by simpa using λe=>h e.symm
    rw[this];simp
  rw[OL];have bA4:i∈(List.range ops.size).filter λj=> !(l.getD j true):=by rw[List.mem_filter];refine⟨by simp [iH],?_⟩;unfold xX at ue;rw[jc oR]at ue;rw[mn,jc oR];simpa using ue
  have:(((List.range ops.size).filter λj=> !(l.getD j true)).filter λj=>j !=i).length<((List.range ops.size).filter λj=> !(l.getD j true)).length:=by refine Nat.lt_of_le_of_ne (List.length_filter_le _ _) λF=> ?_;have:=List.length_filter_eq_length_iff.1 F i bA4;simp at this
  omega
def S6 {id:Nat} (hE:an P E) (qg:GI P w0.g) (bB2:P.follows .mixedOrders=true) (hdr:L3 ops=true) (N:Su P E ops ops.toList T h s=some (T',h',ob,s',us)) (cJ:∀X∈ob,X.holds) (hU:Cr ops us=true) (iu:St w0 Sa T h a w)
  (hQ:∀a' w',St w0 Sa T' h' a' w'->Q .normal a' w'):(Code.region id ops true).wp P Q a w:=by
 obtain⟨Ts,Tb,H,cj1,cj2,e1,e2,e3,e4,e5,e6⟩:=CB N cJ;have I2:us.length=ops.size:=U;have hR:∀(k:Nat) o u,ops[k]?=some o->us[k]?=some u->Rc E P ops o (Ts k) (Tb k) (Ts<|k+1) (H k) (H<|k+1) (cj1 k) (cj2 k) u:=by grind
 have hn:ops.toList.length=ops.size:=sS;rw[hn]at e3 e4;subst e3;subst e4;obtain⟨S,m,hI,hT,hd⟩:=iu;refine wp_region_any bB2 ?_;obtain⟨mV,hG⟩:=pI hI;refine J4 hE qg (Pd hdr) hR I2 hU hQ ops.size _ a w.drew ⟨sS,λi j hi=> ?_,hd,by rw[e1];exact hT.1,S,m,0,bJ _,by rw[e2];exact mV,λj o _ _=> ?_,λt j o _ _ hj=> ?_,λt _ p hp=> ?_⟩ ?_
 .unfold xX at hi;rw[Ax]at hi;split at hi<;>cases hi
 .constructor
  .intro hj;unfold xX at hj;rw[Ax]at hj;split at hj<;>cases hj
  .intro hj;exact absurd hj<|jC _
 .unfold xX at hj;rw[Ax]at hj;split at hj<;>cases hj
 .rw[e1]at hp;exact hG _ _<|hT.2 t p hp
 .exact cm (List.length_filter_le _ _) sS
end
end
section
variable {live keep:l_ Nat}{f:FuncId}{fn:Func}{args:l_ J}{r:J}
section
variable {E:Env} {L:gD} {P:Program} {w0:fR} {w:World} {Sa S:Nat->Prop} {h h':Hp} {m:Mp} {a:Act} {o:Out} {T T':l_ J} {s s':l8} {ob:l_ Ob} {Q:Exit->Act->World->Prop}
def Out.aw4:Out->Exit
 | .norm=> .normal
 | .ext id=> .exit id
 | .ret=> .ret
def ax(P:Program)(c:Code)(T:l_ J)(h:Hp)(o:Out)(T':l_ J)(h':Hp):Prop:=
 ∃n:Nat,∀(w0:fR) (Sa:Nat->Prop) (a:Act) (w:World) (Q:Exit->Act->World->Prop),GI P w0.g->St w0 Sa T h a w->(∀a' w',St w0 Sa T' h' a' w'->Q o.aw4 a' w')->Code.rounds P c Q n a w
theorem St.wM(iu:St w0 Sa T h a w)(hd:wa T T'):St w0 Sa T' h a w:=by obtain⟨S,m,hI,hT,Ak⟩:=iu;exact⟨S,m,hI,hT.wM hd,Ak⟩
def Pg(live:l_ Nat)(T:l_ J)(i:Nat):(mask live T)[i]?=(T[i]?).map λp=>if live.contains i then p else .any:=by unfold mask;rw[b9,List.getElem?_zipIdx];cases T[i]?<;>simp
theorem St.mask(iu:St w0 Sa T h a w):St w0 Sa (PS.mask live T) h a w:=by
 obtain⟨S,m,hI,hT,Ak⟩:=iu;refine⟨S,m,hI,⟨by simp [PS.mask,hT.1],λt p ht=> ?_⟩,Ak⟩;rw[Pg]at ht;cases h0:T[t]? with
 |none=>rw[h0]at ht;cases ht
 |some q=>
  rw[h0]at ht;simp only[jz,mo]at ht;subst ht;split
  .exact hT.2 t q h0
  .exact .st _ _<|.any _
theorem A8 {α:Type} {p:α->Bool}:∀ {l:l_ α} {i:Nat},(∀j,j<=i->∃x,l[j]?=some x/\p x=true)->i<(l.takeWhile p).length
 | [],i,h=>by
  obtain⟨x,O,_⟩:=h 0<|bJ _;cases O
 |y::l,i,h=>by
  obtain⟨x,O,h2⟩:=h 0<|bJ _;simp at O;subst O;rw[List.takeWhile_cons,if_pos h2];cases i with
  |zero=>simp
  |succ i=>
   have:=A8 (l:=l) (i:=i) (p:=p) λj hj=>by obtain⟨x,e1,e2⟩:=h (j+1) U;exact⟨x,by simpa using e1,e2⟩
   simp;exact this
def J5 {S:Nat->Prop} {m m':Mp}{id:Nat} {X:dW}(hI:Inv w0 Sa h S m w)(hX:as5 h keep id=some X)(hm:∀(id j:Nat) x,pos id keep=some j->m[id]?=some x->m'[j]?=some x):
  ∃B,h[id]?=some B/\X.par=[]/\X.gV=B.gV/\X.sz=B.sz/\X.sym=B.sym/\((X.es=[]/\X.st=2)\/(B.st≠1/\X.st=B.st/\Turned w S m m' X.es B)):=by
 unfold as5 at hX;split at hX
 .rename_i B hB;split at hX
  .cases hX;exact⟨B,hB,rfl,rfl,rfl,rfl,.inl ⟨rfl,rfl⟩⟩
  .split at hX
   .cases hX
   .rename_i cy;split at hX
    .rename_i es kC;cases hX;exact⟨B,hB,rfl,rfl,rfl,rfl,.inr ⟨cy,rfl,xR kC (hI.syms id B hB) hm⟩⟩
    .cases hX
 .cases hX
def Wu {S:Nat->Prop} {m:Mp}{T':l_ J} {h':Hp}(hI:Inv w0 Sa h S m w)(Ov:rP (mG (pos · keep) 4) T=some T')(hh1:rP (as5 h keep) keep=some h')(Ou:keep.Nodup)(hpk:keep.take (pins h)=List.range (pins h)):
  Inv w0 Sa h' S (kT m keep) w/\T'.length=T.length/\∀(i:Nat) p',T'[i]?=some p'->∃p,T[i]?=some p/\∀v,cv w S m p v->cv w S (kT m keep) p' v:=by
 obtain⟨t1,t2⟩:=j5 Ov;obtain⟨k1,k2⟩:=j5 hh1;have hmm:∀(id j:Nat) x,pos id keep=some j->m[id]?=some x->(kT m keep)[j]?=some x:=λid j x O h2=>xT (Mm O) h2;have hblk:∀ {j:Nat} {X:dW},h'[j]?=some X->∃id B,keep[j]?=some id/\h[id]?=some B/\X.par=[]/\X.gV=B.gV/\X.sz=B.sz/\X.sym=B.sym/\((X.es=[]/\X.st=2)\/(B.st≠1/\X.st=B.st/\Turned w S m (kT m keep) X.es B)):=by intro j X hj;obtain⟨id,e1,e2⟩:=k2 j X hj;obtain⟨B,q⟩:=J5 hI e2 hmm;exact⟨id,B,e1,q⟩
 have hkm:∀id∈keep,∃x,m[id]?=some x:=by
  intro id hid;obtain⟨j,hj⟩:=mY hid;have Cj:j<h'.length:=by rw[k1];exact(bm.1 hj).1
  obtain⟨jd,B,e1,e2,_⟩:=hblk (show h'[j]?=some h'[j] by simp [Cj]);rw[hj]at e1;cases e1;have:id<m.length:=by rw[hI.len];exact(bm.1 e2).1
  exact⟨m[id],by simp [this]⟩
 have jM:∀ {j:Nat} {X:dW} {x:Nat×Nat×Nat},h'[j]?=some X->X.st≠2->(kT m keep)[j]?=some x->∃id B,keep[j]?=some id/\m[id]?=some x/\h[id]?=some B/\B.st≠1/\X.st=B.st/\X.sz=B.sz/\X.sym=B.sym/\Turned w S m (kT m keep) X.es B:=by
  intro j X x hj cy hx;obtain⟨id,B,e1,e2,e3,e4,e5,e6,⟨_,e7⟩|⟨e7,e8,e9⟩⟩:=hblk hj
  .exact absurd e7 cy
  .obtain⟨jd,f1,f2⟩:=Cw hkm hx;rw[e1]at f1;cases f1;exact⟨id,B,e1,f2,e2,e7,e8,e5,e6,e9⟩
 refine⟨⟨hI.qf,hI.sub,hI.lt,by simp [kT,k1],?_,?_,?_,?_,?_,?_,?_,?_,?_,?_,?_⟩,t1,λt p ht=> ?_⟩
 .intro j X b o sz hj cy sC N;obtain⟨id,B,e1,e2,e3,e4,e5,e6,e7,e8⟩:=jM hj U sC;obtain⟨c,et,g1,g2,g3,g4⟩:=hI.oq id B b o sz e3 U e2<|ir e8.1 N;exact⟨c,et,g1,e8.oq g2 g3 g4⟩
 .intro j X b o sz hj cy sC N;obtain⟨id,B,e1,e2,e3,e4,e5,e6,e7,e8⟩:=jM hj U sC;exact hI.live id B b o sz e3 U e2<|ir e8.1 N
 .intro j j' X X' b o sz o' nO hj cy sC xO AX GC N qD;obtain⟨id,B,e1,e2,e3,e4,e5,e6,e7,e8⟩:=jM hj U sC;obtain⟨jd,B',f1,f2,f3,f4,f5,f6,f7,f8⟩:=jM xO U GC;have:=hI.uniq id jd B B' b o sz o' nO e3 U e2 f3 U f2 (ir e8.1 N)<|ir f8.1 qD;subst this;exact wE Ou e1 f1
 .intro j X b o sz hj cy sC N;obtain⟨id,B,e1,e2,e3,e4,e5,_⟩:=jM hj U sC;omega
 .intro j q X cj3 hj hq;obtain⟨id,B,e1,e2,e3,_⟩:=hblk hj;rw[e3]at hq;cases hq
 .intro j q X hj hq;obtain⟨id,B,e1,e2,e3,_⟩:=hblk hj;rw[e3]at hq;cases hq
 .intro j X b o sz hj sC N;obtain⟨id,B,e1,e2,e3,e4,e5,e6,e7⟩:=hblk hj;obtain⟨jd,f1,f2⟩:=Cw hkm sC;rw[e1]at f1;cases f1;rw[e5];refine hI.Ci id B b o sz e2 f2 ?_;rcases e7 with⟨e7,_⟩|⟨_,_,e9⟩
  .rw[e7]at N;rcases N with N|N
   .exact absurd rfl N
   .exact .inr N
  .exact ir e9.1 N
 .intro j X hj hx;obtain⟨id,B,e1,e2,e3,e4,e5,e6,⟨e7,_⟩|⟨_,_,e9⟩⟩:=hblk hj
  .rw[e7];intro e F;cases F
  .rw[e9.2.1 (by rw[<-e6];exact hx)];exact hI.syms id B e2 (by rw[<-e6];exact hx)
 .intro j X b o sz hj cy sC;obtain⟨id,B,e1,e2,e3,e4,e5,e6,e7,e8⟩:=jM hj U sC;obtain⟨q1,⟨q2,q5⟩,q6⟩:=hI.maps id B b o sz e3 U e2;exact⟨q1,⟨by rw[e7];exact q2,by rw[e8.2.1 q2];exact q5⟩,q6⟩
 .intro j j' X X' b o sz o' nO hj cy sC xO AX GC;obtain⟨id,B,e1,e2,e3,e4,e5,e6,e7,e8⟩:=jM hj U sC;obtain⟨jd,B',f1,f2,f3,f4,f5,f6,f7,f8⟩:=jM xO U GC;have:=hI.ua id jd B B' b o sz o' nO e3 U e2 f3 U f2;subst this;exact wE Ou e1 f1
 .intro i x hx;obtain⟨O,B,h2,h3⟩:=hI.gV i x hx;have hip:i<pins h:=by
   refine A8 λj hj=> ?_;have Cj:j<w0.gV.length:=by have:=(bm.1 hx).1;omega
   obtain⟨_,C,c1,c2⟩:=hI.gV j w0.gV[j] (by simp [Cj]);exact⟨C,c1,c2⟩
  have hk:keep[i]?=some i:=by
   have:(keep.take<|pins h)[i]?=some i:=by rw[hpk];simp [hip]
   rwa [lH hip]at this
  obtain⟨X,x1,x2⟩:=Wi hh1 hk;obtain⟨B',b1,_,b3,_⟩:=J5 hI x2 hmm;rw[h2]at b1;cases b1;exact⟨xT hk O,X,x1,b3.trans h3⟩
 .obtain⟨q,q1,q2⟩:=t2 t p ht;exact⟨q,q1,λv hv=>xQ hmm q2 hv⟩
def aw5 {S:Nat->Prop} {m:Mp} {T':l_ J} {h':Hp}(hg:gc T h=some (T',h'))(hI:Inv w0 Sa h S m w):
  ∃m',Inv w0 Sa h' S m' w/\T'.length=T.length/\∀(i:Nat) p',T'[i]?=some p'->∃p,T[i]?=some p/\∀v,cv w S m p v->cv w S m' p' v:=by
 unfold gc at hg;split at hg
 .cases hg;exact⟨m,hI,rfl,λi p hp=>⟨p,hp,λ_ h=>h⟩⟩
 .split at hg
  .rename_i T1 O Ov hh1;split at hg
   .rename_i iJ;cases hg;exact⟨_,Wu hI Ov hh1 iJ.1 iJ.2⟩
   .cases hg
  .cases hg
def aw6 {T':l_ J} {h':Hp}(hg:gc T h=some (T',h'))(iu:St w0 Sa T h a w):St w0 Sa T' h' a w:=by obtain⟨S,m,hI,hT,Ak⟩:=iu;obtain⟨m',O,h2,h3⟩:=aw5 hg hI;refine⟨S,m',O,⟨by rw[h2];exact hT.1,λt p ht=> ?_⟩,Ak⟩;obtain⟨q,q1,q2⟩:=h3 t p ht;exact q2 _<|hT.2 t q q1
def vn {T':l_ J} {h':Hp}(hg:trim live T h=some (T',h'))(iu:St w0 Sa T h a w):St w0 Sa T' h' a w:=aw6 hg iu.mask
def Inv.mark {S:Nat->Prop} {m:Mp}(hI:Inv w0 Sa h S m w) {id:Nat} {B:dW}(hB:h[id]?=some B)(hs:oA B.es):Inv w0 Sa (h.set id {B with sym:=true}) S m w:=by
 have jW:∀ {q:Nat} {X:dW},(h.set id {B with sym:=true})[q]?=some X->∃cj3,h[q]?=some cj3/\X.es=cj3.es/\X.st=cj3.st/\X.par=cj3.par/\X.sz=cj3.sz/\X.gV=cj3.gV/\(cj3.sym=true->X.sym=true)/\(X.sym=true->oA cj3.es):=by
  intro q X hq;rw[cD]at hq;by_cases qV:id=q
  .subst qV;have:id<h.length:=(bm.1 hB).1;simp [this]at hq;subst hq;exact⟨B,hB,rfl,rfl,rfl,rfl,rfl,λ_=>rfl,λ_=>hs⟩
  .rw[if_neg qV]at hq;exact⟨X,hq,rfl,rfl,rfl,rfl,rfl,λh=>h,hI.syms q X hq⟩
 have zf:∀ {q:Nat} {cj3:dW},h[q]?=some cj3->∃X,(h.set id {B with sym:=true})[q]?=some X/\X.es=cj3.es/\X.st=cj3.st/\X.par=cj3.par/\X.gV=cj3.gV:=by
  intro q cj3 hq;rw[cD];by_cases qV:id=q
  .subst qV;have:id<h.length:=(bm.1 hB).1;rw[hB]at hq;cases hq;exact⟨{B with sym:=true},by simp [this],rfl,rfl,rfl,rfl⟩
  .rw[if_neg qV];exact⟨cj3,hq,rfl,rfl,rfl,rfl⟩
 refine⟨hI.qf,hI.sub,hI.lt,by simpa using hI.len,?_,?_,?_,?_,?_,?_,?_,?_,?_,?_,?_⟩
 .intro q X b o sz O h2 h3 h4;obtain⟨cj3,y1,y2,y3,y4,y5,_,_,y6⟩:=jW O;rw[y2]at h4⊢;exact hI.oq q cj3 b o sz y1 (y3▸h2) h3 h4
 .intro q X b o sz O h2 h3 h4;obtain⟨cj3,y1,y2,y3,y4,y5,_,_,y6⟩:=jW O;rw[y2]at h4;exact hI.live q cj3 b o sz y1 (y3▸h2) h3 h4
 .intro q q' X X' b o sz o' nO O h2 h3 OS ZD h3' h4 h4';obtain⟨cj3,y1,y2,y3,y4,y5,_,_,y6⟩:=jW O;obtain⟨Y',Gi,I0,y3',y4',y5',_,_,y6'⟩:=jW OS;rw[y2]at h4;rw[I0]at h4';exact hI.uniq q q' cj3 Y' b o sz o' nO y1 (y3▸h2) h3 Gi (y3'▸ZD) h3' h4 h4'
 .intro q X b o sz O h2 h3 h4;obtain⟨cj3,y1,y2,y3,y4,y5,_,_,y6⟩:=jW O;rw[y2]at h4⊢;rcases hI.tZ q cj3 b o sz y1 (y3▸h2) h3 h4 with hS|⟨jd,B',o',z',q1,q2,q3,q4,q5,q6⟩
  .exact .inl hS
  .obtain⟨X',x1,x2,x3,x4,_⟩:=zf q1;exact .inr ⟨jd,X',o',z',x1,x3▸q2,q3,x2▸q4,x4▸q5,x2▸q6⟩
 .intro q r X Xr O h2 h3;obtain⟨cj3,y1,y2,y3,y4,y5,_,_,y6⟩:=jW O;obtain⟨cj4,z1,z2,z3,z4,z5,_,_,z6⟩:=jW h3;rw[z3];exact hI.qU q r cj3 cj4 y1 (y4▸h2) z1
 .intro q r X O h2;obtain⟨cj3,y1,y2,y3,y4,y5,_,_,y6⟩:=jW O;rw[nJ];exact hI.oP q r cj3 y1<|y4▸h2
 .intro q X b o sz O h3 h4;obtain⟨cj3,y1,y2,y3,y4,y5,_,_,y6⟩:=jW O;rw[y2]at h4;rw[y5];exact hI.Ci q cj3 b o sz y1 h3 h4
 .intro q X O h2;obtain⟨cj3,y1,y2,y3,y4,y5,_,_,y6⟩:=jW O;rw[y2];exact y6 h2
 .intro q X b o sz O h2 h3;obtain⟨cj3,y1,y2,y3,y4,y5,_,y7,_⟩:=jW O;obtain⟨q1,⟨q2,q5⟩,q6⟩:=hI.maps q cj3 b o sz y1 (y3▸h2) h3;exact⟨q1,⟨y7 q2,by rw[y2];exact q5⟩,q6⟩
 .intro q q' X X' b o sz o' nO O h2 h3 OS ZD h3';obtain⟨cj3,y1,y2,y3,_⟩:=jW O;obtain⟨Y',Gi,I0,y3',_⟩:=jW OS;exact hI.ua q q' cj3 Y' b o sz o' nO y1 (y3▸h2) h3 Gi (y3'▸ZD) h3'
 .intro i x hx;obtain⟨O,cj3,h2,h3⟩:=hI.gV i x hx;obtain⟨X',x1,_,_,_,x5⟩:=zf h2;exact⟨O,X',x1,x5.trans h3⟩
def wN {t z:Nat} {T':l_ J} {h':Hp}(hg:whole t z T h=some (T',h'))(iu:St w0 Sa T h a w):St w0 Sa T' h' a w:=by
 obtain⟨S,m,hI,hT,Ak⟩:=iu;have put:∀ {m':Mp} {p q:J},T[t]?=some p->(∀v,cv w S m p v->cv w S m' q v)->(∀p v,cv w S m p v->cv w S m' p v)->SF w S m' (T.set t q) a:=by
  intro m' p q hp hq hG;refine⟨by simpa using hT.1,λk x hk=> ?_⟩;rw[cD]at hk;by_cases htk:t=k
  .subst htk;have:t<T.length:=(bm.1 hp).1;simp [this]at hk;subst hk;exact hq _<|hT.2 t p hp
  .rw[if_neg htk]at hk;exact hG _ _<|hT.2 k x hk
 unfold whole at hg;split at hg
 .rename_i hp;split at hg
  .cases hg;obtain⟨mV,hG⟩:=hI.bz8 (sm:=true) z [] (λ_ h=>by cases h) (λ_ h=>by cases h);refine⟨S,_,mV,put hp (λv hv=> ?_) hG,Ak⟩;obtain⟨ad,rfl⟩:=vi hv;exact .bf _ _ _<|.vZ _ _ _
  .cases hg
 .rename_i id len hp;split at hg
  .rename_i B hB;split at hg
   .rename_i Y;cases hg;refine⟨S,m,hI.mark hB ?_,put hp (λv hv=> .bf _ _ _ hv) λ_ _ h=>h,Ak⟩;rcases jA _ _▸Y with O|O
    .exact hI.syms id B hB O
    .intro e F;exact cU.1 O e F
   .cases hg
  .cases hg
 .cases hg;exact⟨S,m,hI,hT,Ak⟩
 .rename_i id i off hp;split at hg
  .rename_i B hB;split at hg
   .rename_i Y;cases hg;refine⟨S,m,hI.mark hB ?_,hT,Ak⟩;rcases jA _ _▸Y with O|O
    .exact hI.syms id B hB O
    .intro e F;exact cU.1 O e F
   .cases hg
  .cases hg
 .cases hg
theorem A9:∀ {l:l_ (Nat×Nat)} {T T':l_ J} {h h':Hp},L1 l T h=some (T',h')->St w0 Sa T h a w->St w0 Sa T' h' a w
 | [],_,_,_,_,hg,iu=>by cases hg;exact iu
 |(t,z)::r,T,T',h,h',hg,iu=>by
  simp only[L1]at hg;split at hg
  .rename_i T1 O h2;exact A9 hg<|wN h2 iu
  .cases hg
def GS {c:Operand} {b:Bool}(Y:as9 T c s=some (b,T',ob,s'))(cJ:∀X∈ob,X.holds)(iu:St w0 Sa T h a w):St w0 Sa T' h a w/\a.eval c= .bool b:=by
 unfold as9 at Y;split at Y
 .rename_i t;obtain⟨d1,d2⟩:=CA Y cJ;have h2:=iu.wM d1;obtain⟨S,m,hI,hT,Ak⟩:=h2;exact⟨⟨S,m,hI,hT,Ak⟩,py<|hT.2 t _ d2⟩
 .cases Y;exact⟨iu,rfl⟩
 .cases Y
def lN(hE:an P E)(qg:GI P w0.g):∀ {c:Code} {T T':l_ J} {h h':Hp} {s s':l8} {o:Out} {ob:l_ Ob} {a:Act} {w:World} {Q:Exit->Act->World->Prop},exec P E L (ax P) c T h s=some (o,T',h',ob,s')->(∀X∈ob,X.holds)->St w0 Sa T h a w->
  (∀a' w',St w0 Sa T' h' a' w'->Q o.aw4 a' w')->c.wp P Q a w:=by
 intro c
 induction c with
 |skip=>
  intro T T' h h' s s' o ob a w Q F cJ iu hQ;simp [exec]at F;obtain⟨rfl,rfl,rfl,_⟩:=F;exact wp_skip<|hQ a w iu
 |label l=>
  intro T T' h h' s s' o ob a w Q F cJ iu hQ;simp [exec]at F;obtain⟨rfl,rfl,rfl,_⟩:=F;exact wp_label<|hQ a w iu
 |region id ops draw=>
  intro T T' h h' s s' o ob a w Q F cJ iu hQ;simp only[exec]at F;split at F
  .rename_i T1 O tX N;cases F;exact hE.r id ops draw T h _ _ tX N (λX hX=>cJ (.xK X) (jB.2 ⟨X,hX,rfl⟩)) w0 Sa a w Q qg iu hQ
  .split at F
   .rename_i T1 O tX s1 N;cases F;unfold rq at N;split at N
    .rename_i hdr;subst hdr;split at N
     .rename_i iJ;rw[fG]at iJ;split at N
      .rename_i T2 h2 OH s2 us hD;split at N
       .rename_i hU;cases N;exact S6 hE qg iJ.1 iJ.2 hD cJ hU iu hQ
       .cases N
      .cases N
     .cases N
    .rename_i hdr;have:draw=false:=by cases draw<;>simp_all
     subst this;exact Mt hE qg N cJ iu hQ
   .cases F
 |seq x y ihx ihy=>
  intro T T' h h' s s' o ob a w Q F cJ iu hQ;simp only[exec]at F;refine wp_seq ?_;split at F
  .rename_i T1 O tX s1 hx;split at F
   .rename_i o2 T2 h2 OH s2 hy;cases F;exact ihx hx (λX hX=>cJ X (by simp [hX])) iu λa' w' ko=>ihy hy (λX hX=>cJ X (by simp [hX])) ko hQ
   .cases F
  .rename_i nP;refine ihx F cJ iu λa' w' ko=> ?_;cases o with
   |norm=>exact absurd F<|nP _ _ _ _
   |ext id=>exact hQ a' w' ko
   |ret=>exact hQ a' w' ko
 |cond c x y ihx ihy=>
  intro T T' h h' s s' o ob a w Q F cJ iu hQ;simp only[exec]at F;split at F
  .rename_i T1 tX s1 Y;split at F
   .rename_i o2 T2 h2 OH s2 hx;cases F;obtain⟨ko,hv⟩:=GS Y (λX hX=>cJ X (by simp [hX])) iu;exact wp_cond_true hv<|ihx hx (λX hX=>cJ X (by simp [hX])) ko hQ
   .cases F
  .rename_i T1 tX s1 Y;split at F
   .rename_i o2 T2 h2 OH s2 hx;cases F;obtain⟨ko,hv⟩:=GS Y (λX hX=>cJ X (by simp [hX])) iu;exact wp_cond_false hv<|ihy hx (λX hX=>cJ X (by simp [hX])) ko hQ
   .cases F
  .cases F
 |block id x ihx=>
  intro T T' h h' s s' o ob a w Q F cJ iu hQ;simp only[exec]at F;refine wp_block ?_;split at F
  .rename_i jd T1 O tX s1 hx;split at F
   .rename_i hid;cases F;refine ihx hx cJ iu λa' w' ko=> ?_;show Exit.inBlock id Q (.exit jd) a' w';simp only[Exit.inBlock,hid,rH];exact hQ a' w' ko
   .rename_i hid;cases F;refine ihx hx cJ iu λa' w' ko=> ?_;show Exit.inBlock id Q (.exit jd) a' w';simp only[Exit.inBlock,hid,ky];exact hQ a' w' ko
  .rename_i nP;refine ihx F cJ iu λa' w' ko=> ?_;cases o with
   |norm=>exact hQ a' w' ko
   |ext jd=>exact absurd F<|nP _ _ _ _ _
   |ret=>exact hQ a' w' ko
 |loop x ihx=>
  intro T T' h h' s s' o ob a w Q F cJ iu hQ;simp only[exec]at F;split at F
  .rename_i k hk;split at F
   .rename_i Tw hw hwh;split at F
    .rename_i T0 h0 htr;split at F
     .rename_i o1 T1 O tX s1 hwk;cases F;obtain⟨n,hn⟩:=(cJ (.xK<|ax P x T0 h0 o T' h') sS:ax P x T0 h0 o T' h')
      exact wp_loop_rounds n<|hn w0 Sa a w Q qg (vn htr<|A9 hwh iu) hQ
     .cases F
    .cases F
   .cases F
  .cases F
 |exit id=>
  intro T T' h h' s s' o ob a w Q F cJ iu hQ;simp [exec]at F;obtain⟨rfl,rfl,rfl,_⟩:=F;exact wp_exit<|hQ a w iu
 |ret=>
  intro T T' h h' s s' o ob a w Q F cJ iu hQ;simp [exec]at F;obtain⟨rfl,rfl,rfl,_⟩:=F;exact wp_ret<|hQ a w iu
 |_=>
  intro T T' h h' s s' o ob a w Q F;simp [exec]at F
def ZE(hE:an P E) {c:Code} {T1 T2:l_ J} {O h2:Hp}(F:exec P E L (ax P) c T h s=some (.norm,T1,O,ob,s'))(cJ:∀X∈ob,X.holds)(hl:ax P c T1 O o T2 h2):ax P c T h o T2 h2:=by obtain⟨n,hn⟩:=hl;refine⟨n+1,λw0 Sa a w Q qg iu hQ=> ?_⟩;rw[rounds_succ];exact lN hE qg F cJ iu λa' w' ko=>hn w0 Sa a' w' Q qg ko hQ
def aw7(hE:an P E) {c:Code} {T1:l_ J} {O:Hp}(F:exec P E L (ax P) c T h s=some (o,T1,O,ob,s'))(cJ:∀X∈ob,X.holds)(ho:o≠ .norm):ax P c T h o T1 O:=by
 refine⟨1,λw0 Sa a w Q qg iu hQ=> ?_⟩;rw[rounds_succ];refine lN hE qg F cJ iu λa' w' ko=> ?_;cases o with
 |norm=>exact absurd rfl ho
 |ext id=>exact hQ a' w' ko
 |ret=>exact hQ a' w' ko
def ZF(tmps:Array Value):ResultVar->Sem Value
 | .tmp t=>pure (tmps.getD t Go.undef)
 | .cell x t=>do loadVar t (<-asAddr (tmps.getD x Go.undef))
def GU(fn:Func)(tmps:Array Value):results fn tmps=(do let vs<-fn.results.mapM (ZF tmps);pure (if hh:vs.size=1 then vs[0]else .tuple vs)):=rfl
theorem xY(hI:Inv w0 Sa h S m w)(hT:SF w S m T a):∀ {rs:l_ ResultVar} {ps:l_ J},OJ P T h rs=some ps->
  ∃vs:l_ Value,(rs.mapM<|ZF a.tmps).run P w= .ok vs w/\ps.length=vs.length/\∀(i:Nat) p v,ps[i]?=some p->vs[i]?=some v->cv w S m p v
 | [],ps,N=>by
  simp [OJ]at N;subst N;exact⟨[],sS,rfl,sS⟩
 | .tmp t::r,ps,N=>by
  simp only[OJ]at N;split at N
  .rename_i p hp;split at N
   .rename_i ps' wD;cases N;obtain⟨vs,q1,q2,q3⟩:=xY hI hT wD;refine⟨a.tmps.getD t Go.undef::vs,by simp only[As,Sem.run_bind,ZF,Sem.run_pure,Result.andThen_ok,q1],by simp [q2],λi p' v e1 e2=> ?_⟩;cases i with
    |zero=>simp at e1 e2;subst e1;subst e2;simpa using hT.2 t p hp
    |succ i=>simp at e1 e2;exact q3 i p' v e1 e2
   .cases N
  .cases N
 | .cell x t::r,ps,N=>by
  simp only[OJ]at N;split at N
  .rename_i q hq;split at N
   .rename_i p hp;split at N
    .rename_i ps' wD;cases N;obtain⟨vs,q1,q2,q3⟩:=xY hI hT wD;have lK:=hT.2 x q hq;obtain⟨v,hv1,hv2⟩:∃v,((do loadVar t (<-asAddr (a.tmps.getD x Go.undef))):Sem Value).run P w= .ok v w/\cv w S m p v:=by
      unfold rO at hp;split at hp
      .rename_i id i off;split at hp
       .rename_i B hB;split at hp
        .rename_i cy;split at hp
         .rename_i e F;obtain⟨b,o',sz,hm,hu⟩:=nR lK;obtain⟨v',eM,qD⟩:=ve (P:=P) (vg hI hB cy hm F) hp;exact⟨v',by rw[hu];simp [asAddr,eM],qD⟩
         .cases hp
        .cases hp
       .cases hp
      .obtain⟨b,o',hu,hC,_⟩:=vh lK;obtain⟨v',eM,qD⟩:=ve (P:=P) hC hp;exact⟨v',by rw[hu];simp [asAddr,eM],qD⟩
      .cases hp
     refine⟨v::vs,by rw[As,Sem.run_bind,show(ZF a.tmps<|.cell x t).run P w= .ok v w from hv1];simp only[Result.andThen_ok,Sem.run_bind,q1,Sem.run_pure],by simp [q2],λi p' v' e1 e2=> ?_⟩;cases i with
     |zero=>simp at e1 e2;subst e1;subst e2;exact hv2
     |succ i=>simp at e1 e2;exact q3 i p' v' e1 e2
    .cases N
   .cases N
  .cases N
def Ph(hE:an P E)(hf:P.funcs[f]?=some fn)(N:V6 P E L (ax P) fn args s=some (r,ob,s'))(cJ:∀X∈ob,X.holds):Ok P f args r:=by
 unfold V6 at N;split at N
 case h_2=>cases N
 rename_i hgn;refine⟨?_,?_⟩
 .unfold Sw at N;unfold enters;rw[hf];split at N
  .rename_i c hb;show(fn.body.isSome&&AM fn)=true;rw[hb];exact hgn
  .cases N
 intro w Sa vs qg iH hlen vU;unfold Sw at N;split at N
 .rename_i c hb;split at N
  .rename_i o T h tX s1 F;split at N
   .rename_i ho;split at N
    .rename_i ps wD;split at N
     .rename_i r1 vis hex;cases N;refine calls_of_wp hf hb ?_;have bB3:St ⟨w,w,λ_=>False,[]⟩ Sa (args++List.replicate (fn.ntmps-args.length) (.sc Go.undef)) [] {tmps:=vs.toArray++Array.replicate (fn.ntmps-vs.toArray.size) Go.undef,defers:=[]} w:=by
       refine⟨Sa,[],⟨⟨Below.refl _ _,rfl,rfl,rfl,bE _,λ_ _ _=>rfl,λb c et Y=>⟨c,Y,rfl⟩,bE _,λ_ h=>h.elim⟩,λb hb=> .inl hb,iH,rfl,sS,sS,sS,sS,sS,sS,sS,sS,sS,sS,sS⟩,⟨by simp [hlen],λt p ht=> ?_⟩,rfl⟩;simp only[mn];by_cases hta:t<args.length
       .rw[dy hta]at ht;have htv:t<vs.toArray.size:=by grind
        rw[Fe htv];have hv:vs[t]?=some (vs[t]'(by simpa using htv)):=by rw[bX]
        rw[sL,hv];exact .st _ _<|vU t p _ ht hv
       .rw[gj U]at ht;have ht2:=(bm.1 ht).1;simp at ht2;have hp:p= .sc Go.undef:=by rw[List.getElem?_replicate,if_pos ht2]at ht;exact(ku ht).symm
        subst hp;rw[Array.getElem?_append_right (by simp;omega),Ax];rw[if_pos (by simp;omega)];exact .st _ _<|.sc _
      have fin:∀a' w',St ⟨w,w,λ_=>False,[]⟩ Sa T h a' w'->a'.defers=[]/\∃v,(results fn a'.tmps).run P w'= .ok v w'/\∃v',Ending.returned v= .returned v'/\Below w.heap.size w w'/\cf w' (λb=>Sa b\/(w.heap.size<=b/\b<w'.heap.size)) r v':=by
       rintro a' w' ⟨S,m,hI,hT,hd⟩;have OZ:∀ {b:Nat},fR.own ⟨w,w,λ_=>False,[]⟩ b->w.heap.size<=b:=λh=>h.elim (λh=>h) (λh=>h.elim);obtain⟨us,q1,q2,q3⟩:=xY (P:=P) hI hT wD;have bB4:(results fn a'.tmps).run P w'= .ok (if hh:us.toArray.size=1 then us.toArray[0]else .tuple us.toArray) w':=by
        have hm:(fn.results.mapM<|ZF a'.tmps).run P w'= .ok us.toArray w':=by rw[LC];simp only[Sem.run_map,q1,Result.andThen_ok]
        rw[GU,Sem.run_bind,hm];rfl
       refine⟨hd,_,bB4,_,rfl,hI.qf.root,?_⟩;have Ja:cv w' S m (Sv ps) (if hh:us.toArray.size=1 then us.toArray[0]else .tuple us.toArray):=by
        by_cases O:us.toArray.size=1
        .have hul:us.length=1:=U;obtain⟨u,rfl⟩:=xD.1 hul;obtain⟨p,rfl⟩:=xD.1<|q2.trans hul;exact q3 0 p u rfl rfl
        .rw[dif_neg O];have nP:us.length≠1:=U;have:Sv ps= .bg ps:=by
          match ps,q2 with
          | [],_=>rfl
          | [p],q=>exact absurd q.symm (by simpa using nP)
          |_::_::_,_=>rfl
         rw[this];exact .bg _ _ (by simpa using q2) λi c v e1 e2=>q3 i c v e1 (by simpa using e2)
       refine Mk (R:=λb=>Sa b\/(w.heap.size<=b/\b<w'.heap.size)) hI (λb hb=> ?_) hex (λq hq B b o' sz hB cy hm N bA7=> ?_) (λX hX=>cJ (.xK X) (tm _<|jB.2 ⟨X,hX,rfl⟩)) Ja
       .rcases hI.sub b hb with O|O|O
        .exact .inl O
        .exact .inr ⟨O,hI.lt b hb⟩
        .exact O.elim
       .by_cases h0:B.st=0
        .exact .inr ⟨OZ (hI.live q B b o' sz hB h0 hm N).1,bA7⟩
        .rcases hI.tZ q B b o' sz hB U hm N with hS|⟨jd,B',o2,z2,e1,e2,e3,er,_⟩
         .rcases hI.sub b hS with O|O|O
          .exact .inl O
          .exact .inr ⟨O,hI.lt b hS⟩
          .exact O.elim
         .exact .inr ⟨OZ (hI.live jd B' b o2 z2 e1 e2 e3 er).1,bA7⟩
      refine lN (w0:=⟨w,w,λ_=>False,[]⟩) hE qg F (λX hX=>cJ X (qO _ hX)) bB3 λa' w' ko=> ?_;rcases ho with rfl|rfl
      .exact fin a' w' ko
      .exact fin a' w' ko
     .cases N
    .cases N
   .cases N
  .cases N
 .cases N
def bc2 {S:Nat->Prop} {m:Mp} {ps:l_ J} {us:l_ Value}(q2:ps.length=us.length)(q3:∀(i:Nat) p v,ps[i]?=some p->us[i]?=some v->cv w S m p v):cv w S m (Sv ps) (if hh:us.toArray.size=1 then us.toArray[0]else .tuple us.toArray):=by
 by_cases O:us.toArray.size=1
 .have hul:us.length=1:=U;obtain⟨u,rfl⟩:=xD.1 hul;obtain⟨p,rfl⟩:=xD.1<|q2.trans hul;exact q3 0 p u rfl rfl
 .rw[dif_neg O];have nP:us.length≠1:=U;have:Sv ps= .bg ps:=by
   match ps,q2 with
   | [],_=>rfl
   | [p],q=>exact absurd q.symm (by simpa using nP)
   |_::_::_,_=>rfl
  rw[this];exact .bg _ _ (by simpa using q2) λi c v e1 e2=>q3 i c v e1 (by simpa using e2)
def S7{h0 h':Hp}(hE:an P E)(hf:P.funcs[f]?=some fn)(N:L7 P E L (ax P) fn args h0 s=some ((r,h'),ob,s'))(cJ:∀X∈ob,X.holds):kD P f args h0 r h':=by
 unfold L7 at N;split at N
 case h_2=>cases N
 rename_i hgn;refine⟨?_,?_⟩
 .unfold L6 at N;unfold enters;rw[hf];split at N
  .rename_i c hb;show(fn.body.isSome&&AM fn)=true;rw[hb];exact hgn
  .cases N
 intro w0 S vs qg hI0 hDS hlen vU;unfold L6 at N;split at N
 .rename_i c hb;split at N
  .rename_i o T O tX s1 F;split at N
   .rename_i ho;split at N
    .rename_i ps wD;split at N
     .rename_i r1 h2 hgc;cases N;refine calls_of_wp hf hb ?_;have bB3:St w0 S (args++List.replicate (fn.ntmps-args.length) (.sc Go.undef)) h0 {tmps:=vs.toArray++Array.replicate (fn.ntmps-vs.toArray.size) Go.undef,defers:=[]} w0.w:=by
       refine⟨S,w0.gV,hI0,⟨by simp [hlen],λt p ht=> ?_⟩,rfl⟩;simp only[mn];by_cases hta:t<args.length
       .rw[dy hta]at ht;have htv:t<vs.toArray.size:=by grind
        rw[Fe htv];have hv:vs[t]?=some (vs[t]'(by simpa using htv)):=by rw[bX]
        rw[sL,hv];exact vU t p _ ht hv
       .rw[gj U]at ht;have ht2:=(bm.1 ht).1;simp at ht2;have hp:p= .sc Go.undef:=by rw[List.getElem?_replicate,if_pos ht2]at ht;exact(ku ht).symm
        subst hp;rw[Array.getElem?_append_right (by simp;omega),Ax];rw[if_pos (by simp;omega)];exact .st _ _<|.sc _
      have fin:∀a' w',St w0 S T O a' w'->a'.defers=[]/\∃v,(results fn a'.tmps).run P w'= .ok v w'/\∃v' S' m',Ending.returned v= .returned v'/\Inv w0 S h' S' m' w'/\(∀b,S b->S' b)/\cv w' S' m' r v':=by
       rintro a' w' ⟨S1,m1,hI,hT,hd⟩;obtain⟨us,q1,q2,q3⟩:=xY (P:=P) hI hT wD;have bB4:(results fn a'.tmps).run P w'= .ok (if hh:us.toArray.size=1 then us.toArray[0]else .tuple us.toArray) w':=by
        have hm:(fn.results.mapM<|ZF a'.tmps).run P w'= .ok us.toArray w':=by rw[LC];simp only[Sem.run_map,q1,Result.andThen_ok]
        rw[GU,Sem.run_bind,hm];rfl
       obtain⟨m2,g1,_,g3⟩:=aw5 hgc hI;obtain⟨p,p1,p2⟩:=g3 0 r rfl;cases p1;have bU2:∀ {b:Nat},w0.own b-> ¬S b:=by
        rintro b (hb|hb) hS
        .have:=hI0.lt b hS;omega
        .exact hDS b hb hS
       have kZ:=hI.qf.size;refine⟨hd,_,bB4,_,λb=>S1 b\/S b,m2,rfl,g1.at2 (λ_ h=> .inl h) ?_ ?_ ?_ ?_,λ_ h=> .inr h,(p2 _<|bc2 q2 q3).later ⟨λ_ h=> .inl h,λ_ _=>rfl,λ_ c _ h=>⟨c,h,rfl⟩⟩ λ_ _ h=>h⟩
       .rintro b (hb|hb)
        .exact g1.lt b hb
        .have:=hI0.lt b hb;omega
       .rintro b (hb|hb)
        .exact g1.sub b hb
        .exact .inl hb
       .rintro id B b o' sz e1 e2 e3 e4 (hb|hb)
        .exact(g1.live id B b o' sz e1 e2 e3 e4).2 hb
        .exact bU2 (g1.live id B b o' sz e1 e2 e3 e4).1 hb
       .rintro id B b o' sz e1 e2 e3 (hb|hb)
        .exact(g1.maps id B b o' sz e1 e2 e3).2.2 hb
        .exact bU2 (g1.maps id B b o' sz e1 e2 e3).1 hb
      refine lN hE qg F cJ bB3 λa' w' ko=> ?_;rcases ho with rfl|rfl
      .exact fin a' w' ko
      .exact fin a' w' ko
     .cases N
    .cases N
   .cases N
  .cases N
 .cases N
end
end
end
section
section
variable {α:Type}{fn:Func}{args T T' T0:l_ J}{r:J}{c:Code}{h h' h0:Hp}{o:Out}{b:Bool}{live:l_ Nat}{x y:J×Hp}
def ow:l_ Prop->Prop
 | []=>True
 |p::ps=>p/\ow ps
theorem ow.mem:∀ {l:l_ Prop},ow l->∀X∈l,X
 | [],_,X,h=>by cases h
 |p::ps,h,X,hX=>by
  rcases fB.1 hX with rfl|hX
  .exact h.1
  .exact ow.mem h.2 X hX
inductive Tr (α:Type) where
 |jh (a:α) (ob:l_ Prop)
 |aN (c:Bool) (t f:Tr α)
 |say (x:It) (t:Tr α)
def Tr.j6(Q:α->Prop):Tr α->Prop
 | .jh a ob=>ow ob/\Q a
 | .aN c t f=>(c=true->t.j6 Q)/\(c=false->f.j6 Q)
 | .say _ t=>t.j6 Q
def ZG:l_ Ob->l_ Prop
 | []=> []
 | .dec _ _::r=>ZG r
 | .same c b::r=>(c=b)::ZG r
 | .xK X::r=>X::ZG r
def wM:l_ Ob->l_ (Bool×Bool)
 | []=> []
 | .dec c b::r=>(c,b)::wM r
 | .same _ _::r=>wM r
 | .xK _::r=>wM r
theorem GV:∀ {l:l_ Ob} {X:Prop},.xK X∈l->X∈ZG l
 | [],X,h=>by cases h
 |a::r,X,h=>by
  rcases fB.1 h with h|h
  .subst h;exact ch
  .have:=GV h;cases a
   .exact this
   .exact fh _ this
   .exact fh _ this
theorem CC:∀ {l:l_ Ob} {c b:Bool},.same c b∈l->(c=b)∈ZG l
 | [],_,_,h=>by cases h
 |a::r,c,b,h=>by
  rcases fB.1 h with h|h
  .subst h;exact ch
  .have:=CC h;cases a
   .exact this
   .exact fh _ this
   .exact fh _ this
theorem GW:∀ {l:l_ Ob} {c b:Bool},.dec c b∈l->(c,b)∈wM l
 | [],_,_,h=>by cases h
 |a::r,c,b,h=>by
  rcases fB.1 h with h|h
  .subst h;exact ch
  .have:=GW h;cases a
   .exact fh _ this
   .exact this
   .exact this
abbrev Lf(α:Type):=l_<|Option<|l_ (Bool×Bool)×α×l_ Prop
def gP:Tr α->l_ (Bool×Bool)->Lf α
 | .jh a ob,p=> [some (p.reverse,a,ob)]
 | .aN c t f,p=>gP t ((c,true)::p)++gP f ((c,false)::p)
 | .say _ t,p=>gP t p
def Mw:Option (α×l_ Ob)->Option (l_ (Bool×Bool)×α×l_ Prop)
 |some (a,ob)=>some (wM ob,a,ZG ob)
 |none=>none
def fM(run:l8->Option (α×l_ Ob)):Tr α->l_ It->Lf α
 | .jh _ _,p=> [Mw (run p.reverse)]
 | .aN _ t f,p=>fM run t (.bit true::p)++fM run f (.bit false::p)
 | .say x t,p=>fM run t (x::p)
theorem vp(run:l8->Option (α×l_ Ob)):∀(t:Tr α) (p:l_ It) (q:l_ (Bool×Bool)),(fM run t p).length=(gP t q).length
 | .jh _ _,_,_=>rfl
 | .aN c t f,p,q=>by
  simp only[fM,gP,br];rw[vp run t (.bit true::p) ((c,true)::q),vp run f (.bit false::p) ((c,false)::q)]
 | .say x t,p,q=>vp run t (x::p) q
theorem rU {run:l8->Option (α×l_ Ob)} {Q:α->Prop}:∀(t:Tr α) (p:l_ It) (q:l_ (Bool×Bool)),fM run t p=gP t q->(∀x∈q,x.1=x.2)->t.j6 Q->∃s a ob,run s=some (a,ob)/\(∀X∈ob,X.holds)/\Q a
 | .jh a ob,p,q,F,hq,hA=>by
  simp only[fM,gP,List.cons.injEq,and_true]at F;unfold Mw at F;split at F
  .rename_i a' AK N;simp only[mo,Prod.mk.injEq]at F;obtain⟨O,rfl,h3⟩:=F;refine⟨p.reverse,a',AK,N,λX hX=> ?_,hA.2⟩;cases X with
   |dec c b=>
    have:=GW hX;rw[O]at this;exact hq (c,b) (by simpa using this)
   |xK X=>
    have:=GV hX;rw[h3]at this;exact ow.mem hA.1 X this
   |same c b=>
    have:=CC hX;rw[h3]at this;exact ow.mem hA.1 _ this
  .cases F
 | .aN c t f,p,q,F,hq,hA=>by
  simp only[fM,gP]at F;obtain⟨O,h2⟩:=List.append_inj F<|vp run t _ _;cases Y:c with
  |true=>
   subst Y;exact rU t _ _ O (λx hx=>by rcases fB.1 hx with rfl|hx;exact rfl;exact hq x hx)<|hA.1 rfl
  |false=>
   subst Y;exact rU f _ _ h2 (λx hx=>by rcases fB.1 hx with rfl|hx;exact rfl;exact hq x hx)<|hA.2 rfl
 | .say _ t,p,q,F,hq,hA=>rU t _ q F hq hA
def Mx(P:Program)(E:Env)(L:gD)(fn:Func)(args:l_ J)(s:l8):Option (J×l_ Ob):=
 match V6 P E L (ax P) fn args s with
 |some (r,ob,_)=>some (r,ob)
 |none=>none
def Pj(P:Program)(E:Env)(L:gD)(fn:Func)(args:l_ J)(h:Hp)(s:l8):Option ((J×Hp)×l_ Ob):=
 match L7 P E L (ax P) fn args h s with
 |some (r,ob,_)=>some (r,ob)
 |none=>none
def bB5:Out->l_ Nat->l_ Nat
 | .ret,l=>l.filter λt=>decide (t<10000)
 |_,l=>l.map λt=>t%10000
def bc3(P:Program)(E:Env)(L:gD)(live J6:l_ Nat)(c:Code)(T:l_ J)(h:Hp)(s:l8):Option ((Out×l_ J×Hp)×l_ Ob):=
 match exec P E L (ax P) c T h s with
 |some (.norm,T',h',ob,_)=>match trim live T' h' with
  |some (T1,O)=>some ((.norm,T1,O),ob)
  |none=>none
 |some (o,T',h',ob,_)=>match trim (bB5 o J6) T' h' with
  |some (T1,O)=>some ((o,T1,O),ob)
  |none=>none
 |none=>none
section
variable {P:Program} {E:Env} {L:gD}
def DS {f:FuncId}(hE:an P E)(L:gD)(hf:P.funcs[f]?=some fn)(t:Tr J)(F:fM (Mx P E L fn args) t []=gP t [])(hA:t.j6 (· =r)):Ok P f args r:=by
 obtain⟨s,a,ob,O,h2,rfl⟩:=rU t _ _ F sS hA;unfold Mx at O;split at O
 .rename_i r' AK s' N;cases O;exact Ph hE hf N h2
 .cases O
end
def RLe(r r':J):Prop:=∀(w:World) (Sx:Nat->Prop) (v:Value),cf w Sx r v->cf w Sx r' v
def RLe.refl(r:J):RLe r r:=λ_ _ _ h=>h
def RLe.of_eq {r':J}(h:r=r'):RLe r r':=h▸RLe.refl r
def bB6 {P:Program} {E:Env} {f:FuncId}(hE:an P E)(L:gD)(hf:P.funcs[f]?=some fn)(t:Tr J)(F:fM (Mx P E L fn args) t []=gP t [])(hA:t.j6 (RLe · r)):Ok P f args r:=by
 obtain⟨s,a,ob,O,h2,h3⟩:=rU t _ _ F sS hA;unfold Mx at O;split at O
 .rename_i r' AK s' N;cases O;refine⟨(Ph hE hf N h2).1,λw Sa vs q0 q1 q2 q3=> ?_⟩;refine((Ph hE hf N h2).2 w Sa vs q0 q1 q2 q3).mono ?_;rintro e w' ⟨v,p1,p2,p3⟩;exact⟨v,p1,p2,h3 _ _ _ p3⟩
 .cases O
def LT.ends:LT->Out×l_ J×Hp->Prop
 | .out o T h,x=>x=(o,T,h)
 | .ite c t f,x=>(c=true->t.ends x)/\(c=false->f.ends x)
 | .bad,_=>False
def aO(P:Program)(c:Code)(T:l_ J)(h:Hp)(lt:LT):Prop:=∃x,lt.ends x/\ax P c T h x.1 x.2.1 x.2.2
def aO.one {P:Program}(hl:aO P c T h (.out o T' h')):ax P c T h o T' h':=by obtain⟨x,rfl,h2⟩:=hl;exact h2
theorem aO.t {P:Program}{t f:LT}(hl:aO P c T h (.ite b t f))(hb:b=true):aO P c T h t:=by obtain⟨x,O,h2⟩:=hl;exact⟨x,O.1 hb,h2⟩
theorem aO.f {P:Program}{t f:LT}(hl:aO P c T h (.ite b t f))(hb:b=false):aO P c T h f:=by obtain⟨x,O,h2⟩:=hl;exact⟨x,O.2 hb,h2⟩
def Rnd(P:Program)(c:Code)(lt:LT)(x:Out×l_ J×Hp):Prop:=
 match x.1 with
 | .norm=>aO P c x.2.1 x.2.2 lt
 |_=>lt.ends x
theorem ax.trim {P:Program}(ht:PS.trim live T h=some (T0,h0)):ax P c T0 h0 o T' h'->ax P c T h o T' h':=by rintro⟨n,hn⟩;exact⟨n,λw0 Sa a w Q qg iu hQ=>hn w0 Sa a w Q qg (vn ht iu) hQ⟩
def ax.bU3 {P:Program}(ht:PS.trim live T' h'=some (T0,h0)):ax P c T h o T' h'->ax P c T h o T0 h0:=by rintro⟨n,hn⟩;exact⟨n,λw0 Sa a w Q qg iu hQ=>hn w0 Sa a w Q qg iu λa' w' ko=>hQ a' w' (vn ht ko)⟩
def Wv {P:Program} {E:Env}{lt:LT}(hE:an P E)(L:gD)(live J6:l_ Nat)(t:Tr (Out×l_ J×Hp))(F:fM (bc3 P E L live J6 c T h) t []=gP t [])(hA:t.j6 (Rnd P c lt)):
  aO P c T h lt:=by
 obtain⟨s,⟨o1,T1,O⟩,ob,h2,h3,h4⟩:=rU t _ _ F sS hA;unfold bc3 at h2;split at h2
 .rename_i T2 hh2 OH s2 N;split at h2
  .rename_i T3 h3' htr;cases h2;obtain⟨x,hx,hl⟩:=(h4:aO P c T1 O lt)
   exact⟨x,hx,ZE hE N h3<|hl.trim htr⟩
  .cases h2
 .rename_i o2 T2 hh2 OH s2 nP N;split at h2
  .rename_i T3 h3' htr;cases h2;have ho:o1≠ .norm:=nP;refine⟨(o1,T1,O),?_,(aw7 hE N h3 ho).bU3 htr⟩;cases o1 with
   |norm=>exact absurd rfl ho
   |_=>exact h4
  .cases h2
 .cases h2
def rV(k:Nat):Code->Option Code
 | .seq a b=>match rV k a with
  |some c=>some c
  |none=>rV k b
 | .cond _ a b=>match rV k a with
  |some c=>some c
  |none=>rV k b
 | .block _ a=>rV k a
 | .loop a=>if pD a=some k then some a else rV k a
 |_=>none
def aD(fn:Func)(k:Nat):Code:=(fn.body.bind<|rV k).getD .skip
abbrev I(n:Int):J:= .sc<|.int .i64 n
abbrev U8(n:Int):J:= .sc<|.int .u8 n
abbrev S(b:y_):J:= .sc<|.string b
abbrev cj4:J:= .any
abbrev Bo(b:Bool):J:= .sc<|.bool b
def E0:Env:=⟨λ_ _=>none,λ_ _ _=>none,λ_ _ _ _ _=>none,λ_ _ _=>none⟩
def L0:gD:=λ_=>([],[],λ_ _=> .bad)
def Ba(P:Program):an P E0:=⟨λ_ _ _ _ h=>(by cases h),λ_ _ _ _ _ _ h=>(by cases h),λ_ _ _ _ _ _ _ _ h=>(by cases h)⟩
def aF(f:FuncId)(d:l_ J->Option (J×l_ Prop))(E:Env):Env:= {E with p:=λg ci6=>if g=f then d ci6 else E.p g ci6}
def gi {P:Program} {E:Env} {f:FuncId} {d:l_ J->Option (J×l_ Prop)}(hE:an P E)(hd:∀ci6 r ob,d ci6=some (r,ob)->(∀X∈ob,X)->Ok P f ci6 r):an P (aF f d E):=by
 refine⟨λg ci6 r ob h cJ=> ?_,hE.m,hE.r⟩;unfold aF at h;simp only at h;split at h
 .rename_i hg;subst hg;exact hd ci6 r ob h cJ
 .exact hE.p g ci6 r ob h cJ
def cF(f:FuncId)(d:l_ J->Hp->Option (J×Hp×l_ Prop))(E:Env):Env:= {E with m:=λg ci6 h=>if g=f then d ci6 h else E.m g ci6 h}
def fC {P:Program} {E:Env} {f:FuncId} {d:l_ J->Hp->Option (J×Hp×l_ Prop)}(hE:an P E)(hd:∀ci6 h r h' ob,d ci6 h=some (r,h',ob)->(∀X∈ob,X)->kD P f ci6 h r h'):an P (cF f d E):=by
 refine⟨hE.p,λg ci6 h r h' ob F cJ=> ?_,hE.r⟩;unfold cF at F;simp only at F;split at F
 .rename_i hg;subst hg;exact hd ci6 h r h' ob F cJ
 .exact hE.m g ci6 h r h' ob F cJ
def Pk(d:Nat->Array Oper->Bool->l_ J->Hp->Option (l_ J×Hp×l_ Prop))(E:Env):Env:= {E with r:=d}
def vq {P:Program} {E:Env} {d:Nat->Array Oper->Bool->l_ J->Hp->Option (l_ J×Hp×l_ Prop)}(hE:an P E)(hd:∀id ops dr T h T' h' ob,d id ops dr T h=some (T',h',ob)->(∀X∈ob,X)->tz P id ops dr T h T' h'):an P (Pk d E):=⟨hE.p,hE.m,hd⟩
def vV(t:Nat->Nat->Nat->Option Tl)(E:Env):Env:= {E with t:=t}
def j7 {P:Program} {E:Env} {t:Nat->Nat->Nat->Option Tl}(hE:an P E):an P (vV t E):=⟨hE.p,hE.m,hE.r⟩
def dR(x y:J×Hp):Prop:=∀(w0:fR) (Sa S:Nat->Prop) (m:Mp) (w:World) (v:Value),Inv w0 Sa x.2 S m w->cv w S m x.1 v->∃m',Inv w0 Sa y.2 S m' w/\cv w S m' y.1 v
def dR.of_eq(h:x=y):dR x y:=h▸λ_ _ _ m _ _ O h2=>⟨m,O,h2⟩
def kD.res {P:Program} {f:FuncId}(hx:kD P f args h x.1 x.2)(hxy:dR x y):kD P f args h y.1 y.2:=by refine⟨hx.1,λw0 S vs q0 q1 q2 q3 q4=> ?_⟩;refine(hx.2 w0 S vs q0 q1 q2 q3 q4).mono ?_;rintro e w' ⟨v,S',m',p1,p2,p3,p4⟩;obtain⟨m2,g1,g2⟩:=hxy w0 S S' m' w' v p2 p4;exact⟨v,S',m2,p1,g1,p3,g2⟩
def bB7 {P:Program} {E:Env} {f:FuncId}(hE:an P E)(L:gD)(hf:P.funcs[f]?=some fn)(t:Tr (J×Hp))(F:fM (Pj P E L fn args h) t []=gP t [])(hA:t.j6 (dR · (r,h'))):kD P f args h r h':=by
 obtain⟨s,a,ob,O,h2,h3⟩:=rU t _ _ F sS hA;unfold Pj at O;split at O
 .rename_i r' AK s' N;cases O;exact(S7 hE hf N h2).res h3
 .cases O
end
end
section
open Go.RowKit
def qn(P:Program):Nat->l_ Field->Nat->Bool
 |at_,[],total=>at_==total
 |at_,f::fs,total=>f.offset==at_&&qn P (at_+P.cellsOf f.type) fs total
def Sh(P:Program):Nat->TypeId->l_ J->Prop
 |0,_,_=>False
 |n+1,t,ps=>
  match P.underlying t with
  |some .bool=>∃b,ps=[.sc<|.bool b]
  |some (.int k)=>∃i,ps=[.sc<|.int k i]/\(Lit.int k i).wf=true
  |some .string=>∃s,ps=[.sc<|.string s]/\s.size<=maxLen
  |some (.slice e)=>∃es:l_ (l_ J),ps=[.ro es]/\es.length<=maxLen/\∀x∈es,Sh P n e x
  |some (.struct fs)=>ps.length=P.cellsOf t/\∀f∈fs.toList,Sh P n f.type ((ps.drop f.offset).take<|P.cellsOf f.type)
  |_=>False
def My(w:World)(S:Nat->Prop)(ps:l_ J)(cs:l_ Value):Prop:=ps.length=cs.length/\∀(i:Nat) p v,ps[i]?=some p->cs[i]?=some v->cf w S p v
def My.append {w:World} {S:Nat->Prop} {ps qs:l_ J} {cs ds:l_ Value}(O:My w S ps cs)(h2:My w S qs ds):My w S (ps++qs) (cs++ds):=by
 refine⟨by simp [O.1,h2.1],λi p v q1 q2=> ?_⟩;by_cases hi:i<ps.length
 .rw[dy hi]at q1;rw[dy (by rw[<-O.1];exact hi)]at q2;exact O.2 i p v q1 q2
 .rw[gj U]at q1;rw[gj (by rw[<-O.1];omega),<-O.1]at q2;exact h2.2 _ p v q1 q2
theorem DT {α:Type} {R:Nat->α->Prop}:∀n,(∀i,i<n->∃x,R i x)->∃l:l_ α,l.length=n/\∀i x,l[i]?=some x->R i x
 |0,_=>⟨[],rfl,sS⟩
 |n+1,h=>by
  obtain⟨l,O,h2⟩:=DT n λi hi=>h i U;obtain⟨x,hx⟩:=h n U;refine⟨l++ [x],by simp [O],λi y hy=> ?_⟩;rcases aJ _ _ _ _ hy with hy|⟨rfl,rfl⟩
  .exact h2 i y hy
  .rw[O];exact hx
theorem aw8 {α β:Type} {f:α->Option β}:∀ {l:l_ α} {r:l_ β},l.mapM f=some r->∀a∈l,∃b,f a=some b
 | [],_,_,a,h=>by cases h
 |x::l,r,h,a,ha=>by
  simp only[As,Option.bind_eq_bind,Ff]at h;obtain⟨y,hy,ys,Mf,_⟩:=h;rcases fB.1 ha with rfl|ha
  .exact⟨y,hy⟩
  .exact aw8 Mf a ha
theorem wO {α β:Type} {f:α->Option β}:∀ {l:l_ α} {r:l_ β},l.mapM f=some r->r.length=l.length/\∀(i:Nat) a,l[i]?=some a->∃b,r[i]?=some b/\f a=some b
 | [],r,h=>by simp at h;subst h;simp
 |x::l,r,h=>by
  simp only[As,Option.bind_eq_bind,Ff]at h;obtain⟨y,hy,ys,Mf,N⟩:=h;cases N;obtain⟨O,h2⟩:=wO Mf;refine⟨by simp [O],λi a ha=> ?_⟩;cases i with
  |zero=>simp at ha;subst ha;exact⟨y,rfl,hy⟩
  |succ i=>simp at ha;obtain⟨b,b1,b2⟩:=h2 i a ha;exact⟨b,by simpa using b1,b2⟩
section
variable {H:Type} {au:TypeId×Value->H} {P:Program} {w:World} {base:Nat} {sp:Nat->Bool} {held:Bool}
def ZH {a:Addr} {z:Nat} {cs:l_ Value}(h:w.cells? base a z=some cs):cs.length=z/\∀j v,cs[j]?=some v->w.cell? (a.add j)=some v:=by
 unfold World.cells? at h;split at h
 .obtain⟨O,h2⟩:=wO h;refine⟨by simpa using O,λj v hj=> ?_⟩;have hjz:j<z:=by have:=(bm.1 hj).1;simp at O;omega
  obtain⟨b,b1,b2⟩:=h2 j j (by simp [hjz]);rw[hj]at b1;cases b1;exact b2
 .cases h
end
end
section
section
variable {α:Type}{c:Bool}{x:Out×l_ J×Hp}{w:World}{g:FuncId}{v:Value}{P:Program}{l:l_ J}{r a a':J}
def ofN(n:Nat)(g:Nat->α):l_ α:=(List.range n).map g
@[simp] theorem S8 {α:Type} (n:Nat) (g:Nat->α):(ofN n g).length=n:=by simp [ofN]
theorem GX {t f:LT}(Y:c=true)(h:t.ends x):(LT.ite c t f).ends x:=⟨λ_=>h,λhx=>absurd hx (by simp [Y])⟩
def Mz {t f:LT}(Y:c=false)(h:f.ends x):(LT.ite c t f).ends x:=⟨λhx=>absurd hx (by simp [Y]),λ_=>h⟩
def fS {S:Nat->Prop} {n:Nat} {f g:Nat->l_ J}(h:∀i,i<n->f i=g i)(N:cf w S (.rf n f) v):cf w S (.rf n g) v:=by
 cases N with
 |rf _ _ _ N=>
  refine .rf _ _ _ ?_;have:(List.range n).map g=(List.range n).map f:=EX λi hi=>(h i<|by simpa using hi).symm;rw[this];exact N
def Pl {S:Nat->Prop} {cs ds:l_ J}(hl:cs.length=ds.length)(h:∀(i:Nat) c d v,cs[i]?=some c->ds[i]?=some d->cf w S c v->cf w S d v)(N:cf w S (.agg cs) v):cf w S (.agg ds) v:=by
 cases N with
 |agg _ vs hn Y=>
  refine .agg _ _ U λi d v q1 q2=> ?_;have hi:i<cs.length:=by have:=(bm.1 q1).1;omega
  have hci:cs[i]?=some cs[i]:=sS;exact h i cs[i] d v hci q1<|Y i cs[i] v hci q2
def Ok.conv{l':l_ J}(h:Ok P g l' r)(hl:l.length=l'.length)(Y:∀(i:Nat) p p',l[i]?=some p->l'[i]?=some p'->∀w S v,cf w S p v->cf w S p' v):Ok P g l r:=by
 refine⟨h.1,λw Sa vs h0 O h2 h3=> ?_⟩;refine h.2 w Sa vs h0 O U λi p' v q1 q2=> ?_;have hi:i<l.length:=by have:=(bm.1 q1).1;omega
 have Ww:l[i]?=some l[i]:=sS;exact Y i l[i] p' Ww q1 w Sa v<|h3 i l[i] v Ww q2
def Ok.res{r':J}(h:Ok P g l r)(N:∀w S v,cf w S r v->cf w S r' v):Ok P g l r':=by refine⟨h.1,λw Sa vs h0 O h2 h3=> ?_⟩;refine(h.2 w Sa vs h0 O h2 h3).mono ?_;rintro e w' ⟨v,q1,q2,q3⟩;exact⟨v,q1,q2,N _ _ _ q3⟩
def Ok.bt8(h:Ok P g [a'] r)(Y:∀w S v,cf w S a v->cf w S a' v):Ok P g [a] r:=
 h.conv rfl λi p p' q1 q2 w S v N=>by
  cases i with
  |zero=>simp at q1 q2;subst q1;subst q2;exact Y w S v N
  |succ i=>simp at q1
def Ok.Wx{b b':J}(h:Ok P g [a',b'] r)(Y:∀w S v,cf w S a v->cf w S a' v)(hd:∀w S v,cf w S b v->cf w S b' v):Ok P g [a,b] r:=
 h.conv rfl λi p p' q1 q2 w S v N=>by
  match i with
  |0=>simp at q1 q2;subst q1;subst q2;exact Y w S v N
  |1=>simp at q1 q2;subst q1;subst q2;exact hd w S v N
  |i+2=>simp at q1
def strOf:l_ J->y_
 | [.sc (.string b)]=>b
 |_=>default
def intOf:l_ J->Int
 | [.sc (.int .i64 n)]=>n
 |_=>0
structure FL (α:Type) where
 n:Nat
 f:Nat->α
def FL.list(x:FL α):l_ α:=ofN x.n x.f
@[simp] theorem FL.bt9 {α:Type} (x:FL α):x.list.length=x.n:=S8 _ _
end
end
section
open Go.RowKit
def ZI {P:Program} {f:FuncId} {ps:l_ J} {vs:l_ Value} {cj2:World}(h:Ok P f ps (Bo true))(qg:GI P cj2)(hl:vs.length=ps.length)(N:∀(i:Nat) p v,ps[i]?=some p->vs[i]?=some v->cf cj2 (λb=>b<cj2.heap.size) p v):
  Calls P f vs.toArray cj2 λe W'=>e= .returned (.bool true)/\Below cj2.heap.size cj2 W':=by
 refine(h.2 cj2 (λb=>b<cj2.heap.size) vs qg (λ_ h=>h) hl N).mono ?_;rintro e W' ⟨v,rfl,qf,lK⟩;cases lK;exact⟨rfl,qf⟩
def bU4 {cj2:World} {Sx:Nat->Prop} {p0:J} {v0:Value}(h0:cf cj2 Sx p0 v0):∀(i:Nat) p v,[p0][i]?=some p-> [v0][i]?=some v->cf cj2 Sx p v:=by
 intro i p v q1 q2
 match i with
 |0=>simp at q1 q2;subst q1;subst q2;exact h0
 |i+1=>simp at q1
def wf_i64 {i:Int}(h:(Lit.int .i64 i).wf=true): -9223372036854775808<=i/\i<=9223372036854775807:=by simp only[Lit.wf,fG,bK]at h;have e1:IntKind.i64.min= -9223372036854775808:=dD;have e2:IntKind.i64.max=9223372036854775807:=dD;rw[e1,e2]at h;exact h
section
variable {P:Program}{ps:l_ J}
inductive CT where
 |int (k:IntKind)
 |str
 |bool
 |sl (e:TypeId)
def aw9(P:Program):CT->J->Prop
 | .int k,p=>∃i,p= .sc (.int k i)/\(Lit.int k i).wf=true
 | .str,p=>∃s,p= .sc (.string s)/\s.size<=maxLen
 | .bool,p=>∃b,p= .sc (.bool b)
 | .sl e,p=>∃es:l_ (l_ J),p= .ro es/\es.length<=maxLen/\∃n,∀x∈es,Sh P n e x
def Jl(P:Program):l_ CT->l_ J->Prop
 | [],[]=>True
 |c::cs,p::ps=>aw9 P c p/\Jl P cs ps
 |_,_=>False
def Jl.inv {c:CT} {cs:l_ CT}(h:Jl P (c::cs) ps):∃p qs,ps=p::qs/\aw9 P c p/\Jl P cs qs:=by
 cases ps with
 |nil=>exact h.elim
 |cons p qs=>exact⟨p,qs,rfl,h.1,h.2⟩
theorem Jl.nil(h:Jl P [] ps):ps=[]:=by
 cases ps with
 |nil=>rfl
 |cons p qs=>exact h.elim
theorem Jl.append:∀ {cs ds:l_ CT} {ps qs:l_ J},Jl P cs ps->Jl P ds qs->Jl P (cs++ds) (ps++qs)
 | [],ds,ps,qs,O,h2=>by rw[O.nil];exact h2
 |c::cs,ds,ps,qs,O,h2=>by obtain⟨p,rs,rfl,h3,h4⟩:=O.inv;exact⟨h3,h4.append h2⟩
theorem Sh.succ:∀ {n:Nat} {t:TypeId} {ps:l_ J},Sh P n t ps->Sh P (n+1) t ps:=by
 intro n
 induction n with
 |zero=>intro t ps h;exact h.elim
 |succ n ih=>
  intro t ps h;have hh:=h;unfold Sh at hh;split at hh
  .rename_i hu;unfold Sh;rw[hu];exact hh
  .rename_i k hu;unfold Sh;rw[hu];exact hh
  .rename_i hu;unfold Sh;rw[hu];exact hh
  .rename_i e hu;obtain⟨es,O,h2,h3⟩:=hh;unfold Sh;rw[hu];exact⟨es,O,h2,λx hx=>ih (h3 x hx)⟩
  .rename_i fs hu;unfold Sh;rw[hu];exact⟨hh.1,λf hf=>ih (hh.2 f hf)⟩
  .exact hh.elim
end
def S9(e c:Nat):Nat->Nat->l_ Field
 |0,_=> []
 |k+1,o=>⟨ "",e,o,false, "", "",0⟩::S9 e c k (o+c)
theorem GY {e c:Nat}:∀ {k o:Nat} {f:Field},f∈S9 e c k o->f.type=e/\∃i,i<k/\f.offset=o+i*c
 |k+1,o,f,h=>by
  rcases fB.1 h with rfl|h
  .exact⟨rfl,0,U,sS⟩
  .obtain⟨O,i,h2,h3⟩:=GY h;exact⟨O,i+1,U,by rw[h3,ed];omega⟩
def GZ(P:Program):Nat->TypeId->Bool
 |0,_=>false
 |n+1,t=>
  match P.underlying t with
  |some .bool|some (.int _)|some .string=>P.cellsOf t==1
  |some (.slice e)=>P.cellsOf t==1&&decide (0<P.cellsOf e)&&GZ P n e
  |some (.struct fs)=>qn P 0 fs.toList (P.cellsOf t)&&fs.toList.all λf=>GZ P n f.type
  |some (.array k e)=>qn P 0 (S9 e (P.cellsOf e) k 0) (P.cellsOf t)&&GZ P n e
  |_=>false
def Ey(P:Program):Nat->TypeId->l_ J->Prop
 |0,_,_=>False
 |n+1,t,ps=>
  match P.underlying t with
  |some .bool=>∃b,ps=[.sc<|.bool b]
  |some (.int k)=>∃i,ps=[.sc<|.int k i]/\(Lit.int k i).wf=true
  |some .string=>∃s,ps=[.sc<|.string s]/\s.size<=reachBytes
  |some (.slice e)=>∃es:l_ (l_ J),ps=[.ro es]/\es.length*P.bytesOf e<=reachBytes/\∀x∈es,Ey P n e x
  |some (.struct fs)=>ps.length=P.cellsOf t/\∀f∈fs.toList,Ey P n f.type ((ps.drop f.offset).take<|P.cellsOf f.type)
  |some (.array k e)=>ps.length=P.cellsOf t/\∀f∈S9 e (P.cellsOf e) k 0,Ey P n f.type ((ps.drop f.offset).take<|P.cellsOf f.type)
  |_=>False
section
variable {H:Type} {au:TypeId×Value->H} {P:Program} {w:World} {base:Nat} {sp:Nat->Bool} {held:Bool}
theorem wP {cs:l_ Value} {n total:Nat}(hlen:cs.length=total):∀ {fs:l_ Field} {at_:Nat},qn P at_ fs total=true->at_<=total->
  (∀f∈fs,∃ps,My w (λb=>b<w.heap.size) ps ((cs.drop f.offset).take<|P.cellsOf f.type)/\Ey P n f.type ps/\((cs.drop f.offset).take<|P.cellsOf f.type).length=P.cellsOf f.type)->
  ∃qs,My w (λb=>b<w.heap.size) qs (cs.drop at_)/\∀f∈fs,at_<=f.offset/\Ey P n f.type ((qs.drop<|f.offset-at_).take<|P.cellsOf f.type)
 | [],at_,ht,_,_=>by
  have:at_=total:=by simpa [qn]using ht
  refine⟨[],?_,sS⟩;rw[Fg U];exact⟨rfl,sS⟩
 |f::fs,at_,ht,hle,hf=>by
  simp only[qn,fG]at ht;have bc4:f.offset=at_:=by grind
  obtain⟨ps,p1,p2,p3⟩:=hf f sS;rw[bc4]at p1 p3;have hz:at_+P.cellsOf f.type<=total:=by rw[im,jX]at p3;omega
  obtain⟨qs,q1,q2⟩:=wP hlen ht.2 hz λg hg=>hf g (by simp [hg]);have hpl:ps.length=P.cellsOf f.type:=by rw[p1.1,p3]
  refine⟨ps++qs,?_,λg hg=> ?_⟩
  .have:=p1.append q1;rw[<-xC,wu]at this;exact this
  .rcases fB.1 hg with rfl|hg
   .refine⟨U,?_⟩;rw[bc4,xA,xu,LF U,wq U];exact p2
   .obtain⟨g1,g2⟩:=q2 g hg;refine⟨U,?_⟩;rw[LK,Fg U,nL,hpl,show g.offset-at_-P.cellsOf f.type=g.offset-(at_+P.cellsOf f.type) by omega];exact g2
theorem MA {ts:l_ TypeId}:∀ {ds:l_ (DataW H)},ts.length=ds.length->∀(i:Nat) t d,ts[i]?=some t->ds[i]?=some d->∀x∈d.weights P t,x∈DataW.weightsEach P ts ds:=by
 induction ts with
 |nil=>intro ds h i t d O;simp at O
 |cons t0 ts ih=>
  intro ds h i t d O h2 x hx;cases ds with
  |nil=>simp at h
  |cons d0 ds=>
   unfold DataW.weightsEach;cases i with
   |zero=>simp at O h2;subst O;subst h2;exact qO _ hx
   |succ i=>exact tm _<|ih (by simpa using h) i t d (by simpa using O) (by simpa using h2) x hx
theorem wQ {e:TypeId}:∀ {ds:l_ (DataW H)} (i:Nat) d,ds[i]?=some d->∀x∈d.weights P e,x∈DataW.weightsAll P e ds
 | [],i,d,h=>by simp at h
 |d0::ds,i,d,h=>by
  intro x hx;unfold DataW.weightsAll;cases i with
  |zero=>simp at h;subst h;exact qO _ hx
  |succ i=>exact tm _<|wQ i d (by simpa using h) x hx
theorem ZJ:∀(n:Nat) {fuel:Nat} {t:TypeId} {cs:l_ Value} {x:DataW H×l_ MemPlace},GZ P n t=true->DataW.trod au P w base sp held fuel t cs=some x->(∀y∈x.1.weights P t,y<=reachBytes)->
  ∃ps,My w (λb=>b<w.heap.size) ps cs/\Ey P n t ps/\cs.length=P.cellsOf t:=by
 intro n
 induction n with
 |zero=>intro fuel t cs x h;simp [GZ]at h
 |succ n ih=>
  intro fuel t cs x DK h hw;cases fuel with
  |zero=>simp [DataW.trod]at h
  |succ fuel=>
  have one:∀ {p:J} {v:Value},cf w (λb=>b<w.heap.size) p v->My w (λb=>b<w.heap.size) [p] [v]:=by
   intro p v N;refine⟨rfl,λi q u q1 q2=> ?_⟩;cases i with
   |zero=>simp at q1 q2;subst q1;subst q2;exact N
   |succ i=>simp at q1
  unfold GZ at DK;split at DK
  .rename_i hu;obtain⟨b,rfl,_⟩:=DataW.trod_bool hu h;exact⟨_,one (.sc _),by simp only[Ey,hu];exact⟨b,rfl⟩,(show 1=P.cellsOf t from(by simpa using DK:P.cellsOf t=1).symm)⟩
  .rename_i k hu;obtain⟨i,rfl,_,hwf⟩:=DataW.trod_int hu h;exact⟨_,one (.sc _),by simp only[Ey,hu];exact⟨i,rfl,hwf⟩,(show 1=P.cellsOf t from(by simpa using DK:P.cellsOf t=1).symm)⟩
  .rename_i hu;obtain⟨b,rfl,hx,hb⟩:=DataW.trod_string hu h;have hb2:b.size<=reachBytes:=by rw[hx]at hw;have:=hw b.data.toList.length (by simp [DataW.weights]);rw[j0]at this;exact this
   exact⟨_,one (.sc _),by simp only[Ey,hu];exact⟨b,rfl,hb2⟩,(show 1=P.cellsOf t from(by simpa using DK:P.cellsOf t=1).symm)⟩
  .rename_i e hu;simp only[fG,bK]at DK;obtain⟨⟨hc1,hz⟩,b66⟩:=DK;have hc1:P.cellsOf t=1:=by grind
   simp only[DataW.trod,hu]at h;split at h;all_goals skip
   all_goals first|(rename_i gZ;cases gZ;done)|skip
   .refine⟨[.ro []],one (.Fu _ _),?_,by simp [hc1]⟩;simp only[Ey,hu];exact⟨[],rfl,sS,sS⟩
   .rename_i e' a len cap heq;cases heq;split at h
    .rename_i iJ;simp only[Ff,LN]at h;obtain⟨elems,Fw,rest,_,rfl⟩:=h;have Zp:=wO Fw;have hlen:elems.length=len:=by rw[Zp.1];simp
     have SO:len*P.bytesOf e<=reachBytes:=by refine cm ?_ (hw ((elems.map (·.1)).length+(rest.map (·.1)).length|>(· *P.bytesOf e))<|by simp [DataW.weights,hu]);refine il _ ?_;simp [hlen]
     have each:∀i,i<len->∃ps,Ey P n e ps/\∃ci,w.cells? base (a.add<|i*P.cellsOf e) (P.cellsOf e)=some ci/\My w (λb=>b<w.heap.size) ps ci/\ci.length=P.cellsOf e:=by
      intro i hi;obtain⟨b,We,hb⟩:=Zp.2 i i (by simp [hi]);simp only[Ff]at hb;obtain⟨ci,c1,c2⟩:=hb;obtain⟨ps,p1,p2,p3⟩:=ih b66 c2 λy hy=>hw y (by
       simp only[DataW.weights,hu];refine fh _ (qO _ (wQ i b.1 ?_ y hy));rw[b9,We];rfl)
      exact⟨ps,p2,ci,c1,p1,p3⟩
     obtain⟨es,l1,l2⟩:=DT len each;refine⟨[.ro es],one ?_,?_,by simp [hc1]⟩
     .by_cases h0:len=0
      .subst h0;have:es=[]:=oL l1;subst this;exact .Fu _ _
      .have get:∀i j,i<len->j<P.cellsOf e->∃v,w.cell? ((a.add<|i*P.cellsOf e).add j)=some v/\∀ps,es[i]?=some ps->ps.length=P.cellsOf e/\∀p,ps[j]?=some p->cf w (λb=>b<w.heap.size) p v:=by intro i j hi hj;have kC:es[i]?=some (es[i]' U):=sS;obtain⟨_,ci,c1,c2,c3⟩:=l2 i _ kC;have JV:ci[j]?=some (ci[j]' U):=sS;refine⟨_,(ZH c1).2 j _ JV,λps wD=> ?_⟩;rw[kC]at wD;cases wD;exact⟨by rw[c2.1,c3],λp hp=>c2.2 j p _ hp JV⟩
       obtain⟨b0,o0,spt⟩:=a;obtain⟨v0,hv0,_⟩:=get 0 0 U hz;have bU5:spt=none:=by have:=World.cell?_spot hv0;simpa [Addr.add]using this
       subst bU5;simp only[jq]at get hv0;obtain⟨c,et,fz,hblk⟩:∃c et fz,w.heap[b0]?=some (.cells c et fz):=by
        unfold World.cell? at hv0;split at hv0
        .rename_i c et fz hb;exact⟨c,et,fz,hb⟩
        .cases hv0
       have nQ:o0+len*P.cellsOf e<=c.size:=by
        obtain⟨v1,hv1,_⟩:=get (len-1) (P.cellsOf e-1) U U;rw[cell_of hblk]at hv1;have O:o0+(len-1)*P.cellsOf e+(P.cellsOf e-1)<c.size:=by
         rcases fA (o0+(len-1)*P.cellsOf e+(P.cellsOf e-1)) c.size with h|h
         .exact h
         .rw[tk h]at hv1;cases hv1
        have h2:len*P.cellsOf e=(len-1)*P.cellsOf e+1*P.cellsOf e:=nn U;omega
       have:=cf.ro (w:=w) (S:=λb=>b<w.heap.size) es b0 o0 cap (P.cellsOf e) c et fz (lt_of_block hblk) hblk (λy hy=>by
         obtain⟨k,hk⟩:=mY hy;have hkl:k<len:=by have:=(bm.1 hk).1;omega
         obtain⟨_,_,hg⟩:=get k 0 hkl hz;exact(hg y hk).1) (by rw[l1];exact nQ) U (λi j y p v q1 q2 q3=>by
         have oR:i<len:=by have:=(bm.1 q1).1;omega
         obtain⟨_,_,hg0⟩:=get i 0 oR hz;have Cj:j<P.cellsOf e:=by have:=(bm.1 q2).1;rw[(hg0 y q1).1]at this;exact this
         obtain⟨v1,hv1,hg⟩:=get i j oR Cj;rw[cell_of hblk,q3]at hv1;cases hv1;exact(hg y q1).2 p q2)
       rw[l1]at this;exact this
     .simp only[Ey,hu];refine⟨es,rfl,by rw[l1];exact SO,λy hy=> ?_⟩;obtain⟨k,hk⟩:=mY hy;exact(l2 k y hk).1
    .cases h
   .cases h
  .rename_i fs hu;simp only[fG]at DK;have cy:∃hl:cs.length=P.cellsOf t,∀f∈fs.toList,∃y,DataW.trod au P w base sp held fuel f.type ((cs.drop f.offset).take<|P.cellsOf f.type)=some y/\∀z∈y.1.weights P f.type,z<=reachBytes:=by
    simp only[DataW.trod,hu]at h;split at h
    .rename_i hl;simp only[LN]at h;obtain⟨ys,Mf,rfl⟩:=h;refine⟨hl,λf hf=> ?_⟩;obtain⟨i,hi⟩:=mY hf;obtain⟨m1,m2⟩:=wO Mf;obtain⟨y,hy1,hy2⟩:=m2 i f hi;refine⟨y,hy2,λz hz=>hw z ?_⟩;simp only[DataW.weights,hu];refine MA (ts:=fs.toList.map (·.type)) (ds:=ys.map (·.1)) (by simp [m1]) i f.type y.1 ?_ ?_ z hz
     .rw[b9,hi];rfl
     .rw[b9,hy1];rfl
    .cases h
   obtain⟨hl,cy⟩:=cy;obtain⟨qs,q1,q2⟩:=wP (w:=w) (P:=P) (n:=n) hl DK.1 (bJ _) λf hf=>by obtain⟨y,hy,hz⟩:=cy f hf;exact ih (cU.1 DK.2 f hf) hy hz
   refine⟨qs,by simpa using q1,?_,hl⟩;simp only[Ey,hu];refine⟨by have:=q1.1;simp at this;omega,λf hf=> ?_⟩;have:=(q2 f hf).2;simpa using this
  .rename_i k e hu;simp only[fG]at DK;have cy:∃hl:cs.length=P.cellsOf t,∀f∈S9 e (P.cellsOf e) k 0,∃y,DataW.trod au P w base sp held fuel f.type ((cs.drop f.offset).take<|P.cellsOf f.type)=some y/\∀z∈y.1.weights P f.type,z<=reachBytes:=by
    simp only[DataW.trod,hu]at h;split at h
    .rename_i hl;simp only[LN]at h;obtain⟨ys,Mf,rfl⟩:=h;refine⟨hl,λf hf=> ?_⟩;obtain⟨e1,i,hi,e2⟩:=GY hf;obtain⟨m1,m2⟩:=wO Mf;obtain⟨y,hy1,hy2⟩:=m2 i i (by simp [hi]);rw[e1,e2,eP];refine⟨y,hy2,λz hz=>hw z ?_⟩;simp only[DataW.weights,hu];refine wQ i y.1 ?_ z hz;rw[b9,hy1];rfl
    .cases h
   obtain⟨hl,cy⟩:=cy;obtain⟨qs,q1,q2⟩:=wP (w:=w) (P:=P) (n:=n) hl DK.1 (bJ _) λf hf=>by obtain⟨y,hy,hz⟩:=cy f hf;obtain⟨e1,_⟩:=GY hf;exact ih (by rw[e1];exact DK.2) hy hz
   refine⟨qs,by simpa using q1,?_,hl⟩;simp only[Ey,hu];refine⟨by have:=q1.1;simp at this;omega,λf hf=> ?_⟩;have:=(q2 f hf).2;simpa using this
  .cases DK
end
theorem ax0 {H:Type} {au:TypeId×Value->H} {P:Program} {cj2:World} {base bU6:Nat} {sp:Nat->Bool} {held:Bool} {t:TypeId} {fs:Array Field} {v:Value} {d:DataW H} {p:l_ MemPlace} {r:Reach} (n:Nat) (hu:P.underlying t=some (.struct fs))
  (DK:GZ P n t=true) (hv:Value.okWide P cj2 r bU6 t v) (ht:DataW.Trod au P cj2 base sp held t v d p) (hw:∀y∈d.weights P t,y<=reachBytes):
  ∃ps,Ey P n t ps/\cf cj2 (λb=>b<cj2.heap.size) (.agg ps) v:=by
 obtain⟨fuel,hf⟩:=ht;obtain⟨ps,p1,p2,p3⟩:=ZJ n DK hf hw;refine⟨ps,p2,?_⟩;obtain⟨cs,rfl,_⟩:=Go.WideShapes.okWide_struct hu hv;exact .agg ps cs (by simpa [Value.cells]using p1.1) λi c x q1 q2=>p1.2 i c x q1 (by simpa [Value.cells]using q2)
end
end Go.PS
namespace Go.Proofs.YtnpcbfcfcjdhlaaGreatDoor
section
open Go.PS
section
variable {α β γ:Type}{E:Env}{n i:Nat}{b:Nat->Bool}{x:Int}{st:Nat->l_ J}{h k k':Hp}{y:Out×l_ J×Hp}{T cj0 U' args:l_ J}{p q:Prop}{o o':Out}{r:J}
def MB:Nat->Nat->l_ (Nat×J)->l_ J
 |0,_,_=> []
 |n+1,k,[]=>cj4::MB n (k+1) []
 |n+1,k,(j,v)::r=>bif k==j then v::MB n (k+1) r else cj4::MB n (k+1) ((j,v)::r)
def M(n:Nat)(l:l_ (Nat×J)):l_ J:=MB n 0 l
abbrev TrP:=Tr J
structure bh (α:Type) where
 n:Nat
 f:Nat->α
class aY (α:Type) where
 cells:α->l_ J
 of:l_ J->α
class Wf (α:Type) where
 wf:α->Prop
def aq:Nat:=140737488351232
instance:Wf y_:=⟨λs=>s.size<=aq⟩
instance:Wf Int:=⟨λn=> -9223372036854775808<=n/\n<=9223372036854775807⟩
instance:Wf Bool:=⟨λ_=>True⟩
instance [Wf α]:Wf (bh α):=⟨λx=>x.n<=aq/\∀i,Wf.wf (x.f i)⟩
structure I4 (α:Type) where
 au:α->J
 dec:J->α
def aQ:I4 y_:=⟨S,λ| .sc (.string s)=>s|_=>default⟩
def bx:I4 Int:=⟨I,λ| .sc (.int _ n)=>n|_=>0⟩
def oD(k:IntKind):I4 Int:=⟨λn=> .sc (.int k n),λ| .sc (.int _ n)=>n|_=>0⟩
def Pm:I4 Bool:=⟨Bo,λ| .sc (.bool b)=>b|_=>false⟩
def af(α:Type) [aY α]:I4 α:=⟨λx=> .agg (aY.cells x),λ| .agg cs=>aY.of cs|_=>aY.of []⟩
def uh(α:Type) [aY α]:I4 α:=⟨λx=> .kj (aY.cells x) 0,λ| .kj cs _=>aY.of cs|_=>aY.of []⟩
def k9(c:I4 α):I4 α:=⟨λx=> .kj [c.au x] 0,λ| .kj [p] _=>c.dec p|_=>c.dec .any⟩
def ak(α:Type) [aY α]:I4 (bh α):=⟨λx=> .rf x.n λi=>aY.cells (x.f i),λ| .rf n f=>⟨n,λi=>aY.of (f i)⟩|_=>⟨0,λ_=>aY.of []⟩⟩
instance:aY y_:=⟨λs=> [S s],λ| [.sc<|.string s]=>s|_=>default⟩
instance:aY Int:=⟨λn=> [I n],λ| [.sc<|.int _ n]=>n|_=>0⟩
instance [aY α]:aY (bh α):=⟨λx=> [(ak α).au x],λ| [p]=>(ak α).dec p|_=>(ak α).dec .any⟩
structure Jm (α:Type) where
 au:α->l_ J
 dec:l_ J->α
def a1(a:I4 α):Jm α:=⟨λx=> [a.au x],λ| [p]=>a.dec p|_=>a.dec .any⟩
def a2(a:I4 α)(b:I4 β):Jm (α×β):=⟨λx=> [a.au x.1,b.au x.2],λ| [p,q]=>(a.dec p,b.dec q)|_=>(a.dec .any,b.dec .any)⟩
def a3(a:I4 α)(b:I4 β)(c:I4 γ):Jm (α×β×γ):=⟨λx=> [a.au x.1,b.au x.2.1,c.au x.2.2],λ| [p,q,r]=>(a.dec p,b.dec q,c.dec r)|_=>(a.dec .any,b.dec .any,c.dec .any)⟩
def a4 {δ:Type}(a:I4 α)(b:I4 β)(c:I4 γ)(d:I4 δ):Jm (α×β×γ×δ):=⟨λx=> [a.au x.1,b.au x.2.1,c.au x.2.2.1,d.au x.2.2.2],λ| [p,q,r,s]=>(a.dec p,b.dec q,c.dec r,d.dec s)|_=>(a.dec .any,b.dec .any,c.dec .any,d.dec .any)⟩
def bN(A:Jm α)(r:α->J)(pre:α->Prop:=λ_=>True):l_ J->Option (J×l_ Prop):=λci6=>some (r<|A.dec ci6,[ci6=A.au (A.dec ci6),pre<|A.dec ci6])
theorem ah {P:Program} {f:FuncId}{A:Jm α} {r:α->J} {pre:α->Prop}(hE:an P E)(h:∀x,pre x->Ok P f (A.au x) (r x)):an P (aF f (bN A r pre) E):=
 gi hE λci6 p ob O h2=>by
  unfold bN at O;cases O;have e:=h2 _ ch;have:=h (A.dec ci6)<|h2 (pre<|A.dec ci6) sS
  rwa [<-e]at this
def tF:Option (J×l_ Prop)->Bool
 |some (.sc (.bool b),_)=>b
 |_=>false
def DU:Option (J×l_ Prop)->Prop
 |some (.sc (.bool _),ob)=>ow ob
 |_=>False
theorem G0 {P:Program}(hE:an P E) {g:Nat} {ci6:l_ J}(h:DU (E.p g ci6)):Ok P g ci6 (Bo<|tF<|E.p g ci6):=by
 unfold DU at h;split at h
 .rename_i b ob heq;rw[heq];exact hE.p g ci6 _ ob heq<|ow.mem h
 .exact h.elim
def Eg(P:Program)(g:Nat)(bb:l_ J->Bool):Env:=⟨λg' ci6=>some (Bo<|bb ci6,[g'=g/\Ok P g ci6 (Bo<|bb ci6)]),λ_ _ _=>none,λ_ _ _ _ _=>none,λ_ _ _=>none⟩
theorem J7(P:Program)(g:Nat)(bb:l_ J->Bool):an P (Eg P g bb):=
 ⟨λg' ci6 r ob h ho=>by unfold Eg at h;cases h;obtain⟨rfl,h2⟩:=ho _ ch;exact h2,λ_ _ _ _ _ _ h=>(by cases h),λ_ _ _ _ _ _ _ _ h=>(by cases h)⟩
def Eo(P:Program)(g:Nat)(r:J):Env:=⟨λg' ci6=>some (r,[g'=g/\Ok P g ci6 r]),λ_ _ _=>none,λ_ _ _ _ _=>none,λ_ _ _=>none⟩
theorem bU7(P:Program)(g:Nat)(r:J):an P (Eo P g r):=
 ⟨λg' ci6 p ob h ho=>by unfold Eo at h;cases h;obtain⟨rfl,h2⟩:=ho _ ch;exact h2,λ_ _ _ _ _ _ h=>(by cases h),λ_ _ _ _ _ _ _ _ h=>(by cases h)⟩
theorem Wy {w:World} {S:Nat->Prop} {g:Nat} {v:Value}(h:cf w S (.sc<|.func (.func g) #[] #[]) v):cf w S (.qS g []) v:=by
 cases h;exact .qS g [] #[] rfl λi c v O=>by simp at O
def ar(n:Nat)(b:Nat->Bool):Bool:=(List.range n).any b
theorem cG:ar n b=true↔∃i,i<n/\b i=true:=by
 unfold ar;rw[List.any_eq_true];constructor
 .rintro⟨i,O,h2⟩;exact⟨i,List.mem_range.1 O,h2⟩
 .rintro⟨i,O,h2⟩;exact⟨i,List.mem_range.2 O,h2⟩
theorem bc:ar n b=false↔∀i,i<n->b i=false:=by
 rw[<-mZ,cG];constructor
 .intro h i hi;cases hb:b i with
  |false=>rfl
  |true=>exact absurd ⟨i,hi,hb⟩ h
 .rintro h ⟨i,O,h2⟩;rw[h i O]at h2;cases h2
theorem ng {c:Nat->Bool}(h:∀i,i<n->b i=c i):ar n b=ar n c:=by
 cases hb:ar n b with
 |true=>
  obtain⟨i,O,h2⟩:=cG.1 hb;exact(cG.2 ⟨i,O,by rw[<-h i O];exact h2⟩).symm
 |false=>
  exact(bc.2 λi hi=>by rw[<-h i hi];exact bc.1 hb i hi).symm
theorem wrap64(O: -9223372036854775808<=x)(h2:x<=9223372036854775807):oU x=x:=by rw[oU,IntKind.wrap_i64];omega
theorem bU8(O:0<=x)(h2:x<=255):IntKind.u8.wrap x=x:=by rw[IntKind.wrap_u8];omega
theorem aL(a b:y_):dN a b=decide (a=b):=by
 unfold dN;rw[oM];constructor
 .intro h;have:a.data=b.data:=by rw[<-EY];exact h
  exact sK this
 .rintro rfl;rfl
theorem bZ(h:i<n)(hn:n<=aq):oU ((i:Int)+1)=((i+1:Nat):Int):=by unfold aq at hn;rw[wrap64 U U];omega
def qX(n:Nat)(b:Nat->Bool):Nat->Nat->Nat
 |0,i=>i
 |k+1,i=>if b i then i else qX n b k (i+1)
def aE(n:Nat)(b:Nat->Bool):Nat:=qX n b n 0
theorem qY(n:Nat)(b:Nat->Bool):∀k i,(qX n b k i<=i+k)/\i<=qX n b k i/\(qX n b k i<i+k->b (qX n b k i)=true)/\∀j,i<=j->j<qX n b k i->b j=false
 |0,i=>⟨bE _,bE _,λh=>absurd h (nI _),λj O h2=>by unfold qX at h2;omega⟩
 |k+1,i=>by
  unfold qX;split
  .rename_i hb;exact⟨U,bE _,λ_=>hb,λj O h2=>U⟩
  .rename_i hb;obtain⟨O,h2,h3,h4⟩:=qY n b k (i+1);refine⟨U,U,λh=>h3 U,λj h5 h6=> ?_⟩;by_cases hj:j=i
   .subst hj;simpa using hb
   .exact h4 j U h6
theorem oT(n:Nat)(b:Nat->Bool):aE n b<=n:=by have:=(qY n b n 0).1;unfold aE;omega
theorem dC(h:aE n b<n):b (aE n b)=true:=(qY n b n 0).2.2.1 (by unfold aE at h;omega)
theorem gy{j:Nat}(h:j<aE n b):b j=false:=(qY n b n 0).2.2.2 j (bJ _) h
theorem ru(O:i<n)(h2:b i=true)(h3:∀j,j<i->b j=false):aE n b=i:=by
 rcases rD (aE n b) i with h|h|h
 .have:=dC<|Nat.lt_trans h O;rw[h3 _ h]at this;cases this
 .exact h
 .rw[gy h]at h2;cases h2
theorem DV(h:∀j,j<n->b j=false):aE n b=n:=by
 rcases fA (aE n b) n with O|O
 .have:=dC O;rw[h _ O]at this;cases this
 .have:=oT n b;omega
theorem dw:aE n b<n↔ar n b=true:=by
 rw[cG];constructor
 .intro h;exact⟨_,h,dC h⟩
 .rintro⟨i,O,h2⟩;rcases fA (aE n b) n with h|h
  .exact h
  .rw[gy<|uY O h]at h2;cases h2
def cZ(n:Nat)(b:Nat->Bool):Int:=if ar n b then aE n b else-1
theorem Bb:(cZ n b<0)↔ar n b=false:=by unfold cZ;cases h:ar n b<;>simp
theorem iw:decide (0<=cZ n b)=ar n b:=by unfold cZ;cases h:ar n b<;>simp
def ZK:J->Option (Nat×l_ J)
 | .sc (.func (.func g) ⟨[]⟩ ⟨[]⟩)=>some (g,[])
 | .qS g q=>some (g,q)
 |_=>none
def Bc:l_ J->l_ Nat->Bool
 |q,ks=>ks.contains q.length&&q.all λp=>match p with
  | .kj _ _=>true
  |_=>false
def nh(E:Env)(ks:l_ Nat)(α:Type) [aY α](el:l_ J->J)(r:Nat->(Nat->Bool)->J):l_ J->Option (J×l_ Prop)
 | [.rf n f,p]=>match ZK p with
  |some (g,q)=>match Bc q ks with
   |true=>some (r n λi=>tF (E.p g (el (f i)::q)),[.rf n f=(ak α).au ((ak α).dec<|.rf n f),n<=aq,∀i,i<n->DU (E.p g (el (f i)::q))])
   |false=>none
  |none=>none
 |_=>none
section
variable {P:Program} {c:Code}
theorem jk {ci7:Nat}{ks:l_ Nat}[aY α] {el:l_ J->J} {r:Nat->(Nat->Bool)->J} (hE:an P E)
  (h:∀(x:bh α) (g:Nat) (q:l_ J) (bb:l_ J->Bool),Bc q ks=true->x.n<=aq->(∀i,i<x.n->Ok P g (el (aY.cells<|x.f i)::q) (Bo<|bb (el (aY.cells<|x.f i)::q)))->Ok P ci7 [(ak α).au x,.qS g q] (r x.n λi=>bb (el (aY.cells<|x.f i)::q))):
  an P (aF ci7 (nh E ks α el r) E):=by
 refine gi hE λci6 p ob O h2=> ?_;unfold nh at O;split at O
 .rename_i n f pf;split at O
  .rename_i g q hf;split at O
   .rename_i Y;cases O;have e:=h2 _ ch;have hn:=h2 (n<=aq) sS;have hg:=h2 (∀i,i<n->DU (E.p g (el (f i)::q))) sS;have key:=h ((ak α).dec<|.rf n f) g q (λci6=>tF (E.p g ci6)) Y hn;have ef:∀i,f i=aY.cells (((ak α).dec<|.rf n f).f i):=λi=>congrFun (J.rf.inj e).2 i;have aW:Ok P ci7 [.rf n f,.qS g q] (r n λi=>tF (E.p g (el (f i)::q))):=by
     have k2:=key λi hi=>by rw[<-ef i];exact G0 hE<|hg i hi
     rw[<-e]at k2;have:(λi=>tF (E.p g (el (aY.cells<|((ak α).dec<|.rf n f).f i)::q)))=λi=>tF (E.p g (el (f i)::q)):=by funext i;rw[<-ef i]
     rw[this]at k2;exact k2
    unfold ZK at hf;split at hf
    .cases hf;exact aW.conv rfl λi p p' q1 q2 w S v N=>by
      match i with
      |0=>simp at q1 q2;subst q1;subst q2;exact N
      |1=>simp at q1 q2;subst q1;subst q2;exact Wy N
      |i+2=>simp at q1
    .cases hf;exact aW
    .cases hf
   .cases O
  .cases O
 .cases O
end
section
variable {P:Program} {c:Code}
theorem aq5{x:Nat->Out×l_ J×Hp}
  (lp:∀i,i<=n->∀lt,(i<n->b i=false->aO P c (st<|i+1) h lt)->(i<n->b i=true->lt.ends (x i))->(i=n->lt.ends y)->aO P c (st i) h lt):
  aO P c (st 0) h (.ite (ar n b) (.out (x<|aE n b).1 (x<|aE n b).2.1 (x<|aE n b).2.2)<|.out y.1 y.2.1 y.2.2):=by
 have key:∀k i,i+k=n->(∀j,j<i->b j=false)->aO P c (st i) h (.ite (ar n b) (.out (x<|aE n b).1 (x<|aE n b).2.1 (x<|aE n b).2.2)<|.out y.1 y.2.1 y.2.2):=by
  intro k
  induction k with
  |zero=>
   intro i hi hj;have hn:ar n b=false:=bc.2 λj xO=>hj j U;refine lp i U _ (λh=>U) (λh=>U) λ_=>Mz hn rfl
  |succ k ih=>
   intro i hi hj;refine lp i U _ (λ_ hb=>ih (i+1) U λj xO=> ?_) (λO hb=> ?_) λh=>U
   .by_cases Pf:j=i
    .subst Pf;exact hb
    .exact hj j U
   .have hf:=ru O hb hj;refine GX (cG.2 ⟨i,O,hb⟩) ?_;rw[hf];rfl
 exact key n 0 U λj hj=>absurd hj<|jC _
def ax1(live:l_ Nat)(n:Nat)(b:Nat->Bool)(x:Nat->l_ J)(y:l_ J)(o:Out:= .ext 0):gD:=λ_=>(live,[],λ_ _=> .ite (ar n b) (.out .ret (x<|aE n b) []) (.out o y []))
theorem bU9{h:Nat->Hp}
  (lp:∀i,i<=n->∀lt,(i<n->aO P c (st<|i+1) (h<|i+1) lt)->(i=n->lt.ends y)->aO P c (st i) (h i) lt):
  aO P c (st 0) (h 0) (.out y.1 y.2.1 y.2.2):=by
 have key:∀k i,i+k=n->aO P c (st i) (h i) (.out y.1 y.2.1 y.2.2):=by
  intro k
  induction k with
  |zero=>
   intro i hi;exact lp i U _ (λh=>U) λ_=>rfl
  |succ k ih=>
   intro i hi;exact lp i U _ (λ_=>ih (i+1) U) λh=>U
 exact key n 0 U
end
abbrev gE(l:l_ J)(k:Nat):J:=l.getD k .any
abbrev eQ(l:l_ J)(k:Nat):Int:=bx.dec<|gE l k
abbrev fX(l:l_ J)(k:Nat):y_:=aQ.dec<|gE l k
abbrev Pn(l:l_ J)(k:Nat):Bool:=Pm.dec<|gE l k
abbrev aI(n:Int):J:= .sc<|.int .u32 n
abbrev cM(x:l_ (l_ J))(n:Nat):dW:=⟨x,0,[],n,false,false⟩
abbrev dn(x:l_ (l_ J))(n:Nat):dW:=⟨x,0,[],n,true,false⟩
abbrev gW(x:l_ (l_ J))(n:Nat):dW:=⟨x,0,[],n,false,true⟩
abbrev ox(x:l_ (l_ J))(n:Nat):dW:=⟨x,0,[],n,true,true⟩
abbrev js(n:Nat):dW:=⟨[],2,[],n,true,true⟩
abbrev aT:J:= .ptr 0 0 0
abbrev dK(n:Nat):J:= .ptr n 0 0
abbrev aP:J:= .bit false
abbrev fZ:J:= .bit true
abbrev G1:=Out×l_ J×Hp
inductive TC (α:Type):Type 1 where
 |e (a:α)
 |n (c:Bool) (t f:TC α)
 |d (p:Prop) [h:Decidable p] (t f:TC α)
 |q (a b:Int) (t f:TC α)
 |u (a b:Int) (t f:TC α)
 |m (c:Bool) (t f:TC α)
 |s (x:It) (t:TC α)
 |o (l:l_ Prop) (t:TC α)
 |k {β:Type} (A:Jm β) (y:β) (p:Prop) (t:TC α)
 |v {β:Type} (A:Jm β) (y:β) (t:TC α)
 |g (i n:Int) (t:TC α)
 |r {β:Type} (x:β) (t:TC α)
abbrev ix:=TC J
abbrev nV:=TC G1
abbrev TcH:=TC<|J×Hp
def TC.exp:TC α->l_ Prop->Tr α
 | .e a,l=> .jh a l
 | .n c t f,l=> .aN c (t.exp l) (f.exp l)
 | @TC.d _ p h t f,l=> .aN (@decide p h) (t.exp l) (f.exp l)
 | .q a b t f,l=> .aN (a==b) (t.exp l) (f.exp l)
 | .u a b t f,l=> .aN (a !=b) (t.exp l) (f.exp l)
 | .m c t f,l=> .aN (!c) (t.exp l) (f.exp l)
 | .s x t,l=> .say x (t.exp l)
 | .o z t,l=>t.exp (l++z)
 | .k A y p t,l=>t.exp (l++ [A.au y=A.au y,p])
 | .v A y t,l=>t.exp (l++ [A.au y=A.au y,True])
 | .r x t,l=>t.exp (l++ [x=x])
 | .g i j t,l=>t.exp (l++ [0<=i,i<j])
def TC.j6(Q:α->Prop):TC α->Prop
 | .e a=>Q a
 | .n c t f=>(c=true->t.j6 Q)/\(c=false->f.j6 Q)
 | @TC.d _ p _ t f=>(p->t.j6 Q)/\(¬p->f.j6 Q)
 | .q a b t f=>(a=b->t.j6 Q)/\(a≠b->f.j6 Q)
 | .u a b t f=>(a≠b->t.j6 Q)/\(a=b->f.j6 Q)
 | .m c t f=>(c=false->t.j6 Q)/\(c=true->f.j6 Q)
 | .s _ t=>t.j6 Q
 | .o z t=>ow z/\t.j6 Q
 | .k _ _ p t=>p/\t.j6 Q
 | .v _ _ t=>t.j6 Q
 | .r _ t=>t.j6 Q
 | .g i j t=>(0<=i/\i<j)/\t.j6 Q
theorem ui: ∀ {l k:l_ Prop},ow l->ow k->ow (l++k)
 | [],_,_,h=>h
 |_::_,_,h,h2=>⟨h.1,ui h.2 h2⟩
theorem TC.je {Q:α->Prop}: ∀(t:TC α) (l:l_ Prop),ow l->t.j6 Q->(t.exp l).j6 Q
 | .e _,_,h,w=>⟨h,w⟩
 | .n _ t f,l,h,w=>⟨λq=>je t l h (w.1 q),λq=>je f l h (w.2 q)⟩
 | @TC.d _ _ _ t f,l,h,w=>⟨λq=>je t l h (w.1 (cn q)),λq=>je f l h (w.2 (fW q))⟩
 | .q _ _ t f,l,h,w=>⟨λq=>je t l h (w.1 (by simpa using q)),λq=>je f l h (w.2 (by simpa using q))⟩
 | .u _ _ t f,l,h,w=>⟨λq=>je t l h (w.1 (by simpa using q)),λq=>je f l h (w.2 (by simpa using q))⟩
 | .m _ t f,l,h,w=>⟨λq=>je t l h (w.1 (by simpa using q)),λq=>je f l h (w.2 (by simpa using q))⟩
 | .s _ t,l,h,w=>je t l h w
 | .o _ t,_,h,w=>je t _ (ui h w.1) w.2
 | .k _ _ _ t,_,h,w=>je t _ (ui h ⟨rfl,w.1,trivial⟩) w.2
 | .v _ _ t,_,h,w=>je t _ (ui h ⟨rfl,trivial,trivial⟩) w
 | .r _ t,_,h,w=>je t _ (ui h ⟨rfl,trivial⟩) w
 | .g _ _ t,_,h,w=>je t _ (ui h ⟨w.1.1,w.1.2,trivial⟩) w.2
def jS {P:Program} {c:Code}{lt:LT}(_:aO P c T h lt)(A B:TC α):TC α:=match lt with
 | .ite b (.out o cj0 k) (.out o' U' k')=> .n b (.o [ax P c T h o cj0 k] A) (.o [ax P c T h o' U' k'] B)
 |_=>A
def lpC{P:Program} {c:Code}{lt:LT}(_:p->aO P c T h lt)(A B:TC α):TC α:=match lt with
 | .ite b (.out o cj0 k) (.out o' U' k')=> .n b (.o [ax P c T h o cj0 k] A) (.o [ax P c T h o' U' k'] B)
 |_=>A
theorem Wz {Q:α->Prop} {P:Program} {c:Code}{b:Bool}(lp:aO P c T h (.ite b (.out o cj0 k)<|.out o' U' k'))(A B:TC α):TC.j6 Q (jS lp A B)=((b=true->A.j6 Q)/\(b=false->B.j6 Q)):=propext ⟨λw=>⟨λq=>(w.1 q).2,λq=>(w.2 q).2⟩,λw=>⟨λq=>⟨⟨(lp.t q).one,trivial⟩,w.1 q⟩,λq=>⟨⟨(lp.f q).one,trivial⟩,w.2 q⟩⟩⟩
theorem bc6 {Q:α->Prop}{P:Program} {c:Code}{b:Bool}(lp:p->aO P c T h (.ite b (.out o cj0 k)<|.out o' U' k'))(A B:TC α):TC.j6 Q (lpC lp A B)=((b=true->ax P c T h o cj0 k/\A.j6 Q)/\(b=false->ax P c T h o' U' k'/\B.j6 Q)):=propext ⟨λw=>⟨λq=>⟨(w.1 q).1.1,(w.1 q).2⟩,λq=>⟨(w.2 q).1.1,(w.2 q).2⟩⟩,λw=>⟨λq=>⟨⟨(w.1 q).1,trivial⟩,(w.1 q).2⟩,λq=>⟨⟨(w.2 q).1,trivial⟩,(w.2 q).2⟩⟩⟩
abbrev eG {P:Program} {c:Code}{lt:LT}(_:p->q->aO P c T h lt):nV:= .e (.norm,T,h)
abbrev eH {lt:LT} {a:G1}(_:p->q->lt.ends a):nV:= .e a
abbrev eY {lt:LT} {a:G1}(_:p->lt.ends a):nV:= .e a
def kR {P:Program} {c:Code}{lt:LT}(_:aO P c T h lt)(l:l_ Nat):gD:=λ_=>(l,[],λ_ _=>lt)
def bc7 {P:Program} {c:Code}{lt:LT}(_:p->aO P c T h lt)(l:l_ Nat):gD:=λ_=>(l,[],λ_ _=>lt)
def ax2 {P:Program} {c:Code}{lt:LT}(_:aO P c T h lt)(l:l_ Nat)(w:l_ (Nat×Nat)):gD:=λ_=>(l,w,λ_ _=>lt)
def gF(P:Program)(f:Nat):Func:=P.funcs.getD f default
theorem bu0 {P:Program} {f:Nat}(h:decide (f<P.funcs.size)=true):P.funcs[f]?=some (gF P f):=by have:=cn h;simp [gF,this]
theorem al {P:Program}{f:FuncId}(hE:an P E)(L:gD)(t:ix)(hA:t.j6 (· =r))(hf:decide (f<P.funcs.size)=true:=by kernel_rfl)(F:fM (Mx P E L (gF P f) args) (t.exp []) []=gP (t.exp []) []:=by kernel_rfl):Ok P f args r:=DS hE L (bu0 hf) _ F<|t.je _ trivial hA
theorem cK {P:Program}{f:FuncId}{h':Hp}(hE:an P E)(L:gD)(t:TcH)(hA:t.j6 (dR · (r,h')))(hf:decide (f<P.funcs.size)=true:=by kernel_rfl)(F:fM (Pj P E L (gF P f) args h) (t.exp []) []=gP (t.exp []) []:=by kernel_rfl):kD P f args h r h':=bB7 hE L (bu0 hf) _ F<|t.je _ trivial hA
theorem ao {P:Program}{c:Code}{lt:LT}(hE:an P E)(L:gD)(live J6:l_ Nat)(t:nV)(hA:t.j6 (Rnd P c lt))(F:fM (bc3 P E L live J6 c T h) (t.exp []) []=gP (t.exp []) []:=by kernel_rfl):aO P c T h lt:=Wv hE L live J6 _ F<|t.je _ trivial hA
theorem ft(h:p:=by first|((simp only[TC.j6,Wz,ow,Rnd,aL,bK,bO];repeat' with_reducible first|intro _|apply aNd_)<;>first|trivial|omega|assumption|exact(lp.t W).one|exact(lp.f W).one|exact aR U|exact az U W|exact az U (Y.2<|by first|omega|assumption|(clear aW az aR;grind)|(simp_all;done)|fail)|exact aW U W|exact aW U (bF Y<|by first|omega|assumption|(clear aW az aR;grind)|(simp_all;done)|fail)|(rw[bZ U hn];first|exact aW U W|exact aW U (bF Y<|by first|omega|assumption|(clear aW az aR;grind)|(simp_all;done)|fail))|(rw[bZ U hx];first|exact aW U W|exact aW U (bF Y<|by first|omega|assumption|(clear aW az aR;grind)|(simp_all;done)|fail))|(rw[bZ U hs];first|exact aW U W|exact aW U (bF Y<|by first|omega|assumption|(clear aW az aR;grind)|(simp_all;done)|fail))|(rw[bZ U h];first|exact aW U W|exact aW U (bF Y<|by first|omega|assumption|(clear aW az aR;grind)|(simp_all;done)|fail))|(rw[bZ U O];first|exact aW U W|exact aW U (bF Y<|by first|omega|assumption|(clear aW az aR;grind)|(simp_all;done)|fail))|(rw[bZ U hm];first|exact aW U W|exact aW U (bF Y<|by first|omega|assumption|(clear aW az aR;grind)|(simp_all;done)|fail))|(rw[bZ U hl];first|exact aW U W|exact aW U (bF Y<|by first|omega|assumption|(clear aW az aR;grind)|(simp_all;done)|fail))|(rw[bZ U h0];first|exact aW U W|exact aW U (bF Y<|by first|omega|assumption|(clear aW az aR;grind)|(simp_all;done)|fail))|(rw[bZ U h2];first|exact aW U W|exact aW U (bF Y<|by first|omega|assumption|(clear aW az aR;grind)|(simp_all;done)|fail))|(rw[bZ U h3];first|exact aW U W|exact aW U (bF Y<|by first|omega|assumption|(clear aW az aR;grind)|(simp_all;done)|fail))|(rw[bZ U h8];first|exact aW U W|exact aW U (bF Y<|by first|omega|assumption|(clear aW az aR;grind)|(simp_all;done)|fail))|exact(xZ.t W).one|exact(xZ.f W).one|exact((lp U).t W).one|exact((lp U).f W).one|exact lp.one|exact h i U|exact λ_ _=>⟨rfl,trivial,trivial⟩|rfl|exact h.1|exact h.2|exact h.2.1|exact h.2.2|exact h.2.2.1|exact h.2.2.2|exact h.2.2.2.1|exact h.2.2.2.2|exact h.2.2.2.2.1|fail)|fail):p:=h
theorem aM(h:p:=by first|trivial|omega|assumption|exact(lp.t W).one|exact(lp.f W).one|exact aR U|exact az U W|exact az U (Y.2<|by first|omega|assumption|(clear aW az aR;grind)|(simp_all;done)|fail)|exact aW U W|exact aW U (bF Y<|by first|omega|assumption|(clear aW az aR;grind)|(simp_all;done)|fail)|(rw[bZ U hn];first|exact aW U W|exact aW U (bF Y<|by first|omega|assumption|(clear aW az aR;grind)|(simp_all;done)|fail))|(rw[bZ U hx];first|exact aW U W|exact aW U (bF Y<|by first|omega|assumption|(clear aW az aR;grind)|(simp_all;done)|fail))|(rw[bZ U hs];first|exact aW U W|exact aW U (bF Y<|by first|omega|assumption|(clear aW az aR;grind)|(simp_all;done)|fail))|(rw[bZ U h];first|exact aW U W|exact aW U (bF Y<|by first|omega|assumption|(clear aW az aR;grind)|(simp_all;done)|fail))|(rw[bZ U O];first|exact aW U W|exact aW U (bF Y<|by first|omega|assumption|(clear aW az aR;grind)|(simp_all;done)|fail))|(rw[bZ U hm];first|exact aW U W|exact aW U (bF Y<|by first|omega|assumption|(clear aW az aR;grind)|(simp_all;done)|fail))|(rw[bZ U hl];first|exact aW U W|exact aW U (bF Y<|by first|omega|assumption|(clear aW az aR;grind)|(simp_all;done)|fail))|(rw[bZ U h0];first|exact aW U W|exact aW U (bF Y<|by first|omega|assumption|(clear aW az aR;grind)|(simp_all;done)|fail))|(rw[bZ U h2];first|exact aW U W|exact aW U (bF Y<|by first|omega|assumption|(clear aW az aR;grind)|(simp_all;done)|fail))|(rw[bZ U h3];first|exact aW U W|exact aW U (bF Y<|by first|omega|assumption|(clear aW az aR;grind)|(simp_all;done)|fail))|(rw[bZ U h8];first|exact aW U W|exact aW U (bF Y<|by first|omega|assumption|(clear aW az aR;grind)|(simp_all;done)|fail))|exact lO U|exact nq U (JV.2<|by first|omega|assumption|(clear nC nq lO;grind))|exact xZ.one|exact(xZ.t W).one|exact(xZ.f W).one|exact((lp U).t W).one|exact((lp U).f W).one|exact lp.one|exact h i U|exact λ_ _=>⟨rfl,trivial,trivial⟩|exact h.1|exact h.2|exact h.2.1|exact h.2.2|exact h.2.2.1|exact h.2.2.2|exact h.2.2.2.1|exact h.2.2.2.2|exact h.2.2.2.2.1|fail):p:=h
theorem ga {a b:Bool}(h:a=b:=by rw[Bool.eq_iff_iff];simp only[decide_eq_true_iff,beq_iff_eq];first|omega|grind):Bo a=Bo b:=congrArg Bo h
def mK(a:α):α:=Classical.choose (⟨a,rfl⟩:∃y,y=a)
theorem ni(a:α):mK a=a:=Classical.choose_spec (⟨a,rfl⟩:∃y,y=a)
abbrev eR(s:l_ J):Nat->G1:=λ_=>(.ret,s,[])
abbrev ey(k:Nat)(s:l_ J):G1:=(.ext k,s,[])
abbrev bR(s:l_ J)(h:Hp):nV:= .e (.norm,s,h)
abbrev kG(s:l_ J)(h:Hp):nV:= .e (.ret,s,h)
abbrev fv(n:Nat)(s:l_ J)(h:Hp):nV:= .e (.ext n,s,h)
abbrev bI:ix:= .e<|Bo false
abbrev fo:ix:= .e<|Bo true
abbrev qo:ix:= .e<|I 0
theorem av:(∀{α:Type}{Q:α->Prop} a,TC.j6 Q (.e a)=Q a)/\(∀{α:Type}{Q:α->Prop} b t f,TC.j6 Q (.n b t f)=((b=true->t.j6 Q)/\(b=false->f.j6 Q)))/\(∀{α:Type}{Q:α->Prop} p t f [i:Decidable p],TC.j6 Q (.d p t f)=((p->t.j6 Q)/\(¬p->f.j6 Q)))/\(∀{α:Type}{Q:α->Prop} a b t f,TC.j6 Q (.q a b t f)=((a=b->t.j6 Q)/\(a≠b->f.j6 Q)))/\(∀{α:Type}{Q:α->Prop} a b t f,TC.j6 Q (.u a b t f)=((a≠b->t.j6 Q)/\(a=b->f.j6 Q)))/\(∀{α:Type}{Q:α->Prop} b t f,TC.j6 Q (.m b t f)=((b=false->t.j6 Q)/\(b=true->f.j6 Q)))/\(∀{α:Type}{Q:α->Prop} x t,TC.j6 Q (.s x t)=t.j6 Q)/\(∀{α:Type}{Q:α->Prop} z t,TC.j6 Q (.o z t)=(ow z/\t.j6 Q))/\(∀{α β:Type}{Q:α->Prop}(A:Jm β) y p t,TC.j6 Q (.k A y p t)=(p/\t.j6 Q))/\(∀{α β:Type}{Q:α->Prop}(A:Jm β) y t,TC.j6 Q (.v A y t)=t.j6 Q)/\(∀{α β:Type}{Q:α->Prop}(x:β) t,TC.j6 Q (.r x t)=t.j6 Q)/\(∀{α:Type}{Q:α->Prop} i j t,TC.j6 Q (.g i j t)=((0<=i/\i<j)/\t.j6 Q))/\ow []=True/\(∀p l,ow (p::l)=(p/\ow l))/\(∀P c lt T h,Rnd P c lt (.norm,T,h)=aO P c T h lt)/\(∀P c lt T h,Rnd P c lt (.ret,T,h)=lt.ends (.ret,T,h))/\(∀P c lt T h n,Rnd P c lt (.ext n,T,h)=lt.ends (.ext n,T,h))/\(∀{α:Type}{Q:α->Prop}{P c T h cj0 U' k k' b o o'}(lp:aO P c T h (.ite b (.out o cj0 k)<|.out o' U' k')) (A B:TC α),TC.j6 Q (jS lp A B)=((b=true->A.j6 Q)/\(b=false->B.j6 Q)))/\(∀{α:Type}{Q:α->Prop}{p:Prop}{P c T h cj0 U' k k' b o o'}(lp:p->aO P c T h (.ite b (.out o cj0 k)<|.out o' U' k')) (A B:TC α),TC.j6 Q (lpC lp A B)=((b=true->ax P c T h o cj0 k/\A.j6 Q)/\(b=false->ax P c T h o' U' k'/\B.j6 Q))):=
 ⟨λ_=>rfl,λ_ _ _=>rfl,λ_ _ _ _=>rfl,λ_ _ _ _=>rfl,λ_ _ _ _=>rfl,λ_ _ _=>rfl,λ_ _=>rfl,λ_ _=>rfl,λ_ _ _ _=>rfl,λ_ _ _=>rfl,λ_ _=>rfl,λ_ _ _=>rfl,rfl,λ_ _=>rfl,λ_ _ _ _ _=>rfl,λ_ _ _ _ _=>rfl,λ_ _ _ _ _ _=>rfl,Wz,bc6⟩
end
end
section
open Go.PS Wf
structure aC where
 name:y_
 value:y_
 dq:Bool
instance:aY aC:=⟨λx=> [S x.name,S x.value,Bo x.dq],λl=>⟨fX l 0,fX l 1,Pn l 2⟩⟩
instance:Wf aC:=⟨λx=>wf x.name/\wf x.value/\wf x.dq⟩
structure jy where
 bw:bh aC
instance:aY jy:=⟨λx=> [(ak aC).au x.bw],λl=>⟨(ak aC).dec<|gE l 0⟩⟩
instance:Wf jy:=⟨λx=>wf x.bw⟩
structure lE where
 x6:y_
 fY:y_
 lC:y_
instance:aY lE:=⟨λx=> [S x.x6,S x.fY,S x.lC],λl=>⟨fX l 0,fX l 1,fX l 2⟩⟩
instance:Wf lE:=⟨λx=>wf x.x6/\wf x.fY/\wf x.lC⟩
structure dQ where
 id:Int
 fY:y_
 l0:y_
 dZ:Int
 Cg:lE
 rem:lE
 iV:Int
 data:y_
 bt:bh Int
 fa:Int
instance:aY dQ:=⟨λx=> [I x.id,S x.fY,S x.l0,I x.dZ,S x.Cg.x6,S x.Cg.fY,S x.Cg.lC,S x.rem.x6,S x.rem.fY,S x.rem.lC,I x.iV,S x.data,(ak Int).au x.bt,I x.fa],λl=>⟨eQ l 0,fX l 1,fX l 2,eQ l 3,⟨fX l 4,fX l 5,fX l 6⟩,⟨fX l 7,fX l 8,fX l 9⟩,eQ l 10,fX l 11,(ak Int).dec<|gE l 12,eQ l 13⟩⟩
instance:Wf dQ:=⟨λx=>wf x.id/\wf x.fY/\wf x.l0/\wf x.dZ/\wf x.Cg/\wf x.rem/\wf x.iV/\wf x.data/\wf x.bt/\wf x.fa⟩
structure km where
 db:bh jy
 next:Int
 aB:bh dQ
instance:aY km:=⟨λx=> [(ak jy).au x.db,I x.next,(ak dQ).au x.aB],λl=>⟨(ak jy).dec<|gE l 0,eQ l 1,(ak dQ).dec<|gE l 2⟩⟩
instance:Wf km:=⟨λx=>wf x.db/\wf x.next/\wf x.aB⟩
structure Td where
 id:Int
 oo:y_
instance:aY Td:=⟨λx=> [I x.id,S x.oo],λl=>⟨eQ l 0,fX l 1⟩⟩
instance:Wf Td:=⟨λx=>wf x.id/\wf x.oo⟩
structure lP where
 id:Int
 bo:Int
 dZ:Int
 gf:y_
 name:y_
 ns:Int
 env:Int
 fds:Int
 Se:y_
 ny:bh y_
 oo:y_
 kY:bh Td
 bz1:Bool
instance:aY lP:=⟨λx=> [I x.id,I x.bo,I x.dZ,S x.gf,S x.name,I x.ns,I x.env,I x.fds,S x.Se,(ak y_).au x.ny,S x.oo,(ak Td).au x.kY,Bo x.bz1],λl=>⟨eQ l 0,eQ l 1,eQ l 2,fX l 3,fX l 4,eQ l 5,eQ l 6,eQ l 7,fX l 8,(ak y_).dec<|gE l 9,fX l 10,(ak Td).dec<|gE l 11,Pn l 12⟩⟩
instance:Wf lP:=⟨λx=>wf x.id/\wf x.bo/\wf x.dZ/\wf x.gf/\wf x.name/\wf x.ns/\wf x.env/\wf x.fds/\wf x.Se/\wf x.ny/\wf x.oo/\wf x.kY/\wf x.bz1⟩
structure ei where
 next:Int
 iN:Int
 l:bh lP
instance:aY ei:=⟨λx=> [I x.next,I x.iN,(ak lP).au x.l],λl=>⟨eQ l 0,eQ l 1,(ak lP).dec<|gE l 2⟩⟩
instance:Wf ei:=⟨λx=>wf x.next/\wf x.iN/\wf x.l⟩
structure Var where
 id:Int
 name:y_
 values:bh y_
instance:aY Var:=⟨λx=> [I x.id,S x.name,(ak y_).au x.values],λl=>⟨eQ l 0,fX l 1,(ak y_).dec<|gE l 2⟩⟩
instance:Wf Var:=⟨λx=>wf x.id/\wf x.name/\wf x.values⟩
structure qE where
 id:Int
 next:Int
 gh:bh Var
instance:aY qE:=⟨λx=> [I x.id,I x.next,(ak Var).au x.gh],λl=>⟨eQ l 0,eQ l 1,(ak Var).dec<|gE l 2⟩⟩
instance:Wf qE:=⟨λx=>wf x.id/\wf x.next/\wf x.gh⟩
structure gQ where
 name:y_
 nW:y_
 ie:bh y_
instance:aY gQ:=⟨λx=> [S x.name,S x.nW,(ak y_).au x.ie],λl=>⟨fX l 0,fX l 1,(ak y_).dec<|gE l 2⟩⟩
instance:Wf gQ:=⟨λx=>wf x.name/\wf x.nW/\wf x.ie⟩
structure iX where
 gf:y_
 bL:Int
 bytes:Int
instance:aY iX:=⟨λx=> [S x.gf,I x.bL,I x.bytes],λl=>⟨fX l 0,eQ l 1,eQ l 2⟩⟩
instance:Wf iX:=⟨λx=>wf x.gf/\wf x.bL/\wf x.bytes⟩
structure aV where
 id:Int
 bo:Int
 vr:Int
 name:y_
 mode:Int
 Sg:y_
 Sf:y_
 wR:y_
 nz:Int
 nA:Int
 data:y_
instance:aY aV:=⟨λx=> [I x.id,I x.bo,I x.vr,S x.name,I x.mode,S x.Sg,S x.Sf,S x.wR,I x.nz,I x.nA,S x.data],λl=>⟨eQ l 0,eQ l 1,eQ l 2,fX l 3,eQ l 4,fX l 5,fX l 6,fX l 7,eQ l 8,eQ l 9,fX l 10⟩⟩
instance:Wf aV:=⟨λx=>wf x.id/\wf x.bo/\wf x.vr/\wf x.name/\wf x.mode/\wf x.Sg/\wf x.Sf/\wf x.wR/\wf x.nz/\wf x.nA/\wf x.data⟩
structure ct where
 next:Int
 aj:bh aV
instance:aY ct:=⟨λx=> [I x.next,(ak aV).au x.aj],λl=>⟨eQ l 0,(ak aV).dec<|gE l 1⟩⟩
instance:Wf ct:=⟨λx=>wf x.next/\wf x.aj⟩
structure cQ where
 ly:bh gQ
 jf:bh iX
 gu:ct
 gm:bh Int
instance:aY cQ:=⟨λx=> [(ak gQ).au x.ly,(ak iX).au x.jf,I x.gu.next,(ak aV).au x.gu.aj,(ak Int).au x.gm],λl=>⟨(ak gQ).dec<|gE l 0,(ak iX).dec<|gE l 1,⟨eQ l 2,(ak aV).dec<|gE l 3⟩,(ak Int).dec<|gE l 4⟩⟩
instance:Wf cQ:=⟨λx=>wf x.ly/\wf x.jf/\wf x.gu/\wf x.gm⟩
structure eF where
 bM:y_
 fe:Int
 data:y_
instance:aY eF:=⟨λx=> [S x.bM,I x.fe,S x.data],λl=>⟨fX l 0,eQ l 1,fX l 2⟩⟩
instance:Wf eF:=⟨λx=>wf x.bM/\wf x.fe/\wf x.data⟩
structure ay where
 cap:Int
 aU:bh eF
instance:aY ay:=⟨λx=> [I x.cap,(ak eF).au x.aU],λl=>⟨eQ l 0,(ak eF).dec<|gE l 1⟩⟩
instance:Wf ay:=⟨λx=>wf x.cap/\wf x.aU⟩
structure jl where
 bM:y_
 length:Int
 eB:Int
instance:aY jl:=⟨λx=> [S x.bM,I x.length,I x.eB],λl=>⟨fX l 0,eQ l 1,eQ l 2⟩⟩
structure mL where
 aN:aV
 bW:jl
instance:aY mL:=⟨λx=> [I x.aN.id,I x.aN.bo,I x.aN.vr,S x.aN.name,I x.aN.mode,S x.aN.Sg,S x.aN.Sf,S x.aN.wR,I x.aN.nz,I x.aN.nA,S x.aN.data,S x.bW.bM,I x.bW.length,I x.bW.eB],λl=>⟨⟨eQ l 0,eQ l 1,eQ l 2,fX l 3,eQ l 4,fX l 5,fX l 6,fX l 7,eQ l 8,eQ l 9,fX l 10⟩,⟨fX l 11,eQ l 12,eQ l 13⟩⟩⟩
structure G2 where
 time:Int
 bM:y_
instance:aY G2:=⟨λx=> [I x.time,S x.bM],λl=>⟨eQ l 0,fX l 1⟩⟩
instance:Wf G2:=⟨λx=>wf x.time/\wf x.bM⟩
structure eX where
 bL:cQ
 dS:ay
 dp:bh G2
instance:aY eX:=⟨λx=> [(ak gQ).au x.bL.ly,(ak iX).au x.bL.jf,I x.bL.gu.next,(ak aV).au x.bL.gu.aj,(ak Int).au x.bL.gm,I x.dS.cap,(ak eF).au x.dS.aU,(ak G2).au x.dp],λl=>⟨⟨(ak gQ).dec<|gE l 0,(ak iX).dec<|gE l 1,⟨eQ l 2,(ak aV).dec<|gE l 3⟩,(ak Int).dec<|gE l 4⟩,⟨eQ l 5,(ak eF).dec<|gE l 6⟩,(ak G2).dec<|gE l 7⟩⟩
instance:Wf eX:=⟨λx=>wf x.bL/\wf x.dS/\wf x.dp⟩
structure wb where
 data:y_
 da:Int
 dd:Int
 nD:Bool
instance:aY wb:=⟨λx=> [S x.data,I x.da,I x.dd,Bo x.nD],λl=>⟨fX l 0,eQ l 1,eQ l 2,Pn l 3⟩⟩
instance:Wf wb:=⟨λx=>wf x.data/\wf x.da/\wf x.dd/\wf x.nD⟩
structure jm where
 id:Int
 a:wb
 b:wb
instance:aY jm:=⟨λx=> [I x.id,S x.a.data,I x.a.da,I x.a.dd,Bo x.a.nD,S x.b.data,I x.b.da,I x.b.dd,Bo x.b.nD],λl=>⟨eQ l 0,⟨fX l 1,eQ l 2,eQ l 3,Pn l 4⟩,⟨fX l 5,eQ l 6,eQ l 7,Pn l 8⟩⟩⟩
instance:Wf jm:=⟨λx=>wf x.id/\wf x.a/\wf x.b⟩
structure mM where
 next:Int
 l:bh jm
instance:aY mM:=⟨λx=> [I x.next,(ak jm).au x.l],λl=>⟨eQ l 0,(ak jm).dec<|gE l 1⟩⟩
instance:Wf mM:=⟨λx=>wf x.next/\wf x.l⟩
structure zt where
 raw:Bool
 text:y_
 ready:bh y_
instance:aY zt:=⟨λx=> [Bo x.raw,S x.text,(ak y_).au x.ready],λl=>⟨Pn l 0,fX l 1,(ak y_).dec<|gE l 2⟩⟩
instance:Wf zt:=⟨λx=>wf x.raw/\wf x.text/\wf x.ready⟩
structure iR where
 id:Int
 label:y_
 EL:zt
 text:y_
 fa:Int
 EM:Bool
instance:aY iR:=⟨λx=> [I x.id,S x.label,Bo x.EL.raw,S x.EL.text,(ak y_).au x.EL.ready,S x.text,I x.fa,Bo x.EM],λl=>⟨eQ l 0,fX l 1,⟨Pn l 2,fX l 3,(ak y_).dec<|gE l 4⟩,fX l 5,eQ l 6,Pn l 7⟩⟩
instance:Wf iR:=⟨λx=>wf x.id/\wf x.label/\wf x.EL/\wf x.text/\wf x.fa/\wf x.EM⟩
structure df where
 next:Int
 iG:Int
 l:bh iR
instance:aY df:=⟨λx=> [I x.next,I x.iG,(ak iR).au x.l],λl=>⟨eQ l 0,eQ l 1,(ak iR).dec<|gE l 2⟩⟩
instance:Wf df:=⟨λx=>wf x.next/\wf x.iG/\wf x.l⟩
structure dG where
 src:y_
 dst:y_
 wo:y_
 type:y_
 bw:bh aC
 data:y_
instance:aY dG:=⟨λx=> [S x.src,S x.dst,S x.wo,S x.type,(ak aC).au x.bw,S x.data],λl=>⟨fX l 0,fX l 1,fX l 2,fX l 3,(ak aC).dec<|gE l 4,fX l 5⟩⟩
instance:Wf dG:=⟨λx=>wf x.src/\wf x.dst/\wf x.wo/\wf x.type/\wf x.bw/\wf x.data⟩
structure fE where
 cO:y_
 lD:y_
 yH:y_
instance:aY fE:=⟨λx=> [S x.cO,S x.lD,S x.yH],λl=>⟨fX l 0,fX l 1,fX l 2⟩⟩
instance:Wf fE:=⟨λx=>wf x.cO/\wf x.lD/\wf x.yH⟩
structure iS where
 bD:bh fE
instance:aY iS:=⟨λx=> [(ak fE).au x.bD],λl=>⟨(ak fE).dec<|gE l 0⟩⟩
instance:Wf iS:=⟨λx=>wf x.bD⟩
structure wh where
 name:y_
 fV:bh dG
 fa:Int
instance:aY wh:=⟨λx=> [S x.name,(ak dG).au x.fV,I x.fa],λl=>⟨fX l 0,(ak dG).dec<|gE l 1,eQ l 2⟩⟩
instance:Wf wh:=⟨λx=>wf x.name/\wf x.fV/\wf x.fa⟩
structure hJ where
 qN:bh iS
 dX:bh wh
instance:aY hJ:=⟨λx=> [(ak iS).au x.qN,(ak wh).au x.dX],λl=>⟨(ak iS).dec<|gE l 0,(ak wh).dec<|gE l 1⟩⟩
instance:Wf hJ:=⟨λx=>wf x.qN/\wf x.dX⟩
structure dh where
 id:Int
 cg:y_
 ig:Int
 phase:Int
 jb:Int
 key:bh aC
 own:y_
 iV:y_
 gf:y_
 err:Int
instance:aY dh:=⟨λx=> [I x.id,S x.cg,I x.ig,I x.phase,I x.jb,(ak aC).au x.key,S x.own,S x.iV,S x.gf,I x.err],λl=>⟨eQ l 0,fX l 1,eQ l 2,eQ l 3,eQ l 4,(ak aC).dec<|gE l 5,fX l 6,fX l 7,fX l 8,eQ l 9⟩⟩
instance:Wf dh:=⟨λx=>wf x.id/\wf x.cg/\wf x.ig/\wf x.phase/\wf x.jb/\wf x.key/\wf x.own/\wf x.iV/\wf x.gf/\wf x.err⟩
structure jU where
 l0:y_
 zx:y_
 dv:bh (bh aC)
 next:Int
 eo:bh dh
 count:Int
instance:aY jU:=⟨λx=> [S x.l0,S x.zx,(ak<|bh aC).au x.dv,I x.next,(ak dh).au x.eo,I x.count],λl=>⟨fX l 0,fX l 1,(ak<|bh aC).dec<|gE l 2,eQ l 3,(ak dh).dec<|gE l 4,eQ l 5⟩⟩
instance:Wf jU:=⟨λx=>wf x.l0/\wf x.zx/\wf x.dv/\wf x.next/\wf x.eo/\wf x.count⟩
structure cq where
 fe:Int
 bL:cQ
 iF:eX
 pM:mM
 fp:df
 gM:hJ
 fw:jU
 fY:y_
 iN:Int
 Ez:Int
instance:aY cq:=⟨λx=> [I x.fe,(ak gQ).au x.bL.ly,(ak iX).au x.bL.jf,I x.bL.gu.next,(ak aV).au x.bL.gu.aj,(ak Int).au x.bL.gm,(ak gQ).au x.iF.bL.ly,(ak iX).au x.iF.bL.jf,I x.iF.bL.gu.next,(ak aV).au x.iF.bL.gu.aj,(ak Int).au x.iF.bL.gm,I x.iF.dS.cap,(ak eF).au x.iF.dS.aU,(ak G2).au x.iF.dp,I x.pM.next,(ak jm).au x.pM.l,I x.fp.next,I x.fp.iG,(ak iR).au x.fp.l,(ak iS).au x.gM.qN,(ak wh).au x.gM.dX,S x.fw.l0,S x.fw.zx,(ak<|bh aC).au x.fw.dv,I x.fw.next,(ak dh).au x.fw.eo,I x.fw.count,S x.fY,I x.iN,I x.Ez],λl=>⟨eQ l 0,⟨(ak gQ).dec<|gE l 1,(ak iX).dec<|gE l 2,⟨eQ l 3,(ak aV).dec<|gE l 4⟩,(ak Int).dec<|gE l 5⟩,⟨⟨(ak gQ).dec<|gE l 6,(ak iX).dec<|gE l 7,⟨eQ l 8,(ak aV).dec<|gE l 9⟩,(ak Int).dec<|gE l 10⟩,⟨eQ l 11,(ak eF).dec<|gE l 12⟩,(ak G2).dec<|gE l 13⟩,⟨eQ l 14,(ak jm).dec<|gE l 15⟩,⟨eQ l 16,eQ l 17,(ak iR).dec<|gE l 18⟩,⟨(ak iS).dec<|gE l 19,(ak wh).dec<|gE l 20⟩,⟨fX l 21,fX l 22,(ak<|bh aC).dec<|gE l 23,eQ l 24,(ak dh).dec<|gE l 25,eQ l 26⟩,fX l 27,eQ l 28,eQ l 29⟩⟩
instance:Wf cq:=⟨λx=>wf x.fe/\wf x.bL/\wf x.iF/\wf x.pM/\wf x.fp/\wf x.gM/\wf x.fw/\wf x.fY/\wf x.iN/\wf x.Ez⟩
structure oV where
 YQ:Int
 fP:bh cq
 x6:km
 qe:ei
 mw:bh qE
instance:aY oV:=⟨λx=> [I x.YQ,(ak cq).au x.fP,(ak jy).au x.x6.db,I x.x6.next,(ak dQ).au x.x6.aB,I x.qe.next,I x.qe.iN,(ak lP).au x.qe.l,(ak qE).au x.mw],λl=>⟨eQ l 0,(ak cq).dec<|gE l 1,⟨(ak jy).dec<|gE l 2,eQ l 3,(ak dQ).dec<|gE l 4⟩,⟨eQ l 5,eQ l 6,(ak lP).dec<|gE l 7⟩,(ak qE).dec<|gE l 8⟩⟩
instance:Wf oV:=⟨λx=>wf x.YQ/\wf x.fP/\wf x.x6/\wf x.qe/\wf x.mw⟩
section
variable {ci7 n g:Nat}{fn:Func}{X:Prop}{cs q:l_ J}{E:Env}
noncomputable abbrev P:Program:=Tryz.prog
def b67(n:Nat)(b:Nat->Bool):gD:=λ_=>([0,1,4,7,8],[],λ_ _=> .ite (ar n b) (.out .ret (M 19 [(4,I<|aE n b)]) []) (.out (.ext 0) (M 19 [(4,I 0)]) []))
def ax3(X:J)(n:Nat)(cs:l_ J)(g:Nat)(i:Int):l_ J:=M 19 [(0,X),(1,.qS g cs),(4,I 0),(7,I n),(8,I i)]
def bB8(X:J)(n:Nat)(cs:l_ J)(g:Nat)(bb:l_ J->Bool)(v:l_ J)(i:Int):Tr (Out×l_ J×Hp):=
 let ob:l_ Prop:=[0<=i,i<(n:Int),g=g/\Ok P g v (Bo<|bb v)]
 .aN (decide<|i<(n:Int)) (.aN (bb v) (.jh (.ret,M 19 [(4,I i)],[]) ob)<|.jh (.norm,ax3 X n cs g<|oU<|i+1,[]) ob) (.jh (.ext 0,M 19 [(4,I 0)],[]) [])
def bV0(fn:Func)(X:J)(n:Nat)(cs:l_ J)(g:Nat)(b:Nat->Bool):Tr J:=
 .aN (ar n b) (.jh (I<|aE n b) [ax P (aD fn 2) (ax3 X n cs g 0) [] .ret (M 19 [(4,I<|aE n b)]) []]) (.jh (I<|-1) [ax P (aD fn 2) (ax3 X n cs g 0) [] (.ext 0) (M 19 [(4,I 0)]) []])
def jN{X:J}{e:Nat->J}{bb:l_ J->Bool} (hf:P.funcs[ci7]?=some fn) (hx:n<=aq) (h:∀i,i<n->Ok P g (e i::cs) (Bo<|bb (e i::cs)))
  (k1:∀i:Nat,fM (bc3 P (Eg P g bb) L0 [0,1,4,7,8] [4] (aD fn 2) (ax3 X n cs g i) []) (bB8 X n cs g bb (e i::cs) i) []=gP (bB8 X n cs g bb (e i::cs) i) [])
  (k2:fM (Mx P (Eg P g bb) (b67 n λi=>bb (e i::cs)) fn [X,.qS g cs]) (bV0 fn X n cs g λi=>bb (e i::cs)) []=gP (bV0 fn X n cs g λi=>bb (e i::cs)) []):
  Ok P ci7 [X,.qS g cs] (I<|cZ n λi=>bb (e i::cs)):=by
 have lp:=aq5 (P:=P) (c:=aD fn 2) (n:=n) (b:=λi=>bb (e i::cs)) (st:=λi=>ax3 X n cs g i) (h:=[]) (x:=λi=>(.ret,(M 19 [(4,I i)]),[])) (y:=(.ext 0,(M 19 [(4,I 0)]),[])) λi hi lt aW az aR=>by
  refine Wv (J7 P g bb) L0 [0,1,4,7,8] [4] _ (k1 i) ?_;simp only[bB8,Tr.j6,ow,Rnd,bK,bO]
  (repeat' with_reducible first|intro _|apply aNd_)<;>first|exact True.intro|omega|(rw[bZ (n:=n) U hx];exact aW U W)|exact h i U|exact az U W|exact aR U
 refine DS (J7 P g bb) _ hf _ k2 ?_;exact⟨λq=>⟨⟨(lp.t q).one,True.intro⟩,by unfold cZ;rw[if_pos q]⟩,λq=>⟨⟨(lp.f q).one,True.intro⟩,by unfold cZ;rw[if_neg<|jY.1 q]⟩⟩
def bV1(ci7:Nat)(X:J)(cs:l_ J)(g:Nat)(v:Int):Tr J:= .jh (Bo<|decide<|v>=0) [ci7=ci7/\Ok P ci7 [X,.qS g cs] (I v)]
def sY {G:Nat}{X:J}{b:Nat->Bool}(hf:P.funcs[G]?=some fn) (h:Ok P ci7 [X,.qS g cs] (I<|cZ n b))
  (k:fM (Mx P (Eo P ci7<|I<|cZ n b) L0 fn [X,.qS g cs]) (bV1 ci7 X cs g<|cZ n b) []=gP (bV1 ci7 X cs g<|cZ n b) []):Ok P G [X,.qS g cs] (Bo<|ar n b):=by
 refine DS (bU7 P ci7<|I<|cZ n b) L0 hf _ k ?_;exact⟨⟨⟨rfl,h⟩,trivial⟩,ba Bo iw⟩
def DW {ks:l_ Nat}(h:Bc q ks=true):q.length∈ks/\∀p∈q,∃c o,p= .kj c o:=by
 unfold Bc at h;rw[fG]at h;refine⟨by simpa using h.1,λp hp=> ?_⟩;have:=cU.1 h.2 p hp;split at this
 .exact⟨_,_,rfl⟩
 .cases this
def bu1(h:q.length=0):q=[]:=oL h
def ax4(h:q.length=1)(Y:∀p∈q,∃c o,p= .kj c o):∃c0 o0,q=[.kj c0 o0]:=by obtain⟨p,rfl⟩:=xD.1 h;obtain⟨c,o,rfl⟩:=Y p sS;exact⟨c,o,rfl⟩
def bV2(h:q.length=3)(Y:∀p∈q,∃c o,p= .kj c o):∃c0 o0 c1 o1 c2 o2,q=[.kj c0 o0,.kj c1 o1,.kj c2 o2]:=by
 match q,h with
 | [a,b,c],_=>
  obtain⟨c0,o0,rfl⟩:=Y a sS;obtain⟨c1,o1,rfl⟩:=Y b sS;obtain⟨c2,o2,rfl⟩:=Y c sS;exact⟨c0,o0,c1,o1,c2,o2,rfl⟩
def ax5(h:Bc q [0]=true)(h0:∀(_:Unit),q=[]->X):X:=h0 () (bu1<|by simpa using(DW h).1)
def vu(h:Bc q [1]=true)(O:∀c0 o0,q=[.kj c0 o0]->X):X:=by obtain⟨c0,o0,e⟩:=ax4 (by simpa using(DW h).1) (DW h).2;exact O c0 o0 e
def Po(h:Bc q [0,1]=true)(h0:∀(_:Unit),q=[]->X)(O:∀c0 o0,q=[.kj c0 o0]->X):X:=by
 have:=(DW h).1;simp only[fB,tu,qQ]at this;rcases this with h2|h2
 .exact h0 ()<|bu1 h2
 .obtain⟨c0,o0,e⟩:=ax4 h2 (DW h).2;exact O c0 o0 e
def ax6(h:Bc q [1,3]=true)(O:∀c0 o0,q=[.kj c0 o0]->X)(h3:∀c0 o0 c1 o1 c2 o2,q=[.kj c0 o0,.kj c1 o1,.kj c2 o2]->X):X:=by
 have:=(DW h).1;simp only[fB,tu,qQ]at this;rcases this with h2|h2
 .obtain⟨c0,o0,e⟩:=ax4 h2 (DW h).2;exact O c0 o0 e
 .obtain⟨c0,o0,c1,o1,c2,o2,e⟩:=bV2 h2 (DW h).2;exact h3 c0 o0 c1 o1 c2 o2 e
def CD(E:Env):Env:=aF 66 (nh E [1,3] dQ (λcs=> .agg cs) λn b=>I (cZ n b)) E
def Bd(hE:an P E):an P (CD E):=jk hE λx g q bb Y hx h=>ax6 Y (λc0 o0 e=>by subst e;exact jN func66 hx h (λ_=>kK) kK) (λc0 o0 c1 o1 c2 o2 e=>by subst e;exact jN func66 hx h (λ_=>kK) kK)
def J8(E:Env):Env:=aF 27 (nh E [1] dQ (λcs=> .agg cs) λn b=>Bo (ar n b)) E
def MC(hE:an P E):an P (J8 E):=jk hE λx g q bb Y hx h=>vu Y (λc0 o0 e=>by subst e;exact sY func27 (jN func66 hx h (λ_=>kK) kK) kK)
def Pp(E:Env):Env:=aF 44 (nh E [1] qE (λcs=> .agg cs) λn b=>Bo (ar n b)) E
def Pq(hE:an P E):an P (Pp E):=jk hE λx g q bb Y hx h=>vu Y (λc0 o0 e=>by subst e;exact sY func44 (jN func94 hx h (λ_=>kK) kK) kK)
def ZL(x:bh aC)(g:Nat)(bb:l_ J->Bool)(hx:x.n<=aq)(h:∀i,i<x.n->Ok P g ((.agg<|aY.cells<|x.f i):: []) (Bo<|bb ((.agg<|aY.cells<|x.f i):: []))):
  Ok P 197 [(ak aC).au x,.qS g []] (I<|cZ x.n λi=>bb ((.agg<|aY.cells<|x.f i):: [])):=jN func197 hx h (λ_=>kK) kK
def J9(E:Env):Env:=aF 197 (nh E [0,1] aC (λcs=> .agg cs) λn b=>I (cZ n b)) E
def MD(hE:an P E):an P (J9 E):=jk hE λx g q bb Y hx h=>Po Y (λ_ e=>by subst e;exact jN func197 hx h (λ_=>kK) kK) (λc0 o0 e=>by subst e;exact jN func197 hx h (λ_=>kK) kK)
def uk(E:Env):Env:=aF 125 (nh E [0,1] aC (λcs=> .agg cs) λn b=>Bo (ar n b)) E
def qZ(hE:an P E):an P (uk E):=jk hE λx g q bb Y hx h=>Po Y (λ_ e=>by subst e;exact sY func125 (jN func197 hx h (λ_=>kK) kK) kK) (λc0 o0 e=>by subst e;exact sY func125 (jN func197 hx h (λ_=>kK) kK) kK)
def Ka(E:Env):Env:=aF 134 (nh E [1] lP (λcs=> .agg cs) λn b=>I (cZ n b)) E
def ME(hE:an P E):an P (Ka E):=jk hE λx g q bb Y hx h=>vu Y (λc0 o0 e=>by subst e;exact jN func134 hx h (λ_=>kK) kK)
def Pr(E:Env):Env:=aF 137 (nh E [1] Var (λcs=> .agg cs) λn b=>I (cZ n b)) E
def Ps(hE:an P E):an P (Pr E):=jk hE λx g q bb Y hx h=>vu Y (λc0 o0 e=>by subst e;exact jN func137 hx h (λ_=>kK) kK)
def rW(E:Env):Env:=aF 139 (nh E [0] y_ (λcs=>cs.headD .any) λn b=>Bo (ar n b)) E
def sZ(hE:an P E):an P (rW E):=jk hE λx g q bb Y hx h=>ax5 Y (λ_ e=>by subst e;exact sY func139 (jN func207 hx h (λ_=>kK) kK) kK)
def DX(E:Env):Env:=aF 150 (nh E [1] iR (λcs=> .agg cs) λn b=>I (cZ n b)) E
def G3(hE:an P E):an P (DX E):=jk hE λx g q bb Y hx h=>vu Y (λc0 o0 e=>by subst e;exact jN func150 hx h (λ_=>kK) kK)
def G4(E:Env):Env:=aF 154 (nh E [0] dG (λcs=> .agg cs) λn b=>Bo (ar n b)) E
def Jn(hE:an P E):an P (G4 E):=jk hE λx g q bb Y hx h=>ax5 Y (λ_ e=>by subst e;exact sY func154 (jN func223 hx h (λ_=>kK) kK) kK)
def Be(E:Env):Env:=aF 158 (nh E [1] (bh aC) (λcs=>cs.headD .any) λn b=>Bo (ar n b)) E
def EA(hE:an P E):an P (Be E):=jk hE λx g q bb Y hx h=>vu Y (λc0 o0 e=>by subst e;exact sY func158 (jN func227 hx h (λ_=>kK) kK) kK)
def G5(E:Env):Env:=aF 330 (nh E [1] eF (λcs=> .agg cs) λn b=>I (cZ n b)) E
def Jo(hE:an P E):an P (G5 E):=jk hE λx g q bb Y hx h=>vu Y (λc0 o0 e=>by subst e;exact jN func330 hx h (λ_=>kK) kK)
def Pu(E:Env):Env:=aF 266 (nh E [1] mL (λcs=> .agg cs) λn b=>Bo (ar n b)) E
def Pv(hE:an P E):an P (Pu E):=jk hE λx g q bb Y hx h=>vu Y (λc0 o0 e=>by subst e;exact sY func266 (jN func301 hx h (λ_=>kK) kK) kK)
def yM(f:Func)(k n:Nat)(b:Nat->Bool)(st:Nat->l_ J)(h:Hp)(x:Nat->G1)(y:G1)(lp: ∀i,i<=n-> ∀lt,(i<n->b i=false->aO P (aD f k) (st<|i+1) h lt)->(i<n->b i=true->lt.ends (x i))->(i=n->lt.ends y)->aO P (aD f k) (st i) h lt):=aq5 (n:=n) (b:=b) (st:=st) (h:=h) (x:=x) (y:=y) lp
def fF(f:Func)(k n:Nat)(b:Nat->Bool)(st:Int->l_ J)(h:Hp)(x:Nat->G1)(y:G1)(lp: ∀i,i<=n-> ∀lt,(i<n->b i=false->aO P (aD f k) (st<|oU<|(i:Int)+1) h lt)->(i<n->b i=true->lt.ends (x i))->(i=n->lt.ends y)->aO P (aD f k) (st (i:Nat)) h lt)(hn:n<=aq:=by first|assumption|omega|exact h.1|exact h.2.1|exact h.2.2.1):=aq5 (n:=n) (b:=b) (st:=λi=>st (i:Nat)) (h:=h) (x:=x) (y:=y) λi hi lt q1 q2 q3=>lp i hi lt (λz w=>by rw[bZ z hn];exact q1 z w) q2 q3
end
theorem St.shrink {w0:fR} {Sa:Nat->Prop} {T:l_ J} {h:Hp} {a:Act} {w:World} {t id k:Nat} {B:dW}(iu:St w0 Sa T h a w)(ht:T[t]?=some (.own id 0 k)\/T[t]?=some (.bf id k))(hB:h[id]?=some B)(cy:B.st=0)(OV:B.par=[]):
  St w0 Sa (T.set t<|.bf id k) (h.set id {B with es:=B.es.take k}) a w:=by
 obtain⟨S,m,hI,hT,Ak⟩:=iu;have jW:∀ {q:Nat} {X:dW},(h.set id {B with es:=B.es.take k})[q]?=some X->(q=id/\X= {B with es:=B.es.take k})\/(q≠id/\h[q]?=some X):=by
  intro q X hq;rw[cD]at hq;by_cases qV:id=q
  .subst qV;have:id<h.length:=(bm.1 hB).1;simp [this]at hq;exact .inl ⟨rfl,hq.symm⟩
  .rw[if_neg qV]at hq;exact .inr ⟨λe=>qV e.symm,hq⟩
 have rl:∀ {z:Nat},Rl (B.es.take k) z->Rl B.es z:=by
  rintro z (O|O)
  .exact .inl λh0=>O (by rw[h0];simp)
  .exact .inr O
 have back:∀ {q:Nat} {X:dW},(h.set id {B with es:=B.es.take k})[q]?=some X->∃cj3,h[q]?=some cj3/\cj3.st=X.st/\cj3.par=X.par/\cj3.sz=X.sz/\cj3.sym=X.sym/\cj3.gV=X.gV/\(∀z,Rl X.es z->Rl cj3.es z)/\(cj3.st≠0->X=cj3):=by
  intro q X hq;rcases jW hq with⟨rfl,rfl⟩|⟨_,O⟩
  .exact⟨B,hB,rfl,rfl,rfl,rfl,rfl,λ_=>rl,λh=>absurd cy h⟩
  .exact⟨X,O,rfl,rfl,rfl,rfl,rfl,λ_ h=>h,λ_=>rfl⟩
 have hT2:cv w S m (.bf id k) (a.tmps.getD t Go.undef):=by
  rcases ht with ht|ht
  .exact .bf id k _<|hT.2 t _ ht
  .exact hT.2 t _ ht
 refine⟨S,m,⟨hI.qf,hI.sub,hI.lt,by simpa using hI.len,?_,?_,?_,?_,?_,?_,?_,?_,?_,?_,?_⟩,⟨by simpa using hT.1,λt' p hp=> ?_⟩,Ak⟩
 .intro q X b o sz hq hx fL N;rcases jW hq with⟨rfl,rfl⟩|⟨_,O⟩
  .obtain⟨c,et,e1,e2,e3,e4⟩:=hI.oq q B b o sz hB hx fL (rl N);refine⟨c,et,e1,?_,λe F=>e3 e (rE F),λi j e p v O h2 h3=>e4 i j e p v ?_ h2 h3⟩
   .have:(B.es.take k).length<=B.es.length:=by rw[im];omega
    have:=il sz this;show o+(B.es.take k).length*sz<=_;omega
   .rw[LO]at O;split at O
    .exact O
    .cases O
  .exact hI.oq q X b o sz O hx fL N
 .intro q X b o sz hq hx fL N;obtain⟨cj3,y1,y2,_,_,_,_,y7,_⟩:=back hq;exact hI.live q cj3 b o sz y1 (y2.trans hx) fL<|y7 _ N
 .intro q q' X X' b o sz o' nO hq hx fL uc xN kz N qD;obtain⟨cj3,y1,y2,_,_,_,_,y7,_⟩:=back hq;obtain⟨Y',Gi,I0,_,_,_,_,y7',_⟩:=back uc;exact hI.uniq q q' cj3 Y' b o sz o' nO y1 (y2.trans hx) fL Gi (I0.trans xN) kz (y7 _ N)<|y7' _ qD
 .intro q X b o sz hq hx fL N;obtain⟨cj3,y1,y2,_,_,_,_,y7,y8⟩:=back hq;have hXY:=y8 U;subst hXY;rcases hI.tZ q X b o sz y1 hx fL N with hS|⟨jd,B',o',z',q1,q2,q3,qr,q4,q5⟩
  .exact .inl hS
  .refine .inr ⟨jd,B',o',z',?_,q2,q3,qr,q4,q5⟩;rw[cD,if_neg,q1];rintro rfl;rw[hB]at q1;cases q1;rw[OV]at q4;cases q4
 .intro q r X Xr hq N SE;obtain⟨cj3,y1,_,y3,_⟩:=back hq;obtain⟨R,r1,r2,_⟩:=back SE;rw[<-r2];exact hI.qU q r cj3 R y1 (y3▸N) r1
 .intro q r X hq N;obtain⟨cj3,y1,_,y3,_⟩:=back hq;rw[nJ];exact hI.oP q r cj3 y1<|y3▸N
 .intro q X b o sz hq fL N;obtain⟨cj3,y1,_,_,y4,_,_,y7,_⟩:=back hq;rw[<-y4];exact hI.Ci q cj3 b o sz y1 fL<|y7 _ N
 .intro q X hq hx;rcases jW hq with⟨rfl,rfl⟩|⟨_,O⟩
  .exact λe F=>hI.syms q B hB hx e<|rE F
  .exact hI.syms q X O hx
 .intro q X b o sz hq hx fL;rcases jW hq with⟨rfl,rfl⟩|⟨_,O⟩
  .exact absurd (show B.st=3 from hx) U
  .exact hI.maps q X b o sz O hx fL
 .intro q q' X X' b o sz o' nO hq hx fL uc xN kz;obtain⟨cj3,y1,y2,_⟩:=back hq;obtain⟨Y',Gi,I0,_⟩:=back uc;exact hI.ua q q' cj3 Y' b o sz o' nO y1 (y2.trans hx) fL Gi (I0.trans xN) kz
 .intro i x hx;obtain⟨O,X,h2,h3⟩:=hI.gV i x hx;obtain⟨X',h4,h5⟩:=xM (C:= {B with es:=B.es.take k}) hB rfl h2;exact⟨O,X',h4,by rw[h5,h3]⟩
 .rw[cD]at hp;split at hp
  .rename_i e;subst e;split at hp
   .cases hp;exact hT2
   .cases hp
  .exact hT.2 t' p hp
theorem aO.shrink {P:Program} {c:Code} {T:l_ J} {h:Hp} {lt:LT}(t id k:Nat) {B:dW}(ht:T[t]?=some (.own id 0 k)\/T[t]?=some (.bf id k))(hB:h[id]?=some B)(cy:B.st=0)(OV:B.par=[])(hl:aO P c (T.set t<|.bf id k) (h.set id {B with es:=B.es.take k}) lt):aO P c T h lt:=by obtain⟨x,O,n,h2⟩:=hl;exact⟨x,O,n,λw0 Sa a w Q hG iu hQ=>h2 w0 Sa a w Q hG (St.shrink iu ht hB cy OV) hQ⟩
def iy(live:l_ Nat)(n:Nat)(b:Nat->Bool)(x:Nat->l_ J)(y:l_ J)(o:Out)(hx:Nat->Hp)(hy:Hp):gD:=λ_=>(live,[],λ_ _=> .ite (ar n b) (.out .ret (x<|aE n b)<|hx<|aE n b) (.out o y hy))
def LOr(k:Nat)(A:gD)(k':Nat)(B:gD):gD:=λn=>bif n==k then A n else bif n==k' then B n else([],[],λ_ _=> .bad)
theorem bB9(a b:Int):(if b<a then b else a)=min a b:=by split<;>omega
theorem bc8(a b:Int):(if b>a then b else a)=max a b:=by split<;>omega
theorem lQ {k:Nat}(h:k<=aq):oU ((k:Int)-1)=(k:Int)-1:=by unfold aq at h;exact wrap64 U U
theorem jF(k:Nat):((k:Int)-1).toNat=k-1:=U
abbrev EN:Env:=E0
theorem aw:an P EN:=Ba P
section
variable {P:Program} {c:Code}
theorem bV3 {n:Nat} {b:Nat->Bool} {st:Nat->l_ J} {h:Nat->Hp} {x:Nat->Out×l_ J×Hp} {y:Out×l_ J×Hp}
  (lp:∀i,i<=n->∀lt,(i<n->b i=false->aO P c (st<|i+1) (h<|i+1) lt)->(i<n->b i=true->lt.ends (x i))->(i=n->lt.ends y)->aO P c (st i) (h i) lt):
  aO P c (st 0) (h 0) (.ite (ar n b) (.out (x<|aE n b).1 (x<|aE n b).2.1 (x<|aE n b).2.2)<|.out y.1 y.2.1 y.2.2):=by
 have key:∀k i,i+k=n->(∀j,j<i->b j=false)->aO P c (st i) (h i) (.ite (ar n b) (.out (x<|aE n b).1 (x<|aE n b).2.1 (x<|aE n b).2.2)<|.out y.1 y.2.1 y.2.2):=by
  intro k
  induction k with
  |zero=>
   intro i hi hj;have hn:ar n b=false:=bc.2 λj xO=>hj j U;refine lp i U _ (λh=>U) (λh=>U) λ_=>Mz hn rfl
  |succ k ih=>
   intro i hi hj;refine lp i U _ (λ_ hb=>ih (i+1) U λj xO=> ?_) (λO hb=> ?_) λh=>U
   .by_cases Pf:j=i
    .subst Pf;exact hb
    .exact hj j U
   .have hf:=ru O hb hj;refine GX (cG.2 ⟨i,O,hb⟩) ?_;rw[hf];rfl
 exact key n 0 U λj hj=>absurd hj<|jC _
end
def qp(f:Func)(k n:Nat)(b:Nat->Bool)(st:Nat->l_ J)(h:Nat->Hp)(x:Nat->G1)(y:G1)(lp: ∀i,i<=n-> ∀lt,(i<n->b i=false->aO P (aD f k) (st<|i+1) (h<|i+1) lt)->(i<n->b i=true->lt.ends (x i))->(i=n->lt.ends y)->aO P (aD f k) (st i) (h i) lt):=bV3 (n:=n) (b:=b) (st:=st) (h:=h) (x:=x) (y:=y) lp
end
end Go.Proofs.YtnpcbfcfcjdhlaaGreatDoor
namespace Go.PS
section
open Go.RowKit
section
variable {P:Program} {w0:fR} {w:World} {Sa S:Nat->Prop} {h h':Hp} {m:Mp}
def Kb(w:World)(b:Nat)(ks:l_ J)(i:Nat):Prop:=
 ∃ents:Array MapEntry,w.heap[b]?=some (.map ents ents.size)/\(∃u,firstM ks ents.toList 0=some (i,u))
theorem Kb.same {w w':World} {b:Nat} {ks:l_ J} {i:Nat}(h:Kb w b ks i)(hb:w'.heap[b]?=w.heap[b]?):Kb w' b ks i:=by obtain⟨ents,O,h2⟩:=h;exact⟨ents,hb.trans O,h2⟩
theorem DY {ks:l_ J} {e:MapEntry}(N:rowIs (fH e) ks=true):∀(l:l_ MapEntry) (j:Nat),(∀e'∈l,rowIs (fH e') ks=false)->firstM ks (l++ [e]) j=some (j+l.length,e.val)
 | [],j,_=>by
  show(bif rowIs (fH e) ks then some (j,e.val)else firstM ks [] (j+1))=_;rw[N];rfl
 |x::r,j,h=>by have O:=h x ch;have ih:=DY N r (j+1) λe' F=>h e' (fh _ F);show(bif rowIs (fH x) ks then some (j,x.val)else firstM ks (r++ [e]) (j+1))=_;rw[O,xz,ih];simp only[iP];congr 2;omega
theorem Bf (hI:Inv w0 Sa h S m w) {t:TypeId} {id b o sz:Nat} {B:dW} {p:J} {kv:Value} {q:IntKind} {kk:oN} {old:Int} {ks:l_ J} (hB:h[id]?=some B) (hm:m[id]?=some (b,o,sz)) (hk:sR P t=some (kk,q)) (SU:Gd kk p=some ks) (hp:cv w S m p kv)
  (hl:yJ P t B p=some (.sc<|.int q old)):∃(i:Nat) (w':World),(Instr.mapEntry t (.map<|some b) kv).run P w= .ok (.tuple #[.int q old,goInt i]) w'/\Inv w0 Sa h S m w'/\yx w S m w' S m/\Kb w' b ks i/\∀k,k≠b->w'.heap[k]?=w.heap[k]?:=by
 unfold yJ at hl;rw[hk]at hl;split at hl
 .rename_i kk1 q1 z r hkq kC;cases hkq;split at hl
  .rename_i Y;obtain⟨cy,Ew⟩:=Y;rw[SU]at hl;simp only[mo,J.sc.injEq,Value.int.injEq,true_and]at hl;obtain⟨zy,⟨bC0,z',r',kk',q',ents,e1,e2,e3,e4,e5,e6⟩,SD⟩:=hI.maps id B b o sz hB cy hm;rw[kC]at e1;cases e1;rw[Ew]at e2;cases e2;obtain⟨kt,vt,O,h2,h3,h4⟩:=sW hk;have v8:=ug SU hp;have hf:=A1 (w:=w) h2 v8 ents.toList e5;have hv:=vk (ks:=ks) ents.toList 0 e5;have Jh:=xV (w:=w) h2 v8 false;have Zv:=lt_of_block e3;have A2:gJ ents.toList ks=lF (z::r) ks:=by rw[<-kC];exact e6 ks _ v8
   have AV:=hI.syms id B hB bC0;have hid:h.set id {B with es:=B.es}=h:=by
    refine k6 λj=> ?_;rw[cD];split
    .rename_i hj;subst hj;split
     .exact hB.symm
     .rename_i iH;rw[gx U]
    .rfl
   have fin:∀nT:Array MapEntry,(∀(i:Nat) e,nT[i]?=some e->e.born=i)->(∀e∈nT.toList,DC kk q e)->(∀wj v',tY kk wj v'->gJ nT.toList wj=gJ ents.toList wj)->
     Inv w0 Sa h S m (tD w b<|.map nT nT.size)/\yx w S m (tD w b<|.map nT nT.size) S m:=by
    intro nT g1 g2 g3;have:=hI.SY (es:=B.es) (ents:=nT) hB cy hm ⟨z,r,kk,q,nT,kC,Ew,A3 Zv,g1,g2,λwj v' I3=>by rw[g3 wj v' I3,e6 wj v' I3]⟩ AV
    rwa [hid]at this
   cases GA:firstM ks ents.toList 0 with
   |none=>
    have yy:=wH _ _ GA;rw[GA]at hf hv;simp only at hv;have hz:old=0:=U;subst hz;have GH:tY kk ks (⟨kv,.int q 0,ents.size⟩:MapEntry).key:=v8;obtain⟨g1,g2⟩:=fin (ents.push ⟨kv,.int q 0,ents.size⟩) (by
     intro i e F;rw[Ap]at F;split at F
     .cases F;rename_i hi;exact hi.symm
     .exact e4 i e F) (by
     intro e F;rw[Aw]at F;rcases kx.1 F with F|F
     .exact e5 e F
     .rw[mq]at F;subst F;exact⟨⟨ks,v8⟩,0,rfl⟩) (by
     intro wj v' I3;rw[Aw];cases Y:rowIs (fH ⟨kv,.int q 0,ents.size⟩) wj with
     |true=>
      have hv2:kv=v':=(mJ (e:=⟨kv,.int q 0,ents.size⟩) I3 ⟨ks,v8⟩).1 Y;have SZ:=A4 (hv2▸v8) I3;subst SZ;rw[wI yy,hv];show(bif rowIs (fH _) ks then iQ (fH _)else 0)=0;rw[Y,Fz (e:=⟨kv,.int q 0,ents.size⟩) v8];exact np _ _ _
     |false=>exact wJ Y _)
    refine⟨ents.size,_,?_,g1,g2,⟨_,A3 Zv,.int q 0,?_⟩,λk Cl=>nd Cl⟩
    .simp [Instr.mapEntry,bU O,getObj,setObj,Sem.run,e3,Jh,hf,pG h4,tD]
    .rw[Aw,DY ((mJ v8 ⟨ks,GH⟩).2 rfl) _ _ yy];simp
   |some iv=>
    obtain⟨i,u0⟩:=iv;rw[GA]at hf hv;simp only at hv;obtain⟨k,e0,hi,Wo,SC,FA⟩:=sX _ _ _ _ GA;rw[eP]at hi;subst hi;have O3:ents[i]?=some e0:=by grind
    have he0:=e5 e0 (cw Wo);have GH:=(mJ v8 he0.1).1 SC;have Ms:ents.modify i (λe=> {e with key:=kv})=ents:=by
     apply LP;intro j;rw[Ay];split
     .rename_i Jj;subst Jj;rw[O3];simp [<-GH]
     .rfl
    obtain⟨g1,g2⟩:=fin ents e4 e5 λ_ _ _=>rfl;have hold:u0= .int q old:=by grind
    have bV4:=e4 i e0 O3;refine⟨i,_,?_,g1,g2,⟨ents,A3 Zv,u0,GA⟩,λk Cl=>nd Cl⟩;simp [Instr.mapEntry,bU O,getObj,setObj,Sem.run,e3,Jh,hf,O3,GH,O2 v8,Ms,tD,hold,bV4]
  .cases hl
 .cases hl
theorem G6 (hI:Inv w0 Sa h S m w) {t:TypeId} {id b o sz i:Nat} {B:dW} {p:J} {kv:Value} {q:IntKind} {kk:oN} {n:Int} {ks:l_ J} {es:l_ (l_ J)} (hB:h[id]?=some B) (hm:m[id]?=some (b,o,sz)) (hk:sR P t=some (kk,q)) (SU:Gd kk p=some ks) (hp:cv w S m p kv)
  (hE:Kb w b ks i) (hl:Sr P t B p (.sc<|.int q n)=some es):∃w',(Instr.entryStore t (.map<|some b) (goInt i)<|.int q n).run P w= .ok () w'/\Inv w0 Sa (h.set id {B with es:=es}) S m w'/\yx w S m w' S m/\∀k,k≠b->w'.heap[k]?=w.heap[k]?:=by
 unfold Sr at hl;rw[hk]at hl;split at hl
 .rename_i kk1 q1 z r q2 n' hkq kC hpv;cases hkq;cases hpv;split at hl
  .rename_i Y;obtain⟨cy,Ew,_⟩:=Y;rw[SU]at hl;simp only[mo]at hl;subst hl;obtain⟨zy,⟨bC0,z',r',kk',q',ents,e1,e2,e3,e4,e5,e6⟩,SD⟩:=hI.maps id B b o sz hB cy hm;rw[kC]at e1;cases e1;rw[Ew]at e2;cases e2;obtain⟨cf9,hb1,u,GA⟩:=hE;rw[e3]at hb1;simp only[mo,Obj.map.injEq]at hb1;obtain⟨rfl,_⟩:=hb1;have v8:=ug SU hp;have Zv:=lt_of_block e3;have AV:oA ((z::r)++ [ks++ [.sc<|.int q n]]):=by
    intro e F;rcases kx.1 F with F|F
    .rw[<-kC]at F;exact hI.syms id B hB bC0 e F
    .rw[mq]at F;subst F;exact J2 v8 q n
   obtain⟨k,e0,hi,Wo,SC,FA⟩:=sX _ _ _ _ GA;rw[eP]at hi;subst hi;have O3:ents[i]?=some e0:=by grind
   have oR:=(bm.1 Wo).1;have he0:=e5 e0 (cw Wo);have GH:=(mJ v8 he0.1).1 SC;have Ms:(ents.modify i λe=> {e with val:= .int q n}).toList=ents.toList.set i {e0 with val:= .int q n}:=by
    rw[Array.toList_modify];refine k6 λj=> ?_;rw[List.getElem?_modify,cD];by_cases Jj:i=j
    .subst Jj;simp only[rH,if_pos oR,Wo];rfl
    .simp only[if_neg Jj];cases ents.toList[j]?<;>rfl
   have hre:fH {e0 with val:= .int q n}=ks++ [.sc (.int q n)]:=Fz (e:= {e0 with val:= .int q n}) (by show tY kk ks e0.key;rw[GH];exact v8);obtain⟨g1,g2⟩:=hI.SY (es:=(z::r)++ [ks++ [.sc (.int q n)]]) (ents:=ents.modify i λe=> {e with val:= .int q n}) hB cy hm ⟨z,r++ [ks++ [.sc (.int q n)]],kk,q,_,rfl,Ew,A3 Zv,(by
    intro j e F;rw[<-rJ,Ms,cD]at F;split at F
    .rename_i Jj;cases F;subst Jj;exact e4 _ e0 O3
    .exact e4 j e (by simpa using F)),(by
    intro e F;rw[Ms]at F;rcases EO F with F|rfl
    .exact e5 e F
    .exact⟨he0.1,n,rfl⟩),λwj v' I3=>by
     rw[wF,np,Ms,<-hre];have Mo:rowIs (fH {e0 with val:= .int q n}) wj=rowIs (fH e0) wj:=Wn I3 he0.1 rfl;cases Y:rowIs (fH e0) wj with
     |true=>
      have hv2:=(mJ I3 he0.1).1 Y;have SZ:=A4 (kk:=kk) (v:=v') (by rw[<-hv2,GH];exact v8) I3;subst SZ;rw[Mo,Y,zm (Mo.trans Y) _ _ oR FA,hre];exact np _ _ _
     |false=>
      rw[Mo,Y,wL Y (Mo.trans Y) _ _ Wo,e6 wj v' I3,kC];rfl⟩ AV
   refine⟨_,?_,g1,g2,λk Cl=>nd Cl⟩;have hfi:ents.findIdx? (λe=>(e.born:Int)==(i:Int))=some i:=by
    rw[Array.findIdx?_eq_some_iff_getElem];have hi':i<ents.size:=U;refine⟨hi',?_,λj hj=> ?_⟩
    .have:=e4 i ents[i] (by simp [hi']);rw[this];simp
    .have:=e4 j (ents[j]' U) (by rw[jc]);rw[this];simp;omega
   simp [Instr.entryStore,getObj,setObj,Sem.run,e3,asInt,asIntOf,goInt,hfi,tD]
  .cases hl
 .cases hl
end
end
end Go.PS
namespace Go.PS
open Go.RowKit
section
variable {P:Program} {ops:Array Oper} {S:World->Prop} {a:Act} {Q:Exit->Act->World->Prop}
theorem kq {o:Oper} {v:Value}(ρ:Operand->Value)(hg:o.guard=none)(at5:∀cs b,o.op≠ .select cs b)(hev:∀x∈o.op.operands,a.eval x=ρ x)(hp:qT P (execOp ρ o)=some (.value v)):YieldsIf P ops S o v a:=by refine .inl ⟨by unfold Region.wanted;rw[hg],λw _=> ?_⟩;rw[execOp_congr o at5 hev];exact sV hp w
theorem bc9 {t:Nat} {u:Value}(h:t<a.tmps.size):(a.put (some t) u).eval (.tmp t)=u:=yL h
theorem j8 {t:Nat} {u:Value}(h:112<=a.tmps.size)(ht:t<112):(a.put (some t) u).eval (.tmp t)=u:=bc9<|uY ht h
theorem wS {i:Nat} {o:Oper} {K:Act->World->Prop} {w:World}(hi:ops[i]?=some o)(hg:o.guard=none)(h:o.wp P a w K Q):wpOp P ops Q i K a w:=by unfold wpOp;rw[hi];simp only[Region.wanted,hg];exact .inl h
theorem Te {d t:Nat} {u:Value}(ht:t<102)(hd:102<=d):(a.put (some d) u).tmps.getD t Go.undef=a.tmps.getD t Go.undef:=nU (λe=>by have h:(d:Nat)=t:=ku e;omega)
theorem lR {d t:Nat} {u:Value}(h:d≠t):(a.put (some d) u).eval (.tmp t)=a.eval (.tmp t):=nU λe=>h (ku e)
theorem Pw {o:Oper} {t:TypeId} {x:Operand} {b i:Nat} {u:Value} {w:World}(aX:o.op= .load t x)(hx:a.eval x= .pointer (some ⟨b,i,none⟩))(I9:Cn P t=some false)(Y:w.cell? ⟨b,i,none⟩=some u):(execOp a.eval o).run P w= .ok (.value u) w:=by simp [execOp,aX,Instr.loadAt,Instr.sureAddr,hx,loadVar,px I9,Y]
theorem G7 {w0:fR} {Sa S:Nat->Prop} {h:Hp} {m:Mp} {w:World} {o:Oper}(hI:Inv w0 Sa h S m w) {t:TypeId} {x y:Operand} {id:Nat} {B:dW} {p:J} {q:IntKind} {n:Int}(aX:o.op= .lookup t x y false)(N:cv w S m (.mp id) (a.eval x))(hp:cv w S m p (a.eval y))(hB:h[id]?=some B)(hl:yJ P t B p=some (.sc<|.int q n)):
  (execOp a.eval o).run P w= .ok (.value<|.int q n) w:=by
 unfold yJ at hl;split at hl
 .rename_i kk q' z r hk kC;split at hl
  .rename_i Y;obtain⟨cy,Ew⟩:=Y;split at hl
   .rename_i ks SU;cases hl;obtain⟨b,o',sz,hm,hu⟩:=ze N;obtain⟨_,⟨_,z',r',kk',q',ents,e1,e2,e3,e4,e5,e6⟩,_⟩:=hI.maps id B b o' sz hB cy hm;rw[kC]at e1;cases e1;rw[Ew]at e2;cases e2;obtain⟨kt,vt,O,h2,h3,h4⟩:=sW hk;have v8:=ug SU hp;have hf:=A1 (w:=w) h2 v8 ents.toList e5;have hv:=vk (ks:=ks) ents.toList 0 e5;have Jh:=xV (w:=w) h2 v8 ents.isEmpty;have A2:gJ ents.toList ks=lF (z::r) ks:=by rw[<-kC];exact e6 ks _ v8
    cases GA:firstM ks ents.toList 0 with
    |none=>
     rw[GA]at hf hv;simp only at hv;rw[A2]at hv;simp [execOp,aX,Instr.lookup,bU O,hu,Sem.run,getObj,e3,Jh,hf,pG h4,hv]
    |some iv=>
     obtain⟨i,u⟩:=iv;rw[GA]at hf hv;simp only at hv;rw[A2]at hv;subst hv;simp [execOp,aX,Instr.lookup,bU O,hu,Sem.run,getObj,e3,Jh,hf]
   .cases hl
  .cases hl
 .cases hl
end
end Go.PS
namespace Go.Proofs.YtnpcbfcfcjdhlaaGreatDoor
open Go.PS Wf Go.RowKit
abbrev CE(n:Nat):Edge:=⟨n,.data⟩
abbrev yz(n:Nat):Edge:=⟨n,.phase⟩
def WB:Oper:= {dst:=some 102,op:=Op.move (Operand.tmp 4),type:=243,pos:= "tree.go:121",after:= #[],guard:=none}
def WC:Oper:= {dst:=some 103,op:=Op.fieldAddr 67 (Operand.tmp 6) 1,type:=0,pos:= "tree.go:121",after:= #[],guard:=none}
def ax7:Oper:= {dst:=some 104,op:=Op.load 3 (Operand.tmp 103),type:=3,pos:= "tree.go:121",after:= #[CE 1],guard:=none}
def WD:Oper:= {dst:=some 105,op:=Op.fieldAddr 67 (Operand.tmp 6) 3,type:=0,pos:= "tree.go:121",after:= #[],guard:=none}
def ax8:Oper:= {dst:=some 106,op:=Op.load 9 (Operand.tmp 105),type:=9,pos:= "tree.go:121",after:= #[CE 3],guard:=none}
def WE:Oper:= {dst:=some 107,op:=Op.build 246 #[(0,Operand.tmp 104),(1,Operand.tmp 106)],type:=246,pos:= "tree.go:121",after:= #[CE 2, CE 4],guard:=none}
def G8:Oper:= {dst:=some 108,op:=Op.lookup 243 (Operand.tmp 102) (Operand.tmp 107) false,type:=3,pos:= "tree.go:121",after:= #[CE 0, CE 5],guard:=none}
def G9:Oper:= {dst:=some 109,op:=Op.binOp BinOp.add 3 (Operand.tmp 108) (Operand.const<|Value.int IntKind.i64 1) 3,type:=3,pos:= "tree.go:121",after:= #[CE 6],guard:=none}
def Bg:Oper:= {dst:=some 110,op:=Op.mapEntry 243 (Operand.tmp 102) (Operand.tmp 107),type:=0,pos:= "tree.go:121",after:= #[CE 0, CE 5, yz 0, yz 1, yz 2, yz 3, yz 4, yz 5, {on:=6,ground:=Ground.textOnly Departure.mapOpAssignEntry}, {on:=7,ground:=Ground.textOnly Departure.mapOpAssignEntry}],guard:=none}
def Ha:Oper:= {dst:=some 111,op:=Op.extract (Operand.tmp 110) 1,type:=3,pos:= "tree.go:121",after:= #[CE 8],guard:=none}
def MF:Oper:= {dst:=none,op:=Op.entryStore 243 (Operand.tmp 102) (Operand.tmp 111) (Operand.tmp 109),type:=0,pos:= "tree.go:121",after:= #[CE 0, CE 9, CE 7, {on:=8,ground:=Ground.chain}, yz 0, yz 1, yz 2, yz 3, yz 4, yz 5, yz 6, yz 7, yz 8, yz 9],guard:=none}
@[simp] theorem cg0:WB.dst=some 102:=rfl
@[simp] theorem cg1:WC.dst=some 103:=rfl
@[simp] theorem cg2:ax7.dst=some 104:=rfl
@[simp] theorem cg3:WD.dst=some 105:=rfl
@[simp] theorem cg4:ax8.dst=some 106:=rfl
@[simp] theorem cg5:WE.dst=some 107:=rfl
@[simp] theorem cg6:G8.dst=some 108:=rfl
@[simp] theorem cg7:G9.dst=some 109:=rfl
@[simp] theorem bu2:Bg.dst=some 110:=rfl
@[simp] theorem bu3:Ha.dst=some 111:=rfl
def yN:Array Oper:= #[WB,WC,ax7,WD,ax8,WE,G8,G9,Bg,Ha,MF]
def ax9(id:Nat)(ops:Array Oper)(dr:Bool)(T:l_ J)(h:Hp):Option (l_ J×Hp×l_ Prop):=
 match id==15,T[4]?,T[6]? with
  |true,some (J.mp id1),some (J.ptr id2 i off)=>match h[id1]?,h[id2]? with
   |some B,some ci9=>match ci9.es[i]? with
    |some e=>match e[off+1]?,e[off+3]? with
     |some (.sc<|.int .i64 n),some (.sc<|.string s)=>match yJ P 243 B (.agg [I n,S s])with
      |some (.sc<|.int .i64 old)=>match Sr P 243 B (.agg [I n,S s]) (I<|oU<|old+1)with
       |some es=>some (mask (List.range 102) T,h.set id1 {B with es:=es},[ops=yN,dr=true,ci9.st<=1,112<=T.length])
       |none=>none
      |_=>none
     |_,_=>none
    |none=>none
   |_,_=>none
  |_,_,_=>none
theorem ay0 {w0:fR} {Sa S:Nat->Prop} {T:l_ J} {h:Hp} {m:Mp} {a:Act} {w:World} {Q:Exit->Act->World->Prop} {id1 b o' sz:Nat} {B:dW} {n old:Int} {s:y_} {es:l_ (l_ J)}
  (kZ:112<=a.tmps.size) (hT:SF w S m T a) (hB:h[id1]?=some B) (hm:m[id1]?=some (b,o',sz)) (Ws:yJ P 243 B (.agg [I n,PS.S s])=some (.sc<|.int .i64 old)) (jW:Sr P 243 B (.agg [I n,PS.S s]) (I<|oU<|old+1)=some es)
  (DI:PS.Inv w0 Sa h S m w.drew) (OX:yx w S m w.drew S m) (hQ:∀a' w',St w0 Sa (mask (List.range 102) T) (h.set id1 {B with es:=es}) a' w'->Q .normal a' w') (S0:(λw':World=>∀k,k≠b->w'.heap[k]?=w.heap[k]?) w.drew):
  ∀(a':Act),a'.tmps.size=a.tmps.size->a'.defers=[]->(∀t,t<102->a'.tmps.getD t Go.undef=a.tmps.getD t Go.undef)->a'.eval (.tmp 102)= .map (some b)->a'.eval (.tmp 107)= .agg #[.int .i64 n,.string s]->
   wpAnyH P .any yN (λe a' w'=>e= .normal/\Q .normal a' w') (λw':World=>∀k,k≠b->w'.heap[k]?=w.heap[k]?) 5 ((((((Array.replicate 11 false).setIfInBounds 0 true).setIfInBounds 1 true).setIfInBounds 2 true).setIfInBounds 3 true).setIfInBounds 4 true|>.setIfInBounds 5 true) a' w.drew:=by
 have hk:sR P 243=some (.pair .i64,.i64):=kK;have SU:Gd (.pair .i64) (.agg [I n,PS.S s])=some [I n,PS.S s]:=rfl;have hrk:∀w':World,cv w' S m (.agg [I n,PS.S s]) (.agg #[.int .i64 n,.string s]):=λw'=> .agg _ _ rfl λi p v q1 q2=>by
  match i with
  |0=>simp at q1 q2;subst q1;subst q2;exact .st _ _<|.sc _
  |1=>simp at q1 q2;subst q1;subst q2;exact .st _ _<|.sc _
  |i+2=>simp at q1
 have last:∀(i:Nat) (listed:Array Bool) (a':Act) (w':World),Region.ready .any yN listed=[10]->Region.ready .any yN (listed.setIfInBounds 10 true)=[]->a'.tmps.size=a.tmps.size->a'.defers=[]->(∀t,t<102->a'.tmps.getD t Go.undef=a.tmps.getD t Go.undef)->
   a'.eval (.tmp 102)= .map (some b)->a'.eval (.tmp 109)= .int .i64 (oU<|old+1)->a'.eval (.tmp 111)=goInt i->PS.Inv w0 Sa h S m w'->yx w S m w' S m->Kb w' b [I n,PS.S s] i->(∀k,k≠b->w'.heap[k]?=w.heap[k]?)->
   wpAnyH P .any yN (λe a' w'=>e= .normal/\Q .normal a' w') (λw':World=>∀k,k≠b->w'.heap[k]?=w.heap[k]?) 1 listed a' w':=by
  intro i listed a' w' r1 r2 q1 q2 q3 q4 q5 q6 q7 q8 q9 q10;refine wpAnyH_all r1 sS λj hj=> ?_;obtain rfl:j=10:=by simpa using hj
  obtain⟨w2,eM,Ck,Gx,hS2⟩:=G6 (P:=P) (t:=243) q7 hB hm hk SU (hrk w') q9 jW;refine wS (o:=MF) kK rfl ?_;have hx:(execOp a'.eval MF).run P w'= .ok .skip w2:=by simp [execOp,MF,q4,q5,q6,eM]
  unfold Oper.wp;rw[hx];refine⟨λk Cl=>(hS2 k Cl).trans (q10 k Cl),wpAnyH_done r2 ⟨rfl,hQ _ _ ⟨S,m,Ck,⟨?_,λt p hp=> ?_⟩,q2⟩⟩ 0⟩
  .rw[show(mask (List.range 102) T).length=T.length by simp [mask],hT.1];exact q1.symm
  .rw[Pg]at hp;cases hpt:T[t]? with
   |none=>rw[hpt]at hp;cases hp
   |some p0=>
    rw[hpt]at hp;simp only[jz,mo]at hp;subst hp;split
    .rename_i Y;have ht:t<102:=by grind
     show cv w2 S m p0 (a'.tmps.getD t Go.undef);rw[q3 t ht];exact Gx _ _<|q8 _ _<|hT.2 t p0 hpt
    .exact .st _ _<|.any _
 intro a' q1 q2 q3 q4 q5;have Jb:112<=a'.tmps.size:=by rw[q1];exact kZ
 refine wpAnyH_all (rs:=[6,8]) kK sS λj hj=> ?_;rcases(show j=6\/j=8 by simpa using hj)with rfl|rfl
 .have hlr:=G7 (P:=P) (t:=243) (x:= .tmp 102) (y:= .tmp 107) (a:=a') (o:=G8) DI rfl (by rw[q4];exact .mp _ _ _ _ hm) (by rw[q5];exact hrk _) hB Ws;refine wS (o:=G8) kK rfl ?_;unfold Oper.wp;rw[hlr];refine⟨S0,?_⟩;refine wpAnyH_take (i:=7) (oi:=G9) (v:= .int .i64 (oU<|old+1)) kK kK kK kK (λ_ _ _ h=>nomatch h.1) ?_ S0 ?_
  .exact kq (λx=>match x with| .tmp 108=> .int .i64 old|_=> .int .i64 1) rfl (λ_ _ h=>nomatch h) (by simp [Op.operands,G9,j8,Jb];rfl) kK
  refine wpAnyH_all (rs:=[8]) kK sS λj hj=> ?_;obtain rfl:j=8:=by simpa using hj
  obtain⟨i,w2,eM,Ck,Gx,hE2,hS2⟩:=Bf (P:=P) (t:=243) DI hB hm hk SU (hrk w.drew) Ws;have hme:(execOp ((a'.put G8.dst<|.int .i64 old).put G9.dst<|.int .i64<|oU<|old+1).eval Bg).run P w.drew= .ok (.value<|.tuple #[.int .i64 old,goInt i]) w2:=by simp [execOp,Bg,lR,q4,q5,eM]
  refine wS (o:=Bg) kK rfl ?_;unfold Oper.wp;rw[hme];refine⟨hS2,?_⟩;refine wpAnyH_take (i:=9) (oi:=Ha) (v:=goInt i) kK kK kK kK (λ_ _ _ h=>nomatch h.1) ?_ hS2 ?_
  .exact kq (λ_=> .tuple #[.int .i64 old,goInt i]) rfl (λ_ _ h=>nomatch h) (by simp [Op.operands,Ha,j8,iW,Jb]) kK
  exact last i _ _ w2 kK kK (by simp [iW,q1]) (by simp [put_defers,q2]) (λt ht=>by simp [Te ht,q3 t ht]) (by simp [lR,q4]) (by simp [lR,j8,iW,Jb]) (by simp [j8,iW,Jb]) Ck (λp v hp=>Gx _ _ (OX _ _ hp)) hE2 hS2
 .obtain⟨i,w2,eM,Ck,Gx,hE2,hS2⟩:=Bf (P:=P) (t:=243) DI hB hm hk SU (hrk w.drew) Ws;have hme:(execOp a'.eval Bg).run P w.drew= .ok (.value<|.tuple #[.int .i64 old,goInt i]) w2:=by simp [execOp,Bg,q4,q5,eM]
  refine wS (o:=Bg) kK rfl ?_;unfold Oper.wp;rw[hme];refine⟨hS2,?_⟩;refine wpAnyH_take (i:=9) (oi:=Ha) (v:=goInt i) kK kK kK kK (λ_ _ _ h=>nomatch h.1) ?_ hS2 ?_
  .exact kq (λ_=> .tuple #[.int .i64 old,goInt i]) rfl (λ_ _ h=>nomatch h) (by simp [Op.operands,Ha,j8,Jb]) kK
  refine wpAnyH_all (rs:=[6]) kK sS λj hj=> ?_;obtain rfl:j=6:=by simpa using hj
  have hlr:=G7 (P:=P) (t:=243) (x:= .tmp 102) (y:= .tmp 107) (a:=(a'.put Bg.dst<|.tuple #[.int .i64 old,goInt i]).put Ha.dst (goInt i)) (o:=G8) Ck rfl (by simp only[bu2,bu3,lR,ne_eq,Nat.reduceEqDiff,LB,q4];exact .mp _ _ _ _ hm) (by simp only[bu2,bu3,lR,ne_eq,Nat.reduceEqDiff,LB,q5];exact hrk _) hB Ws;refine wS (o:=G8) kK rfl ?_;unfold Oper.wp;rw[hlr];refine⟨hS2,?_⟩;refine wpAnyH_take (i:=7) (oi:=G9) (v:= .int .i64 (oU<|old+1)) kK kK kK kK (λ_ _ _ h=>nomatch h.1) ?_ hS2 ?_
  .exact kq (λx=>match x with| .tmp 108=> .int .i64 old|_=> .int .i64 1) rfl (λ_ _ h=>nomatch h) (by simp [Op.operands,G9,j8,iW,Jb];rfl) kK
  exact last i _ _ w2 kK kK (by simp [iW,q1]) (by simp [put_defers,q2]) (λt ht=>by simp [Te ht,q3 t ht]) (by simp [lR,q4]) (by simp [j8,iW,Jb]) (by simp [lR,j8,iW,Jb]) Ck (λp v hp=>Gx _ _ (OX _ _ hp)) hE2 hS2
theorem bd0 {a:Act} {w:World} {Q:Exit->Act->World->Prop} {b b2 o2 R6 ri off:Nat} {c:Array Value} {et:TypeId} {fz:Nat×Nat} {n:Int} {s:y_} (kZ:112<=a.tmps.size) (hv4:a.eval (.tmp 4)= .map (some b)) (hv6:a.eval (.tmp 6)= .pointer (some ⟨b2,o2+ri*R6+off,none⟩)) (Ai:b2≠b) (c1:w.heap[b2]?=some (.cells c et fz))
  (g1:c[o2+ri*R6+(off+1)]?=some (.int .i64 n)) (g3:c[o2+ri*R6+(off+3)]?=some (.string s)) (S0:(λw':World=>∀k,k≠b->w'.heap[k]?=w.heap[k]?) w.drew)
  (wA:∀(a':Act),a'.tmps.size=a.tmps.size->a'.defers=a.defers->(∀t,t<102->a'.tmps.getD t Go.undef=a.tmps.getD t Go.undef)->a'.eval (.tmp 102)= .map (some b)->a'.eval (.tmp 107)= .agg #[.int .i64 n,.string s]->
   wpAnyH P .any yN (λe a' w'=>e= .normal/\Q .normal a' w') (λw':World=>∀k,k≠b->w'.heap[k]?=w.heap[k]?) 5 ((((((Array.replicate 11 false).setIfInBounds 0 true).setIfInBounds 1 true).setIfInBounds 2 true).setIfInBounds 3 true).setIfInBounds 4 true|>.setIfInBounds 5 true) a' w.drew):
  wpAnyH P .any yN (λe a' w'=>e= .normal/\Q .normal a' w') (λw':World=>∀k,k≠b->w'.heap[k]?=w.heap[k]?) 11 (Array.replicate 11 false) a w.drew:=by
 refine wpAnyH_take (i:=0) (oi:=WB) (v:= .map (some b)) kK kK kK kK (λ_ _ _ h=>nomatch h.1) ?_ S0 ?_
 .exact kq (λ_=> .map (some b)) rfl (λ_ _ h=>nomatch h) (by simp [Op.operands,WB,hv4]) kK
 refine wpAnyH_take (i:=1) (oi:=WC) (v:= .pointer (some ⟨b2,o2+ri*R6+off+1,none⟩)) kK kK kK kK (λ_ _ _ h=>nomatch h.1) ?_ S0 ?_
 .exact kq (λ_=> .pointer (some ⟨b2,o2+ri*R6+off,none⟩)) rfl (λ_ _ h=>nomatch h) (by simp [Op.operands,WC,lR,hv6]) kK
 refine wpAnyH_take (i:=2) (oi:=ax7) (v:= .int .i64 n) kK kK kK kK (λ_ _ _ h=>nomatch h.1) ?_ S0 ?_
 .exact .inl ⟨rfl,λw' hS=>Pw (b:=b2) (i:=o2+ri*R6+(off+1)) rfl (by simp [j8,iW,kZ,Nat.add_assoc]) kK (by rw[cell_of (by rw[hS _ Ai];exact c1)];exact g1)⟩
 refine wpAnyH_take (i:=3) (oi:=WD) (v:= .pointer (some ⟨b2,o2+ri*R6+off+3,none⟩)) kK kK kK kK (λ_ _ _ h=>nomatch h.1) ?_ S0 ?_
 .exact kq (λ_=> .pointer (some ⟨b2,o2+ri*R6+off,none⟩)) rfl (λ_ _ h=>nomatch h) (by simp [Op.operands,WD,lR,hv6]) kK
 refine wpAnyH_take (i:=4) (oi:=ax8) (v:= .string s) kK kK kK kK (λ_ _ _ h=>nomatch h.1) ?_ S0 ?_
 .exact .inl ⟨rfl,λw' hS=>Pw (b:=b2) (i:=o2+ri*R6+(off+3)) rfl (by simp [j8,iW,kZ,Nat.add_assoc]) kK (by rw[cell_of (by rw[hS _ Ai];exact c1)];exact g3)⟩
 refine wpAnyH_take (i:=5) (oi:=WE) (v:= .agg #[.int .i64 n,.string s]) kK kK kK kK (λ_ _ _ h=>nomatch h.1) ?_ S0 ?_
 .exact kq (λx=>match x with| .tmp 104=> .int .i64 n|_=> .string s) rfl (λ_ _ h=>nomatch h) (by simp [Op.operands,WE,lR,j8,iW,kZ]) kK
 refine wA _ ?_ ?_ ?_ ?_ ?_
 .simp [iW]
 .simp [put_defers]
 .intro t ht;simp [Te ht]
 .simp [lR,j8,kZ]
 .simp [j8,iW,kZ]
theorem ay1(id:Nat)(ops:Array Oper)(dr:Bool)(T:l_ J)(h:Hp)(T':l_ J)(h':Hp)(ob:l_ Prop)(hd:ax9 id ops dr T h=some (T',h',ob))(cJ:∀X∈ob,X):tz P id ops dr T h T' h':=by
 unfold ax9 at hd;split at hd
 .rename_i id1 id2 ri off hid hT4 hT6;split at hd
  .rename_i B ci9 hB hN;split at hd
   .rename_i e F;split at hd
    .rename_i n s he1 he3;split at hd
     .rename_i old Ws;split at hd
      .rename_i es jW;cases hd;have Mn:id=15:=by simpa using hid
       subst Mn;obtain rfl:ops=yN:=cJ _ sS;obtain rfl:dr=true:=cJ (dr=true) sS;have hN1:ci9.st<=1:=cJ (ci9.st<=1) sS;have hlen:112<=T.length:=cJ (112<=T.length) sS;intro w0 Sa a w Q hG iu hQ;obtain⟨S,m,hI,hT,Ak⟩:=iu;have kZ:112<=a.tmps.size:=by rw[<-hT.1];exact hlen
       have h4:cv w S m (.mp id1) (a.eval<|.tmp 4):=hT.2 4 _ hT4;obtain⟨b,o',sz,hm,hv4⟩:=ze h4;obtain⟨b2,o2,R6,hm2,hv6⟩:=nR (u:=a.eval (.tmp 6))<|hT.2 6 _ hT6;obtain⟨c,et,fz,c1,c2,c3⟩:=vg hI hN hN1 hm2 F;have l1:off+1<e.length:=(bm.1 he1).1;have l3:off+3<e.length:=(bm.1 he3).1;have g1:c[o2+ri*R6+(off+1)]?=some (.int .i64 n):=by have hx:c[o2+ri*R6+(off+1)]?=some (c[o2+ri*R6+(off+1)]' U):=jc _;rw[hx];exact ba some<|jr<|c3 _ _ _ he1 hx
       have g3:c[o2+ri*R6+(off+3)]?=some (.string s):=by have hx:c[o2+ri*R6+(off+3)]?=some (c[o2+ri*R6+(off+3)]' U):=jc _;rw[hx];exact ba some<|jr<|c3 _ _ _ he3 hx
       have Ai:b2≠b:=by
        have cy:B.st=3:=by
         unfold yJ at Ws;split at Ws
         .split at Ws
          .rename_i Y;exact Y.1
          .cases Ws
         .cases Ws
        exact λhx=>(hI.maps id1 B b o' sz hB cy hm).2.1.ne c1 hx.symm
       refine Code.wp_mono (Q:=λe a' w'=>e= .normal/\Q .normal a' w') (λe a' w' hq=>hq.1▸hq.2) ?_;obtain⟨DI,OX⟩:=pI hI;have S0:(λw':World=>∀k,k≠b->w'.heap[k]?=w.heap[k]?) w.drew:=λ_ _=>rfl;refine wp_region_held (S:=λw':World=>∀k,k≠b->w'.heap[k]?=w.heap[k]?) kK ?_;show wpAnyH P .any yN _ _ 11 (Array.replicate 11 false) a w.drew;exact bd0 kZ hv4 hv6 Ai c1 g1 g3 S0 λa' q1 q2 q3 q4 q5=>ay0 kZ hT hB hm Ws jW DI OX hQ S0 a' q1 (q2.trans Ak) q3 q4 q5
      .cases hd
     .cases hd
    .cases hd
   .cases hd
  .cases hd
 .cases hd
end Go.Proofs.YtnpcbfcfcjdhlaaGreatDoor
namespace Go.Proofs
section
open Go.Shelf
def Px:Go.Shelf.Ren:=⟨λ|170=>378|n=>n,λ|70=>156|3=>3|0=>0|72=>159|37=>157|5=>5|n=>n,λ|n=>n⟩
def bd1:Go.Proofs.Lays.n170 Tryz.prog Px:= {
 mixed:=kK
 f170:=du func378
 t0:=underlying0
 a0:=isAgg0
 z0:=sizeOf0
 v0:=zeroValue0
 t3:=underlying3
 a3:=isAgg3
 z3:=sizeOf3
 v3:=zeroValue3
 t37:=underlying157
 a37:=isAgg157
 z37:=sizeOf157
 v37:=zeroValue157
 t70:=underlying156
 a70:=isAgg156
 z70:=sizeOf156
 v70:=zeroValue156
 t72:=underlying159
 a72:=isAgg159
 z72:=sizeOf159
 v72:=zeroValue159}
open Go.RowKit in
theorem Builder_Len(B b:Nat)(bs:l_ Value)(w:World)(h:Lib.IsBuilder 159 5 B b bs w):
  Calls Tryz.prog 378 #[.pointer<|some ⟨b,0,none⟩] w λe w'=>e= .returned (.int .i64 bs.length)/\w'=w:=Any.Builder_Len bd1 B b bs w h
def DZ:Go.Shelf.Ren:=⟨λ|169=>65|n=>n,λ|70=>156|9=>9|0=>0|72=>159|37=>157|127=>228|3=>3|5=>5|n=>n,λ|n=>n⟩
def bd2:Go.Proofs.Lays.n169 Tryz.prog DZ:= {
 mixed:=kK
 f169:=du func65
 t0:=underlying0
 a0:=isAgg0
 z0:=sizeOf0
 v0:=zeroValue0
 t3:=underlying3
 a3:=isAgg3
 z3:=sizeOf3
 v3:=zeroValue3
 t9:=underlying9
 a9:=isAgg9
 z9:=sizeOf9
 v9:=zeroValue9
 t37:=underlying157
 a37:=isAgg157
 z37:=sizeOf157
 v37:=zeroValue157
 t70:=underlying156
 a70:=isAgg156
 z70:=sizeOf156
 v70:=zeroValue156
 t72:=underlying159
 a72:=isAgg159
 z72:=sizeOf159
 v72:=zeroValue159
 t127:=underlying228
 a127:=isAgg228
 z127:=sizeOf228
 v127:=zeroValue228}
def Bh:Builder.Extra Tryz.prog DZ:= {
 sizeBuilder:=kK
 liesBuilder:=kK
 t5:=underlying5
 a5:=isAgg5
 z5:=sizeOf5
 v5:=zeroValue5
 infoByte:=kK
 cellsByte:=kK
 sizeByte:=kK
 neB5:=by decide}
open Go.RowKit in
theorem Builder_String_any(B b:Nat)(l:l_ UInt8)(w:World)(h:Lib.IsBuilder 159 5 B b (Lib.byteCells l) w)(hBw:B<=w.heap.size):
  Calls Tryz.prog 65 #[.pointer<|some ⟨b,0,none⟩] w λe w'=>e= .returned (.string ⟨l.toArray⟩)/\Below B w w':=Any.Builder_String_any bd2 Bh B b l w h hBw
def pN:Go.Shelf.Ren:=⟨λ|156=>129|165=>201|166=>64|169=>65|240=>130|241=>255|276=>202|277=>290|n=>n,λ|31=>68|9=>9|3=>3|4=>4|0=>0|20=>20|72=>159|76=>167|70=>156|37=>157|75=>166|127=>228|164=>297|5=>5|80=>169|n=>n,λ|n=>n⟩
def FB:Go.Proofs.Lays.n156 Tryz.prog pN:= {
 mixed:=kK
 f156:=du func129
 f165:=du func201
 f166:=du func64
 f169:=du func65
 f240:=du func130
 f241:=du func255
 f276:=du func202
 f277:=du func290
 t0:=underlying0
 a0:=isAgg0
 z0:=sizeOf0
 v0:=zeroValue0
 t3:=underlying3
 a3:=isAgg3
 z3:=sizeOf3
 v3:=zeroValue3
 t4:=underlying4
 a4:=isAgg4
 z4:=sizeOf4
 v4:=zeroValue4
 t9:=underlying9
 a9:=isAgg9
 z9:=sizeOf9
 v9:=zeroValue9
 t20:=underlying20
 a20:=isAgg20
 z20:=sizeOf20
 v20:=zeroValue20
 t31:=underlying68
 a31:=isAgg68
 z31:=sizeOf68
 v31:=zeroValue68
 t37:=underlying157
 a37:=isAgg157
 z37:=sizeOf157
 v37:=zeroValue157
 t70:=underlying156
 a70:=isAgg156
 z70:=sizeOf156
 v70:=zeroValue156
 t72:=underlying159
 a72:=isAgg159
 z72:=sizeOf159
 v72:=zeroValue159
 t75:=underlying166
 a75:=isAgg166
 z75:=sizeOf166
 v75:=zeroValue166
 t76:=underlying167
 a76:=isAgg167
 z76:=sizeOf167
 v76:=zeroValue167
 t127:=underlying228
 a127:=isAgg228
 z127:=sizeOf228
 v127:=zeroValue228
 t164:=underlying297
 a164:=isAgg297
 z164:=sizeOf297
 v164:=zeroValue297}
def jO:Builder.Extra Tryz.prog pN:= {
 sizeBuilder:=kK
 liesBuilder:=kK
 t5:=underlying5
 a5:=isAgg5
 z5:=sizeOf5
 v5:=zeroValue5
 infoByte:=kK
 cellsByte:=kK
 sizeByte:=kK
 neB5:=by decide}
open Go.RowKit in
theorem strings_Join_none(a:Option Addr)(c:Nat)(sep:y_)(w:World):
  Calls Tryz.prog 129 #[.slice a 0 c,.string sep] w λe w'=>e= .returned (.string n_)/\w'=w:=Any.strings_Join_none FB jO a c sep w
open Go.RowKit in
theorem strings_Join(bk o c:Nat)(xs:l_ y_)(sep:y_)(w:World)(Tf:∀(j:Nat) x,xs[j]?=some x->w.cell? ⟨bk,o+j,none⟩=some (.string x))(hbk:bk<w.heap.size)(hN:xs.length<=140737488355328)(iq:xs.length<=c)(hlen:(Lib.join (xs.map (·.data.toList)) sep.data.toList).length<=140737488355328):
  Calls Tryz.prog 129 #[.slice (some ⟨bk,o,none⟩) xs.length c,.string sep] w λe w'=>e= .returned (.string ⟨(Lib.join (xs.map (·.data.toList)) sep.data.toList).toArray⟩)/\Below w.heap.size w w':=Any.strings_Join FB jO bk o c xs sep w Tf hbk hN iq hlen
def Py:Go.Shelf.Ren:=⟨λ|137=>253|217=>287|266=>324|n=>n,λ|9=>9|5=>5|3=>3|n=>n,λ|n=>n⟩
def bd3:Go.Proofs.Lays.n137 Tryz.prog Py:= {
 mixed:=kK
 f137:=du func253
 f217:=du func287
 f266:=du func324
 t3:=underlying3
 a3:=isAgg3
 z3:=sizeOf3
 v3:=zeroValue3
 t5:=underlying5
 a5:=isAgg5
 z5:=sizeOf5
 v5:=zeroValue5
 t9:=underlying9
 a9:=isAgg9
 z9:=sizeOf9
 v9:=zeroValue9}
open Go.RowKit in
theorem strings_IndexByte(s:y_)(c:Int)(w:World):
  Calls Tryz.prog 253 #[.string s,.int .u8 c] w λe w'=>e= .returned (.int .i64<|Lib.indexByte s.data.toList c.toNat.toUInt8)/\w'=w:=Any.strings_IndexByte bd3 s c w
def bu4:Go.Shelf.Ren:=⟨λ|215=>270|n=>n,λ|3=>3|4=>4|n=>n,λ|n=>n⟩
def Pz:Go.Shelf.Ren:=⟨λ|122=>219|215=>270|n=>n,λ|3=>3|4=>4|n=>n,λ|n=>n⟩
def bd4:Go.Proofs.Lays.n122 Tryz.prog Pz:= {
 mixed:=kK
 f122:=du func219
 f215:=du func270
 t3:=underlying3
 a3:=isAgg3
 z3:=sizeOf3
 v3:=zeroValue3
 t4:=underlying4
 a4:=isAgg4
 z4:=sizeOf4
 v4:=zeroValue4}
open Go.RowKit in
theorem cmp_Compare_int(x y:Int)(w:World):
  Calls Tryz.prog 219 #[.int .i64 x,.int .i64 y] w λe w'=>e= .returned (.int .i64<|Lib.compareInt x y)/\w'=w:=Any.cmp_Compare_int bd4 x y w
def bd5:Go.Shelf.Ren:=⟨λ|246=>345|283=>359|284=>360|285=>361|286=>362|129=>311|317=>372|318=>373|319=>374|320=>375|337=>386|338=>387|n=>n,λ|2=>2|3=>3|9=>9|4=>4|171=>423|0=>0|53=>366|37=>157|5=>5|173=>425|212=>436|51=>382|20=>20|213=>437|46=>349|232=>446|233=>447|n=>n,λ|17=>3|18=>5|19=>6|n=>n⟩
def MG:Go.Shelf.Ren:=⟨λ|173=>316|246=>345|283=>359|284=>360|285=>361|286=>362|129=>311|317=>372|318=>373|319=>374|320=>375|337=>386|338=>387|n=>n,λ|2=>2|3=>3|9=>9|4=>4|171=>423|0=>0|53=>366|37=>157|5=>5|173=>425|212=>436|51=>382|20=>20|213=>437|46=>349|232=>446|233=>447|n=>n,λ|17=>3|18=>5|19=>6|n=>n⟩
def ay2:Go.Proofs.LaysM.n173 Tryz.prog MG:= {
 mixed:=kK
 f129:=du func311
 f173:=du func316
 f246:=du func345
 f283:=du func359
 f284:=du func360
 f285:=du func361
 f286:=du func362
 f317:=du func372
 f318:=du func373
 f319:=du func374
 f320:=du func375
 f337:=du func386
 f338:=du func387
 t0:=underlying0
 a0:=isAgg0
 z0:=sizeOf0
 v0:=zeroValue0
 t2:=underlying2
 a2:=isAgg2
 z2:=sizeOf2
 v2:=zeroValue2
 t3:=underlying3
 a3:=isAgg3
 z3:=sizeOf3
 v3:=zeroValue3
 t4:=underlying4
 a4:=isAgg4
 z4:=sizeOf4
 v4:=zeroValue4
 t5:=underlying5
 a5:=isAgg5
 z5:=sizeOf5
 v5:=zeroValue5
 t9:=underlying9
 a9:=isAgg9
 z9:=sizeOf9
 v9:=zeroValue9
 t20:=underlying20
 a20:=isAgg20
 z20:=sizeOf20
 v20:=zeroValue20
 t37:=underlying157
 a37:=isAgg157
 z37:=sizeOf157
 v37:=zeroValue157
 t46:=underlying349
 a46:=isAgg349
 z46:=sizeOf349
 v46:=zeroValue349
 t51:=underlying382
 a51:=isAgg382
 z51:=sizeOf382
 v51:=zeroValue382
 t53:=underlying366
 a53:=isAgg366
 z53:=sizeOf366
 v53:=zeroValue366
 t171:=underlying423
 a171:=isAgg423
 z171:=sizeOf423
 v171:=zeroValue423
 t173:=underlying425
 a173:=isAgg425
 z173:=sizeOf425
 v173:=zeroValue425
 t212:=underlying436
 a212:=isAgg436
 z212:=sizeOf436
 v212:=zeroValue436
 t213:=underlying437
 a213:=isAgg437
 z213:=sizeOf437
 t232:=underlying446
 a232:=isAgg446
 z232:=sizeOf446
 v232:=zeroValue446
 t233:=underlying447
 a233:=isAgg447
 z233:=sizeOf447
 v233:=zeroValue447
 g17:=kK
 g18:=kK
 g19:=kK
 i0:=kK
 i2:=kK
 i3:=kK
 i4:=kK
 i5:=kK
 i9:=kK
 i20:=kK
 i37:=kK
 i46:=kK
 i51:=kK
 i53:=kK
 i171:=kK
 i173:=kK
 i212:=kK
 i232:=kK
 i233:=kK
 m17:=kK
 m18:=kK
 m19:=by kernel_rfl}
open Go.RowKit Go.Sort Go.Lib in
theorem strconv_FormatInt_10(n:Int)(h0: -9223372036854775808<=n)(O:n<=9223372036854775807)(w:World)(b69:Lib.TabIs Tryz.prog w "internal/strconv.uint64pow10" .u64 Lib.pow10Tab):
  Calls Tryz.prog 316 #[.int .i64 n,.int .i64 10] w λe w'=>e= .returned (.string ⟨(Lib.itoa n).toArray⟩)/\∃k os,w'=grow (w.drewN k) os:=Any.strconv_FormatInt_10 ay2 n h0 O w b69
def bu5:Go.Shelf.Ren:=⟨λ|219=>258|217=>287|225=>293|224=>294|267=>295|266=>324|314=>329|n=>n,λ|9=>9|3=>3|4=>4|5=>5|46=>349|146=>396|51=>382|n=>n,λ|1=>0|n=>n⟩
def PA:Go.Shelf.Ren:=⟨λ|144=>141|143=>208|219=>258|217=>287|225=>293|224=>294|267=>295|266=>324|314=>329|n=>n,λ|9=>9|4=>4|3=>3|5=>5|46=>349|146=>396|51=>382|n=>n,λ|1=>0|n=>n⟩
def bd6:Go.Proofs.Lays.n144 Tryz.prog PA:= {
 mixed:=kK
 f143:=du func208
 f144:=du func141
 f217:=du func287
 f219:=du func258
 f224:=du func294
 f225:=du func293
 f266:=du func324
 f267:=du func295
 f314:=du func329
 t3:=underlying3
 a3:=isAgg3
 z3:=sizeOf3
 v3:=zeroValue3
 t4:=underlying4
 a4:=isAgg4
 z4:=sizeOf4
 v4:=zeroValue4
 t5:=underlying5
 a5:=isAgg5
 z5:=sizeOf5
 v5:=zeroValue5
 t9:=underlying9
 a9:=isAgg9
 z9:=sizeOf9
 v9:=zeroValue9
 t46:=underlying349
 a46:=isAgg349
 z46:=sizeOf349
 v46:=zeroValue349
 t51:=underlying382
 a51:=isAgg382
 z51:=sizeOf382
 v51:=zeroValue382
 t146:=underlying396
 a146:=isAgg396
 z146:=sizeOf396
 v146:=zeroValue396
 g1:=by kernel_rfl}
open Go.RowKit Go.Lib in
theorem strings_Contains_one(s:y_)(c:UInt8)(w:World):
  Calls Tryz.prog 141 #[.string s,.string ⟨#[c]⟩] w λe w'=>e= .returned (.bool<|decide<|0<=Lib.indexByte s.data.toList c)/\w'=w:=Any.strings_Contains_one bd6 s c w
def MH:Go.Shelf.Ren:=⟨λ|219=>258|217=>287|225=>293|224=>294|267=>295|266=>324|314=>329|n=>n,λ|9=>9|3=>3|4=>4|5=>5|46=>349|146=>396|51=>382|n=>n,λ|1=>0|n=>n⟩
def ay3:Go.Proofs.LaysM.n219 Tryz.prog MH:= {
 mixed:=kK
 f217:=du func287
 f219:=du func258
 f224:=du func294
 f225:=du func293
 f266:=du func324
 f267:=du func295
 f314:=du func329
 t3:=underlying3
 a3:=isAgg3
 z3:=sizeOf3
 v3:=zeroValue3
 t4:=underlying4
 a4:=isAgg4
 z4:=sizeOf4
 v4:=zeroValue4
 t5:=underlying5
 a5:=isAgg5
 z5:=sizeOf5
 v5:=zeroValue5
 t9:=underlying9
 a9:=isAgg9
 z9:=sizeOf9
 v9:=zeroValue9
 t46:=underlying349
 a46:=isAgg349
 z46:=sizeOf349
 v46:=zeroValue349
 t51:=underlying382
 a51:=isAgg382
 z51:=sizeOf382
 v51:=zeroValue382
 t146:=underlying396
 a146:=isAgg396
 z146:=sizeOf396
 v146:=zeroValue396
 g1:=kK
 i3:=kK
 i4:=kK
 i5:=kK
 i9:=kK
 i46:=kK
 i51:=kK
 i146:=kK
 m1:=kK
 s1_3:=λw h=>Go.Proofs.cell_of_shapedOpen_int (zero:= #[.int .i64 0]) (t:=3) h (cn kK) kK rfl kK kK underlying3}
def bu6:Go.Shelf.Ren:=⟨λ|206=>292|n=>n,λ|9=>9|4=>4|3=>3|n=>n,λ|n=>n⟩
def Tg:Go.Shelf.Ren:=⟨λ|99=>257|206=>292|n=>n,λ|9=>9|4=>4|3=>3|n=>n,λ|n=>n⟩
def bC1:Go.Proofs.Lays.n99 Tryz.prog Tg:= {
 mixed:=kK
 f99:=du func257
 f206:=du func292
 t3:=underlying3
 a3:=isAgg3
 z3:=sizeOf3
 v3:=zeroValue3
 t4:=underlying4
 a4:=isAgg4
 z4:=sizeOf4
 v4:=zeroValue4
 t9:=underlying9
 a9:=isAgg9
 z9:=sizeOf9
 v9:=zeroValue9}
open Go.RowKit Go.Lib in
theorem strings_HasPrefix(s p:y_)(w:World):
  Calls Tryz.prog 257 #[.string s,.string p] w λe w'=>e= .returned (.bool<|Lib.hasPrefix s.data.toList p.data.toList)/\w'=w:=Any.strings_HasPrefix bC1 s p w
def PB:Go.Shelf.Ren:=⟨λ|101=>286|208=>323|206=>292|n=>n,λ|9=>9|4=>4|3=>3|n=>n,λ|n=>n⟩
def bd7:Go.Proofs.Lays.n101 Tryz.prog PB:= {
 mixed:=kK
 f101:=du func286
 f206:=du func292
 f208:=du func323
 t3:=underlying3
 a3:=isAgg3
 z3:=sizeOf3
 v3:=zeroValue3
 t4:=underlying4
 a4:=isAgg4
 z4:=sizeOf4
 v4:=zeroValue4
 t9:=underlying9
 a9:=isAgg9
 z9:=sizeOf9
 v9:=zeroValue9}
open Go.RowKit Go.Lib in
theorem strings_TrimPrefix(s p:y_)(w:World):
  Calls Tryz.prog 286 #[.string s,.string p] w λe w'=>e= .returned (.string ⟨(Lib.trimPrefix s.data.toList p.data.toList).toArray⟩)/\w'=w:=Any.strings_TrimPrefix bd7 s p w
def bu7:Go.Shelf.Ren:=⟨λ|221=>291|268=>328|138=>288|143=>208|195=>325|197=>289|218=>326|219=>258|260=>327|217=>287|225=>293|224=>294|267=>295|266=>324|314=>329|n=>n,λ|9=>9|3=>3|31=>68|4=>4|0=>0|105=>360|21=>21|5=>5|46=>349|119=>413|139=>416|138=>415|146=>396|51=>382|n=>n,λ|1=>0|3=>1|4=>2|n=>n⟩
def PC:Go.Shelf.Ren:=⟨λ|146=>256|221=>291|268=>328|138=>288|143=>208|195=>325|197=>289|218=>326|219=>258|260=>327|217=>287|225=>293|224=>294|267=>295|266=>324|314=>329|n=>n,λ|9=>9|31=>68|3=>3|4=>4|0=>0|105=>360|21=>21|5=>5|46=>349|119=>413|139=>416|138=>415|146=>396|51=>382|n=>n,λ|1=>0|3=>1|4=>2|n=>n⟩
def bd8:Go.Proofs.Lays.n146 Tryz.prog PC:= {
 mixed:=kK
 f138:=du func288
 f143:=du func208
 f146:=du func256
 f195:=du func325
 f197:=du func289
 f217:=du func287
 f218:=du func326
 f219:=du func258
 f221:=du func291
 f224:=du func294
 f225:=du func293
 f260:=du func327
 f266:=du func324
 f267:=du func295
 f268:=du func328
 f314:=du func329
 t0:=underlying0
 a0:=isAgg0
 z0:=sizeOf0
 v0:=zeroValue0
 t3:=underlying3
 a3:=isAgg3
 z3:=sizeOf3
 v3:=zeroValue3
 t4:=underlying4
 a4:=isAgg4
 z4:=sizeOf4
 v4:=zeroValue4
 t5:=underlying5
 a5:=isAgg5
 z5:=sizeOf5
 v5:=zeroValue5
 t9:=underlying9
 a9:=isAgg9
 z9:=sizeOf9
 v9:=zeroValue9
 t21:=underlying21
 a21:=isAgg21
 z21:=sizeOf21
 v21:=zeroValue21
 t31:=underlying68
 a31:=isAgg68
 z31:=sizeOf68
 v31:=zeroValue68
 t46:=underlying349
 a46:=isAgg349
 z46:=sizeOf349
 v46:=zeroValue349
 t51:=underlying382
 a51:=isAgg382
 z51:=sizeOf382
 v51:=zeroValue382
 t105:=underlying360
 a105:=isAgg360
 z105:=sizeOf360
 v105:=zeroValue360
 t119:=underlying413
 a119:=isAgg413
 z119:=sizeOf413
 t138:=underlying415
 a138:=isAgg415
 z138:=sizeOf415
 v138:=zeroValue415
 t139:=underlying416
 a139:=isAgg416
 z139:=sizeOf416
 v139:=zeroValue416
 t146:=underlying396
 a146:=isAgg396
 z146:=sizeOf396
 v146:=zeroValue396
 g1:=kK
 g3:=kK
 g4:=by kernel_rfl}
open Go.RowKit Go.Lib in
theorem strings_Split(s sep:y_)(m:Int)(w:World)(hs:s.size<4294967281)(hm:w.cell? ⟨0,0,none⟩=some (.int .i64 m))(O:1<=sep.size):
  Calls Tryz.prog 256 #[.string s,.string sep] w λe w'=>
   e= .returned (.slice (some ⟨w.heap.size,0,none⟩) (Lib.countB s sep+1)<|Lib.countB s sep+1)/\w'=w.alloc (.cells ((Lib.splitB sep 0 (Lib.countB s sep) s).map Value.string).toArray 9):=Any.strings_Split bd8 kK s sep m w hs hm O
def bu8:Go.Shelf.Ren:=⟨λ|154=>254|138=>288|165=>201|143=>208|166=>64|197=>289|169=>65|195=>325|218=>326|240=>130|241=>255|219=>258|260=>327|276=>202|277=>290|217=>287|225=>293|224=>294|267=>295|266=>324|314=>329|n=>n,λ|9=>9|3=>3|4=>4|72=>159|0=>0|76=>167|105=>360|21=>21|5=>5|70=>156|20=>20|37=>157|75=>166|127=>228|164=>297|46=>349|119=>413|139=>416|138=>415|146=>396|51=>382|80=>169|n=>n,λ|1=>0|3=>1|4=>2|n=>n⟩
def D0:Go.Shelf.Ren:=⟨λ|155=>200|154=>254|138=>288|165=>201|143=>208|166=>64|197=>289|169=>65|195=>325|218=>326|240=>130|241=>255|219=>258|260=>327|276=>202|277=>290|217=>287|225=>293|224=>294|267=>295|266=>324|314=>329|n=>n,λ|9=>9|3=>3|4=>4|72=>159|0=>0|76=>167|105=>360|21=>21|5=>5|70=>156|20=>20|37=>157|75=>166|127=>228|164=>297|46=>349|119=>413|139=>416|138=>415|146=>396|51=>382|80=>169|n=>n,λ|1=>0|3=>1|4=>2|n=>n⟩
def bd9:Go.Proofs.Lays.n155 Tryz.prog D0:= {
 mixed:=kK
 f138:=du func288
 f143:=du func208
 f154:=du func254
 f155:=du func200
 f165:=du func201
 f166:=du func64
 f169:=du func65
 f195:=du func325
 f197:=du func289
 f217:=du func287
 f218:=du func326
 f219:=du func258
 f224:=du func294
 f225:=du func293
 f240:=du func130
 f241:=du func255
 f260:=du func327
 f266:=du func324
 f267:=du func295
 f276:=du func202
 f277:=du func290
 f314:=du func329
 t0:=underlying0
 a0:=isAgg0
 z0:=sizeOf0
 v0:=zeroValue0
 t3:=underlying3
 a3:=isAgg3
 z3:=sizeOf3
 v3:=zeroValue3
 t4:=underlying4
 a4:=isAgg4
 z4:=sizeOf4
 v4:=zeroValue4
 t5:=underlying5
 a5:=isAgg5
 z5:=sizeOf5
 v5:=zeroValue5
 t9:=underlying9
 a9:=isAgg9
 z9:=sizeOf9
 v9:=zeroValue9
 t20:=underlying20
 a20:=isAgg20
 z20:=sizeOf20
 v20:=zeroValue20
 t21:=underlying21
 a21:=isAgg21
 z21:=sizeOf21
 v21:=zeroValue21
 t37:=underlying157
 a37:=isAgg157
 z37:=sizeOf157
 v37:=zeroValue157
 t46:=underlying349
 a46:=isAgg349
 z46:=sizeOf349
 v46:=zeroValue349
 t51:=underlying382
 a51:=isAgg382
 z51:=sizeOf382
 v51:=zeroValue382
 t70:=underlying156
 a70:=isAgg156
 z70:=sizeOf156
 v70:=zeroValue156
 t72:=underlying159
 a72:=isAgg159
 z72:=sizeOf159
 v72:=zeroValue159
 t75:=underlying166
 a75:=isAgg166
 z75:=sizeOf166
 v75:=zeroValue166
 t76:=underlying167
 a76:=isAgg167
 z76:=sizeOf167
 v76:=zeroValue167
 t105:=underlying360
 a105:=isAgg360
 z105:=sizeOf360
 v105:=zeroValue360
 t119:=underlying413
 a119:=isAgg413
 z119:=sizeOf413
 t127:=underlying228
 a127:=isAgg228
 z127:=sizeOf228
 v127:=zeroValue228
 t138:=underlying415
 a138:=isAgg415
 z138:=sizeOf415
 v138:=zeroValue415
 t139:=underlying416
 a139:=isAgg416
 z139:=sizeOf416
 v139:=zeroValue416
 t146:=underlying396
 a146:=isAgg396
 z146:=sizeOf396
 v146:=zeroValue396
 t164:=underlying297
 a164:=isAgg297
 z164:=sizeOf297
 v164:=zeroValue297
 g1:=kK
 g3:=kK
 g4:=by kernel_rfl}
def Bi:Builder.Extra Tryz.prog D0:= {
 sizeBuilder:=kK
 liesBuilder:=kK
 t5:=underlying5
 a5:=isAgg5
 z5:=sizeOf5
 v5:=zeroValue5
 infoByte:=kK
 cellsByte:=kK
 sizeByte:=kK
 neB5:=by decide}
open Go.RowKit Go.Lib in
theorem strings_ReplaceAll(s old new:y_)(m:Int)(w:World)(hs:s.size<4294967281)(hm:w.cell? ⟨0,0,none⟩=some (.int .i64 m))(O:1<=old.size)(hlen:s.size+Lib.countB s old*new.size<=140737488355328):
  Calls Tryz.prog 200 #[.string s,.string old,.string new] w λe w'=>
   e= .returned (.string ⟨(Lib.replaceAll s.data.toList old.data.toList new.data.toList).toArray⟩)/\Below w.heap.size w w':=Any.strings_ReplaceAll bd9 Bi s old new m w hs hm O hlen
end
end Go.Proofs
namespace Go.Proofs.YtnpcbfcfcjdhlaaGreatDoor
section
open Go.PS Wf Go.RowKit
def B(l:l_ UInt8):y_:=⟨l.toArray⟩
@[simp] theorem Th (l:l_ UInt8):(B l).data.toList=l:=rfl
theorem ZM(s:y_):B s.data.toList=s:=rfl
@[simp] theorem jG (l:l_ UInt8):(B l).size=l.length:=by show l.toArray.size=_;simp
theorem jP(l m:l_ UInt8):B l++B m=B (l++m):=by apply sK;rw[bb4];simp [B]
def sD(c:UInt8):l_ UInt8->l_ UInt8×l_ UInt8×Bool
 | []=>([],[],false)
 |b::l=>if b=c then([],l,true)else(b::(sD c l).1,(sD c l).2)
def bS(c:UInt8):l_ UInt8->l_ (l_ UInt8)
 | []=> [[]]
 |b::l=>if b=c then []::bS c l else match bS c l with
  |x::r=>(b::x)::r
  | []=> [[b]]
def lS(c b:UInt8)(l:l_ UInt8):bS c (b::l)=if b=c then []::bS c l else match bS c l with
  |x::r=>(b::x)::r
  | []=> [[b]]:=rfl
def Kc(c b:UInt8)(l:l_ UInt8):sD c (b::l)=if b=c then([],l,true)else(b::(sD c l).1,(sD c l).2):=rfl
def Kd(c:UInt8)(l:l_ UInt8):bS c l≠ []:=by
 cases l with
 |nil=>simp [bS]
 |cons b l=>
  unfold bS;split
  .simp
  .split<;>simp
def Hb(b c:UInt8)(l:l_ UInt8):Lib.indexByte (b::l) c=if b==c then 0 else if Lib.indexByte l c== -1 then-1 else Lib.indexByte l c+1:=rfl
theorem index_one(c:UInt8):∀l:l_ UInt8,Lib.index l [c]=Lib.indexByte l c
 | []=>rfl
 |b::l=>by
  unfold Lib.index Lib.indexByte;rw[index_one c l];by_cases h:b=c
  .subst h;simp [List.isPrefixOf]
  .have O:(c==b)=false:=by grind
   have h2:(b==c)=false:=by grind
   simp [List.isPrefixOf,O,h2]
theorem tG(c:UInt8):∀l:l_ UInt8,(0<=Lib.indexByte l c↔c∈l)
 | []=>by simp [Lib.indexByte]
 |b::l=>by
  have ih:=tG c l;have hg:=Lib.indexByte_ge l c;unfold Lib.indexByte;by_cases h:b=c
  .subst h;simp
  .have h2:(b==c)=false:=by grind
   rw[h2];simp only[jZ,ky,fB];by_cases hm:Lib.indexByte l c= -1
   .have hn: ¬c∈l:=λh=>by have:=ih.2 h;omega
    rw[hm];have hcb: ¬c=b:=by grind
    simp [hn,hcb]
   .have h0:0<=Lib.indexByte l c:=U;have:(Lib.indexByte l c== -1)=false:=by simpa using hm
    rw[this];simp [ih.1 h0];omega
theorem FC(c:UInt8):∀l:l_ UInt8,Lib.cut l [c]=sD c l
 | []=>by unfold Lib.cut;rw[index_one];simp [Lib.indexByte,sD]
 |b::l=>by
  have ih:=FC c l;have hg:=Lib.indexByte_ge l c;unfold Lib.cut at ih⊢;rw[index_one]at ih⊢;unfold sD;rw[<-ih,Hb];by_cases h:b=c
  .subst h;simp
  .have h2:(b==c)=false:=by grind
   rw[h2,if_neg h];simp only[jZ,ky];by_cases hm:Lib.indexByte l c= -1
   .rw[hm];simp
   .have:(Lib.indexByte l c== -1)=false:=by simpa using hm
    have h0:0<=Lib.indexByte l c:=U;rw[this];simp only[jZ,ky];rw[if_pos U,if_pos h0];have e:(Lib.indexByte l c+1).toNat=(Lib.indexByte l c).toNat+1:=U;rw[e,List.take_succ_cons];have e2:(Lib.indexByte l c).toNat+1+ [c].length=(Lib.indexByte l c).toNat+ [c].length+1:=U;rw[e2,List.drop_succ_cons]
theorem oW(c:UInt8):∀l:l_ UInt8,bS c l=if(sD c l).2.2 then(sD c l).1::bS c (sD c l).2.1 else [l]
 | []=>rfl
 |b::l=>by
  have ih:=oW c l;rw[lS,Kc];by_cases h:b=c
  .simp [h]
  .rw[if_neg h,if_neg h];cases hb:(sD c l).2.2 with
   |true=>rw[hb]at ih;rw[ih];simp
   |false=>rw[hb]at ih;rw[ih];simp
theorem PD(c:UInt8):∀l:l_ UInt8,(sD c l).2.2=true->(sD c l).2.1.length<l.length
 | []=>by simp [sD]
 |b::l=>by
  unfold sD;by_cases h:b=c
  .simp [h]
  .rw[if_neg h];intro hb;have:=PD c l hb;simp only[iP];omega
theorem tH(c:UInt8):∀(fuel:Nat) (l:l_ UInt8),l.length<fuel->Lib.countFrom [c] fuel l+1=(bS c l).length
 |0,l,h=>absurd h (jC _)
 |fuel+1,l,h=>by
  rw[oW];have Y:=FC c l;unfold Lib.cut at Y;unfold Lib.countFrom;have hg:=Lib.index_ge l [c];by_cases hi:Lib.index l [c]= -1
  .rw[if_neg U]at Y;rw[<-Y,hi];simp
  .rw[if_pos U]at Y;have hl:=PD c l (by rw[<-Y]);rw[<-Y]at hl;have:(Lib.index l [c]== -1)=false:=by simpa using hi
   rw[<-Y,this];simp only[jZ,ky,rH,iP];have:=tH c fuel (l.drop<|(Lib.index l [c]).toNat+ [c].length) (by simp only at hl;omega);simp only[iP,qj]at this⊢;omega
theorem Hc(c:UInt8):∀(k:Nat) (l:l_ UInt8),(bS c l).length=k+1->Lib.splitK [c] 0 k l=bS c l
 |0,l,h=>by
  rw[oW]at h⊢;cases hb:(sD c l).2.2 with
  |true=>rw[hb]at h;simp at h;exact absurd h<|Kd _ _
  |false=>rfl
 |k+1,l,h=>by
  rw[oW]at h⊢;have Y:=FC c l;unfold Lib.cut at Y;unfold Lib.splitK;have hg:=Lib.index_ge l [c];by_cases hi:Lib.index l [c]= -1
  .rw[if_neg U]at Y;rw[<-Y]at h;simp at h
  .rw[if_pos U]at Y;have:(Lib.index l [c]== -1)=false:=by simpa using hi
   rw[this];rw[<-Y]at h⊢;simp only[jZ,ky,rH,iP]at h⊢;rw[<-Hc c k _ U];simp
def zz(c:UInt8)(s:y_):Lib.countB s ⟨#[c]⟩+1=(bS c s.data.toList).length:=by have:=tH c (s.data.toList.length+1) s.data.toList U;exact this
def Ti(c:UInt8)(s:y_):Lib.splitB ⟨#[c]⟩ 0 (Lib.countB s ⟨#[c]⟩) s=(bS c s.data.toList).map B:=by
 have h:=Lib.splitB_data ⟨#[c]⟩ 0 (Lib.countB s ⟨#[c]⟩) s;have h2:=Hc c (Lib.countB s ⟨#[c]⟩) s.data.toList (zz c s).symm;have h3:(⟨#[c]⟩:y_).data.toList=[c]:=rfl;rw[h3,h2]at h;rw[<-h,qP];have:B∘(λx:y_=>x.data.toList)=id:=by funext x;rfl
 rw[this,xE]
def Tj(w:World)(n:Nat)(os:Array Obj):Below w.heap.size w (Go.Sort.grow (w.drewN n) os):=by refine⟨rfl,rfl,rfl,by show w.heap.size<=(w.heap++os).size;simp,λb hb=> ?_⟩;show(w.heap++os)[b]?=w.heap[b]?;rw[Fe hb]
def WG {w:World} {Sa:Nat->Prop} {us vs:l_ Value}(hl:vs.length=(us.map J.sc).length)(h:∀(i:Nat) x v,(us.map J.sc)[i]?=some x->vs[i]?=some v->cf w Sa x v):vs=us:=by
 apply k6;intro i;rw[gS]at hl;by_cases hi:i<us.length
 .have O:us[i]?=some us[i]:=sS;have h2:vs[i]?=some (vs[i]' U):=sS;have h3:=h i (.sc us[i]) _ (by rw[b9,O];rfl) h2;rw[O,h2];generalize us[i]=a at*;generalize vs[i]' U=b at*;cases h3;rfl
 .rw[gx U,gx U]
def Hd {f:Nat} {us:l_ Value} {v:Value}(F:enters P f=true)(h:∀w,GI P w->Calls P f us.toArray w λe w'=>e= .returned v/\Below w.heap.size w w'):Ok P f (us.map J.sc) (.sc v):=by refine⟨F,λw Sa vs hG _ hl ha=> ?_⟩;obtain rfl:=WG hl ha;refine(h w hG).mono ?_;rintro e w' ⟨rfl,hb⟩;exact⟨_,rfl,hb,.sc _⟩
def Jp(s p:y_):Ok P 286 [S s,S p] (S<|B<|Lib.trimPrefix s.data.toList p.data.toList):=
 Hd (us:=[.string s,.string p]) kK λw _=>(strings_TrimPrefix s p w).mono λe w' ⟨O,h2⟩=>⟨O,h2▸Below.refl _ _⟩
def MI(s p:y_):Ok P 257 [S s,S p] (Bo<|Lib.hasPrefix s.data.toList p.data.toList):=
 Hd (us:=[.string s,.string p]) kK λw _=>(strings_HasPrefix s p w).mono λe w' ⟨O,h2⟩=>⟨O,h2▸Below.refl _ _⟩
def MJ(s:y_)(c:Int):Ok P 253 [S s,U8 c] (I<|Lib.indexByte s.data.toList c.toNat.toUInt8):=
 Hd (us:=[.string s,.int .u8 c]) kK λw _=>(strings_IndexByte s c w).mono λe w' ⟨O,h2⟩=>⟨O,h2▸Below.refl _ _⟩
def Jq(s old new:y_)(hs:s.size<4294967281)(O:1<=old.size)(hlen:s.size+Lib.countB s old*new.size<=140737488355328):Ok P 200 [S s,S old,S new] (S<|B<|Lib.replaceAll s.data.toList old.data.toList new.data.toList):=
 Hd (us:=[.string s,.string old,.string new]) kK λw hG=>by obtain⟨n,hn⟩:=hG.max;exact strings_ReplaceAll s old new n w hs hn O hlen
def wT(s:y_)(c:UInt8):Ok P 141 [S s,S ⟨#[c]⟩] (Bo<|s.data.toList.contains c):=by
 have e:decide (0<=Lib.indexByte s.data.toList c)=s.data.toList.contains c:=by rw[ea,bK,tG,uZ]
 rw[<-e];exact Hd (us:=[.string s,.string ⟨#[c]⟩]) kK λw _=>(strings_Contains_one s c w).mono λe w' ⟨O,h2⟩=>⟨O,h2▸Below.refl _ _⟩
def MK(n:Int)(h0: -9223372036854775808<=n)(O:n<=9223372036854775807):Ok P 316 [I n,I 10] (S<|B<|Lib.itoa n):=
 Hd (us:=[.int .i64 n,.int .i64 10]) kK λw hG=>by
  refine(strconv_FormatInt_10 n h0 O w ?_).mono ?_
  .obtain⟨et,fz,h⟩:=hG.pow;unfold Lib.TabIs World.var?;rw[show Tryz.prog.globalNamed _=some 3 by kernel_rfl];simp only[Aq,h]
  .rintro e w' ⟨rfl,k,os,rfl⟩;exact⟨rfl,Tj w k os⟩
def He(l:l_ (l_ UInt8)):J:= .rf l.length λi=> [S<|B<|l.getD i []]
def ay4(s:y_)(c:UInt8)(hs:s.size<4294967281):Ok P 256 [S s,S ⟨#[c]⟩] (He<|bS c s.data.toList):=by
 refine⟨kK,λw Sa vs hG _ hl ha=> ?_⟩;obtain rfl:=WG (us:=[.string s,.string ⟨#[c]⟩]) hl ha;obtain⟨n,hn⟩:=hG.max;refine(strings_Split s ⟨#[c]⟩ n w hs hn<|bE _).mono ?_;rintro e w' ⟨rfl,rfl⟩;refine⟨_,rfl,(Below.refl _ _).alloc (bE _) _,?_⟩;rw[Ti,zz];generalize hL:bS c s.data.toList=L;refine .rf _ _ _ ?_;have hlen:((List.range L.length).map λi=> [S<|B<|L.getD i []]).length=L.length:=sS;have:=cf.ro (w:=w.alloc (.cells ((L.map B).map Value.string).toArray 9)) (S:=λb=>Sa b\/w.heap.size<=b/\b<(w.alloc<|.cells ((L.map B).map Value.string).toArray 9).heap.size) ((List.range L.length).map λi=> [S<|B<|L.getD i []]) w.heap.size 0 L.length 1
  ((L.map B).map Value.string).toArray 9 (0,0) (.inr ⟨bE _,sS⟩) (dJ _ _) sS sS sS (by
   intro i j e p v q1 q2 q3;rw[b9]at q1;cases hi:(List.range L.length)[i]? with
   |none=>rw[hi]at q1;cases q1
   |some k=>
    rw[hi]at q1;simp only[jz,mo]at q1;have oR:i<L.length:=by have:=(bm.1 hi).1;simpa using this
    have hk:k=i:=by simp [oR]at hi;exact hi.symm
    subst hk;subst q1;cases j with
    |succ j=>simp at q2
    |zero=>
     simp at q2;subst q2;simp [oR]at q3;subst q3;rw[bX oR];exact .sc _)
 rw[hlen]at this;exact this
def pO(x:bh y_):l_ (l_ UInt8):=(List.range x.n).map λi=>(x.f i).data.toList
def FD(x:bh y_)(sep:y_)(hx:x.n<=140737488355328)(hlen:(Lib.join (pO x) sep.data.toList).length<=140737488355328):Ok P 129 [(ak y_).au x,S sep] (S<|B<|Lib.join (pO x) sep.data.toList):=by
 refine⟨kK,λw Sa vs hG iH hl ha=> ?_⟩
 match vs,hl with
 | [a,b],_=>
  have O:=ha 0 _ a rfl rfl;have h2:=ha 1 _ b rfl rfl;cases h2;cases O with
  |rf _ _ _ O=>
   generalize kC:(List.range x.n).map (λi=>aY.cells (x.f i))=es at O;have hn:es.length=x.n:=by rw[<-kC];simp
   cases O with
   |Fu a cap=>
    have h0:x.n=0:=by rw[<-hn];rfl
    have e:pO x=[]:=by unfold pO;rw[h0];rfl
    refine(strings_Join_none a cap sep w).mono ?_;rintro e' w' ⟨rfl,rfl⟩;refine⟨_,rfl,Below.refl _ _,?_⟩;rw[e];exact .sc _
   |ro _ bk o cap sz c et fz hS hb hz nQ iq Y=>
    have hxs:pO x=((List.range x.n).map x.f).map (·.data.toList):=by unfold pO;rw[qP];rfl
    have Zr:((List.range x.n).map x.f).length=es.length:=by rw[hn];simp
    rw[hxs]at hlen⊢;have:=strings_Join bk o cap ((List.range x.n).map x.f) sep w (λj y hj=>by
     have Cj:j<x.n:=by have:=(bm.1 hj).1;simpa using this
     have hy:y=x.f j:=by rw[b9,qh Cj]at hj;exact(ku hj).symm
     subst hy;have F:es[j]?=some [S<|x.f j]:=by rw[<-kC,b9,qh Cj];rfl
     have kZ:sz=1:=by have:=hz _<|cw F;simpa using this.symm
     subst kZ;have hjc:o+j<c.size:=by have:j<es.length:=U;omega
     have hg:c[o+j]?=some c[o+j]:=sS;have N:=Y j 0 [S (x.f j)] (S (x.f j)) c[o+j] F rfl (by simp [hjc]);rw[cell_of hb,hg];generalize c[o+j]=d at*;cases N;rfl) (iH _ hS) (by rw[Zr,hn];exact hx) (by rw[Zr];exact iq) hlen
    rw[Zr]at this;refine this.mono ?_;rintro e' w' ⟨rfl,Sy⟩;exact⟨_,rfl,Sy,.sc _⟩
def Tk {n:Nat} {b:Nat->Bool}:((aE n b:Int)<(n:Int))↔ar n b=true:=by rw[<-dw];omega
def ay5(b:Bool): ¬(b=true)↔b=false:=by rw[mZ]
end
section
open Go.PS Wf
def E1:Env:=aF 286 (bN (a2 aQ aQ) λx=>S (B<|Lib.trimPrefix x.1.data.toList x.2.data.toList))<|aF 253 (bN (a2 aQ<|oD .u8) λx=>I (Lib.indexByte x.1.data.toList x.2.toNat.toUInt8)) E0
def PE:an P E1:=ah (ah (Ba P) λx _=>MJ x.1 x.2) λx _=>Jp x.1 x.2
def PF(c:UInt8):Bool:=decide<|97<=c.toNat/\c.toNat<=122
def be0(c:UInt8):Bool:=decide<|48<=c.toNat/\c.toNat<=57\/c.toNat=45\/c.toNat=95
def CF(l:l_ UInt8)(i:Nat):Bool:= !(PF (l.getD i 0)||(decide (i≠0)&&be0 (l.getD i 0)))
def gn(l:l_ UInt8):Bool:=decide (1<=l.length/\l.length<=32)&& !ar l.length (CF l)
def Ke(l:l_ UInt8):l_ UInt8:=if l.getD 0 0=33 then l.drop 1 else l
def qF(l:l_ UInt8):Bool:=gn<|Ke l
def PG(l:l_ UInt8)(i:Nat):Bool:= !(PF (l.getD i 0)||be0 (l.getD i 0))
def bF {b:Bool} {p:Prop}(h:b=true↔p)(hp: ¬p):b=false:=by grind
def noT {b:Bool}(O:b=false)(h2:b=true):False:=by rw[O]at h2;cases h2
def ay6(c:UInt8):PF c=true↔97<=c.toNat/\c.toNat<=122:=by unfold PF;exact bp
def ay7(l:l_ UInt8)(i:Nat):PG l i=true↔ ¬((97<=(l.getD i 0).toNat/\(l.getD i 0).toNat<=122)\/(48<=(l.getD i 0).toNat/\(l.getD i 0).toNat<=57\/(l.getD i 0).toNat=45\/(l.getD i 0).toNat=95)):=by unfold PG PF be0;rw[gl,<-mZ,jA,bp,bp]
def ay8(l:l_ UInt8):gn l=(decide (1<=l.length/\l.length<=32)&&PF (l.getD 0 0)&& !ar l.length (PG l)):=by
 unfold gn;by_cases h:1<=l.length/\l.length<=32
 .rw[cd h,Az,Az];cases h0:PF (l.getD 0 0)with
  |false=>
   have:ar l.length (CF l)=true:=cG.2 ⟨0,h.1,by simp only[CF,h0];rfl⟩;rw[this];rfl
  |true=>
   rw[Az];congr 1;refine ng λi _=> ?_;unfold CF PG;by_cases hi:i=0
   .subst hi;rw[h0];rfl
   .rw[cd hi,Az]
 .rw[fq h,Bool.false_and,Bool.false_and,Bool.false_and]
def bV5(l:l_ UInt8):B l=n_↔l.length=0:=by
 constructor
 .intro h;have:=ba (λs:y_=>s.data.toList.length) h;exact this
 .intro h;obtain rfl:=oL h;rfl
def ZN(l:l_ UInt8):gn l=true↔(1<=l.length/\l.length<=32)/\(97<=(l.getD 0 0).toNat/\(l.getD 0 0).toNat<=122)/\ar l.length (PG l)=false:=by rw[ay8,fG,fG,bp,ay6,gl];exact and_assoc
def pP(t:y_):t=n_↔t.size=0:=by have:=bV5 t.data.toList;rw[ZM]at this;rw[this,Lib.size_eq]
def ZO(t:y_):gn t.data.toList=true↔(1<=t.size/\t.size<=32)/\(97<=(t.data.toList.getD 0 0).toNat/\(t.data.toList.getD 0 0).toNat<=122)/\ar t.size (PG t.data.toList)=false:=by rw[Lib.size_eq];exact ZN _
def bu9(t:y_)(i:Nat):l_ J:=(M 55 [(0,S t),(2,.bit false),(23,.bit false),(25,I t.size),(26,I i)])
def bv0(t:y_):LT:= .ite (ar t.size<|PG t.data.toList) (.out .ret (M 55 [(2,.bit false)]) [])<|.out (.ext 0) (M 55 [(2,.bit false)]) []
def bV6(t:y_)(ht:t.size<=aq):aO P (aD f251 5) (bu9 t 0) [] (bv0 t):=
 aq5 (st:=bu9 t) (x:=λ_=>(.ret,(M 55 [(2,.bit false)]),[])) (y:=(.ext 0,(M 55 [(2,.bit false)]),[])) λi hi lt aW az aR=>by
  refine ao PE L0 [0,2,23,25,26] [2] (let V:nV:=(bR (M 55 [(0,S t),(2,aP),(23,aP),(25,I t.size),(26,I<|oU<|(i:Int)+1)]) []);let aG:=(↑(t.data.toList.getD i 0).toNat:Int);let bn:=M 55 [(2,aP)];let Z:nV:=(.u aG 45 (.u aG 95 (kG bn []) V) V);let aS:nV:=(.d (aG<48) Z<|.d (aG>57) Z V);(.d ((i:Int)<t.size) (.g i t.size<|.d (aG<97) aS<|.d (aG>122) aS V)<|fv 0 bn [])) ?_;have Y:=ay7 t.data.toList i;simp only[av]
  (repeat' with_reducible first|intro _|apply aNd_)<;>first|exact aM|(rw[bZ (n:=t.size) U ht];exact aW U (bF Y U))
def b70(t:y_):gD:=λ_=>([0,2,23,25,26],[],λ_ _=>bv0 t)
def ZP(s:y_)(hs:s.size<=aq):Ok P 251 [S s] (Bo<|qF s.data.toList):=by
 have ht:(B<|Lib.trimPrefix s.data.toList [33]).size<=aq:=by rw[jG];exact cm (Lib.trimPrefix_le _ _) (by rw[<-Lib.size_eq];exact hs)
 have F:qF s.data.toList=gn (B<|Lib.trimPrefix s.data.toList [33]).data.toList:=by
  rw[Th];unfold qF Ke Lib.trimPrefix;congr 1;cases s.data.toList with
  |nil=>rfl
  |cons b l=>
   by_cases hb:b=33
   .subst hb;simp [Lib.hasPrefix,List.isPrefixOf]
   .have hb2:(33==b)=false:=by grind
    simp [Lib.hasPrefix,List.isPrefixOf,hb,hb2]
 rw[F];refine al PE (b70<|B<|Lib.trimPrefix s.data.toList [33]) (let Z:=B (Lib.trimPrefix s.data.toList [33]);let V:=B (Lib.trimPrefix s.data.toList (#[33]:Array UInt8).toList);let aG:=(M 55 [(0,S Z),(2,aP),(23,aP),(25,I Z.size),(26,I 0)]);let aS:=(↑(V.data.toList.getD 0 0).toNat:Int);let bn:=[(0:Int)<=0,(0:Int)<(Z.size:Int)];(.v (a2 aQ aQ) (s,(⟨#[33]⟩:y_))<|.n (dN V (n_:y_)) bI<|.d ((V.size:Int)>32) bI<|.o bn<|.d (aS<97) bI<|.o bn<|.d (aS>122) bI<|.n (ar Z.size<|PG Z.data.toList) (.o [ax P (aD f251 5) aG [] (Out.ret) (M 55 [(2,aP)]) []] bI)<|.o [ax P (aD f251 5) aG [] (Out.ext 0) (M 55 [(2,aP)]) []] fo)) ?_;have lp:=bV6 _ ht;generalize B (Lib.trimPrefix s.data.toList [33])=t at*;have hz:=pP t;have hu:=ZO t;simp only[av,bK,bO,aL]
 (repeat' with_reducible first|intro _|apply aNd_)<;>first|exact aM|(rw[hz]at*;omega)|exact ba Bo (bF hu (by rw[hz]at*;omega)).symm|exact ba Bo (bF hu λh=>noT h.2.2 W).symm|exact ba Bo (hu.2 ⟨by rw[hz]at*;omega,U,W⟩).symm
def yO(b:UInt8)(k:Nat)(hk:k<256):b=UInt8.ofNat k↔(b.toNat:Int)=k:=by
 constructor
 .rintro rfl;rw[UInt8.toNat_ofNat_of_lt' hk]
 .intro h;apply xF.1;rw[UInt8.toNat_ofNat_of_lt' hk];omega
def b71(b:UInt8):(Int.toNat (b.toNat:Int)).toUInt8=b:=sS
def pQ(s t:y_)(i:Nat):Bool:=t.data.toList.contains<|s.data.toList.getD i 0
def ZQ(s t:y_)(i:Nat):pQ s t i=true↔0<=Lib.indexByte t.data.toList (s.data.toList.getD i 0):=by unfold pQ;rw[tG,uZ]
def bV7(s t:y_)(i:Nat):l_ J:=(M 21 [(0,S s),(1,S t),(4,I 0),(7,I s.size),(8,I i)])
def b72(s t:y_):gD:=λ_=>([0,1,4,7,8],[],λ_ _=> .ite (ar s.size<|pQ s t) (.out .ret (M 21 [(0,S s),(4,I<|aE s.size<|pQ s t)]) []) (.out (.ext 0) (M 21 [(0,S s),(4,I 0)]) []))
def ay9(s t:y_)(hs:s.size<=aq):Ok P 199 [S s,S t] (I<|aE s.size<|pQ s t):=by
 have lp:=aq5 (P:=P) (c:=aD f199 2) (st:=bV7 s t) (h:=[]) (n:=s.size) (b:=pQ s t) (x:=λi=>(.ret,(M 21 [(0,S s),(4,I i)]),[])) (y:=(.ext 0,(M 21 [(0,S s),(4,I 0)]),[])) λi hi lt aW az aR=>by refine ao PE L0 [0,1,4,7,8] [0,4] (let Z:=(↑(s.data.toList.getD i 0).toNat:Int);(.d ((i:Int)<s.size) (.g i s.size<|.v (a2 aQ<|oD IntKind.u8) (t,Z)<|.d (Lib.indexByte t.data.toList Z.toNat.toUInt8>=0) (kG (M 21 [(0,S s),(4,I i)]) [])<|bR (M 21 [(0,S s),(1,S t),(4,I 0),(7,I s.size),(8,I<|oU<|(i:Int)+1)]) [])<|fv 0 (M 21 [(0,S s),(4,I 0)]) [])) ?_;have Y:=ZQ s t i;simp only[b71];exact ft
 refine al PE (b72 s t) (jS lp (.e<|I (↑(aE s.size<|pQ s t):Int))<|.e<|I s.size) ?_;simp only[av]
 (repeat' with_reducible first|intro _|apply aNd_)<;>first|exact aM|(rw[DV<|bc.1 W])
def Kf(s:y_):Ok P 190 [S s] (Bo<|decide<|s.data.toList.getD 0 0=33/\0<s.size):=by
 refine al (Ba P) L0 (.d ((s.size:Int)>0) (.o [(0:Int)<=0,(0:Int)<(s.size:Int)]<|.e<|Bo<|(↑(s.data.toList.getD 0 0).toNat:Int)==33) bI) ?_;have h33:s.data.toList.getD 0 0=33↔((s.data.toList.getD 0 0).toNat:Int)=33:=yO _ 33 dD;simp only[av]
 (repeat' with_reducible first|intro _|apply aNd_)<;>first|exact aM|(refine ba Bo ?_;rw[ea];simp only[ev,bK,h33];omega)|exact ba Bo (bF bp U).symm
def E2:Env:=aF 190 (bN (a1 aQ) λs=>Bo (decide<|s.data.toList.getD 0 0=33/\0<s.size)) E1
def PH:an P E2:=ah PE λs _=>Kf s
def uo(l:l_ UInt8)(i:Nat):CF l i=true↔ ¬((97<=(l.getD i 0).toNat/\(l.getD i 0).toNat<=122)\/i≠0/\(48<=(l.getD i 0).toNat/\(l.getD i 0).toNat<=57\/(l.getD i 0).toNat=45\/(l.getD i 0).toNat=95)):=by unfold CF PF be0;rw[gl,<-mZ,jA,fG,bp,bp,bp]
def uq(t:y_):gn t.data.toList=true↔(1<=t.size/\t.size<=32)/\ar t.size (CF t.data.toList)=false:=by unfold gn;rw[fG,bp,gl,Lib.size_eq]
def bv1(t:y_)(b:Bool)(i:Nat):l_ J:=(M 64 [(0,S t),(2,.bit false),(3,I i),(6,.bit b)])
def bv2(t:y_):LT:= .ite (ar t.size<|CF t.data.toList) (.out .ret (M 64 [(2,.bit false)]) [])<|.out (.ext 0) (M 64 [(0,S t),(2,.bit false)]) []
def bv3(t:y_)(b:Bool)(ht:t.size<=aq):aO P (aD f279 4) (bv1 t b 0) [] (bv2 t):=
 aq5 (st:=bv1 t b) (x:=λ_=>(.ret,(M 64 [(2,.bit false)]),[])) (y:=(.ext 0,(M 64 [(0,S t),(2,.bit false)]),[])) λi hi lt aW az aR=>by
  refine ao PH L0 [0,2,3,6] [10000,2] (let V:nV:=(bR (M 64 [(0,S t),(2,aP),(3,I<|oU<|(i:Int)+1),(6,J.bit b)]) []);let aG:=(↑(t.data.toList.getD i 0).toNat:Int);let bn:=(Out.ret,(M 64 [(2,aP)]),[]);let Z:nV:=(.q aG 45 (.s .fN V)<|.g i t.size<|.n (!aG==95) (.e bn) V);let aS:nV:=(.q i 0 (.e bn)<|.g i t.size<|.g i t.size<|.d (aG>=48) (.d (aG<=57) (.s .fN V)<|.g i t.size Z) Z);(.d ((i:Int)<t.size) (.g i t.size<|.d (aG>=97) (.g i t.size<|.m (decide<|aG<=122) aS V)<|.s .fN aS)<|fv 0 (M 64 [(0,S t),(2,aP)]) [])) ?_;have Y:=uo t.data.toList i;simp only[av,bK,bO,ev,jR,gl,nM]
  (repeat' with_reducible first|intro _|apply aNd_)<;>first|exact aM|(rw[bZ (n:=t.size) U ht];exact aW U (bF Y U))
def b73:gD:=λ_=>([0,2,3,6],[],λT _=>match T with
 | .sc (.string t)::_=>bv2 t
 |_=> .bad)
def Kg(s:y_)(a b:Nat):s.extract a b=B ((s.data.toList.drop a).take<|b-a):=by rw[<-ZM (s.extract a b),Lib.extract_data]
def PI(s:y_):s.extract 1 s.size=B (s.data.toList.drop 1):=by rw[Kg];congr 1;rw[Lib.size_eq];exact wq (by rw[jX];exact bE _)
def az0(s:y_)(hs:s.size<=aq):Ok P 279 [S s] (Bo<|qF s.data.toList):=by
 have O:(s.extract 1 s.size).size<=aq:=by rw[PI,jG,jX,<-Lib.size_eq];omega
 have e1:(s.data.toList.getD 0 0=33/\0<s.size)->qF s.data.toList=gn (s.extract 1 s.size).data.toList:=by rintro⟨h,_⟩;rw[PI,Th];unfold qF Ke;rw[if_pos h]
 have e2: ¬(s.data.toList.getD 0 0=33/\0<s.size)->qF s.data.toList=gn s.data.toList:=by
  intro h;unfold qF Ke;split
  .rename_i h3;refine absurd ⟨h3,?_⟩ h;rw[Lib.size_eq];cases hl:s.data.toList with
   |nil=>rw[hl]at h3;cases h3
   |cons=>exact Nat.succ_pos _
  .rfl
 have l1:=λb=>bv3 (s.extract 1 s.size) b O;have l2:=λb=>bv3 s b hs;refine al PH b73 (let Z:=(M 64 [(0,S<|s.extract 1 s.size),(2,aP),(3,I 0),(6,fZ)]);let V:=(M 64 [(0,S s),(2,aP),(3,I 0),(6,aP)]);(.v (a1 aQ) s<|.d (s.data.toList.getD 0 0=33/\0<s.size) (.o [(0:Int)<=1,(1:Int)<=(s.size:Int),(s.size:Int)<=(s.size:Int)]<|.n (ar (s.extract 1 s.size).size<|CF (s.extract 1 s.size).data.toList) (.o [ax P (aD f279 4) Z [] (Out.ret) (M 64 [(2,aP)]) []] bI)<|.o [ax P (aD f279 4) Z [] (Out.ext 0) (M 64 [(0,S<|s.extract 1 s.size),(2,aP)]) []]<|.d ((↑(s.extract 1 s.size).size:Int)>=1) (.e<|Bo<|decide<|(↑(s.extract 1 s.size).size:Int)<=32) bI)<|.n (ar s.size<|CF s.data.toList) (.o [ax P (aD f279 4) V [] (Out.ret) (M 64 [(2,aP)]) []] bI)<|.o [ax P (aD f279 4) V [] (Out.ext 0) (M 64 [(0,S s),(2,aP)]) []]<|.d ((s.size:Int)>=1) (.e<|Bo<|decide<|(s.size:Int)<=32) bI)) ?_;have u1:=uq<|s.extract 1 s.size;have u2:=uq s;generalize s.extract 1 s.size=t at*;simp only[av]
 (repeat' with_reducible first|intro _|apply aNd_)<;>first|exact aM|exact((l1 _).t W).one|exact((l1 _).f W).one|exact((l2 _).t W).one|exact((l2 _).f W).one|(refine ba Bo ?_;rw[e1 W];first|exact(bF u1 λh=>noT h.2 W).symm|exact(bF u1 (λh=>by have:=h.1;omega)).symm|(rw[ea,u1,bp];exact⟨λ_=>⟨U,W⟩,λh=>by have:=h.1;omega⟩))|(refine ba Bo ?_;rw[e2 W];first|exact(bF u2 λh=>noT h.2 W).symm|exact(bF u2 (λh=>by have:=h.1;omega)).symm|(rw[ea,u2,bp];exact⟨λ_=>⟨U,W⟩,λh=>by have:=h.1;omega⟩))
def ur(m:Int):Bool:=decide<|0<=m/\(m-m%512=0\/m-m%512=2147483648\/m-m%512=1073741824\/m-m%512=536870912\/m-m%512=1610612736)
def ZR(n:Int):Ok P 210 [I n] (I<|min (max n 0) 1099511627776):=by
 refine al aw L0 (.e<|I (if 1099511627776<if 0>n then 0 else n then 1099511627776 else if 0>n then 0 else n)) ?_;simp only[av]
 repeat' with_reducible first|intro _|apply aNd_
 all_goals (refine ba I ?_;simp only[bB9,bc8])
def CG(m:Int):Ok P 175 [I m] (Bo<|decide<|2147483648<=m):=by
 refine al aw L0 (.e<|Bo<|decide<|m>=2147483648) ?_;simp only[av]
 repeat' with_reducible first|intro _|apply aNd_
 all_goals first|exact aM|rfl|exact ga
def WH {m:Int}(h0:0<=m)(h:m<=9223372036854775807):oU (m-m.tmod 512)=m-m%512:=by rw[VW h0,wrap64 U U]
def ZS(m:Int)(h:wf m):Ok P 209 [I m] (Bo<|ur m):=by
 have hm:=h.2;by_cases h0:0<=m
 .
  refine al aw L0 (let Z:=oU (m-m.tmod 512);let V:ix:=fo;(.d (m<0) bI<|.q Z 0 V<|.q Z 2147483648 V<|.q Z 1073741824 V<|.q Z 536870912 V<|.q Z 1610612736 V bI)) ?_;simp only[WH h0 hm];simp only[av]
  repeat' with_reducible first|intro _|apply aNd_
  all_goals first|exact aM|(unfold ur;exact ga)
 .
  refine al aw L0 (let Z:=oU (m-m.tmod 512);let V:ix:=fo;(.d (m<0) bI<|.q Z 0 V<|.q Z 2147483648 V<|.q Z 1073741824 V<|.q Z 536870912 V<|.q Z 1610612736 V bI)) ?_;simp only[av]
  repeat' with_reducible first|intro _|apply aNd_
  all_goals first|exact aM|(unfold ur;exact ga)
def az1(m:Int)(h:wf m):Ok P 239 [I m] (Bo<|ur m):=by
 have hm:=h.2;by_cases h0:0<=m
 .
  refine al aw L0 (let Z:=oU (m-m.tmod 512);let V:ix:=fo;(.d (m<0) bI<|.d (m>=4294967296) bI<|.q Z 0 V<|.q Z 2147483648 V<|.q Z 1073741824 V<|.q Z 536870912 V<|.e<|Bo<|oU (m-m.tmod 512)==1610612736)) ?_;simp only[WH h0 hm];simp only[av]
  repeat' with_reducible first|intro _|apply aNd_
  all_goals first|exact aM|(unfold ur;exact ga)
 .
  refine al aw L0 (let Z:=oU (m-m.tmod 512);let V:ix:=fo;(.d (m<0) bI<|.d (m>=4294967296) bI<|.q Z 0 V<|.q Z 2147483648 V<|.q Z 1073741824 V<|.q Z 536870912 V<|.e<|Bo<|oU (m-m.tmod 512)==1610612736)) ?_;simp only[av]
  repeat' with_reducible first|intro _|apply aNd_
  all_goals first|exact aM|(unfold ur;exact ga)
def qq(m:Int):Bool:=decide<|0<=m/\(m/2147483648)%2=1
def WI(m:Int)(h:wf m):Ok P 144 [I m] (Bo<|qq m):=by
 by_cases h0:0<=m
 .have e1:m.tdiv 2147483648=m/2147483648:=by grind
  have e2:(m/2147483648).tmod 2=m/2147483648%2:=by grind
  have hm:=h.2;have e3:oU (m/2147483648)=m/2147483648:=wrap64 U U;refine al aw L0 (.d (m>=0) (.e<|Bo<|(oU<|m.tdiv 2147483648).tmod 2==1) bI) ?_;simp only[e1,e3,e2];simp only[av]
  repeat' with_reducible first|intro _|apply aNd_
  all_goals first|exact aM|(unfold qq;exact ga)
 .
  refine al aw L0 (.d (m>=0) (.e<|Bo<|(oU<|m.tdiv 2147483648).tmod 2==1) bI) ?_;simp only[av]
  repeat' with_reducible first|intro _|apply aNd_
  all_goals first|exact aM|(unfold qq;exact ga)
def ET:Env:=aF 209 (bN (a1 bx) (λm=>Bo (ur m)) wf)<|aF 210 (bN (a1 bx) λn=>I (min (max n 0) 1099511627776))<|aF 144 (bN (a1 bx) (λm=>Bo (qq m)) wf)<|aF 239 (bN (a1 bx) (λm=>Bo (ur m)) wf)<|aF 175 (bN (a1 bx) λm=>Bo (decide<|2147483648<=m)) EN
def bv4:an P ET:=ah (ah (ah (ah (ah aw λm _=>CG m) λm h=>az1 m h) λm h=>WI m h) λm _=>ZR m) λm h=>ZS m h
def ju(x:aV):Bool:=decide<|ur x.mode=true/\0<=x.vr/\x.vr<=2147483647/\0<=x.nz/\x.nz<=1099511627776/\0<=x.nA/\x.nA<=1099511627776/\x.Sg.size<=64/\x.Sf.size<=64/\x.wR.size<=64/\x.data.size<=65536/\(2147483648<=x.mode->x.data=n_)
def PJ {m:Int}(h:ur m=true):qq m=decide (2147483648<=m):=by have O:=cn h;unfold qq;rw[oM];omega
def Tm(x:aV)(h:wf x):Ok P 174 [(af aV).au x] (Bo<|ju x):=by
 refine al bv4 L0 (let Z:ix:=bI;(.k (a1 bx) x.mode (wf x.mode)<|.m (ur x.mode) Z<|.d (x.vr<0) Z<|.d (x.vr>2147483647) Z<|.d (x.nz<0) Z<|.d (x.nz>1099511627776) Z<|.d (x.nA<0) Z<|.d (x.nA>1099511627776) Z<|.d ((x.Sg.size:Int)>64) Z<|.d ((x.Sf.size:Int)>64) Z<|.d ((x.wR.size:Int)>64) Z<|.d ((x.data.size:Int)>65536) Z<|.v (a1 bx) x.mode<|.m (decide<|2147483648<=x.mode) fo<|.e<|Bo<|dN x.data (n_:y_))) ?_;simp only[av,bK,bO,aL]
 repeat' with_reducible first|intro _|apply aNd_
 all_goals first|exact aM|(refine ba Bo ?_;unfold ju;grind)
def ZT(x:aV)(h:wf x):Ok P 143 [(af aV).au x] (Bo<|ju x):=by
 have hd:=@PJ x.mode;refine al bv4 L0 (let Z:ix:=bI;let V:=(x.Sf.size:Int);let aG:=(x.Sg.size:Int);(.k (a1 bx) x.mode (wf x.mode)<|.m (ur x.mode) Z<|.d (x.vr<0) Z<|.d (x.vr>2147483647) Z<|.v (a1 bx) x.nz<|.u x.nz (min (max x.nz 0) 1099511627776) Z<|.v (a1 bx) x.nA<|.u x.nA (min (max x.nA 0) 1099511627776) Z<|.d ((if(x.wR.size:Int)>if V>aG then V else aG then(x.wR.size:Int)else if V>aG then V else aG)>64) Z<|.d ((x.data.size:Int)>65536) Z<|.k (a1 bx) x.mode (wf x.mode)<|.m (qq x.mode) fo<|.e<|Bo<|dN x.data (n_:y_))) ?_;try simp only[bc8]
 simp only[av,aL]
 repeat' with_reducible first|intro _|apply aNd_
 all_goals first|exact aM|(refine ba Bo ?_;unfold ju;grind)
abbrev PK(s:y_):Nat->Bool:=pQ s ⟨#[0,10,13]⟩
def az2(s:y_)(i:Nat):PK s i=true↔(s.data.toList.getD i 0).toNat=0\/(s.data.toList.getD i 0).toNat=10\/(s.data.toList.getD i 0).toNat=13:=by show([0,10,13]:l_ UInt8).contains _=true↔_;rw[uZ];generalize s.data.toList.getD i 0=b;have O:=yO b 0 dD;have h2:=yO b 10 dD;have h3:=yO b 13 dD;simp only[fB,tu,qQ];rw[show b=0↔_ from O,show b=10↔_ from h2,show b=13↔_ from h3];omega
def az3(s:y_)(hs:s.size<=aq):Ok P 280 [S s] (Bo<|!ar s.size (PK s)):=by
 have lp:=fF f280 2 s.size (PK s) (λi=>(M 26 [(0,S s),(2,aP),(3,I i)])) [] (eR<|M 26 [(2,aP)]) (ey 0<|M 26 [(2,aP)]) λi hi lt aW az aR=>by refine ao PH L0 [0,2,3] [2] (let Z:=(↑(s.data.toList.getD i 0).toNat:Int);(.d ((i:Int)<s.size) (.g i s.size<|.q Z 0 (eH az)<|.g i s.size<|.q Z 10 (eH az)<|.g i s.size<|.q Z 13 (eH az)<|eG aW)<|eY aR)) ?_;have Y:=az2 s i;exact ft
 refine al PH (kR lp [0,2,3]) (jS lp bI fo) ?_;simp only[av]
 repeat' with_reducible first|intro _|apply aNd_
 all_goals (simp only[*];rfl)
def E3:Env:=aF 199 (bN (a2 aQ aQ) (λx=>I (aE x.1.size<|pQ x.1 x.2)) λx=>x.1.size<=aq)
 (aF 252 (bN (a2 (af aC) (uh aC)) λx=>Bo (dN x.1.name x.2.name))
 (aF 251 (bN (a1 aQ) (λs=>Bo (qF s.data.toList)) λs=>s.size<=aq)
 (aF 279 (bN (a1 aQ) (λs=>Bo (qF s.data.toList)) λs=>s.size<=aq)
 (aF 280 (bN (a1 aQ) (λs=>Bo (!ar s.size (PK s))) λs=>s.size<=aq) E2))))
def bV8:an P E3:=
 ah (ah (ah (ah (ah PH az3) az0) ZP) λx _=>by
  refine al (Ba P) L0 (.e<|Bo<|dN x.fst.name x.snd.name) ?_;simp only[av,aL]
  repeat' with_reducible first|intro _|apply aNd_
  all_goals first|exact aM|rfl) λx h=>ay9 x.1 x.2 h
def E4:Env:=uk E3
def WJ:an P E4:=qZ bV8
def lf(x:bh aC)(a:aC):Int:=
 if 32<=x.n then 22 else if qF a.name.data.toList=false then 6
 else if(a.dq=true/\ ¬a.value=n_)\/ar a.value.size (PK a.value)=true then 2
 else if 1024<a.value.size then 4 else if(ar x.n λi=>decide ((x.f i).name=a.name))=true then 7 else 0
def az4(x:bh aC)(a:aC)(h:wf x/\wf a):Ok P 198 [(ak aC).au x,(af aC).au a] (I<|lf x a):=by
 refine al WJ L0 (let V:=a2 (af aC) (uh aC);let aG:=(⟨#[0,10,13]⟩:y_);let aS:=(a.value.size:Int);let Z:=(↑(aE a.value.size<|pQ a.value<|aG):Int)<aS;let bn:=a.value.size<=140737488351232;(.d ((x.n:Int)>=32) (.e<|I 22)<|.k (a1 aQ) a.name (a.name.size<=140737488351232)<|.m (qF a.name.data.toList) (.e<|I 6)<|.n a.dq (.m (dN a.value (n_:y_)) (.e<|I 2)<|.k (a2 aQ aQ) (a.value,aG) bn<|.d Z (.e<|I 2)<|.d (aS>1024) (.e<|I 4)<|.r ((ak aC).au x)<|.o [x.n<=140737488351232,∀(i:Nat),i<x.n->V.au (x.f i,a)=V.au (x.f i,a)/\True/\True]<|.n (ar x.n λi=>dN (x.f i).name a.name) (.e<|I 7) qo)<|.k (a2 aQ aQ) (a.value,aG) bn<|.d Z (.e<|I 2)<|.d (aS>1024) (.e<|I 4)<|.r ((ak aC).au x)<|.o [x.n<=140737488351232,∀(i:Nat),i<x.n->V.au (x.f i,a)=V.au (x.f i,a)/\True/\True]<|.n (ar x.n λi=>dN (x.f i).name a.name) (.e<|I 7) qo)) ?_;have O:=h.1.1;have h2:a.name.size<=aq:=h.2.1;have h3:a.value.size<=aq:=h.2.2.1;simp only[av,bK,bO,aL]
 repeat' with_reducible first|intro _|apply aNd_
 all_goals first|exact aM|((try simp only[Tk,ay5]at*);refine ba I ?_;unfold lf PK;exact spL)
def be1(x:bh aC)(a:aC)(h:wf x/\wf a):Ok P 236 [(ak aC).au x,(af aC).au a] (I<|lf x a):=by
 have O:=h.1.1;have h2:a.name.size<=aq:=h.2.1;have h3:a.value.size<=aq:=h.2.2.1;have lp:=fF f236 10 x.n (λi=>decide ((x.f i).name=a.name)) (λi=>(M 48 [(0,(ak aC).au x),(3,aT),(4,I 0),(5,I i)])) [(cM [[S a.name,S a.value,Bo a.dq]] 3)] (eR<|M 48 [(4,I 7)]) (ey 1<|M 48 [(4,I 0)]) λi hi lt aW az aR=>by refine ao WJ L0 [0,3,4,5] [4] (.d ((i:Int)<x.n) (.g i x.n<|.n (dN (x.f i).name a.name) (eH az)<|eG aW)<|eY aR) ?_;have Y:=@decide_eq_true_iff ((x.f i).name=a.name) _;exact ft
 refine al WJ (kR lp [0,3,4,5]) (let Z:ix:=(.k (a1 aQ) a.value (a.value.size<=140737488351232)<|.m (!ar a.value.size (PK a.value)) (.e<|I 2)<|.d ((a.value.size:Int)>1024) (.e<|I 4)<|jS lp (.e<|I 7) qo);(.d ((x.n:Int)>=32) (.e<|I 22)<|.k (a1 aQ) a.name (a.name.size<=140737488351232)<|.m (qF a.name.data.toList) (.e<|I 6)<|.n a.dq (.m (dN a.value (n_:y_)) (.e<|I 2) Z) Z)) ?_;simp only[av,bK,bO,gl,nM,aL]
 repeat' with_reducible first|intro _|apply aNd_
 all_goals first|exact aM|(refine ba I ?_;unfold lf PK;exact spL)
def E5:Env:=aF 198 (bN (a2 (ak aC)<|af aC) (λx=>I (lf x.1 x.2)) λx=>wf x.1/\wf x.2)
 (aF 236 (bN (a2 (ak aC)<|af aC) (λx=>I (lf x.1 x.2)) λx=>wf x.1/\wf x.2) E4)
def Kh:an P E5:=ah (ah WJ λx h=>be1 x.1 x.2 h) λx h=>az4 x.1 x.2 h
def bV9 {α:Type}(f:Nat->α):(λi=>f (0+i))=f:=sS
def ML(x:bh aC)(i:Nat):Bool:=decide<|lf ⟨i,x.f⟩ (x.f i)≠0
def PL(x:bh aC)(i:Nat):ML x i=true↔ ¬lf ⟨i,x.f⟩ (x.f i)=0:=bp
def bV(x:bh aC):Int:=if ar x.n (ML x)=true then lf ⟨aE x.n<|ML x,x.f⟩ (x.f<|aE x.n<|ML x)else 0
def bv5 {x:bh aC}(h:wf x) {i:Nat}(hi:i<=x.n):wf (⟨i,x.f⟩:bh aC)/\wf (x.f i):=⟨⟨cm hi h.1,h.2⟩,h.2 i⟩
def Bj(x:bh aC)(h:wf x):Ok P 127 [(ak aC).au x] (I<|bV x):=by
 have hn:=h.1;have lp:=fF f127 2 x.n (ML x) (λi=>(M 22 [(0,(ak aC).au x),(2,I 0),(6,(ak aC).au x),(7,I x.n),(8,I i)])) [] (λi=>(.ret,(M 22 [(2,I<|lf ⟨i,x.f⟩<|x.f i)]),[])) (ey 0<|M 22 [(2,I 0)]) λi hi lt aW az aR=>by refine ao Kh L0 [0,2,6,7,8] [2] (.d ((i:Int)<x.n) (.g i x.n<|.o [(0:Int)<=0,(0:Int)<=(i:Int),(i:Int)<=(x.n:Int)]<|.k (a2 (ak aC)<|af aC) (bh.mk i λi=>x.f (0+i),x.f i) (wf (bh.mk i λi=>x.f (0+i))/\wf (x.f i))<|.u (lf (bh.mk i λi=>x.f (0+i))<|x.f i) 0 (kG (M 22 [(2,I<|lf (bh.mk i λi=>x.f (0+i))<|x.f i)]) [])<|eG aW)<|eY aR) ?_;have Y:=PL x i;obtain⟨hw1,GR⟩:=bv5 h hi;simp only[bV9];exact ft
 refine al Kh (kR lp [0,2,6,7,8]) (let Z:=aE x.n (ML x);(jS lp (.e<|I<|lf (bh.mk Z x.f)<|x.f Z) qo)) ?_;simp only[av]
 repeat' with_reducible first|intro _|apply aNd_
 all_goals (unfold bV;simp only[*];rfl)
def x7(x:bh aC)(h:wf x):Ok P 167 [(ak aC).au x] (I<|bV x):=by
 have hn:=h.1;have lp:=fF Tryz.f167 2 x.n (ML x) (λi=>(M 22 [(0,(ak aC).au x),(2,I 0),(3,I i)])) [] (λi=>(.ret,(M 22 [(2,I<|lf ⟨i,x.f⟩<|x.f i)]),[])) (ey 0<|M 22 [(2,I 0)]) λi hi lt aW az aR=>by refine ao Kh L0 [0,2,3] [2] (.d ((i:Int)<x.n) (.o [(0:Int)<=0,(0:Int)<=(i:Int),(i:Int)<=(x.n:Int)]<|.g i x.n<|.k (a2 (ak aC)<|af aC) (bh.mk i λi=>x.f (0+i),x.f i) (wf (bh.mk i λi=>x.f (0+i))/\wf (x.f i))<|.u (lf (bh.mk i λi=>x.f (0+i))<|x.f i) 0 (kG (M 22 [(2,I<|lf (bh.mk i λi=>x.f (0+i))<|x.f i)]) [])<|eG aW)<|eY aR) ?_;have Y:=PL x i;obtain⟨hw1,GR⟩:=bv5 h hi;simp only[bV9];exact ft
 refine al Kh (kR lp [0,2,3]) (let Z:=aE x.n (ML x);(jS lp (.e<|I<|lf (bh.mk Z x.f)<|x.f Z) qo)) ?_;simp only[av]
 repeat' with_reducible first|intro _|apply aNd_
 all_goals (unfold bV;simp only[*];rfl)
def E6a:Env:=aF 126 (bN (a1<|af aC) λx=>Bo x.dq)
 (aF 127 (bN (a1 (ak aC)) (λx=>I (bV x)) wf)
 (aF 167 (bN (a1 (ak aC)) (λx=>I (bV x)) wf) E5))
def bC2:an P E6a:=ah (ah (ah Kh x7) Bj) λx _=>by exact al Kh L0 (.e<|Bo x.dq) ft
def E6:Env:=uk E6a
def Ki:an P E6:=qZ bC2
def pR(x:bh aC):Bool:=ar x.n λi=>(x.f i).dq
def be2(x:bh aC)(h:x.n<=aq):Ok P 62 [(ak aC).au x] (Bo<|pR x):=by exact al Ki L0 (.r ((ak aC).au x)<|.o [x.n<=140737488351232,∀(i:Nat),i<x.n->(a1<|af aC).au (x.f i)=(a1<|af aC).au (x.f i)/\True/\True]<|.e<|Bo<|ar x.n λi=>(x.f i).dq) ft
def az5(x:bh aC)(h:x.n<=aq):Ok P 95 [(ak aC).au x] (Bo<|pR x):=by
 have lp:=fF f95 2 x.n (λi=>(x.f i).dq) (λi=>(M 15 [(0,(ak aC).au x),(2,aP),(3,I i)])) [] (eR<|M 15 [(2,fZ)]) (ey 0<|M 15 [(2,aP)]) λi hi lt aW az aR=>by
  refine ao Ki L0 [0,2,3] [2] (.d ((i:Int)<x.n) (.g i x.n<|.n ((x.f i).dq) (eH az)<|eG aW)<|eY aR) ?_;have Y:=(di:(x.f i).dq=true↔(x.f i).dq=true)
  exact ft
 refine al Ki (kR lp [0,2,3]) (jS lp fo bI) ?_;simp only[av]
 repeat' with_reducible first|intro _|apply aNd_
 all_goals (unfold pR;simp only[*])
section
variable {T:l_ J}{h:Hp}{i:Nat}{s:y_}
def rep(c:UInt8)(new:l_ UInt8)(b:UInt8):l_ UInt8:=if b=c then new else [b]
theorem CH(c:UInt8)(new:l_ UInt8):∀l:l_ UInt8,l.flatMap (rep c new)=if(sD c l).2.2 then(sD c l).1++(new++(sD c l).2.1.flatMap (rep c new))else l
 | []=>rfl
 |b::l=>by
  have ih:=CH c new l;rw[Kc,Fb];by_cases h:b=c
  .simp [h,rep]
  .rw[if_neg h,ih];cases hb:(sD c l).2.2<;>simp [rep,h]
theorem Bk(c:UInt8)(new:l_ UInt8):∀(k:Nat) (l:l_ UInt8),(bS c l).length=k+1->Lib.replaceK [c] new k l=l.flatMap (rep c new)
 |0,l,h=>by
  rw[oW]at h;rw[CH];cases hb:(sD c l).2.2 with
  |true=>rw[hb]at h;simp at h;exact absurd h<|Kd _ _
  |false=>rfl
 |k+1,l,h=>by
  rw[oW]at h;rw[CH];have Y:=FC c l;unfold Lib.cut at Y;unfold Lib.replaceK;have hg:=Lib.index_ge l [c];by_cases hi:Lib.index l [c]= -1
  .rw[if_neg U]at Y;rw[<-Y]at h;simp at h
  .rw[if_pos U]at Y;have:(Lib.index l [c]== -1)=false:=by simpa using hi
   rw[this];rw[<-Y]at h⊢;simp only[jZ,ky,rH,iP]at h⊢;rw[<-Bk c new k _ U];simp
def Hf(c:UInt8)(new:l_ UInt8)(l:l_ UInt8):Lib.replaceAll l [c] new=l.flatMap (rep c new):=by
 unfold Lib.replaceAll Lib.replace;split
 .rename_i h;have h:=ev.1 h;subst h;have:∀l:l_ UInt8,l.flatMap (rep c [c])=l:=by
   intro l
   induction l with
   |nil=>rfl
   |cons b l ih=>
    rw[Fb,ih];unfold rep;split
    .rename_i h;rw[h];rfl
    .rfl
  exact(this l).symm
 .unfold Lib.replaceNum;rw[if_pos<|.inl dD];exact Bk c new _ l (tH c (l.length+1) l U).symm
def unb:J->J
 | .bit c=> .sc (.bool c)
 |p=>p
theorem St.unb {w0:fR} {Sa:Nat->Prop}{a:Act} {w:World}(iu:St w0 Sa T h a w):St w0 Sa (T.map Go.Proofs.YtnpcbfcfcjdhlaaGreatDoor.unb) h a w:=by
 obtain⟨S,m,hI,hT,Ak⟩:=iu;refine⟨S,m,hI,⟨by simp [hT.1],λt p ht=> ?_⟩,Ak⟩;rw[b9]at ht;cases h0:T[t]? with
 |none=>rw[h0]at ht;cases ht
 |some q=>
  rw[h0]at ht;simp only[jz,mo]at ht;subst ht;have:=hT.2 t q h0;cases q with
  |bit c=>rw[py this];exact .st _ _<|.sc _
  |_=>exact this
theorem aO.unb {P:Program} {c:Code}{lt:PS.LT}(hl:aO P c (T.map Go.Proofs.YtnpcbfcfcjdhlaaGreatDoor.unb) h lt):aO P c T h lt:=by obtain⟨x,O,n,h2⟩:=hl;exact⟨x,O,n,λw0 Sa a w Q hG iu hQ=>h2 w0 Sa a w Q hG (St.unb iu) hQ⟩
abbrev qB(s:y_):Nat->Bool:=pQ s ⟨#[32,9,39]⟩
def az6(s:y_)(i:Nat):qB s i=true↔(s.data.toList.getD i 0).toNat=32\/(s.data.toList.getD i 0).toNat=9\/(s.data.toList.getD i 0).toNat=39:=by show([32,9,39]:l_ UInt8).contains _=true↔_;rw[uZ];generalize s.data.toList.getD i 0=b;have O:=yO b 32 dD;have h2:=yO b 9 dD;have h3:=yO b 39 dD;simp only[fB,tu,qQ];rw[show b=32↔_ from O,show b=9↔_ from h2,show b=39↔_ from h3];omega
def Kj(n:Nat)(b:Nat->Bool):ar (n+1) b=(ar n b||b n):=by unfold ar;rw[qi,AA];simp
def wc(s:y_)(i:Nat):Bool:=decide (s=n_)||ar i (qB s)
def Kk(s:y_)(i:Nat):wc s (i+1)=(wc s i||qB s i):=by unfold wc;rw[Kj,Bool.or_assoc]
def Kl(l:l_ UInt8)(i:Nat):l_ UInt8:=(l.take i).flatMap<|rep 39 [39,39]
def PM {l:l_ UInt8}(h:i<l.length):Kl l (i+1)=Kl l i++rep 39 [39,39] (l.getD i 0):=by unfold Kl;rw[AB,List.flatMap_append,bX h,cc,bX h];simp
def wU(h:i<s.size):s.extract i (i+1)=B [s.data.toList.getD i 0]:=by rw[Kg];congr 1;rw[Lib.size_eq]at h;rw[Nat.add_sub_cancel_left,cc,bX h,Fa h];rfl
def bW0(h:i<s.size)(hb:((s.data.toList.getD i 0).toNat:Int)=39):B (Kl s.data.toList i)++s.extract i (i+1)++⟨#[39]⟩=B (Kl s.data.toList<|i+1):=by rw[wU h,PM (by rw[<-Lib.size_eq];exact h),show(⟨#[39]⟩:y_)=B [39]from rfl,jP,jP,(yO _ 39 dD).2 hb];congr 1;rw[lG];rfl
def bW1(h:i<s.size)(hb: ¬((s.data.toList.getD i 0).toNat:Int)=39):B (Kl s.data.toList i)++s.extract i (i+1)=B (Kl s.data.toList<|i+1):=by rw[wU h,PM (by rw[<-Lib.size_eq];exact h),jP];have: ¬s.data.toList.getD i 0=39:=λe=>hb<|(yO _ 39 dD).1 e;unfold rep;rw[if_neg this]
def Bl(l:l_ UInt8)(i:Nat):(Kl l i).length<=2*i:=by
 have key:∀m:l_ UInt8,(m.flatMap<|rep 39 [39,39]).length<=2*m.length:=by
  intro m
  induction m with
  |nil=>exact bE _
  |cons b m ih=>
   rw[Fb,br,iP];have:(rep 39 [39,39] b).length<=2:=by unfold rep;split<;>simp
   omega
 have:=key<|l.take i;have h2:(l.take i).length<=i:=by rw[im];omega
 unfold Kl;omega
def qt(s:y_):y_:=if wc s s.size=true then B (39::(s.data.toList.flatMap (rep 39 [39,39])++ [39]))else s
def bC3(s:y_)(i:Nat)(h:wc s i=true\/(s.data.toList.getD i 0).toNat=32\/(s.data.toList.getD i 0).toNat=9\/(s.data.toList.getD i 0).toNat=39):wc s (i+1)=true:=by rw[Kk,jA,az6];exact h
def bC4(s:y_)(i:Nat)(h:wc s i=false)(O: ¬(s.data.toList.getD i 0).toNat=32)(h2: ¬(s.data.toList.getD i 0).toNat=9):wc s (i+1)=(((s.data.toList.getD i 0).toNat:Int)==39):=by rw[Kk,h,Fc,ea,az6,ev];omega
def PN(s:y_):⟨#[39]⟩++B (Kl s.data.toList s.size)++⟨#[39]⟩=B (39::(s.data.toList.flatMap (rep 39 [39,39])++ [39])):=by rw[show(⟨#[39]⟩:y_)=B [39]from rfl,jP,jP];unfold Kl;rw[Lib.size_eq,Ao];rfl
def b74(s:y_):gD:=λ_=>([0,2,3,4,5],[],λ_ _=> .out (.ext 0) (M 51 [(0,S s),(2,S n_),(3,S<|B<|Kl s.data.toList s.size),(4,Bo<|wc s s.size)]) [])
def ZU(s:y_)(hs:s.size<=1024):Ok P 168 [S s] (S<|qt s):=by
 have hn:s.size<=aq:=cm hs dD;have lp:=bU9 (P:=P) (c:=aD f168 3) (n:=s.size) (st:=λi=>(M 51 [(0,S s),(2,S n_),(3,S<|B<|Kl s.data.toList i),(4,Bo<|wc s i),(5,I i)])) (h:=λ_=> []) (y:=(.ext 0,(M 51 [(0,S s),(2,S n_),(3,S<|B<|Kl s.data.toList s.size),(4,Bo<|wc s s.size)]),[])) λi hi lt aW aR=>by
  refine ao Ki L0 [0,2,3,4,5] [0,2,3,4] (let aG:=(↑(s.data.toList.getD i 0).toNat:Int);let aS:=Kl s.data.toList i;let bn:=(2,S (⟨#[]⟩:y_));let bu:=(s.size:Int);let bC:=(i:Int)+1;let V:=oU bC;let cp:=(B aS).size+(s.extract i V.toNat).size<=9223372036854775807;let dk:=B aS++s.extract i V.toNat;let bP:=[(i:Int)<bu,(0:Int)<=(i:Int)];let bY:=(i:Int)<=oU bC;let cN:=oU bC<=bu;let dE:=(⟨#[39]⟩:y_);let bH:=[dk.size+(dE).size<=9223372036854775807];let cu:=(3,S<|B aS++s.extract i V.toNat++dE);let Z:nV:=(.o [bY,cN,cp]<|.g i s.size<|.q aG 39 (.o bH<|bR (M 51 [(0,S s),bn,cu,(4,fZ),(5,I V)]) [])<|bR (M 51 [(0,S s),bn,(3,S dk),(4,fZ),(5,I V)]) []);(.d ((i:Int)<s.size) (.o [(0:Int)<=(i:Int)]<|.n (wc s i) Z<|.o bP<|.q aG 32 Z<|.o bP<|.q aG 9 Z<|.o [(i:Int)<bu,(0:Int)<=(i:Int),bY,cN,cp]<|.g i s.size<|.q aG 39 (.o bH<|bR (M 51 [(0,S s),bn,cu,(4,Bo<|aG==39),(5,I V)]) [])<|bR (M 51 [(0,S s),bn,(3,S dk),(4,Bo<|aG==39),(5,I V)]) [])<|fv 0 (M 51 [(0,S s),bn,(3,S<|B aS),(4,Bo<|wc s i)]) [])) ?_;have hq:=Bl s.data.toList i;by_cases iH:i<s.size
  .dsimp only;rw[bZ iH hn];simp only[dL];have hx:=ba ByteArray.size (wU iH);rw[jG]at hx;simp only[iP,qj]at hx;have hz:(B (Kl s.data.toList i)++s.extract i (i+1)).size<=2*i+1:=by rw[fy,jG,hx];omega
   have h39:(⟨#[39]⟩:y_).size=1:=rfl;simp only[jG,hx,h39];have ht:=bC3 s i;have hf:=bC4 s i;simp only[av,bK,bO,ev,jR]
   (repeat' with_reducible first|intro _|apply aNd_)<;>first|exact aM|(rw[ht<|by first|exact .inl W|exact .inr U,<-bW0 iH U]at aW;exact aO.unb (aW iH))|(rw[ht<|by first|exact .inl W|exact .inr U,<-bW1 iH U]at aW;exact aO.unb (aW iH))|(rw[hf W U U,<-bW0 iH U]at aW;exact aO.unb (aW iH))|(rw[hf W U U,<-bW1 iH U]at aW;exact aO.unb (aW iH))
  .
   simp only[av,bK,bO,ev,jR]
   (repeat' with_reducible first|intro _|apply aNd_)<;>first|exact aM|(have Wa:i=s.size:=U;subst Wa;exact aR rfl)
 rw[show wc s 0=decide (s=n_)from Fh _]at lp;refine al Ki (b74 s) (let Z:=(⟨#[39]⟩:y_);let V:=Kl s.data.toList s.size;let aG:=(n_:y_);(.o [ax P (aD f168 3) (M 51 [(0,S s),(2,S aG),(3,S aG),(4,Bo<|dN s aG),(5,I 0)]) [] (Out.ext 0) (M 51 [(0,S s),(2,S aG),(3,S<|B V),(4,Bo<|wc s s.size)]) []]<|.n (wc s s.size) (.o [(Z).size+(B V).size<=9223372036854775807,(Z++B V).size+(Z).size<=9223372036854775807]<|.e<|S<|Z++B V++Z)<|.e<|S s)) ?_;simp only[av,aL]
 (repeat' with_reducible first|intro _|apply aNd_)<;>first|exact aM|(refine ba S ?_;unfold qt;rw[if_pos W];exact PN s)|(refine ba S ?_;unfold qt;rw[if_neg (by simp only[*];decide)])|(rw[jG];show 1+_<=_;have:=Bl s.data.toList s.size;omega)|(rw[fy,jG];show 1+_+1<=_;have:=Bl s.data.toList s.size;omega)
def E7:Env:=aF 200 (bN (a3 aQ aQ aQ) (λx=>S (B<|Lib.replaceAll x.1.data.toList x.2.1.data.toList x.2.2.data.toList)) λx=>x.1.size<4294967281/\1<=x.2.1.size/\x.1.size+Lib.countB x.1 x.2.1*x.2.2.size<=140737488355328) E6
def uu:an P E7:=ah Ki λx h=>Jq x.1 x.2.1 x.2.2 h.1 h.2.1 h.2.2
theorem Hg(c:UInt8):∀l:l_ UInt8,(bS c l).length<=l.length+1
 | []=>bE _
 |b::l=>by
  have ih:=Hg c l;rw[lS];split
  .simp only[iP];omega
  .cases hs:bS c l with
   |nil=>simp
   |cons p r=>rw[hs]at ih;simp only[iP]at ih⊢;omega
def Hh(s:y_):wc s s.size=true↔s=n_\/ar s.size (qB s)=true:=by unfold wc;rw[jA,bp]
def ZV(s:y_)(O: ¬s=n_)(h2:((aE s.size (pQ s ⟨#[32,9,39]⟩):Nat):Int)=s.size):qt s=s:=by
 unfold qt;refine if_neg λh=> ?_;rcases(Hh s).1 h with h|h
 .exact O h
 .have:aE s.size (pQ s ⟨#[32,9,39]⟩)<s.size:=dw.2 h;omega
def Tn(s:y_)(h:s=n_\/((aE s.size (pQ s ⟨#[32,9,39]⟩):Nat):Int)≠s.size):qt s=B (39::(s.data.toList.flatMap (rep 39 [39,39])++ [39])):=by
 unfold qt;refine if_pos<|(Hh s).2 ?_;rcases h with h|h
 .exact .inl h
 .have:=oT s.size<|pQ s ⟨#[32,9,39]⟩;exact .inr<|(dw (b:=pQ s ⟨#[32,9,39]⟩)).1 U
def az7(s:y_)(hs:s.size<=1024):Ok P 128 [S s] (S<|qt s):=by
 have Y:=zz 39 s;have hc2:=Hg 39 s.data.toList;rw[<-Lib.size_eq]at hc2;have h2:(⟨#[39,39]⟩:y_).size=2:=rfl;have O:(⟨#[39]⟩:y_).size=1:=rfl;have hq:=Bl s.data.toList s.size;have N:Lib.replaceAll s.data.toList [39] [39,39]=Kl s.data.toList s.size:=by rw[Hf];unfold Kl;rw[Lib.size_eq,Ao]
 have ho:=Hh s;have hm:s.size<=aq:=cm hs dD;refine al uu L0 (let V:=(⟨#[39]⟩:y_);let aG:=Lib.replaceAll s.data.toList [39] [39,39];let aS:=(⟨#[32,9,39]⟩:y_);let bn:=(⟨#[39,39]⟩:y_);let Z:ix:=(.k (a3 aQ aQ aQ) (s,V,bn) (s.size<4294967281/\1<=(V).size/\s.size+Lib.countB s (V)*(bn).size<=140737488355328)<|.o [(V).size+(B aG).size<=9223372036854775807,(V++B aG).size+(V).size<=9223372036854775807]<|.e<|S<|V++B (Lib.replaceAll s.data.toList (#[39]:Array UInt8).toList (#[39,39]:Array UInt8).toList)++V);(.m (dN s (n_:y_)) (.k (a2 aQ aQ) (s,aS) (s.size<=140737488351232)<|.q (↑(aE s.size<|pQ s<|aS):Int) (s.size:Int) (.e<|S s) Z) Z)) ?_;simp only[O,h2,N];simp only[av,bK,bO,aL]
 (repeat' with_reducible first|intro _|apply aNd_)<;>first|exact aM|exact ba S (ZV s W W).symm|(rw[Tn s<|by first|exact .inl W|exact .inr W];exact ba S (PN s))|(rw[fy,jG];show 1+_+1<=_;omega)|(rw[jG];omega)
end
def az8(s:y_)(i:Nat):Bool:=decide<|¬(33<=(s.data.toList.getD i 0).toNat/\(s.data.toList.getD i 0).toNat<=126/\ ¬(s.data.toList.getD i 0).toNat=47)
def PO(s:y_)(i:Nat):az8 s i=true↔ ¬(33<=(s.data.toList.getD i 0).toNat/\(s.data.toList.getD i 0).toNat<=126/\ ¬(s.data.toList.getD i 0).toNat=47):=bp
def fj(s:y_):Bool:=decide<|(1<=s.size/\s.size<=64)/\ ¬s=⟨#[46]⟩/\ ¬s=⟨#[46,46]⟩/\ar s.size (az8 s)=false
def Hi(s:y_):fj s=true↔(1<=s.size/\s.size<=64)/\ ¬s=⟨#[46]⟩/\ ¬s=⟨#[46,46]⟩/\ar s.size (az8 s)=false:=bp
def uv(s:y_)(hs:s.size<=aq):Ok P 50 [S s] (Bo<|fj s):=by
 have hv:=Hi s;have hz:=pP s;have lp:=fF Tryz.f50 2 s.size (az8 s) (λi=>(M 42 [(0,S s),(2,aP),(3,I i)])) [] (eR<|M 42 [(2,aP)]) (ey 0<|M 42 [(0,S s),(2,aP)]) λi hi lt aW az aR=>by refine ao uu L0 [0,2,3] [10000,2] (let Z:=(↑(s.data.toList.getD i 0).toNat:Int);(.d ((i:Int)<s.size) (.g i s.size<|.d (Z<33) (eH az)<|.g i s.size<|.d (Z>126) (eH az)<|.g i s.size<|.q Z 47 (eH az)<|eG aW)<|eY aR)) ?_;have Y:=PO s i;exact ft
 refine al uu (kR lp [0,2,3]) (let Z:ix:=bI;(jS lp Z<|.d ((s.size:Int)>=1) (.d ((s.size:Int)<=64) (.m (dN s (⟨#[46]⟩:y_)) (.e<|Bo !dN s (⟨#[46,46]⟩:y_)) Z) Z) Z)) ?_;simp only[av,bK,bO,aL]
 repeat' with_reducible first|intro _|apply aNd_
 all_goals (first|exact ba Bo (bF hv λh=>by first|exact h.2.1 W|exact h.2.2.1 W|exact noT h.2.2.2 W|(have:=h.1;omega)|(have:=hz.1 W;have:=h.1;omega)).symm|exact ba Bo (hv.2 ⟨⟨by first|omega|exact Fi (λe=>absurd (hz.2 e) W),U⟩,W,W,W⟩).symm|(refine ba Bo ?_;rw[ea,hv,gl,bO];exact⟨λh=>⟨⟨U,U⟩,W,h,W⟩,λh=>h.2.2.1⟩))
def uw(s:y_)(hs:s.size<=aq):Ok P 43 [S s] (Bo<|fj s):=by
 have hv:=Hi s;have hz:=pP s;have lp:=fF f43 4 s.size (az8 s) (λi=>(M 41 [(0,S s),(2,aP),(20,I s.size),(21,I i)])) [] (eR<|M 41 [(2,aP)]) (ey 0<|M 41 [(2,aP)]) λi hi lt aW az aR=>by refine ao uu L0 [0,2,20,21] [2] (let Z:=(↑(s.data.toList.getD i 0).toNat:Int);(.d ((i:Int)<s.size) (.g i s.size<|.d (Z<33) (eH az)<|.g i s.size<|.d (Z>126) (eH az)<|.g i s.size<|.q Z 47 (eH az)<|eG aW)<|eY aR)) ?_;have Y:=PO s i;exact ft
 refine al uu (kR lp [0,2,20,21]) (let Z:ix:=bI;(.n (dN s (n_:y_)) Z<|.n (dN s (⟨#[46]⟩:y_)) Z<|.n (dN s (⟨#[46,46]⟩:y_)) Z<|.d ((s.size:Int)>64) Z<|jS lp Z fo)) ?_;simp only[av,bK,bO,aL]
 repeat' with_reducible first|intro _|apply aNd_
 all_goals (first|exact ba Bo (bF hv λh=>by first|exact h.2.1 W|exact h.2.2.1 W|exact noT h.2.2.2 W|(have:=h.1;omega)|(have:=hz.1 W;have:=h.1;omega)).symm|exact ba Bo (hv.2 ⟨⟨by first|omega|exact Fi (λe=>absurd (hz.2 e) W),U⟩,W,W,W⟩).symm|(refine ba Bo ?_;rw[ea,hv,gl,bO];exact⟨λh=>⟨⟨U,U⟩,W,h,W⟩,λh=>h.2.2.1⟩))
def iK(s:y_):Bool:=decide<|0<s.size/\(s.data.toList.getD 0 0).toNat=47
def zA(s:y_):Ok P 104 [S s] (Bo<|iK s):=by
 refine al uu L0 (.d ((s.size:Int)>0) (.o [(0:Int)<=0,(0:Int)<(s.size:Int)]<|.e<|Bo<|(↑(s.data.toList.getD 0 0).toNat:Int)==47) bI) ?_;simp only[av]
 (repeat' with_reducible first|intro _|apply aNd_)<;>first|exact aM|(refine ba Bo ?_;unfold iK;rw[ea,ev,bp];omega)|(refine ba Bo ?_;unfold iK;exact(fq U).symm)
def WK(c:UInt8)(s:y_)(k:Nat)(hk:k<256)(Y:c=UInt8.ofNat k):Lib.hasPrefix s.data.toList [c]=decide (0<s.size/\(s.data.toList.getD 0 0).toNat=k):=by
 rw[Lib.size_eq,ea,bp];cases s.data.toList with
 |nil=>simp [Lib.hasPrefix,List.isPrefixOf]
 |cons b l=>
  have:=yO b k hk;simp only[Lib.hasPrefix,List.isPrefixOf,tq,ev,iP,List.getD_cons_zero];constructor
  .intro h;exact⟨Nat.succ_pos _,by have:=this.1 (h.symm.trans Y);omega⟩
  .rintro⟨_,h⟩;rw[Y];exact(this.2 U).symm
def E8:Env:=aF 257 (bN (a2 aQ aQ) λx=>Bo (Lib.hasPrefix x.1.data.toList x.2.data.toList)) E7
def az9:an P E8:=ah uu λx _=>MI x.1 x.2
def Km(s:y_):Ok P 206 [S s] (Bo<|iK s):=by
 have h:=WK 47 s 47 dD rfl;refine al az9 L0 (.v (a2 aQ aQ) (s,(⟨#[47]⟩:y_))<|.e<|Bo<|Lib.hasPrefix s.data.toList (#[47]:Array UInt8).toList) ?_;simp only[av]
 repeat' with_reducible first|intro _|apply aNd_
 all_goals exact ba Bo h
def oX(s:y_)(hs:s.size<=aq):Ok P 59 [S s] (Bo<|gn s.data.toList):=by
 have hv:=uq s;have hz:=pP s;have lp:=fF f59 4 s.size (CF s.data.toList) (λi=>(M 53 [(0,S s),(2,aP),(15,I s.size),(16,I i)])) [] (eR<|M 53 [(2,aP)]) (ey 0<|M 53 [(2,aP)]) λi hi lt aW az aR=>by
  refine ao uu L0 [0,2,15,16] [2] (let Z:=(↑(s.data.toList.getD i 0).toNat:Int);let V:nV:=(.q i 0 (eH az)<|.s .fN<|eG aW);let aG:nV:=(.q i 0 (eH az)<|.n (!Z==95) (eH az)<|eG aW);let bn:=decide (Z<=122);let aS:nV:=(.q Z 45 (.m bn V<|eG aW)<|.m bn aG<|eG aW);let bH:nV:=(.q Z 45 (.s .fN V)<|.s .fN aG);(.d ((i:Int)<s.size) (.g i s.size<|.d (Z>=97) (.d (Z>=48) (.d (Z<=57) (.m bn V<|eG aW) aS) aS)<|.d (Z>=48) (.d (Z<=57) (.s .fN V) bH) bH)<|eY aR)) ?_;have Y:=uo s.data.toList i;simp only[av,bK,bO,ev,jR,gl,nM]
  (repeat' with_reducible first|intro _|apply aNd_)<;>first|exact aM
 refine al uu (kR lp [0,2,15,16]) (let Z:ix:=bI;(.n (dN s (n_:y_)) Z<|.d ((s.size:Int)>32) Z<|jS lp Z fo)) ?_;simp only[av,bK,bO,aL]
 repeat' with_reducible first|intro _|apply aNd_
 all_goals (first|exact ba Bo (bF hv λh=>by first|exact noT h.2 W|(have:=h.1;omega)|(have:=hz.1 W;have:=h.1;omega)).symm|exact ba Bo (hv.2 ⟨⟨by first|omega|exact Fi (λe=>absurd (hz.2 e) W),U⟩,W⟩).symm)
def vw(s:y_)(hs:s.size<=aq):Ok P 101 [S s] (Bo<|gn s.data.toList):=by
 have hv:=uq s;have hz:=pP s;have lp:=fF Tryz.f101 4 s.size (CF s.data.toList) (λi=>(M 52 [(0,S s),(2,aP),(3,I i)])) [] (eR<|M 52 [(2,aP)]) (ey 0<|M 52 [(2,aP)]) λi hi lt aW az aR=>by refine ao uu L0 [0,2,3] [2] (let Z:=(↑(s.data.toList.getD i 0).toNat:Int);let aG:nV:=(.u Z 45 (.u Z 95 (eH az)<|eG aW)<|eG aW);let V:nV:=(.q i 0 (eH az)<|.d (Z>=48) (.m (decide<|Z<=57) aG<|eG aW)<|.s .fN aG);(.d ((i:Int)<s.size) (.g i s.size<|.d (Z>=97) (.m (decide<|Z<=122) V<|eG aW)<|.s .fN V)<|eY aR)) ?_;have Y:=uo s.data.toList i;exact ft
 refine al uu (kR lp [0,2,3]) (let Z:ix:=bI;(.d ((s.size:Int)<1) Z<|.d ((s.size:Int)>32) Z<|jS lp Z fo)) ?_;simp only[av]
 repeat' with_reducible first|intro _|apply aNd_
 all_goals (first|exact ba Bo (bF hv λh=>by first|exact noT h.2 W|(have:=h.1;omega)|(have:=hz.1 W;have:=h.1;omega)).symm|exact ba Bo (hv.2 ⟨⟨by first|omega|exact Fi (λe=>absurd (hz.2 e) W),U⟩,W⟩).symm)
def Ow(x:bh gQ)(s:y_):Int:=cZ x.n λi=>decide<|(x.f i).name=s
def bW2(x:bh gQ)(s:y_)(hn:x.n<=aq):Ok P 238 [(ak gQ).au x,S s] (I<|Ow x s):=by
 have lp:=fF f238 2 x.n (λi=>decide ((x.f i).name=s)) (λi=>(M 20 [(0,(ak gQ).au x),(1,S s),(4,I 0),(7,I x.n),(8,I i)])) [] (λi=>(.ret,(M 20 [(4,I i)]),[])) (ey 0<|M 20 [(4,I 0)]) λi hi lt aW az aR=>by refine ao uu L0 [0,1,4,7,8] [4] (.d ((i:Int)<x.n) (.g i x.n<|.n (dN (x.f i).name s) (eH az)<|eG aW)<|eY aR) ?_;have Y:=@decide_eq_true_iff ((x.f i).name=s) _;exact ft
 refine al uu (kR lp [0,1,4,7,8]) (jS lp (.e<|I (↑(aE x.n λi=>decide ((x.f i).name=s)):Int))<|.e<|I<|-1) ?_;simp only[av]
 (repeat' with_reducible first|intro _|apply aNd_)<;>first|(unfold Ow cZ;rw[if_pos W])|(unfold Ow cZ;rw[if_neg<|jY.1 W])
def E9:Env:=aF 59 (bN (a1 aQ) (λs=>Bo (gn s.data.toList)) λs=>s.size<=aq)
 (aF 101 (bN (a1 aQ) (λs=>Bo (gn s.data.toList)) λs=>s.size<=aq)
 (aF 238 (bN (a2 (ak gQ) aQ) (λx=>I (Ow x.1 x.2)) λx=>x.1.n<=aq) E8))
def aA0:an P E9:=ah (ah (ah az9 λx h=>bW2 x.1 x.2 h) vw) oX
def bv6 {k:Nat}(h:k<=aq):oU ((k:Int)-1)=(k:Int)-1:=by unfold aq at h;exact wrap64 U U
def aA1(k:Nat):((k:Int)-1).toNat=k-1:=U
def ZW(x:bh gQ)(m:bh y_)(k:Nat):Bool:=decide<|Ow x (m.f k)<0\/(0<k/\Op.bytesLess (m.f<|k-1).toList (m.f k).toList=false)
def aA2(x:bh gQ)(m:bh y_)(k:Nat):ZW x m k=true↔Ow x (m.f k)<0\/(0<k/\Op.bytesLess (m.f<|k-1).toList (m.f k).toList=false):=bp
def oE(x:bh gQ)(i:Nat):Int:=
 if gn (x.f i).name.data.toList=false then 25 else if Ow x (x.f i).name<i then 7
 else if ¬(x.f i).nW=n_/\Ow x (x.f i).nW<0 then 26
 else if ar (x.f i).ie.n (ZW x (x.f i).ie)=true then 26 else 0
def PQ(x:bh gQ)(k:Nat)(hk:k<x.n)(h:wf x):Ok P 173 [(ak gQ).au x,I k] (I<|oE x k):=by
 have hn:=h.1;have hm:=(h.2 k).2.2.1;have Wh:(x.f k).name.size<=aq:=(h.2 k).1;have lp:=fF Tryz.f173 9 ((x.f k).ie.n) (ZW x (x.f k).ie) (λi=>(M 67 [(0,(ak gQ).au x),(4,I 0),(5,aT),(36,I ((x.f k).ie.n:Int)),(37,I i)])) [(cM [[S (x.f k).name,S (x.f k).nW,(ak y_).au (x.f k).ie]] 3)] (eR<|M 67 [(4,I 26)]) (ey 1<|M 67 [(4,I 0)]) λi hi lt aW az aR=>by refine ao aA0 L0 [0,4,5,36,37] [4] (let Z:=(↑(x.f k).ie.n:Int);let V:=oU ((i:Int)-1);let aG:=(x.f k).ie.f i;(.d ((i:Int)<Z) (.g i Z<|.k (a2 (ak gQ) aQ) (x,(x.f k).ie.f i) (x.n<=140737488351232)<|.d (Ow x aG<0) (eH az)<|.d ((i:Int)>0) (.g V Z<|.g i Z<|.m (Op.bytesLess ((x.f k).ie.f V.toNat).toList aG.toList) (eH az)<|eG aW)<|eG aW)<|eY aR)) ?_;have Y:=aA2 x (x.f k).ie i;simp only[bv6<|cm hi hm,aA1];exact ft
 refine al aA0 (kR lp [0,4,5,36,37]) (let Z:ix:=(jS lp (.e<|I 26) qo);let V:=x.n<=140737488351232;let aG:=a2 (ak gQ) aQ;(.g k x.n<|.k (a1 aQ) (x.f k).name ((x.f k).name.size<=140737488351232)<|.m (gn (x.f k).name.data.toList) (.e<|I 25)<|.k aG (x,(x.f k).name) V<|.d (Ow x (x.f k).name<(k:Int)) (.e<|I 7)<|.m (dN (x.f k).nW (n_:y_)) (.k aG (x,(x.f k).nW) V<|.d (Ow x (x.f k).nW<0) (.e<|I 26) Z) Z)) ?_;simp only[av,bK,bO,aL]
 (repeat' with_reducible first|intro _|apply aNd_)<;>first|exact aM|(refine ba I ?_;unfold oE;exact spL)
def E10:Env:=aF 173 (bN (a2 (ak gQ) bx) (λx=>I (oE x.1 x.2.toNat)) λx=>(0<=x.2/\x.2<x.1.n)/\wf x.1) E9
def MM:an P E10:=ah aA0 λx h=>by obtain⟨x,i⟩:=x;obtain⟨k,rfl⟩:=k7 h.1.1;exact PQ x k (by have:=h.1.2;simp only at this;omega) h.2
def Hj(x:bh gQ)(i:Nat):Bool:=decide<|oE x i≠0
def Kn(x:bh gQ)(i:Nat):Hj x i=true↔ ¬oE x i=0:=bp
def vx(x:bh gQ):Int:=if 64<x.n then 22 else if ar x.n (Hj x)=true then oE x (aE x.n<|Hj x)else 0
def To(x:bh gQ)(h:wf x):Ok P 105 [(ak gQ).au x] (I<|vx x):=by
 have hn:=h.1;have lp:=fF f105 4 x.n (Hj x) (λi=>(M 20 [(0,(ak gQ).au x),(2,I 0),(9,I x.n),(10,I i)])) [] (λi=>(.ret,(M 20 [(2,I<|oE x i)]),[])) (ey 0<|M 20 [(2,I 0)]) λi hi lt aW az aR=>by refine ao MM L0 [0,2,9,10] [2] (.d ((i:Int)<x.n) (.k (a2 (ak gQ) bx) (x,(i:Int)) ((0<=(i:Int)/\(i:Int)<(x.n:Int))/\wf x)<|.u (oE x (i:Int).toNat) 0 (eH az)<|eG aW)<|eY aR) ?_;have Y:=Kn x i;exact ft
 refine al MM (kR lp [0,2,9,10]) (.d ((x.n:Int)>64) (.e<|I 22)<|jS lp (.e<|I<|oE x<|aE x.n<|Hj x) qo) ?_;simp only[av]
 repeat' with_reducible first|intro _|apply aNd_
 all_goals (refine ba I ?_;unfold vx;exact spL)
abbrev zS:l_ J:=[S n_,I 0]
def aA3(s:y_)(n:Int):l_ J:=[J.sc<|.string s]++ [I n]
def bv7(s:y_):lF [zS] [J.sc<|.string s]=0:=by unfold lF;simp only[xw,EZ];cases rowIs zS [J.sc<|.string s]<;>rfl
def aA4(es:l_ (l_ J))(t s:y_)(n:Int):lF (es++ [aA3 t n]) [J.sc<|.string s]=bif decide (t=s)then n else lF es [J.sc<|.string s]:=by rw[wF,<-aL];show(bif (dN t s&&true)then n else _)=_;rw[tq]
def lkS(R:l_ (l_ J))(s:y_):Int:=lF (zS::R) [J.sc<|.string s]
def PT(R:l_ (l_ J))(x:bh y_)(i:Nat):Bool:=decide<|lkS R (x.f i)=0\/(0<i/\Op.bytesLess (x.f<|i-1).toList (x.f i).toList=false)
def ZX(R:l_ (l_ J))(x:bh y_)(i:Nat):PT R x i=true↔(lF (zS::R) [J.sc<|.string<|x.f i]=0\/(0<i/\Op.bytesLess (x.f<|i-1).toList (x.f i).toList=false)):=bp
def D1(R:l_ (l_ J))(x:bh y_):Int:=if ar x.n (PT R x)=true then 26 else 0
abbrev Tp(R:l_ (l_ J)):Hp:=[⟨zS::R,3,[],0,true,true⟩]
def Tq(R:l_ (l_ J))(x:bh y_)(hn:x.n<=aq):kD P 142 [.mp 0,(ak y_).au x] (Tp R) (I<|D1 R x) (Tp R):=by
 have lp:=fF f142 2 x.n (PT R x) (λi=>(M 30 [(0,J.mp 0),(1,(ak y_).au x),(4,I 0),(7,(ak y_).au x),(8,I x.n),(9,I i)])) (Tp R) (λi=>(.ret,(M 30 [(0,J.mp 0),(4,I 26)]),(Tp R))) (.ext 0,(M 30 [(0,J.mp 0),(4,I 0)]),(Tp R)) λi hi lt aW az aR=>by
  refine ao aw L0 [0,1,4,7,8,9] [0,4] (let Z:=oU ((i:Int)-1);(.d ((i:Int)<x.n) (.g i x.n<|.q (lF (zS::R) [S<|x.f i]) 0 (eH az)<|.d ((i:Int)>0) (.g Z x.n<|.m (Op.bytesLess (x.f Z.toNat).toList (x.f i).toList) (eH az)<|eG aW)<|eG aW)<|eY aR)) ?_;have Y:=ZX R x i;simp only[lQ<|cm hi hn,jF];simp only[av]
  repeat' with_reducible first|intro _|apply aNd_
  all_goals exact aM
 refine cK aw (kR lp [0,1,4,7,8,9]) (let Z:Hp:=[dW.mk ([S (n_:y_),I 0]::R) 3 [] 0 true true];(jS lp (.e (I 26,Z))<|.e (I 0,Z))) ?_;simp only[av]
 (repeat' with_reducible first|intro _|apply aNd_)<;>first|(refine dR.of_eq ?_;unfold D1;rw[if_pos W])|(refine dR.of_eq ?_;unfold D1;rw[if_neg (by rw[mZ];assumption)])
section
variable {x:bh gQ}{i:Nat}
def uH(x:bh gQ):Nat->l_ (l_ J)
 |0=> []
 |i+1=>uH x i++ [aA3 (x.f i).name (oU (lF (zS::uH x i) [J.sc (.string (x.f i).name)]+1))]
def PU(x:bh gQ)(s:y_):Nat->Nat
 |0=>0
 |i+1=>PU x s i+if(x.f i).name=s then 1 else 0
theorem WL(x:bh gQ)(s:y_):∀i,PU x s i<=i
 |0=>bE _
 |i+1=>by have:=WL x s i;show PU x s i+_<=_;split<;>omega
theorem Tt(x:bh gQ)(s:y_):∀i,i<=aq->lF (zS::uH x i) [J.sc<|.string s]=PU x s i
 |0,_=>bv7 s
 |i+1,h=>by
  have ih:=Tt x s i U;have O:zS::uH x (i+1)=(zS::uH x i)++ [aA3 (x.f i).name<|oU<|lF (zS::uH x i) [J.sc<|.string (x.f i).name]+1]:=rfl;rw[O,aA4];show _=((PU x s i+if(x.f i).name=s then 1 else 0:Nat):Int)
  by_cases F:(x.f i).name=s
  .have:=WL x s i;unfold aq at h;rw[cd F,Av,F,ih,wrap64 U U,if_pos rfl];rfl
  .rw[fq F,xz,ih,if_neg F];rfl
theorem Hk(x:bh gQ)(s:y_):∀i,0<PU x s i↔ar i (λj=>decide ((x.f j).name=s))=true
 |0=>by simp [PU,ar]
 |i+1=>by
  have ih:=Hk x s i;rw[cG]at*;show 0<PU x s i+(if(x.f i).name=s then 1 else 0)↔_;constructor
  .intro h;by_cases F:(x.f i).name=s
   .exact⟨i,U,cd F⟩
   .rw[if_neg F]at h;obtain⟨j,O,h2⟩:=ih.1 h;exact⟨j,U,h2⟩
  .rintro⟨j,O,h2⟩;by_cases hj:j=i
   .subst hj;rw[if_pos<|cn h2];omega
   .have:=ih.2 ⟨j,U,h2⟩;omega
def bW3(hi:i<x.n):Ow x (x.f i).name<i↔ar i (λj=>decide ((x.f j).name=(x.f i).name))=true:=by
 have ha:ar x.n (λj=>decide ((x.f j).name=(x.f i).name))=true:=cG.2 ⟨i,hi,cd rfl⟩;have e:Ow x (x.f i).name=(aE x.n λj=>decide ((x.f j).name=(x.f i).name):Nat):=by unfold Ow cZ;rw[if_pos ha]
 rw[e,cG];constructor
 .intro h;exact⟨_,U,dC<|dw.2 ha⟩
 .rintro⟨j,O,h2⟩;rcases fA j (aE x.n λj=>decide ((x.f j).name=(x.f i).name))with h|h
  .rw[gy h]at h2;cases h2
  .omega
def aA5(hi:i<x.n)(hn:x.n<=aq):lF (zS::uH x i) [J.sc<|.string (x.f i).name]>0↔Ow x (x.f i).name<i:=by rw[Tt x _ i U,bW3 hi,<-Hk];omega
def WM(s:y_)(hn:x.n<=aq):lF (zS::uH x x.n) [J.sc<|.string s]=0↔Ow x s<0:=by rw[Tt x _ x.n hn];have O:=Hk x s x.n;have h2:Ow x s<0↔_:=Bb (n:=x.n) (b:=λj=>decide ((x.f j).name=s));rw[h2,<-mZ,<-O];omega
def bC5(m:bh y_)(hn:x.n<=aq):ar m.n (PT (uH x x.n) m)=ar m.n (ZW x m):=ng λi _=>by unfold PT ZW lkS;rw[oM,WM _ hn]
def aA6:l_ J->Hp->Option (J×Hp×l_ Prop):=λaa h=>match aa,h with
 | [_,p],[B]=>match B.es with
  |_::R=>some (I<|D1 R<|(ak y_).dec p,[B],[aa=[.mp 0,(ak y_).au<|(ak y_).dec p],B=⟨zS::R,3,[],0,true,true⟩,((ak y_).dec p).n<=aq])
  | []=>none
 |_,_=>none
def EU:Env:=cF 142 aA6<|aF 59 (bN (a1 aQ) (λs=>Bo (gn s.data.toList)) λs=>s.size<=aq) EN
def aA7:an P EU:=fC (ah aw oX) λaa h r h' ob O h2=>by
 unfold aA6 at O;split at O
 .rename_i p q B;split at O
  .rename_i z R hR;cases O;have e1:=h2 _ ch;have e2:=h2 (B=⟨zS::R,3,[],0,true,true⟩) sS;have e3:=h2 (((ak y_).dec q).n<=aq) sS;have:=Tq R ((ak y_).dec q) e3;rw[<-e1,show Tp R=[B] by rw[Tp,<-e2]]at this;exact this
  .cases O
 .cases O
def ZY(x:bh gQ)(h:wf x):Ok P 78 [(ak gQ).au x] (I<|vx x):=by
 have hn:=h.1;have lp:=qp f78 5 x.n (λ_=>false) (λi=>(M 68 [(0,(ak gQ).au x),(2,I 0),(3,J.mp 0),(4,J.mp 1),(15,(ak gQ).au x),(16,I x.n),(17,I i)])) (λi=> [⟨zS::uH x i,3,[],0,true,false⟩,⟨[zS],3,[],0,true,false⟩]) (λi=>(.ret,(M 68 [(0,(ak gQ).au x),(2,I 0),(3,J.mp 0),(4,J.mp 1)]),[⟨zS::uH x i,3,[],0,true,false⟩,⟨[zS],3,[],0,true,false⟩])) (.ext 0,(M 68 [(0,(ak gQ).au x),(2,I 0),(3,J.mp 0),(4,J.mp 1)]),[⟨zS::uH x x.n,3,[],0,true,false⟩,⟨[zS],3,[],0,true,false⟩]) λi hi lt aW az aR=>by
  refine ao aA7 L0 [0,2,3,4,15,16,17] [0,2,3,4] (let Z:=[S (n_:y_),I 0];let V:=(ak gQ).au x;let aG:=dW.mk [Z] 3 [] 0 true false;(.d ((i:Int)<x.n) (.g i x.n<|bR (M 68 [(0,V),(2,I 0),(3,J.mp 0),(4,J.mp 1),(15,V),(16,I x.n),(17,I<|oU<|(i:Int)+1)]) [dW.mk (Z::(uH x i++ [[S (x.f i).name]++ [I<|oU<|lF (zS::uH x i) [S (x.f i).name]+1]])) 3 [] 0 true false,aG])<|fv 0 (M 68 [(0,V),(2,I 0),(3,J.mp 0),(4,J.mp 1)]) [dW.mk (Z::uH x i) 3 [] 0 true false,aG])) ?_;have Y:=(di:False↔False)
  simp only[av]
  (repeat' with_reducible first|intro _|apply aNd_)<;>first|exact aM|(rw[bZ (n:=x.n) U hn];exact aW U rfl)|(have e:i=x.n:=U;subst e;exact aR rfl)
 have xZ:=qp f78 10 x.n (Hj x) (λi=>(M 68 [(2,I 0),(3,J.mp 0),(4,J.mp 1),(27,(ak gQ).au x),(28,I x.n),(29,I i)])) (λi=> [⟨zS::uH x x.n,3,[],0,true,false⟩,⟨zS::uH x i,3,[],0,true,false⟩]) (λi=>(.ret,(M 68 [(2,I<|oE x i)]),[])) (ey 2<|M 68 [(2,I 0)]) λi hi lt aW az aR=>by
  have hsn:i<x.n->(lF (zS::uH x i) [J.sc<|.string (x.f i).name]>0↔Ow x (x.f i).name<i):=λhi=>aA5 hi hn;have hal:=λs=>WM (x:=x) s hn;have hme:=bC5 (x:=x) (x.f i).ie hn;have hmE:D1 (uH x x.n) (x.f i).ie=if ar (x.f i).ie.n (ZW x (x.f i).ie)=true then 26 else 0:=by unfold D1;rw[hme]
  have u25:gn (x.f i).name.data.toList=false->oE x i=25:=λO=>if_pos O;have u7:i<x.n->gn (x.f i).name.data.toList=true->lF (zS::uH x i) [J.sc<|.string (x.f i).name]>0->oE x i=7:=λh0 O h2=>by unfold oE;rw[if_neg (by rw[O];simp),if_pos<|(hsn h0).1 h2]
  have u26:i<x.n->gn (x.f i).name.data.toList=true-> ¬lF (zS::uH x i) [J.sc<|.string (x.f i).name]>0-> ¬(x.f i).nW=n_->lF (zS::uH x x.n) [J.sc<|.string (x.f i).nW]=0->oE x i=26:=λh0 O h2 h3 h4=>by unfold oE;rw[if_neg (by rw[O];simp),if_neg λh=>h2 ((hsn h0).2 h),if_pos ⟨h3,(hal _).1 h4⟩]
  have um:i<x.n->gn (x.f i).name.data.toList=true-> ¬lF (zS::uH x i) [J.sc<|.string (x.f i).name]>0->((x.f i).nW=n_\/ ¬lF (zS::uH x x.n) [J.sc<|.string (x.f i).nW]=0)->oE x i=D1 (uH x x.n) (x.f i).ie:=λh0 O h2 h3=>by unfold oE;rw[if_neg (by rw[O];simp),if_neg λh=>h2 ((hsn h0).2 h),if_neg λh=>h3.elim (λh4=>h.1 h4) λh4=>h4 ((hal _).2 h.2),hmE]
  refine ao aA7 L0 [2,3,4,27,28,29] [2] (let aG:=[J.mp 0,(ak y_).au (x.f i).ie];let aS:=(n_:y_);let bn:=(zS::uH x x.n);let V:=if [].contains 0=true then dW.mk bn 2 [] 0 true false else dW.mk bn 3 [] 0 true false;let bH:=D1 (uH x x.n) (x.f i).ie;let cp:=[S (x.f i).name];let Z:nV:=(.o [List.map cj aG=aG,dW.mk (bif V.sym then V.es else List.map (List.map cj) V.es) V.st [] V.sz V.sym true=dW.mk bn 3 [] 0 true true,(x.f i).ie.n<=140737488351232]<|.u bH 0 (kG (M 68 [(2,I bH)]) [])<|bR (M 68 [(2,I 0),(3,J.mp 0),(4,J.mp 1),(27,(ak gQ).au x),(28,I x.n),(29,I<|oU<|(i:Int)+1)]) [dW.mk ([S aS,I 0]::uH x x.n) 3 [] 0 true false,dW.mk ([S aS,I 0]::(uH x i++ [cp++ [I<|oU<|lF (zS::uH x i) cp+1]])) 3 [] 0 true false]);(.d ((i:Int)<x.n) (.g i x.n<|.k (a1 aQ) (x.f i).name ((x.f i).name.size<=140737488351232)<|.m (gn (x.f i).name.data.toList) (kG (M 68 [(2,I 25)]) [])<|.d (lF (zS::uH x i) cp>0) (kG (M 68 [(2,I 7)]) [])<|.m (dN (x.f i).nW aS) (.q (lF bn [S (x.f i).nW]) 0 (kG (M 68 [(2,I 26)]) []) Z) Z)<|fv 2 (M 68 [(2,I 0)]) [])) ?_;have Y:=Kn x i;simp only[av,bK,bO,aL]
  (repeat' with_reducible first|intro _|apply aNd_)<;>first|exact aM|exact(h.2 i).1|exact(h.2 i).2.2.1|(have e:=u25 W;rw[e]at az;exact az U (Y.2 U))|(have e:=u7 U W W;rw[e]at az;exact az U (Y.2 U))|(have e:=u26 U W W W W;rw[e]at az;exact az U (Y.2 U))|(have e:=um U W W (.inl W);rw[e]at az;exact az U (Y.2 U))|(have e:=um U W W (.inr W);rw[e]at az;exact az U (Y.2 U))
 refine al aA7 (LOr 5 (kR lp [0,2,3,4,15,16,17]) 10<|kR xZ [2,3,4,27,28,29]) (.d ((x.n:Int)>64) (.e<|I 22)<|jS lp qo<|jS xZ (.e<|I<|oE x<|aE x.n<|Hj x) qo) ?_;have hz:ar x.n (λ_=>false)=false:=bc.2 λ_ _=>rfl;simp only[av]
 (repeat' with_reducible first|intro _|apply aNd_)<;>first|exact absurd (show(ar x.n λ_=>false)=true by assumption) (by rw[hz];simp)|(refine ba I ?_;unfold vx;exact spL)
end
abbrev zI:l_ J:=[I 0,I 0]
abbrev zP:l_ J:=[I 0,S n_,I 0]
def be3(k n:Int):l_ J:=[J.sc<|.int .i64 k]++ [I n]
def rowP(k:Int)(s:y_)(n:Int):l_ J:=[J.sc<|.int .i64 k,J.sc<|.string s]++ [I n]
def be4(es:l_ (l_ J))(t k:Int)(n:Int):lF (es++ [be3 t n]) [J.sc<|.int .i64 k]=bif t==k then n else lF es [J.sc<|.int .i64 k]:=by rw[wF];show(bif ((t==k)&&true)then n else _)=_;rw[tq]
def be5(es:l_ (l_ J))(t k:Int)(u s:y_)(n:Int):lF (es++ [rowP t u n]) [J.sc<|.int .i64 k,J.sc<|.string s]=bif (t==k&&decide (u=s))then n else lF es [J.sc<|.int .i64 k,J.sc<|.string s]:=by rw[wF,<-aL];show(bif ((t==k)&&(dN u s&&true))then n else _)=_;rw[tq]
def dH(f:Nat->aV):Nat->l_ (l_ J)
 |0=> []
 |i+1=>bif qq (f i).mode then dH f i++ [be3 (f i).id (oU (lF (zI::dH f i) [J.sc (.int .i64 (f i).id)]+1))]else dH f i
def nH(f:Nat->aV):Nat->l_ (l_ J)
 |0=> []
 |i+1=>bif decide (0<i)then nH f i++ [rowP (f i).bo (f i).name (oU (lF (zP::nH f i) [J.sc (.int .i64 (f i).bo),J.sc (.string (f i).name)]+1))]else nH f i
theorem aA8(f:Nat->aV)(k:Int):∀i,i<=aq->0<=lF (zI::dH f i) [J.sc<|.int .i64 k]/\lF (zI::dH f i) [J.sc<|.int .i64 k]<=i/\(lF (zI::dH f i) [J.sc<|.int .i64 k]=0↔ar i (λj=>decide ((f j).id=k/\qq (f j).mode=true))=false)
 |0,_=>by
  have:lF (zI::dH f 0) [J.sc<|.int .i64 k]=0:=by show lF [zI] _=0;unfold lF;simp only[xw,EZ];cases rowIs zI [J.sc<|.int .i64 k]<;>rfl
  rw[this];simp [ar]
 |i+1,h=>by
  obtain⟨O,h2,h3⟩:=aA8 f k i U;rw[show ar (i+1) (λj=>decide ((f j).id=k/\qq (f j).mode=true))=(ar i (λj=>decide ((f j).id=k/\qq (f j).mode=true))||decide ((f i).id=k/\qq (f i).mode=true)) by unfold ar;rw[qi,AA];simp];cases hd:qq (f i).mode with
  |false=>
   rw[show dH f (i+1)=dH f i by show(bif qq (f i).mode then _ else _)=_;rw[hd];rfl];refine⟨O,U,?_⟩;rw[h3];simp
  |true=>
   rw[show zI::dH f (i+1)=(zI::dH f i)++ [be3 (f i).id<|oU<|lF (zI::dH f i) [J.sc<|.int .i64 (f i).id]+1] by show zI::(bif qq (f i).mode then _ else _)=_;rw[hd];rfl,be4];by_cases F:(f i).id=k
   .unfold aq at h;rw[F,LJ,Av,wrap64 U U];exact⟨U,U,by simp;omega⟩
   .rw[show((f i).id==k)=false by simpa using F,xz];refine⟨O,U,?_⟩;rw[h3];simp [F]
theorem aA9(f:Nat->aV)(k:Int)(s:y_):∀i,i<=aq->0<=lF (zP::nH f i) [J.sc<|.int .i64 k,J.sc<|.string s]/\lF (zP::nH f i) [J.sc<|.int .i64 k,J.sc<|.string s]<=i/\(lF (zP::nH f i) [J.sc<|.int .i64 k,J.sc<|.string s]>0↔ar i (λj=>decide (0<j/\(f j).bo=k/\(f j).name=s))=true)
 |0,_=>by
  have:lF (zP::nH f 0) [J.sc<|.int .i64 k,J.sc<|.string s]=0:=by show lF [zP] _=0;unfold lF;simp only[xw,EZ];cases rowIs zP [J.sc<|.int .i64 k,J.sc<|.string s]<;>rfl
  rw[this];simp [ar]
 |i+1,h=>by
  obtain⟨O,h2,h3⟩:=aA9 f k s i U;rw[show ar (i+1) (λj=>decide (0<j/\(f j).bo=k/\(f j).name=s))=(ar i (λj=>decide (0<j/\(f j).bo=k/\(f j).name=s))||decide (0<i/\(f i).bo=k/\(f i).name=s)) by unfold ar;rw[qi,AA];simp];by_cases hi:0<i
  .rw[show zP::nH f (i+1)=(zP::nH f i)++ [rowP (f i).bo (f i).name<|oU<|lF (zP::nH f i) [J.sc<|.int .i64 (f i).bo,J.sc<|.string (f i).name]+1] by show zP::(bif decide (0<i)then _ else _)=_;rw[cd hi];rfl,be5];by_cases F:(f i).bo=k/\(f i).name=s
   .obtain⟨e1,e2⟩:=F;unfold aq at h;rw[e1,e2,LJ,cd rfl,tq,Av,wrap64 U U];exact⟨U,U,by simp [hi];omega⟩
   .rw[show((f i).bo==k&&decide ((f i).name=s))=false by
     rw[<-mZ];simpa using F,xz]
    refine⟨O,U,?_⟩;rw[h3];simp [F]
  .rw[show nH f (i+1)=nH f i by show(bif decide (0<i)then _ else _)=_;rw[fq hi];rfl];refine⟨O,U,?_⟩;rw[h3];simp [hi]
def be6(x:ct)(i:Nat):Bool:=ar i λj=>decide<|(x.aj.f j).id=(x.aj.f i).bo/\qq (x.aj.f j).mode=true
def bC6(x:ct)(i:Nat):Bool:=ar i λj=>decide<|0<j/\(x.aj.f j).bo=(x.aj.f i).bo/\(x.aj.f j).name=(x.aj.f i).name
def PW(x:ct)(i:Nat):Prop:=ju (x.aj.f i)=false\/x.next<=(x.aj.f i).id\/(0<i/\(x.aj.f i).id<=(x.aj.f<|i-1).id)\/(i=0/\((x.aj.f i).id≠1\/(x.aj.f i).bo≠1\/(x.aj.f i).name≠⟨#[47]⟩\/qq (x.aj.f i).mode=false))\/(0<i/\(fj (x.aj.f i).name=false\/be6 x i=false\/bC6 x i=true))
instance(x:ct)(i:Nat):Decidable (PW x i):=by unfold PW;infer_instance
def aB0(x:ct)(i:Nat):Bool:=decide<|PW x i
def ZZ(x:ct)(i:Nat):aB0 x i=true↔(ju (x.aj.f i)=false\/x.next<=(x.aj.f i).id\/(0<i/\(x.aj.f i).id<=(x.aj.f<|i-1).id)\/(i=0/\((x.aj.f i).id≠1\/(x.aj.f i).bo≠1\/(x.aj.f i).name≠⟨#[47]⟩\/qq (x.aj.f i).mode=false))\/(0<i/\(fj (x.aj.f i).name=false\/be6 x i=false\/bC6 x i=true))):=bp
def eb(x:ct):Bool:=decide<|1<=x.aj.n/\x.aj.n<=1024/\x.next<=1048576/\ar x.aj.n (aB0 x)=false
def ETR:Env:=Pk ax9<|aF 43 (bN (a1 aQ) (λs=>Bo (fj s)) λs=>s.size<=aq)<|aF 143 (bN (a1<|af aV) (λx=>Bo (ju x)) wf)<|aF 144 (bN (a1 bx) (λm=>Bo (qq m)) wf) EN
def aB1:an P ETR:=vq (ah (ah (ah aw λm h=>WI m h) λm h=>ZT m h) λm h=>uw m h) ay1
def CI(x:ct)(h:wf x):Ok P 80 [(af ct).au x] (Bo<|eb x):=by
 have hn:=h.2.1;have hv:=h.2.2;have lp:=qp f80 5 x.aj.n (aB0 x) (λi=>(M 121 [(1,aT),(2,aP),(3,J.mp 1),(4,J.mp 2),(25,(ak aV).au x.aj),(26,I x.aj.n),(27,I i)])) (λi=> [(cM [aY.cells x] 2),⟨zI::dH x.aj.f i,3,[],0,true,false⟩,⟨zP::nH x.aj.f i,3,[],0,true,false⟩]) (eR<|M 121 [(2,aP)]) (ey 0<|M 121 [(2,aP)]) λi hi lt aW az aR=>by
  have Wa:i<=aq:=U;have hd:=(aA8 x.aj.f (x.aj.f i).bo i Wa).2.2;have hm:=(aA9 x.aj.f (x.aj.f i).bo (x.aj.f i).name i Wa).2.2;have hd':lF (zI::dH x.aj.f i) [J.sc<|.int .i64 (x.aj.f i).bo]=0↔be6 x i=false:=hd;have hm':lF (zP::nH x.aj.f i) [J.sc<|.int .i64 (x.aj.f i).bo,J.sc<|.string (x.aj.f i).name]>0↔bC6 x i=true:=hm;have d1:qq (x.aj.f i).mode=true->dH x.aj.f (i+1)=dH x.aj.f i++ [be3 (x.aj.f i).id<|oU<|lF (zI::dH x.aj.f i) [J.sc<|.int .i64 (x.aj.f i).id]+1]:=λe=>by show(bif qq (x.aj.f i).mode then _ else _)=_;rw[e];rfl
  have d0:qq (x.aj.f i).mode=false->dH x.aj.f (i+1)=dH x.aj.f i:=λe=>by show(bif qq (x.aj.f i).mode then _ else _)=_;rw[e];rfl
  have m1:0<i->nH x.aj.f (i+1)=nH x.aj.f i++ [rowP (x.aj.f i).bo (x.aj.f i).name<|oU<|lF (zP::nH x.aj.f i) [J.sc<|.int .i64 (x.aj.f i).bo,J.sc<|.string (x.aj.f i).name]+1]:=λe=>by show(bif decide (0<i)then _ else _)=_;rw[cd e];rfl
  have m0: ¬0<i->nH x.aj.f (i+1)=nH x.aj.f i:=λe=>by show(bif decide (0<i)then _ else _)=_;rw[fq e];rfl
  refine ao aB1 L0 [1,2,3,4,25,26,27] [2] (let aG:=M 121 [(1,aT),(2,aP),(3,J.mp 1),(4,J.mp 2),(25,(ak aV).au x.aj),(26,I x.aj.n),(27,I<|oU<|(i:Int)+1)];let aS:=x.aj.f i;let bH:=dW.mk ([I 0,I 0]::(dH x.aj.f i++ [[I aS.id]++ [I<|oU<|lF (zI::dH x.aj.f i) [I aS.id]+1]])) 3 [] 0 true false;let cu:=cM [(aY.cells x)] 2;let dk:=dW.mk ([I 0,I 0]::dH x.aj.f i) 3 [] 0 true false;let bu:=[I aS.bo,S aS.name];let bC:=oU ((i:Int)-1);let bP:=[I 0,S (n_:y_),I 0];let bn:=dW.mk (bP::(nH x.aj.f i++ [bu++ [I<|oU<|lF (zP::nH x.aj.f i) bu+1]])) 3 [] 0 true false;let cp:=dW.mk (bP::nH x.aj.f i) 3 [] 0 true false;let bY:=wf aS.mode;let cN:=qq aS.mode;let Z:nV:=(.d ((i:Int)>0) (.r yN<|.r true<|.o [0<=1,112<=121]<|.k (a1 bx) aS.mode bY<|.n cN (bR aG [cu,bH,bn])<|bR aG [cu,dk,bn])<|.k (a1 bx) aS.mode bY<|.n cN (bR aG [cu,bH,cp])<|bR aG [cu,dk,cp]);let V:nV:=(.q i 0 (.u (aS.id) 1 (eH az)<|.u (aS.bo) 1 (eH az)<|.m (dN aS.name (⟨#[47]⟩:y_)) (eH az)<|.k (a1 bx) aS.mode bY<|.m cN (eH az) Z)<|.k (a1 aQ) aS.name (aS.name.size<=140737488351232)<|.m (fj aS.name) (eH az)<|.q (lF (zI::dH x.aj.f i) [I aS.bo]) 0 (eH az)<|.d (lF (zP::nH x.aj.f i) bu>0) (eH az) Z);(.d ((i:Int)<x.aj.n) (.g i x.aj.n<|.k (a1<|af aV) aS (wf aS)<|.m (ju aS) (eH az)<|.d (aS.id>=x.next) (eH az)<|.d ((i:Int)>0) (.g bC x.aj.n<|.d (aS.id<=(x.aj.f bC.toNat).id) (eH az) V) V)<|fv 0 (M 121 [(2,aP)]) [])) ?_;have Y:=ZZ x i
  (try simp only[lQ<|cm hi hn,jF])
  simp only[av,bK,bO,aL]
  (repeat' with_reducible first|intro _|apply aNd_)<;>first|exact aM|exact hv i|exact(hv i).2.2.2.2.1|exact(hv i).2.2.2.1|(rw[d1 W,m1 U]at aW;rw[bZ (n:=x.aj.n) U hn];exact aW U (bF Y (by clear aW az aR;grind)))|(rw[d0 W,m1 U]at aW;rw[bZ (n:=x.aj.n) U hn];exact aW U (bF Y (by clear aW az aR;grind)))|(rw[d1 W,m0 U]at aW;rw[bZ (n:=x.aj.n) U hn];exact aW U (bF Y (by clear aW az aR;grind)))|(rw[d0 W,m0 U]at aW;rw[bZ (n:=x.aj.n) U hn];exact aW U (bF Y (by clear aW az aR;grind)))
 refine al aB1 (kR lp [1,2,3,4,25,26,27]) (let Z:ix:=bI;(.d ((x.aj.n:Int)<1) Z<|.d ((x.aj.n:Int)>1024) Z<|.d (x.next>1048576) Z<|jS lp Z fo)) ?_;simp only[av]
 repeat' with_reducible first|intro _|apply aNd_
 all_goals (clear lp hv h;unfold eb;exact ga)
section
variable {T:l_ J}{h:Hp}{k:Code}
def St.Hl {w0:fR} {Sa:Nat->Prop}{a:Act} {w:World} {t:Nat} {b c:Bool}(hbc:b=c)(iu:St w0 Sa T h a w)(ht:T[t]?=some (.bit b)):St w0 Sa (T.set t<|Bo c) h a w:=by
 subst hbc;obtain⟨S,m,hI,hT,Ak⟩:=iu;refine⟨S,m,hI,⟨by simpa using hT.1,λt' p hp=> ?_⟩,Ak⟩;rw[cD]at hp;split at hp
 .rename_i e;subst e;split at hp
  .cases hp;rw[py<|hT.2 _ _ ht];exact .st _ _<|.sc _
  .cases hp
 .exact hT.2 t' p hp
theorem aO.Hl {P:Program}{lt:PS.LT}(t:Nat)(b c:Bool)(hbc:b=c)(ht:T[t]?=some (.bit b))(hl:aO P k (T.set t<|Bo c) h lt):aO P k T h lt:=by obtain⟨x,O,n,h2⟩:=hl;exact⟨x,O,n,λw0 Sa a w Q hG iu hQ=>h2 w0 Sa a w Q hG (St.Hl hbc iu ht) hQ⟩
def aO.bC7 {P:Program}{lt:PS.LT}(t:Nat)(b c:Bool)(hbc:b=c)(ht:T[t]?=some (Bo b))(hl:aO P k (T.set t<|Bo c) h lt):aO P k T h lt:=by
 subst hbc;have e:T.set t (Bo b)=T:=by
  refine k6 λj=> ?_;rw[cD];split
  .rename_i hj;subst hj;split
   .exact ht.symm
   .rename_i iH;rw[gx U]
  .rfl
 rwa [e]at hl
def Ko(n:Nat)(b:Nat->Bool):ar (n+1) b=(ar n b||b n):=by unfold ar;rw[qi,AA];simp
def tI(live:l_ Nat)(ws:l_ (Nat×Nat))(n:Nat)(b:Nat->Bool)(x:Nat->l_ J)(y:l_ J)(o:Out)(hx:Nat->Hp)(hy:Hp):gD:=λ_=>(live,ws,λ_ _=> .ite (ar n b) (.out .ret (x<|aE n b)<|hx<|aE n b) (.out o y hy))
def b75(k:Nat)(A B:gD):gD:=λn=>bif n==k then A n else B n
end
def b76:Env:=(aF 50 (bN (a1 aQ) (λs=>Bo (fj s)) λs=>s.size<=aq)<|aF 174 (bN (a1<|af aV) (λx=>Bo (ju x)) wf)<|aF 175 (bN (a1 bx) λm=>Bo (decide<|2147483648<=m)) EN)
def MN:an P b76:=ah (ah (ah aw λm _=>CG m) λm h=>Tm m h) λm h=>uv m h
def MO(x:ct)(i k:Nat):Bool:=decide<|(x.aj.f k).id=(x.aj.f i).bo/\2147483648<=(x.aj.f k).mode
def Z0(x:ct)(i k:Nat):Bool:=decide<|0<k/\(x.aj.f k).bo=(x.aj.f i).bo/\(x.aj.f k).name=(x.aj.f i).name
def aB2(x:ct)(i k:Nat):Z0 x i k=true↔(0<k/\(x.aj.f k).bo=(x.aj.f i).bo/\(x.aj.f k).name=(x.aj.f i).name):=bp
def MP(x:ct)(i:Nat):Prop:=(x.aj.f i).id<=(x.aj.f<|i-1).id\/(x.aj.f i).id<=(x.aj.f i).bo\/fj (x.aj.f i).name=false\/ju (x.aj.f i)=false\/ar i (Z0 x i)=true\/ar i (MO x i)=false
instance(x:ct)(i:Nat):Decidable (MP x i):=by unfold MP;infer_instance
def CJ(x:ct)(i:Nat):Bool:=decide<|MP x<|i+1
def Tu(x:ct)(i:Nat):CJ x i=true↔((x.aj.f<|i+1).id<=(x.aj.f i).id\/(x.aj.f<|i+1).id<=(x.aj.f<|i+1).bo\/fj (x.aj.f<|i+1).name=false\/ju (x.aj.f<|i+1)=false\/ar (i+1) (Z0 x<|i+1)=true\/ar (i+1) (MO x<|i+1)=false):=bp
def MQ(x:ct):Bool:=decide<|1<=x.aj.n/\x.aj.n<=1024/\(x.aj.f 0).id=1/\(x.aj.f 0).bo=1/\(x.aj.f 0).name=⟨#[47]⟩/\2147483648<=(x.aj.f 0).mode/\ju (x.aj.f 0)=true/\(x.aj.f<|x.aj.n-1).id<x.next/\x.next<=1048576/\ar (x.aj.n-1) (CJ x)=false
def Hm(x:ct)(h:wf x):Ok P 107 [(af ct).au x] (Bo<|MQ x):=by
 have hn:=h.2.1;have hv:=h.2.2;have DJ:x.aj.n-1<=aq:=U;have hw:∀i,i<=x.aj.n->oU (((i+1:Nat):Int)+1)=((i+1+1:Nat):Int):=λi hi=>by unfold aq at hn;rw[wrap64 U U];omega
 have hp:∀i,i<=x.aj.n->oU (((i+1:Nat):Int)-1)=(i:Int):=λi hi=>by unfold aq at hn;rw[wrap64 U U];omega
 have lp:=λ(iH:1<=x.aj.n)=>yM f107 7 (x.aj.n-1) (CJ x) (λi=>(M 172 [(2,.bit false),(3,(ak aV).au x.aj),(4,I ((i+1:Nat):Int))])) [] (λi=>(.ret,(M 172 [(2,.bit false)]),[])) (.ext 0,(M 172 [(2,.bit false)]),[]) λi hi lt aW az aR=>by
  have xZ:=λ(iH:i<x.aj.n-1)=>yM f107 13 (i+1) (Z0 x<|i+1) (λk=>(M 172 [(2,.bit false),(3,(ak aV).au x.aj),(4,I ((i+1:Nat):Int)),(5,Bo<|ar k<|MO x<|i+1),(6,I k)])) [] (λk=>(.ret,(M 172 [(2,.bit false)]),[])) (.ext 2,(M 172 [(2,.bit false),(3,(ak aV).au x.aj),(4,I ((i+1:Nat):Int)),(5,Bo<|ar (i+1)<|MO x<|i+1)]),[]) λk hk ltk sE mN nX=>by
   have hs:=Ko k<|MO x<|i+1;have hi1:MO x (i+1) k=decide ((x.aj.f k).id=(x.aj.f<|i+1).bo/\2147483648<=(x.aj.f k).mode):=rfl;have hik:i+1<=aq:=U;refine ao MN L0 [2,3,4,5,6] [2,10003,10004,10005] (let aS:=(↑(i+1):Int);let bH:=(3,(ak aV).au x.aj);let cp:=(x.aj.f<|i+1).bo;let cu:=x.aj.f k;let bn:=dN cu.name (x.aj.f<|i+1).name;let dk:=(6,I<|oU<|(k:Int)+1);let Z:nV:=(bR (M 172 [(2,aP),bH,(4,I aS),(5,Bo<|decide<|2147483648<=cu.mode),dk]) []);let V:nV:=(bR (M 172 [(2,aP),bH,(4,I aS),(5,fZ),dk]) []);let aG:nV:=(bR (M 172 [(2,aP),bH,(4,I aS),(5,aP),dk]) []);let bu:=(k:Int)>0;let bC:=ar k (MO x<|i+1);let bP:=cu.bo;(.d ((k:Int)<aS) (.n bC (.d bu (.g k x.aj.n<|.g aS x.aj.n<|.q bP cp (.g k x.aj.n<|.g aS x.aj.n<|.n bn (eH mN) V) V) V)<|.g k x.aj.n<|.g aS x.aj.n<|.q (cu.id) cp (.g k x.aj.n<|.v (a1 bx) cu.mode<|.d bu (.g k x.aj.n<|.g aS x.aj.n<|.q bP cp (.g k x.aj.n<|.g aS x.aj.n<|.n bn (eH mN) Z) Z) Z)<|.d bu (.g k x.aj.n<|.g aS x.aj.n<|.q bP cp (.g k x.aj.n<|.g aS x.aj.n<|.n bn (eH mN) aG) aG) aG)<|fv 2 (M 172 [(2,aP),bH,(4,I aS),(5,Bo bC)]) [])) ?_;have Jh:=aB2 x (i+1) k;simp only[av,bK,bO,aL]
   (repeat' with_reducible first|intro _|apply aNd_)<;>first|exact aM|(rw[bZ (n:=i+1) U hik];exact aO.Hl 5 true _ (by clear sE mN nX;grind) rfl (sE U<|bF Jh (by clear sE mN nX;grind)))|(rw[bZ (n:=i+1) U hik];exact aO.Hl 5 false _ (by clear sE mN nX;grind) rfl (sE U<|bF Jh (by clear sE mN nX;grind)))|(rw[bZ (n:=i+1) U hik];exact aO.bC7 5 _ _ (by clear sE mN nX;grind) rfl (sE U<|bF Jh (by clear sE mN nX;grind)))|(have e:k=i+1:=U;subst e;exact nX rfl)|exact mN U (Jh.2<|by first|omega|assumption|(clear sE mN nX;grind))
  refine ao MN (iy [2,3,4,5,6] (i+1) (Z0 x<|i+1) (λk=>(M 172 [(2,.bit false)])) (M 172 [(2,.bit false),(3,(ak aV).au x.aj),(4,I ((i+1:Nat):Int)),(5,Bo<|ar (i+1)<|MO x<|i+1)]) (.ext 2) (λk=> []) []) [2,3,4] [2] (let Z:=(↑(i+1):Int);let V:=x.aj.f (i+1);let aS:=(3,(ak aV).au x.aj);let aG:=(M 172 [(2,aP),aS,(4,I Z),(5,aP),(6,I 0)]);let bn:=ar (i+1) (MO x<|i+1);let bH:=oU (Z-1);let cp:=M 172 [(2,aP)];let cu:=aD f107 13;(.d (Z<(x.aj.n:Int)) (.g Z x.aj.n<|.g bH x.aj.n<|.d (V.id<=(x.aj.f bH.toNat).id) (eH az)<|.g Z x.aj.n<|.g Z x.aj.n<|.d (V.bo>=V.id) (eH az)<|.g Z x.aj.n<|.k (a1 aQ) V.name (V.name.size<=140737488351232)<|.m (fj V.name) (eH az)<|.g Z x.aj.n<|.k (a1<|af aV) V (wf V)<|.m (ju V) (eH az)<|.n (ar (i+1)<|Z0 x<|i+1) (.o [ax P cu aG [] (Out.ret) (cp) []]<|eH az)<|.o [ax P cu aG [] (Out.ext 2) (M 172 [(2,aP),aS,(4,I Z),(5,Bo bn)]) []]<|.m bn (eH az)<|bR (M 172 [(2,aP),aS,(4,I<|oU<|Z+1)]) [])<|fv 0 cp [])) ?_;have Y:=Tu x i
  (try simp only[dL,hp i U,hw i U])
  simp only[av]
  (repeat' with_reducible first|intro _|apply aNd_)<;>first|exact aM|exact hv _|exact(hv _).2.2.2.1|exact((aO.Hl 5 false false rfl rfl<|xZ U).t W).one|exact((aO.Hl 5 false false rfl rfl<|xZ U).f W).one
 refine al MN (iy [2,3,4] (x.aj.n-1) (CJ x) (λi=>(M 172 [(2,.bit false)])) (M 172 [(2,.bit false)]) (.ext 0) (λi=> []) []) (let V:ix:=bI;let aG:=x.aj.f 0;let aS:=(x.aj.n:Int);let Z:=[(0:Int)<=0,(0:Int)<aS];let bn:=(M 172 [(2,aP),(3,(ak aV).au x.aj),(4,I 1)]);let bH:=oU (aS-1);let cp:=(M 172 [(2,aP)]);(.d (aS<1) V<|.d (aS>1024) V<|.o Z<|.u (aG.id) 1 V<|.o Z<|.u (aG.bo) 1 V<|.o Z<|.m (dN aG.name (⟨#[47]⟩:y_)) V<|.o Z<|.d (aG.mode<2147483648) V<|.o Z<|.k (a1<|af aV) aG (wf aG)<|.m (ju aG) V<|.g bH x.aj.n<|.d (x.next<=(x.aj.f bH.toNat).id) V<|.d (x.next>1048576) V<|.n (ar (x.aj.n-1)<|CJ x) (.o [ax P (aD f107 7) bn [] (Out.ret) cp []] V)<|.o [ax P (aD f107 7) bn [] (Out.ext 0) cp []] fo)) ?_;try simp only[lQ hn,jF]
 simp only[av,bK,bO,aL]
 (repeat' with_reducible first|intro _|apply aNd_)<;>first|exact aM|exact hv _|(clear lp hv h;unfold MQ;exact ga)
theorem zC(f:Nat->Int)(n:Nat)(h:∀i,0<i->i<n->f (i-1)<f i):∀k j,j<k->k<n->f j<f k
 |0,j,hj,_=>absurd hj (jC _)
 |k+1,j,hj,hk=>by
  have O:=h (k+1) U hk;rw[Nat.add_sub_cancel]at O;by_cases hjk:j=k
  .subst hjk;exact O
  .exact Int.lt_trans (zC f n h k j U U) O
def PX {x:aV}(h:ju x=true):ur x.mode=true:=(cn h).1
def vy {x:aV}(h:ju x=true):qq x.mode=true↔2147483648<=x.mode:=by rw[PJ<|PX h,bp]
def PY(x:ct):MQ x=eb x:=by
 rw[ea];unfold MQ eb;rw[bp,bp];constructor
 .rintro⟨O,h2,h3,h4,h5,h6,h7,h8,h9,h10⟩;have N:∀i,0<i->i<x.aj.n-> ¬MP x i:=λi hi hn hb=>by have:=bc.1 h10 (i-1) U;unfold CJ at this;rw[show i-1+1=i by omega]at this;exact fW this hb
  have ha:∀i,0<i->i<x.aj.n->(x.aj.f<|i-1).id<(x.aj.f i).id:=λi hi hn=>xG.1 λhb=>N i hi hn (.inl hb);have hf:∀i,i<x.aj.n->ju (x.aj.f i)=true:=λi hn=>by
   by_cases hi:0<i
   .rw[<-qR];exact λhb=>N i hi hn<|.inr<|.inr<|.inr<|.inl hb
   .rw[show i=0 by omega];exact h7
  refine⟨O,h2,h9,bc.2 λi hi=>fq λhb=> ?_⟩;rcases hb with hb|hb|hb|hb|hb
  .rw[hf i hi]at hb;cases hb
  .by_cases F:i=x.aj.n-1
   .subst F;omega
   .have:(x.aj.f i).id<(x.aj.f<|x.aj.n-1).id:=zC (λi=>(x.aj.f i).id) x.aj.n ha (x.aj.n-1) i U U;omega
  .have:=ha i hb.1 hi;omega
  .obtain⟨rfl,hb⟩:=hb;rcases hb with hb|hb|hb|hb
   .exact hb h3
   .exact hb h4
   .exact hb h5
   .have:=(vy h7).2 h6;rw[hb]at this;cases this
  .obtain⟨hi0,hb⟩:=hb;have yy:=N i hi0 hi;rcases hb with hb|hb|hb
   .exact yy<|.inr<|.inr<|.inl hb
   .refine yy<|.inr<|.inr<|.inr<|.inr<|.inr ?_;rw[bc];intro k hk;have:=bc.1 hb k hk;have hfk:=hf k U;refine fq λhq=>fW this ⟨hq.1,(vy hfk).2 hq.2⟩
   .exact yy<|.inr<|.inr<|.inr<|.inr<|.inl hb
 .rintro⟨O,h2,h3,h4⟩;have N:∀i,i<x.aj.n-> ¬PW x i:=λi hn hb=>fW (bc.1 h4 i hn) hb;have hf:∀i,i<x.aj.n->ju (x.aj.f i)=true:=λi hn=>by rw[<-qR];exact λhb=>N i hn (.inl hb)
  have ha:∀i,0<i->i<x.aj.n->(x.aj.f<|i-1).id<(x.aj.f i).id:=λi hi hn=>xG.1 λhb=>N i hn<|.inr<|.inr<|.inl ⟨hi,hb⟩;have h0:=λhb=>N 0 U<|.inr<|.inr<|.inr<|.inl ⟨rfl,hb⟩;have hl:=λhb=>N (x.aj.n-1) U<|.inr<|.inl hb;refine⟨O,h2,mj λq=>h0 (.inl q),mj λq=>h0 (.inr<|.inl q),mj λq=>h0 (.inr<|.inr<|.inl q),?_,hf 0 U,xG.1 hl,h3,?_⟩
  .rw[<-vy (hf 0 U),<-qR];exact λq=>h0<|.inr<|.inr<|.inr q
  .refine bc.2 λi hi=>fq λhb=> ?_;have hi1:i+1<x.aj.n:=U;have yy:=λq=>N (i+1) hi1 (.inr<|.inr<|.inr<|.inr ⟨U,q⟩);rcases hb with hb|hb|hb|hb|hb|hb
   .have:=ha (i+1) U hi1;omega
   .have htp:be6 x (i+1)=true:=by rw[<-qR];exact λq=>yy (.inr<|.inl q)
    obtain⟨j,hj,hq⟩:=cG.1 htp;have hq:=cn hq;have:(x.aj.f j).id<(x.aj.f<|i+1).id:=zC (λi=>(x.aj.f i).id) x.aj.n ha (i+1) j hj hi1;omega
   .exact yy<|.inl hb
   .rw[hf _ hi1]at hb;cases hb
   .exact yy<|.inr<|.inr hb
   .refine yy<|.inr<|.inl ?_;refine bc.2 λk hk=> ?_;have:=bc.1 hb k hk;refine fq λhq=>fW this ⟨hq.1,(vy<|hf k U).1 hq.2⟩
def aB3(x:ct)(g:Nat)(c0:l_ J)(o0:Nat)(bb:l_ J->Bool)(hx:x.aj.n<=aq)(h:∀i,i<x.aj.n->Ok P g ((.agg<|aY.cells<|x.aj.f i):: [.kj c0 o0]) (Bo<|bb ((.agg<|aY.cells<|x.aj.f i):: [.kj c0 o0]))):
  Ok P 211 [(af ct).au x,.qS g [.kj c0 o0]] (I<|cZ x.aj.n λi=>bb ((.agg<|aY.cells<|x.aj.f i):: [.kj c0 o0])):=by
 have lp:=fF f211 2 x.aj.n (λi=>bb ((.agg<|aY.cells<|x.aj.f i):: [.kj c0 o0])) (λi=>(M 20 [(1,.qS g [.kj c0 o0]),(4,I 0),(8,(ak aV).au x.aj),(9,I x.aj.n),(10,I i)])) [] (λi=>(.ret,(M 20 [(4,I i)]),[])) (ey 0<|M 20 [(4,I 0)]) λi hi lt aW az aR=>by refine ao (J7 P g bb) L0 [1,4,8,9,10] [4] (let V:=x.aj.f i;let Z:=[J.agg [I V.id,I V.bo,I V.vr,S V.name,I V.mode,S V.Sg,S V.Sf,S V.wR,I V.nz,I V.nA,S V.data],J.kj c0 o0];(.d ((i:Int)<x.aj.n) (.g i x.aj.n<|.o [g=g/\Ok P g Z (Bo<|bb Z)]<|.n (bb Z) (eH az)<|eG aW)<|eY aR)) ?_;exact ft
 refine al (J7 P g bb) (kR lp [1,4,8,9,10]) (jS lp (.e<|I (↑(aE x.aj.n λi=>bb [J.agg<|aY.cells<|x.aj.f i,J.kj c0 o0]):Int))<|.e<|I<|-1) ?_;simp only[av]
 (repeat' with_reducible first|intro _|apply aNd_)<;>first|(unfold cZ;rw[if_pos W])|(unfold cZ;rw[if_neg<|jY.1 W])
def MR(E:Env):l_ J->Option (J×l_ Prop)
 | [t,.qS g q]=>match Bc q [1]with
  |true=>some (I<|cZ ((af ct).dec t).aj.n λi=>tF (E.p g (.agg (aY.cells<|((af ct).dec t).aj.f i)::q)),[t=(af ct).au ((af ct).dec t),((af ct).dec t).aj.n<=aq,∀i,i<((af ct).dec t).aj.n->DU (E.p g (.agg (aY.cells<|((af ct).dec t).aj.f i)::q))])
  |false=>none
 |_=>none
def Tv {E:Env}(hE:an P E):an P (aF 211 (MR E) E):=gi hE λaa p ob O h2=>by
 unfold MR at O;split at O
 .rename_i t g q;split at O
  .rename_i Y;cases O;have e1:=h2 _ ch;have e2:=h2 (((af ct).dec t).aj.n<=aq) sS;have e3:=h2 (∀i,i<((af ct).dec t).aj.n->DU (E.p g (.agg (aY.cells<|((af ct).dec t).aj.f i)::q))) sS;refine vu Y λc0 o0 e=> ?_;subst e;have:=aB3 ((af ct).dec t) g c0 o0 (λaa=>tF (E.p g aa)) e2 λi hi=>G0 hE (e3 i hi)
   rwa [<-e1]at this
  .cases O
 .cases O
def Tx(x:aV)(i:Int):Ok P 212 [(af aV).au x,(k9 bx).au i] (Bo<|x.id==i):=by exact al aw L0 (.e<|Bo<|x.id==i) ft
def bW4:Env:=aF 212 (bN (a2 (af aV)<|k9 bx) λx=>Bo (x.1.id==x.2)) EN
def ET2:Env:=aF 211 (MR bW4) bW4
def bC8:an P ET2:=Tv<|ah aw λx _=>Tx x.1 x.2
def j9(l:bh aV)(id:Int):Int:=cZ l.n λi=>(l.f i).id==id
def Z1(x:ct)(id:Int)(h:x.aj.n<=aq):Ok P 145 [(af ct).au x,I id] (I<|j9 x.aj id):=by exact al bC8 L0 (let Z:=a2 (af aV) (k9 bx);(.r ((af ct).au x)<|.o [x.aj.n<=140737488351232,∀(i:Nat),i<x.aj.n->Z.au (x.aj.f i,id)=Z.au (x.aj.f i,id)/\True/\True]<|.e<|I<|cZ x.aj.n λi=>(x.aj.f i).id==id)) ft
def Z2(x:ct)(id:Int)(h:x.aj.n<=aq):Ok P 176 [(af ct).au x,I id] (I<|j9 x.aj id):=by
 have lp:=fF f176 2 x.aj.n (λi=>(x.aj.f i).id==id) (λi=>(M 22 [(1,I id),(2,aT),(4,I 0),(5,I i)])) [(cM [aY.cells x] 2)] (λi=>(.ret,(M 22 [(4,I i)]),[])) (ey 0<|M 22 [(4,I 0)]) λi hi lt aW az aR=>by
  refine ao aw L0 [1,2,4,5] [4] (.d ((i:Int)<x.aj.n) (.g i x.aj.n<|.q ((x.aj.f i).id) id (eH az)<|eG aW)<|eY aR) ?_;have Y:=@beq_iff_eq Int _ _ (x.aj.f i).id id;simp only[av]
  repeat' with_reducible first|intro _|apply aNd_
  all_goals exact aM
 refine al aw (kR lp [1,2,4,5]) (jS lp (.e<|I (↑(aE x.aj.n λi=>(x.aj.f i).id==id):Int))<|.e<|I<|-1) ?_;simp only[av]
 (repeat' with_reducible first|intro _|apply aNd_)<;>first|(unfold j9 cZ;rw[if_pos W])|(unfold j9 cZ;rw[if_neg<|jY.1 W])
