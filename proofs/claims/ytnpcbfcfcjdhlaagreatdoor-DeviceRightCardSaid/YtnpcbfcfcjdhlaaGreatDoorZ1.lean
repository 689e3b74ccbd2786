/- Z1. -/
import Derived.WalkKit
import Derived.Lib.LaidTab
import Derived.Lib.ItoaNum
import Derived.Laws.CopyOwn
import Derived.Orders
import Derived.Laws.StructEq
import Derived.ChangeKeysEq
import Derived.Laws.MakeOwn
import Derived.Laws.BytesString
set_option linter.all false
set_option linter.defProp false
set_option maxHeartbeats 9999999
noncomputable section
namespace Go
abbrev aNd_:=@And.intro
abbrev oU:=IntKind.i64.wrap
abbrev y_:=ByteArray
abbrev l_:=List
abbrev n_:y_:=⟨#[]⟩
def du {α:Type} {x:Option α} {a b:α}(h:x=some a)(e:a=b:=by kernel_rfl):x=some b:=e▸h
def U {p:Prop}(h:p:=by omega):p:=h
def W {p:Prop}(h:p:=by assumption):p:=h
def kK {p:Prop}(h:p:=by kernel_rfl):p:=h
def sS {p:Prop}(h:p:=by simp):p:=h
def dD {p:Prop}(h:p:=by decide):p:=h
def gG {p:Prop}(h:p:=by first|omega|assumption|(clear aW az aR;grind)|fail):p:=h
def cL {p:Prop}(h:p:=by first|omega|assumption|(simp only[*];done)|(simp_all;done)|fail):p:=h
def spL {p:Prop}(h:p:=by first|((repeat' split)<;>first|rfl|(exfalso;omega)|(exfalso;simp_all;done)|(simp_all;done)|fail)|fail):p:=h
end Go
namespace Go
abbrev ba:=@congrArg
abbrev bp:=@decide_eq_true_iff
abbrev bm:=@List.getElem?_eq_some_iff
abbrev bJ:=@Nat.zero_le
abbrev ea:=@Bool.eq_iff_iff
abbrev br:=@List.length_append
abbrev bE:=@Nat.le_refl
abbrev bK:=@decide_eq_true_eq
abbrev bO:=@decide_eq_false_iff_not
abbrev bX:=@List.getElem?_eq_getElem
abbrev b9:=@List.getElem?_map
abbrev cc:=@List.getD_eq_getElem?_getD
abbrev cd:=@decide_eq_true
abbrev cm:=@Nat.le_trans
abbrev ch:=@List.mem_cons_self
abbrev cn:=@of_decide_eq_true
abbrev ev:=@beq_iff_eq
abbrev cw:=@List.mem_of_getElem?
abbrev cD:=@List.getElem?_set
abbrev cI:=@not_not_intro
abbrev cU:=@List.all_eq_true
abbrev ed:=@Nat.add_mul
abbrev dy:=@List.getElem?_append_left
abbrev dL:=@Int.toNat_natCast
abbrev di:=@Iff.rfl
abbrev dj:=@Bool.false_ne_true
abbrev eP:=@Nat.zero_add
abbrev fh:=@List.mem_cons_of_mem
abbrev fq:=@decide_eq_false
abbrev fy:=@ByteArray.size_append
abbrev fA:=@Nat.lt_or_ge
abbrev fB:=@List.mem_cons
abbrev fG:=@Bool.and_eq_true
abbrev as1:=@Classical.choose_spec
abbrev gj:=@List.getElem?_append_right
abbrev gx:=@List.getElem?_eq_none
abbrev fW:=@of_decide_eq_false
abbrev gl:=@Bool.not_eq_true'
abbrev gS:=@List.length_map
abbrev il:=@Nat.mul_le_mul_right
abbrev im:=@List.length_take
abbrev iO:=@List.getElem?_drop
abbrev iP:=@List.length_cons
abbrev jc:=@Array.getElem?_eq_getElem
abbrev jz:=@Option.map_some
abbrev jA:=@Bool.or_eq_true
abbrev jB:=@List.mem_map
abbrev jC:=@Nat.not_lt_zero
abbrev jX:=@List.length_drop
abbrev jY:=@Bool.eq_false_iff
abbrev jR:=@beq_eq_false_iff_ne
abbrev jZ:=@Bool.false_eq_true
abbrev j0:=@Array.length_toList
abbrev ku:=@Option.some.inj
abbrev kx:=@List.mem_append
abbrev mj:=@Classical.byContradiction
abbrev ky:=@if_false
abbrev lG:=@List.append_assoc
abbrev k6:=@List.ext_getElem?
abbrev k7:=@Int.eq_ofNat_of_zero_le
abbrev mn:=@Array.getD_eq_getD_getElem?
abbrev lH:=@List.getElem?_take_of_lt
abbrev mo:=@Option.some.injEq
abbrev mq:=@List.mem_singleton
abbrev mr:=@List.map_append
abbrev nI:=@Nat.lt_irrefl
abbrev mY:=@List.getElem?_of_mem
abbrev mZ:=@Bool.not_eq_true
abbrev nJ:=@List.length_set
abbrev oL:=@List.eq_nil_of_length_eq_zero
abbrev nL:=@List.nil_append
abbrev nM:=@Bool.not_eq_false'
abbrev oM:=@decide_eq_decide
abbrev qh:=@List.getElem?_range
abbrev qi:=@List.range_succ
abbrev rD:=@Nat.lt_trichotomy
abbrev rE:=@List.mem_of_mem_take
abbrev rF:=@List.getElem_mem
abbrev qj:=@List.length_nil
abbrev Si:=@Nat.add_assoc
abbrev rG:=@Nat.add_zero
abbrev rH:=@if_true
abbrev rI:=@List.size_toArray
abbrev rJ:=@Array.getElem?_toList
abbrev rK:=@Nat.lt_succ_self
abbrev rL:=@bne_iff_ne
abbrev rM:=@Int.toNat_of_nonneg
abbrev tk:=@Array.getElem?_eq_none
abbrev uW:=@List.mem_of_mem_drop
abbrev uX:=@List.length_range
abbrev tm:=@List.mem_append_right
abbrev tn:=@List.mem_flatMap
abbrev tp:=@getElem!_pos
abbrev tq:=@Bool.and_true
abbrev tr:=@Decidable.not_not
abbrev tu:=@List.not_mem_nil
abbrev uY:=@Nat.lt_of_lt_of_le
abbrev wq:=@List.take_of_length_le
abbrev wu:=@List.take_append_drop
abbrev qO:=@List.mem_append_left
abbrev qP:=@List.map_map
abbrev sK:=@ByteArray.ext
abbrev qQ:=@or_false
abbrev qR:=@Bool.not_eq_false
abbrev sL:=@List.getElem?_toArray
abbrev sM:=@List.length_pos_iff
abbrev sN:=@bne_eq_false_iff_eq
abbrev sO:=@Nat.one_mul
abbrev sP:=@Nat.zero_mul
abbrev sQ:=@Nat.le_succ
abbrev xu:=@List.drop_zero
abbrev uZ:=@List.contains_iff_mem
abbrev u3:=@Nat.sub_zero
abbrev xv:=@Option.getD_some
abbrev xw:=@List.foldl_cons
abbrev Ao:=@List.take_length
abbrev xx:=@Nat.mul_comm
abbrev xy:=@Nat.mul_one
abbrev xz:=@cond_false
abbrev xA:=@Nat.sub_self
abbrev xC:=@List.drop_drop
abbrev xD:=@List.length_eq_one_iff
abbrev bb4:=@ByteArray.data_append
abbrev xE:=@List.map_id
abbrev xF:=@UInt8.toNat_inj
abbrev xG:=@Int.not_le
abbrev xH:=@Int.not_lt
abbrev xI:=@List.mem_iff_getElem
abbrev xJ:=@List.getElem_of_mem
abbrev Ap:=@Array.getElem?_push
abbrev Aq:=@Option.bind_some
abbrev Ar:=@Array.getElem?_setIfInBounds
abbrev As:=@List.mapM_cons
abbrev Au:=@Nat.mod_lt
abbrev Av:=@cond_true
abbrev Aw:=@Array.toList_push
abbrev Ax:=@Array.getElem?_replicate
abbrev Ay:=@Array.getElem?_modify
abbrev Az:=@Bool.true_and
abbrev AA:=@List.any_append
abbrev AB:=@List.take_add_one
abbrev AD:=@ByteArray.size_extract
abbrev AE:=@List.cons_append
abbrev AF:=@Int.le_refl
abbrev AG:=@List.pairwise_iff_getElem
abbrev EO:=@List.mem_or_eq_of_mem_set
abbrev ER:=@Nat.eq_zero_or_pos
abbrev ES:=@Nat.div_lt_iff_lt_mul
abbrev EX:=@List.map_congr_left
abbrev EY:=@Array.toList_inj
abbrev EZ:=@List.foldl_nil
abbrev Fa:=@List.drop_eq_getElem_cons
abbrev Fb:=@List.flatMap_cons
abbrev Fc:=@Bool.false_or
abbrev Fe:=@Array.getElem?_append_left
abbrev Ff:=@Option.bind_eq_some_iff
abbrev Fg:=@List.drop_eq_nil_of_le
abbrev VW:=@Int.tmod_eq_emod_of_nonneg
abbrev Fh:=@Bool.or_false
abbrev Fi:=@Nat.pos_of_ne_zero
abbrev Fj:=@BitVec.toNat_ofInt
abbrev Fk:=@Nat.pow_succ
abbrev Fl:=@Classical.not_not
abbrev Fm:=@Nat.min_le_left
abbrev Fo:=@Array.extract_eq_self_of_le
abbrev Fp:=@List.map_take
abbrev Fq:=@Nat.le_of_lt
abbrev Fs:=@Nat.min_def
abbrev Ft:=@List.set_eq_of_length_le
abbrev LB:=@not_false_eq_true
abbrev LC:=@Array.mapM_eq_mapM_toList
abbrev LD:=@List.flatten_cons
abbrev LF:=@List.take_append_of_le_length
abbrev LG:=@Option.isSome_iff_exists
abbrev LH:=@Nat.mod_eq_of_lt
abbrev LI:=@List.mem_replicate
abbrev LJ:=@beq_self_eq_true
abbrev LK:=@List.drop_append
abbrev LL:=@List.replicate_succ'
abbrev LM:=@Array.all_eq_true_iff_forall_mem
abbrev LN:=@Option.map_eq_some_iff
abbrev LO:=@List.getElem?_take
abbrev LP:=@Array.ext_getElem?
abbrev LQ:=@Nat.pow_le_pow_right
abbrev LS:=@Array.eq_empty_of_size_eq_zero
abbrev LU:=@Nat.add_mul_div_right
abbrev LV:=@List.isEmpty_iff
abbrev LW:=@List.getElem_drop
abbrev LX:=@List.filter_append
abbrev LY:=@Nat.lt_succ_iff_lt_or_eq
end Go
namespace Go.PS
open Go.RowKit
def gU:l_ Int:=[1116352408,1899447441,3049323471,3921009573,961987163,1508970993,2453635748,2870763221,3624381080,310598401,607225278,1426881987,1925078388,2162078206,2614888103,3248222580,3835390401,4022224774,264347078,604807628,770255983,1249150122,1555081692,1996064986,2554220882,2821834349,2952996808,3210313671,3336571891,3584528711,113926993,338241895,666307205,773529912,1294757372,1396182291,1695183700,1986661051,2177026350,2456956037,2730485921,2820302411,3259730800,3345764771,3516065817,3600352804,4094571909,275423344,430227734,506948616,659060556,883997877,958139571,1322822218,1537002063,1747873779,1955562222,2024104815,2227730452,2361852424,2428436474,2756734187,3204031479,3329325298]
def VX:Nat->Option (IntKind×l_ Int)
 |4=>some (.u32,gU)
 |_=>none
structure GI(_:Program)(w:World):Prop where
 max:∃n,w.cell? ⟨0,0,none⟩=some (.int .i64 n)
 pow:∃et fz,w.heap[3]?=some (.cells (Lib.pow10Tab.map λz=>Value.int .u64 z).toArray et fz)
 tab:∀g k l,VX g=some (k,l)->∃et fz,w.heap[g]?=some (.cells (l.map λz=>Value.int k z).toArray et fz)
def GI.below {P:Program} {w w':World}(h:GI P w)(hb:Below w.heap.size w w'):GI P w':=by
 obtain⟨⟨n,O⟩,⟨et,fz,h2⟩,h3⟩:=h;have l2:3<w.heap.size:=by
  rcases fA 3 w.heap.size with q|q
  .exact q
  .rw[tk q]at h2;cases h2
 refine⟨⟨n,?_⟩,⟨et,fz,by rw[hb.block 3 l2];exact h2⟩,λg k l hg=>by
  obtain⟨et,fz,h4⟩:=h3 g k l hg;have l4:g<w.heap.size:=by
   rcases fA g w.heap.size with q|q
   .exact q
   .rw[tk q]at h4;cases h4
  exact⟨et,fz,by rw[hb.block g l4];exact h4⟩⟩
 rw[<-O];unfold World.cell?;simp only[hb.block 0 U]
end Go.PS
namespace Go.PS
section
inductive J where
 |sc (v:Value)
 |bit (b:Bool)
 |agg (cs:List J)
 |bg (vs:List J)
 |dF
 |ro (es:List (List J))
 |own (id off len:Nat)
 |ptr (id i off:Nat)
 |kj (cs:List J) (off:Nat)
 |rf (n:Nat) (f:Nat->List J)
 |any
 |mux (t:Nat) (want c:Bool) (p:J)
 |bf (id len:Nat)
 |qS (g:Nat) (cs:List J)
 |mp (id:Nat)
 |Dx (t:Nat) (p:J)
instance:Inhabited J:=⟨.any⟩
structure dW where
 es:List (List J)
 st:Nat
 par:List Nat
 sz:Nat
 sym:Bool
 gV:Bool
 deriving Inhabited
abbrev Hp:=List dW
inductive Out where
 |norm
 |ext (id:Nat)
 |ret
 deriving DecidableEq,Inhabited
inductive It where
 |bit (b:Bool)
 |fN
 |ld (e:List J)
 |lc
 |tab
 |spec
 |specs
abbrev l8:=List It
inductive Ob where
 |dec (c b:Bool)
 |xK (X:Prop)
 |same (c b:Bool)
def Ob.holds:Ob->Prop
 | .dec c b=>c=b
 | .same c b=>c=b
 | .xK X=>X
def cellOf:Value->J
 | .bool b=> .bit b
 | .slice none 0 0=> .dF
 |v=> .sc v
def ofV:Value->J
 | .agg cs=> .agg (cs.toList.map cellOf)
 |v=>cellOf v
def VY:Value->J
 | .slice none 0 0=> .dF
 |v=> .sc v
def ofR:Value->J
 | .agg cs=> .agg (cs.toList.map VY)
 |v=>VY v
def F6:J->Option Value
 | .sc v=>some v
 | .bit b=>some (.bool b)
 |_=>none
def tv:List J->Option (List Value)
 | []=>some []
 |c::cs=>match F6 c with
  |some v=>match tv cs with
   |some vs=>some (v::vs)
   |none=>none
  |none=>none
def toV:J->Option Value
 | .agg cs=>match tv cs with
  |some vs=>some<|.agg ⟨vs⟩
  |none=>none
 |p=>F6 p
def rN:J->Option (List J)
 | .agg cs=>some cs
 | .bg _| .any| .mux _ _ _ _=>none
 | .sc v=>if v.oneCell' then some [.sc v]else none
 |p=>some [p]
def F7:J->Bool
 | .agg _| .bg _| .any| .mux _ _ _ _| .qS _ _=>false
 | .sc v=>v.oneCell'
 |_=>true
def dU(T:List J):Operand->Option J
 | .tmp t=>T[t]?
 | .const v=>some (ofV v)
 | .func f=>some (.sc (.func (.func f) #[] #[]))
 | .global g=>some (.sc (.pointer (some ⟨g,0,none⟩)))
def put(T:List J)(d:Option Tmp)(v:J):List J:=
 match d with
 |some t=>T.set t v
 |none=>T
def qT {α:Type}(P:Program):Sem α->Option α
 | .pure a=>some a
 | .program k=>qT P (k P)
 | .mark _ k=>qT P k
 |_=>none
def skip:l8->l8
 | .specs::s=>s
 |s=>s
def dec(T:List J)(t:Nat)(s:l8):Option (Bool×List J×List Ob×l8):=
 match T[t]? with
 |some (.bit b)=>some (b,T,[],s)
 |some (.sc (.bool c))=>
  match skip s with
  | .bit b::s'=>some (b,T.set t<|.bit b,[.dec c b],s')
  | .fN::s'=>match c with
   |true=>some (true,T.set t<|.bit true,[],s')
   |false=>some (false,T.set t<|.bit false,[],s')
  | []=>some (true,T.set t<|.bit true,[.dec c true],[])
  |_=>none
 |_=>none
def Ch(P:Program)(t:TypeId):Option Nat:=(P.info? t).map (·.size)
def Cn(P:Program)(t:TypeId):Option Bool:=(P.underlying t).map λ
 | .struct _| .array _ _=>true
 |_=>false
def pC(P:Program)(t:TypeId)(cs:List J)(off:Nat):Option J:=
 match Cn P t with
 |some true=>match Ch P t with
  |some n=>if off+n<=cs.length then some (.agg<|(cs.drop off).take n)else none
  |none=>none
 |some false=>cs[off]?
 |none=>none
def rO(P:Program)(h:Hp)(t:TypeId):J->Option J
 | .ptr id i off=>match h[id]? with
  |some B=>if B.st<=1 then match B.es[i]? with
   |some e=>pC P t e off
   |none=>none
   else none
  |none=>none
 | .kj cs off=>pC P t cs off
 |_=>none
def F8(P:Program)(h:Hp)(t:TypeId)(e:List J):J->Option (J×Prop)
 | .ptr id i off=>match h[id]? with
  |some B=>if B.st<=1 then match pC P t e off with
   |some q=>some (q,B.es[i]?=some e)
   |none=>none
   else none
  |none=>none
 | .kj cs off=>match pC P t e off with
  |some q=>some (q,cs=e)
  |none=>none
 |_=>none
def F9:List (List J)->Option (List y_)
 | []=>some []
 | [.sc (.string b)]::r=>match F9 r with
  |some l=>some (b::l)
  |none=>none
 |_=>none
def Ga(k:IntKind):List (List J)->Option (List Int)
 | []=>some []
 | [.sc (.int k' n)]::r=>if k'=k then match Ga k r with
  |some l=>some (n::l)
  |none=>none
  else none
 |_=>none
def bz3(P:Program)(t:TypeId)(es:List (List J))(i:Nat):Option (J×Prop):=
 match P.underlying t with
 |some .string=>match F9 es with
  |some l=>some (.sc<|.string<|l.getD i default,i<es.length)
  |none=>none
 |some (.int k)=>match Ga k es with
  |some l=>some (.sc<|.int k<|l.getD i 0,i<es.length)
  |none=>none
 |_=>none
inductive Tl where
 |cell (v:J)
 |elem (e:List J)
def Gb(P:Program)(h:Hp)(t:TypeId):Tl->J->Option (J×Prop)
 | .elem e,p=>F8 P h t e p
 | .cell v,.ptr id i off=>match h[id]?,Cn P t with
  |some B,some false=>if B.st<=1 then some (v,(B.es[i]?).bind (λe=>e[off]?)=some v)else none
  |_,_=>none
 |_,_=>none
def as2(P:Program)(t:TypeId):J->Option (J×Prop)
 | .sc (.pointer (some ⟨g,k,none⟩))=>match VX g,Cn P t with
  |some (q,l),some false=>some (.sc<|.int q<|l.getD k 0,k<l.length)
  |_,_=>none
 |_=>none
def loadT(P:Program)(h:Hp)(t:TypeId):J->Option (J×Prop)
 | .ptr id i 0=>match h[id]? with
  |some B=>if B.st<=1 then bz3 P t B.es i else none
  |none=>none
 |_=>none
def fO:J->Bool
 | .sc _| .bit _| .dF| .ro _| .rf _ _=>true
 |_=>false
def oA(es:List (List J)):Prop:=∀e∈es,e.all fO=true
def splice(e:List J)(off:Nat)(cs:List J):List J:=e.take off++cs++e.drop (off+cs.length)
def kill(h:Hp)(l:List Nat):Hp:=h.zipIdx.map λ(B,i)=>if l.contains i then {B with st:=2}else B
def Co(P:Program)(h:Hp)(t:TypeId)(p v:J):Option Hp:=
 match p,rN v,Ch P t with
 | .ptr id i off,some cs,some n=>
  match h[id]? with
  |some B=>match B.es[i]? with
   |some e=>if B.st=0/\cs.length=n/\off+n<=e.length/\cs.all F7=true/\(!B.sym||cs.all fO)=true
     then some (kill (h.set id {B with es:=B.es.set i (splice e off cs)}) B.par)else none
   |none=>none
  |none=>none
 |_,_,_=>none
def LZ(P:Program)(h:Hp)(t:TypeId)(tl:Tl)(p v:J):Option (Hp×List Prop):=
 match p,rN v,Ch P t with
 | .ptr id i off,some cs,some n=>
  match h[id]? with
  |some B=>if B.st=0/\cs.length=n/\cs.all F7=true/\(!B.sym||cs.all fO)=true then
   match tl with
   | .elem e=>if off+n<=e.length then some (kill (h.set id {B with es:=B.es.set i (splice e off cs)}) B.par,[B.es[i]?=some e])else none
   | .cell _=>some (kill (h.set id {B with es:=B.es.set i (splice (B.es.getD i []) off cs)}) B.par,[i<B.es.length,off+n<=(B.es.getD i []).length])
   else none
  |none=>none
 |_,_,_=>none
def Sj(h:Hp):J->Bool
 | .ptr id _ _=>match h[id]? with
  |some B=>B.par.isEmpty
  |none=>false
 |_=>false
def Sk(h:Hp)(cs:List J):J×Hp:=(.ptr h.length 0 0,h++ [⟨[cs],0,[],cs.length,false,false⟩])
def wv(place:Nat->Option (Nat×Nat))(cells:List J):List (Nat×J)->Option (List J)
 | []=>some cells
 |(i,v)::rest=>
  match place i,rN v with
  |some (off,size),some cs=>
   if cs.length=size/\off+cs.length<=cells.length then wv place (splice cells off cs) rest else none
  |_,_=>none
def oB(P:Program)(t:TypeId):Option Value:=((P.info? t).bind (·.zero))
def u4(T:List J):List (Nat×Operand)->Option (List<|Nat×J)
 | []=>some []
 |(i,x)::r=>match dU T x with
  |some v=>match u4 T r with
   |some vs=>some ((i,v)::vs)
   |none=>none
  |none=>none
def AH(P:Program):List Field->Option (List<|Nat×Nat)
 | []=>some []
 |f::fs=>match Ch P f.type with
  |some n=>match AH P fs with
   |some l=>some ((f.offset,n)::l)
   |none=>none
  |none=>none
def Sl(P:Program)(t:TypeId)(parts:List (Nat×J)):Option J:=
 match oB P t,P.underlying t with
 |some z,some (.struct fields)=>match AH P fields.toList with
  |some places=>(wv (places[·]?) (z.cells.toList.map cellOf) parts).map .agg
  |none=>none
 |some z,some (.array _ elem)=>match Ch P elem with
  |some n=>(wv (λi=>some (i*n,n)) (z.cells.toList.map cellOf) parts).map .agg
  |none=>none
 |_,_=>none
def zc(sz:Nat):Nat->List (Nat×J)->Option (List<|List J)
 |_,[]=>some []
 |k,(i,v)::r=>match rN v with
  |some cs=>if i=k/\cs.length=sz then match zc sz (k+1) r with
   |some es=>some (cs::es)
   |none=>none
   else none
  |none=>none
def mg:J->J
 | .bf id len=> .own id 0 len
 |p=>p
def mT(h:Hp):J->Option (List<|List J)
 | .dF=>some []
 | .ro es=>some es
 | .rf n f=>some ((List.range n).map f)
 | .own id off len=>match h[id]? with
  |some B=>if B.st<=1/\off+len<=B.es.length then some ((B.es.drop off).take len)else none
  |none=>none
 |_=>none
def u5(h:Hp):J->Option (List (List J)×List Prop)
 | .bf id len=>match h[id]? with
  |some B=>if B.st<=1 then some (B.es,[len=B.es.length])else none
  |none=>none
 | .own id off len=>match h[id]? with
  |some B=>match B.sym with
   |true=>if B.st<=1 then some ((B.es.drop off).take len,[off+len<=B.es.length])else none
   |false=>match mT h (.own id off len)with
    |some es=>some (es,[])
    |none=>none
  |none=>none
 |p=>match mT h p with
  |some es=>some (es,[])
  |none=>none
def qk:J->Option Nat
 | .dF=>some 0
 | .ro es=>some es.length
 | .rf n _=>some n
 | .own _ _ len| .bf _ len=>some len
 |_=>none
def tw(f:J->Option (J×List Nat)):List J->Option (List J×List Nat)
 | []=>some ([],[])
 |c::cs=>match f c with
  |some (d,v)=>match tw f cs with
   |some (ds,vs)=>some (d::ds,v++vs)
   |none=>none
  |none=>none
def OG(f:J->Option (J×List Nat)):List (List J)->Option (List (List J)×List Nat)
 | []=>some ([],[])
 |c::cs=>match tw f c with
  |some (d,v)=>match OG f cs with
   |some (ds,vs)=>some (d::ds,v++vs)
   |none=>none
  |none=>none
def exp(h:Hp):Nat->J->Option (J×List Nat)
 |0,_=>none
 |n+1,p=>match p with
  | .sc v=>some (.sc v,[])
  | .bit b=>some (.sc<|.bool b,[])
  | .dF=>some (.rf 0 λ_=> [],[])
  | .ro es=>some (.rf es.length λi=>es.getD i [],[])
  | .rf k f=>some (.rf k f,[])
  | .agg cs=>match tw (exp h n) cs with
   |some (l,v)=>some (.agg l,v)
   |none=>none
  | .qS g cs=>match tw (exp h n) cs with
   |some (l,v)=>some (.qS g l,v)
   |none=>none
  | .bg cs=>match tw (exp h n) cs with
   |some (l,v)=>some (.bg l,v)
   |none=>none
  | .own id off len=>match h[id]? with
   |some B=>match B.sym with
    |true=>if B.st<=1 then some (.rf len λi=>B.es.getD (off+i) [],[id])else none
    |false=>match mT h (.own id off len)with
     |some es=>match OG (exp h n) es with
      |some (l,v)=>some (.rf l.length (λi=>l.getD i []),id::v)
      |none=>none
     |none=>none
   |none=>none
  | .bf id len=>match h[id]? with
   |some B=>if B.st<=1/\B.sym=true then some (.rf len λi=>B.es.getD i [],[id])else none
   |none=>none
  | .kj cs off=>some (.kj cs off,[])
  | .ptr id i off=>match h[id]? with
   |some B=>if B.st<=1 then match B.es[i]? with
    |some e=>match tw (exp h n) e with
     |some (l,v)=>some (.kj l off,id::v)
     |none=>none
    |none=>none
    else none
   |none=>none
  | .Dx t q=>match exp h n q with
   |some (r,v)=>some (.Dx t r,v)
   |none=>none
  |_=>none
def ou(h:Hp):Nat->J->List Prop
 |0,_=> []
 |n+1,p=>match p with
  | .agg cs| .bg cs| .qS _ cs=>cs.flatMap<|ou h n
  | .own id off len=>match h[id]? with
   |some B=>match B.sym with
    |true=> [off+len<=B.es.length]
    |false=>match mT h (.own id off len)with
     |some es=>es.flatMap λe=>e.flatMap<|ou h n
     |none=> []
   |none=> []
  | .bf id len=>match h[id]? with
   |some B=> [len=B.es.length]
   |none=> []
  | .ptr id i _=>match h[id]? with
   |some B=>match B.es[i]? with
    |some e=>e.flatMap<|ou h n
    |none=> []
   |none=> []
  | .Dx _ q=>ou h n q
  |_=> []
def VZ:J->Bool
 | .sc _| .bit _| .dF| .any=>true
 |_=>false
def bs8:J->Bool
 | .agg ds=>ds.all VZ
 |p=>VZ p
def bz4:J->Bool
 | .agg cs| .bg cs=>cs.all bs8
 |p=>VZ p
def ln:Nat:=12
def enters(P:Program)(g:FuncId):Bool:=
 match P.funcs[g]? with
 |some fn=>fn.body.isSome&& !(fn.name== "runtime.NumGoroutine")
 |none=>false
def Dy(T:List J):List Operand->Option (List J)
 | []=>some []
 |x::r=>match dU T x with
  |some v=>match Dy T r with
   |some vs=>some (v::vs)
   |none=>none
  |none=>none
structure Env where
 p:FuncId->List J->Option (J×List Prop)
 m:FuncId->List J->Hp->Option (J×Hp×List Prop)
 r:Nat->Array Oper->Bool->List J->Hp->Option (List J×Hp×List Prop):=λ_ _ _ _ _=>none
 t:Nat->Nat->Nat->Option Tl:=λ_ _ _=>none
def bs9(E:Env):J->Option Tl
 | .ptr id i off=>E.t id i off
 |_=>none
inductive LT where
 |out (o:Out) (T:List J) (h:Hp)
 |ite (c:Bool) (t f:LT)
 |bad
abbrev gD:=Nat->List Nat×List (Nat×Nat)×(List J->Hp->LT)
def mask(live:List Nat)(T:List J):List J:=T.zipIdx.map λ(p,i)=>if live.contains i then p else .any
def as3(f:J->List Nat):List J->List Nat
 | []=> []
 |p::r=>f p++as3 f r
def as4:Nat->J->List Nat
 |0,_=> []
 |n+1,p=>match p with
  | .own id _ _| .ptr id _ _| .bf id _| .mp id=> [id]
  | .agg cs| .bg cs| .qS _ cs=>as3 (as4 n) cs
  | .Dx _ q=>as4 n q
  |_=> []
def u6(l:List Nat):List Nat->List Nat
 | []=>l
 |x::r=>if l.contains x then u6 l r else u6 (l++ [x]) r
def dW.gone(B:dW):Bool:=B.gV&&(B.st==1||B.st==2)
def b52(h:Hp)(id:Nat):List Nat:=
 match h[id]? with
 |some B=>match B.sym||B.gone with
  |true=> []
  |false=>B.es.flatMap<|as3<|as4 4
 |none=> []
def Sm(h:Hp):Nat->List Nat->List Nat
 |0,l=>l
 |n+1,l=>Sm h n (u6 l (l.flatMap (b52 h)))
def pos(x:Nat):List Nat->Option Nat
 | []=>none
 |y::r=>if x=y then some 0 else match pos x r with
  |some j=>some<|j+1
  |none=>none
def rP {α β:Type}(f:α->Option β):List α->Option (List β)
 | []=>some []
 |x::r=>match f x with
  |some y=>match rP f r with
   |some l=>some (y::l)
   |none=>none
  |none=>none
def mG(f:Nat->Option Nat):Nat->J->Option J
 |0,_=>none
 |n+1,p=>match p with
  | .own id off len=>match f id with
   |some j=>some<|.own j off len
   |none=>none
  | .ptr id i off=>match f id with
   |some j=>some<|.ptr j i off
   |none=>none
  | .bf id len=>match f id with
   |some j=>some<|.bf j len
   |none=>none
  | .mp id=>match f id with
   |some j=>some<|.mp j
   |none=>none
  | .agg cs=>match rP (mG f n) cs with
   |some l=>some<|.agg l
   |none=>none
  | .qS g cs=>match rP (mG f n) cs with
   |some l=>some<|.qS g l
   |none=>none
  | .bg cs=>match rP (mG f n) cs with
   |some l=>some<|.bg l
   |none=>none
  | .Dx t q=>match mG f n q with
   |some r=>some<|.Dx t r
   |none=>none
  | .mux _ _ _ _=>none
  |p=>some p
def Zf(f:Nat->Option Nat)(B:dW):Option (List<|List J):=
 match B.sym with
 |true=>some B.es
 |false=>rP (rP (mG f 4)) B.es
def as5(h:Hp)(keep:List Nat)(id:Nat):Option dW:=
 match h[id]? with
 |some B=>if B.gone then some {B with es:=[],st:=2,par:=[]}
  else if B.st=1 then none else match Zf (pos · keep) B with
   |some es=>some {B with es:=es,par:=[]}
   |none=>none
 |none=>none
def pins(h:Hp):Nat:=(h.takeWhile (·.gV)).length
def Gc(T:List J)(h:Hp):List Nat:=Sm h 4<|u6 (List.range<|pins h)<|as3 (as4 4) T
def gc(T:List J)(h:Hp):Option (List J×Hp):=
 match h with
 | []=>some (T,[])
 |_::_=>
  match rP (mG (pos · (Gc T h)) 4) T,rP (as5 h<|Gc T h) (Gc T h)with
  |some T',some h'=>if(Gc T h).Nodup/\(Gc T h).take (pins h)=List.range (pins h)then some (T',h')else none
  |_,_=>none
def trim(live:List Nat)(T:List J)(h:Hp):Option (List J×Hp):=gc (mask live T) h
def whole(t z:Nat)(T:List J)(h:Hp):Option (List J×Hp):=
 match T[t]? with
 |some .dF=>if 0<z then some (T.set t (.bf h.length 0),h++ [⟨[],0,[],z,true,false⟩])else none
 |some (.own id 0 len)=>match h[id]? with
  |some B=>if B.sym||B.es.all (·.all fO)then some (T.set t<|.bf id len,h.set id {B with sym:=true})else none
  |none=>none
 |some (.bf _ _)=>some (T,h)
 |some (.ptr id _ _)=>match h[id]? with
  |some B=>if B.sym||B.es.all (·.all fO)then some (T,h.set id {B with sym:=true})else none
  |none=>none
 |_=>none
def L1:List (Nat×Nat)->List J->Hp->Option (List J×Hp)
 | [],T,h=>some (T,h)
 |(t,z)::r,T,h=>match whole t z T h with
  |some (T',h')=>L1 r T' h'
  |none=>none
def pD:Code->Option Nat
 | .region id _ _=>some id
 | .seq a b=>match pD a with
  |some n=>some n
  |none=>pD b
 | .cond _ a b=>match pD a with
  |some n=>some n
  |none=>pD b
 | .block _ a=>pD a
 | .loop a=>pD a
 |_=>none
abbrev Res:=Option<|J×Hp×List Prop×l8
def ql(P:Program)(T:List J)(h:Hp)(o:Oper)(s:l8):Res:=
 match o.op with
 | .select _ _=>none
 |_=>
  if o.op.operands.toList.all λx=>((dU T x).bind toV).isSome then
   match qT P (execOp (λx=>((dU T x).bind toV).getD Go.undef) o)with
   |some (.value v)=>some (ofR v,h,[],s)
   |_=>none
  else none
def as6(P:Program)(t:TypeId)(name:String):Option FuncId:=
 match P.underlying t,(P.info? t).bind (λi=>i.methods.find? (·.name==name))with
 |some (.pointer _),some m=>match m.path.isEmpty,m.func with
  |true,some (f,true)=>some f
  |_,_=>none
 |_,_=>none
def u9(P:Program)(T:List J)(c:Callee)(args:Array Operand):Option (FuncId×List J):=
 match c,Dy T args.toList with
 | .value f,some ps=>match dU T f with
  |some (.sc<|.func (.func g) ⟨[]⟩ ⟨[]⟩)=>some (g,ps)
  |some (.qS g cs)=>some (g,ps++cs)
  |_=>none
 | .invoke r name,some ps=>match dU T r with
  |some (.Dx t q)=>match as6 P t name with
   |some g=>some (g,q::ps)
   |none=>none
  |_=>none
 |_,_=>none
def Dz(P:Program)(E:Env)(T:List J)(h:Hp)(f:Callee)(args:Array Operand)(s:l8):Res:=
 match u9 P T f args with
 |some (g,ps)=>match tw (exp h ln) ps with
  |some (ci6,vis)=>match E.p g ci6 with
   |some (r,ob)=>if(vis.isEmpty||bz4 r)=true then some (r,h,ps.flatMap (ou h ln)++ob,s)else none
   |none=>none
  |none=>none
 |none=>none
def cj:J->J
 | .bit b=> .sc (.bool b)
 |p=>p
def bb5(h:Hp)(keep:List Nat)(id:Nat):Option dW:=
 match h[id]? with
 |some B=>if B.st=0\/B.st=3 then match Zf (pos · keep) B with
   |some es=>some {B with es:=bif B.sym then es else es.map (·.map cj),par:=[],gV:=true}
   |none=>none
  else none
 |none=>none
def DA(keep:List Nat)(n j:Nat):Option Nat:=some (if j<keep.length then keep.getD j 0 else n+(j-keep.length))
def oC(h:Hp)(keep:List Nat)(j:Nat)(B:dW):Option dW:=
 match Zf (DA keep h.length) B with
 |some es=>some {B with es:=es,par:=B.par.map λq=>(DA keep h.length q).getD 0,gV:=if j<keep.length then((h[keep.getD j 0]?).map (·.gV)).getD false else false}
 |none=>none
def JQ(h:Hp)(keep:List Nat):Nat->Hp->Option Hp
 |_,[]=>some []
 |j,B::r=>match oC h keep j B with
  |some X=>match JQ h keep (j+1) r with
   |some l=>some (X::l)
   |none=>none
  |none=>none
def mu:Hp->List Nat->Hp->Hp
 |h,id::ids,B::Bs=>mu (h.set id B) ids Bs
 |h,_,_=>h
def nb(h:Hp)(keep:List Nat):List Nat:=keep.flatMap λid=>((h[id]?).map (·.par)).getD []
def handed(h:Hp)(ps:List J):List Nat:=Sm h 4<|u6 []<|as3 (as4 4) ps
def JR(P:Program)(E:Env)(T:List J)(h:Hp)(f:Callee)(args:Array Operand)(s:l8):Res:=
 match u9 P T f args with
 |some (g,ps)=>match rP (mG (pos · (handed h ps)) 4) ps,rP (bb5 h (handed h ps)) (handed h ps)with
  |some ci6,some hs=>match E.m g (ci6.map cj) hs with
   |some (r,hs',ob)=>if(decide (handed h ps).Nodup&&decide ((handed h ps).length<=hs'.length)&&(h.all λB=>B.par.all λq=> !(handed h ps).contains q))=true then
    match mG (DA (handed h ps) h.length) 4 r,JQ h (handed h ps) 0 hs' with
    |some r',some bs=>some (r',mu (kill h<|nb h<|handed h ps) (handed h ps) bs++bs.drop (handed h ps).length,ob,s)
    |_,_=>none
    else none
   |none=>none
  |_,_=>none
 |none=>none
def JS(z:Nat)(es:List (List J)):Prop:=∀e∈es,e.length=z/\e.all F7=true
def k8(z:Nat)(es:List (List J)):Bool:=es.all λe=>e.length==z&&e.all F7
def nc(es:List (List J)):Bool:=es.all (·.all fO)
def qm(P:Program)(t:TypeId):Option Nat:=
 match P.underlying t with
 |some (.slice e)=>Ch P e
 |_=>none
def bt0(P:Program)(t:TypeId)(i:Int):Value->Option (J×List Prop)
 | .pointer (some ⟨g,0,none⟩)=>match P.underlying t with
  |some (.array n e)=>match Ch P e,VX g with
   |some 1,some _=>some (.sc<|.pointer<|some ⟨g,i.toNat,none⟩,[0<=i,i<n])
   |_,_=>none
  |_=>none
 |_=>none
def JT(P:Program)(h:Hp)(t:TypeId)(i:Int):J->Option (J×List Prop)
 | .ro es=>match qm P t with
  |some z=>some (.kj (es.getD i.toNat []) 0,[0<=i,i<es.length,k8 z es=true])
  |none=>none
 | .rf n f=>match qm P t with
  |some z=>if(f i.toNat).length=z then some (.kj (f i.toNat) 0,[0<=i,i<n])else none
  |none=>none
 | .own id off len=>match qm P t,h[id]? with
  |some z,some B=>if B.sz=z then some (.ptr id (off+i.toNat) 0,[0<=i,i<len])else none
  |_,_=>none
 | .ptr id k off=>match P.underlying t with
  |some (.array n e)=>match Ch P e with
   |some z=>some (.ptr id k<|off+i.toNat*z,[0<=i,i<n])
   |none=>none
  |_=>none
 | .kj cs off=>match P.underlying t with
  |some (.array n e)=>match Ch P e with
   |some z=>some (.kj cs<|off+i.toNat*z,[0<=i,i<n])
   |none=>none
  |_=>none
 | .sc u=>bt0 P t i u
 |_=>none
def lI(T:List J)(b53:Nat):Option Operand->Option Int
 |none=>some b53
 |some x=>match dU T x with
  |some (.sc<|.int _ n)=>some n
  |_=>none
def Cp(P:Program)(T:List J)(h:Hp)(t:TypeId)(x:J)(lo hi mx:Option Operand):Option (J×List Prop):=
 match x with
 | .sc (.string b)=>match P.underlying t,mx,lI T 0 lo,lI T b.size hi with
  |some .string,none,some l,some r=>some (.sc<|.string<|b.extract l.toNat r.toNat,[0<=l,l<=r,r<=b.size])
  |_,_,_,_=>none
 | .dF=>match qm P t,mx,lI T 0 lo,lI T 0 hi with
  |some _,none,some l,some r=>some (.dF,[l=0,r=0])
  |_,_,_,_=>none
 | .ro es=>match qm P t,mx,lI T 0 lo,lI T es.length hi with
  |some z,none,some l,some r=>some (.ro<|(es.drop l.toNat).take<|r.toNat-l.toNat,[0<=l,l<=r,r<=es.length,k8 z es=true])
  |_,_,_,_=>none
 | .rf n f=>match qm P t,mx,lI T 0 lo,lI T n hi with
  |some z,none,some l,some r=>if(f l.toNat).length=z then some (.rf (r.toNat-l.toNat) λi=>f (l.toNat+i),[0<=l,l<=r,r<=n])else none
  |_,_,_,_=>none
 | .own id off len=>match qm P t,mx,lI T 0 lo,lI T len hi with
  |some z,none,some l,some r=>match h[id]? with
   |some B=>if B.sz=z then some (.own id (off+l.toNat)<|r.toNat-l.toNat,[0<=l,l<=r,r<=len])else none
   |none=>none
  |_,_,_,_=>none
 |_=>none
def pE:Nat:=140737488355328
def b54(h:Hp):J->Bool
 | .rf _ _| .bf _ _=>true
 | .own id _ _=>match h[id]? with
  |some B=>B.sym
  |none=>false
 |_=>false
def AI(P:Program)(h:Hp)(t:TypeId)(x y:J):Option (J×Hp×List Prop):=
 match P.underlying t with
 |some (.slice e)=>match Ch P e,(P.info? e).map (·.bytes),u5 h y with
  |some z,some uT,some (ys,obs)=>
   if 0<z/\0<uT/\(oB P e).map (·.cells.size)=some z then
   match x with
   | .dF=>match b54 h y with
    |true=>some (.bf h.length ys.length,h++ [⟨ys,0,[],z,true,false⟩],[ys.length*uT<=pE,k8 z ys=true,nc ys=true]++obs)
    |false=>match ys with
     | []=>some (.dF,h,obs)
     |y1::yr=>some (.own h.length 0<|yr.length+1,h++ [⟨y1::yr,0,[],z,false,false⟩],[(yr.length+1)*uT<=pE,k8 z (y1::yr)=true]++obs)
   | .bf id len=>match h[id]? with
    |some B=>
     if B.st=0/\B.sz=z/\B.sym=true then
      some (.bf h.length<|len+ys.length,h.set id {B with st:=1}++ [⟨B.es++ys,0,id::B.par,z,true,false⟩],[len=B.es.length,(len+ys.length)*uT<=pE,k8 z ys=true,nc ys=true]++obs)
     else none
    |none=>none
   | .own id off len=>match h[id]? with
    |some B=>
     if B.sym=false/\B.st=0/\off+len<=B.es.length/\B.sz=z then
      if off+len=B.es.length then
       some (.own h.length 0<|len+ys.length,h.set id {B with st:=1}++ [⟨(B.es.drop off).take len++ys,0,id::B.par,z,false,false⟩],[(len+ys.length)*uT<=pE,k8 z ys=true]++obs)
      else
       some (.own h.length 0<|len+ys.length,kill (h.set id {B with st:=2}) B.par++ [⟨(B.es.drop off).take len++ys,0,[],z,false,false⟩],[(len+ys.length)*uT<=pE,k8 z ys=true]++obs)
     else none
    |none=>none
   |_=>none
   else none
  |_,_,_=>none
 |_=>none
def Sn(P:Program)(h:Hp)(t:TypeId):J->Option (Hp×List Prop)
 | .own id off len=>match P.underlying t,h[id]? with
  |some (.slice e),some B=>match Ch P e,oB P e with
   |some z,some zv=>
    if B.st=0/\B.sz=z/\0<z/\B.par=[]/\zv.cells.size=z/\(zv.cells.toList.map cellOf).all fO=true/\zv.cells.toList.all (·.oneCell')=true then
     some (h.set id {B with es:=B.es.take off++List.replicate len (zv.cells.toList.map cellOf)++B.es.drop (off+len)},[off+len<=B.es.length])
    else none
   |_,_=>none
  |_,_=>none
 |_=>none
def Zg(T:List J)(x:Operand):Option Int:=
 match dU T x with
 |some (.sc (.int _ n))=>some n
 |_=>none
def V0(P:Program)(h:Hp)(t:TypeId)(n k:Int):Option (J×Hp×List Prop):=
 match P.underlying t with
 |some (.slice e)=>match Ch P e,(P.info? e).map (·.bytes),oB P e with
  |some z,some uT,some zv=>
   if 0<z/\0<uT/\zv.cells.size=z/\(zv.cells.toList.map cellOf).all fO=true then
    some (.bf h.length n.toNat,h++ [⟨List.replicate n.toNat<|zv.cells.toList.map cellOf,0,[],z,true,false⟩],[0<=n,n<=k,k*uT<=pE])
   else none
  |_,_,_=>none
 |_=>none
def JU:List J->UInt8
 | [.sc (.int .u8 n)]=>UInt8.ofNat n.toNat
 |_=>0
def isByte:List J->Bool
 | [.sc (.int .u8 _)]=>true
 |_=>false
def dA(es:List (List J)):y_:=⟨(es.map JU).toArray⟩
def va(es:List (List J)):Bool:=es.all isByte
def Bytes(es:List (List J)):Prop:=∀e∈es,isByte e=true
def DB(P:Program)(h:Hp)(src dst:TypeId)(p:Option J):Option (J×List Prop):=
 match P.underlying src,P.underlying dst with
 |some (.slice e),some .string=>match P.underlying e,Ch P e,p with
  |some (.int .u8),some 1,some q=>match u5 h q with
   |some (es,ob)=>some (.sc (.string<|dA es),(va es=true)::ob)
   |none=>none
  |_,_,_=>none
 |_,_=>none
def dN(a b:y_):Bool:=decide<|a.data.toList=b.data.toList
def AJ(P:Program)(t:TypeId)(vs:Array Value)(off:Nat):Option Value:=
 match Cn P t with
 |some true=>match Ch P t with
  |some n=>some<|.agg<|vs.extract off<|off+n
  |none=>none
 |some false=>vs[off]?
 |none=>none
def Sp(P:Program)(f:TypeId->Value->Value->Option Bool)(xs ys:Array Value):List Field->Option Bool
 | []=>some true
 |g::r=>if g.name= "_" then Sp P f xs ys r else
  match AJ P g.type xs g.offset,AJ P g.type ys g.offset with
  |some a,some b=>match f g.type a b,Sp P f xs ys r with
   |some p,some q=>some<|p&&q
   |_,_=>none
  |_,_=>none
def as7(P:Program)(f:TypeId->Value->Value->Option Bool)(e:TypeId)(c:Nat)(xs ys:Array Value):List Nat->Option Bool
 | []=>some true
 |i::r=>
  match AJ P e xs (i*c),AJ P e ys (i*c)with
  |some a,some b=>match f e a b,as7 P f e c xs ys r with
   |some p,some q=>some<|p&&q
   |_,_=>none
  |_,_=>none
def eqV(P:Program):Nat->TypeId->Value->Value->Option Bool
 |0,_,_,_=>none
 |n+1,t,x,y=>match P.underlying t with
  |some .bool=>match x,y with
   | .bool a,.bool b=>some<|a==b
   |_,_=>none
  |some (.int _)=>match x,y with
   | .int k a,.int k' b=>if k=k' then some (a==b)else none
   |_,_=>none
  |some .string=>match x,y with
   | .string a,.string b=>some<|dN a b
   |_,_=>none
  |some (.struct fs)=>match x,y with
   | .agg xs,.agg ys=>if P.stoodInHeld t then none else Sp P (eqV P n) xs ys fs.toList
   |_,_=>none
  |some (.array len e)=>match x,y with
   | .agg xs,.agg ys=>match P.info? e with
    |some i=>as7 P (eqV P n) e i.size xs ys<|List.range len
    |none=>none
   |_,_=>none
  |_=>none
def V1(P:Program)(t:TypeId)(xs ys:List J):Option Bool:=
 match tv xs,tv ys with
 |some us,some vs=>if P.eqGuardType P.depth t then none else eqV P 12 t (.agg ⟨us⟩) (.agg ⟨vs⟩)
 |_,_=>none
def bz5(P:Program)(k:BinOp)(t:TypeId)(x y:Option J):Option (J×List Prop):=
 match k with
 | .add=>match x,y with
  |some (.sc<|.string a),some (.sc<|.string b)=>some (.sc<|.string<|a++b,[a.size+b.size<=9223372036854775807])
  |_,_=>none
 | .eql=>match x,y with
  |some (.sc<|.string a),some (.sc<|.string b)=>some (.sc<|.bool<|dN a b,[])
  |some (.agg xs),some (.agg ys)=>match V1 P t xs ys with
   |some b=>some (.sc<|.bool b,[])
   |none=>none
  |_,_=>none
 | .neq=>match x,y with
  |some (.sc<|.string a),some (.sc<|.string b)=>some (.sc<|.bool<|!dN a b,[])
  |some (.agg xs),some (.agg ys)=>match V1 P t xs ys with
   |some b=>some (.sc<|.bool<|!b,[])
   |none=>none
  |_,_=>none
 |_=>none
inductive oN where
 |int (k:IntKind)
 |str
 |pair (k:IntKind)
 deriving DecidableEq
def nN(P:Program)(t:TypeId):Option oN:=
 match P.underlying t with
 |some (.int k)=>some (.int k)
 |some .string=>some .str
 |some (.struct fs)=>match fs.toList with
  | [f,g]=>match P.underlying f.type,P.underlying g.type with
   |some (.int k),some .string=>if f.name= "_"\/g.name= "_"\/f.offset≠0\/g.offset≠1\/P.stoodInHeld t=true then none else some (.pair k)
   |_,_=>none
  |_=>none
 |_=>none
def sR(P:Program)(t:TypeId):Option (oN×IntKind):=
 match P.underlying t with
 |some (.map kt vt)=>match nN P kt,P.underlying vt,oB P vt with
  |some kk,some (.int q),some (.int q' 0)=>if q=q' then some (kk,q)else none
  |_,_,_=>none
 |_=>none
def Sq(q:IntKind):oN->List J
 | .int k=> [.sc (.int k 0),.sc (.int q 0)]
 | .str=> [.sc (.string ⟨#[]⟩),.sc (.int q 0)]
 | .pair k=> [.sc (.int k 0),.sc (.string ⟨#[]⟩),.sc (.int q 0)]
def shapeOf:List J->Option (oN×IntKind)
 | [.sc (.int k 0),.sc (.int q 0)]=>some (.int k,q)
 | [.sc (.string _),.sc (.int q 0)]=>some (.str,q)
 | [.sc (.int k 0),.sc (.string _),.sc (.int q 0)]=>some (.pair k,q)
 |_=>none
def Gd(kk:oN)(p:J):Option (List J):=
 match kk,p with
 | .int k,.sc (.int k' n)=>if k=k' then some [.sc (.int k n)]else none
 | .str,.sc (.string s)=>some [.sc (.string s)]
 | .pair k,.agg [.sc (.int k' n),.sc (.string s)]=>if k=k' then some [.sc (.int k n),.sc (.string s)]else none
 |_,_=>none
def yI:J->J->Bool
 | .sc (.int _ a),.sc (.int _ b)=>a==b
 | .sc (.string a),.sc (.string b)=>dN a b
 |_,_=>false
def rowIs:List J->List J->Bool
 | [_],[]=>true
 |a::r,b::ks=>yI a b&&rowIs r ks
 |_,_=>false
def iQ:List J->Int
 | [.sc (.int _ n)]=>n
 |_::r=>iQ r
 | []=>0
def lF(es:List (List J))(ks:List J):Int:=es.foldl (λn r=>bif rowIs r ks then iQ r else n) 0
def yJ(P:Program)(t:TypeId)(B:dW)(p:J):Option J:=
 match sR P t,B.es with
 |some (kk,q),z::r=>if B.st=3/\shapeOf z=some (kk,q)then match Gd kk p with
   |some ks=>some<|.sc<|.int q<|lF (z::r) ks
   |none=>none
  else none
 |_,_=>none
def Sr(P:Program)(t:TypeId)(B:dW)(p v:J):Option (List<|List J):=
 match sR P t,B.es,v with
 |some (kk,q),z::r,.sc (.int q' n)=>if B.st=3/\shapeOf z=some (kk,q)/\q'=q then match Gd kk p with
   |some ks=>some<|(z::r)++ [ks++ [.sc<|.int q n]]
   |none=>none
  else none
 |_,_,_=>none
def evalOp(P:Program)(E:Env)(dr:Bool)(T:List J)(h:Hp)(o:Oper)(s:l8):Res:=
 match o.op with
 | .move x| .assign x=>match dU T x with
  |some p=>some (p,h,[],s)
  |none=>none
 | .pick c a b=>match dU T c with
  |some (.bit true)=>match dU T a with
   |some p=>some (p,h,[],s)
   |none=>none
  |some (.bit false)=>match dU T b with
   |some p=>some (p,h,[],s)
   |none=>none
  |_=>none
 | .alloc t=>if dr then none else match oB P t with
  |some z=>some ((Sk h<|z.cells.toList.map cellOf).1,(Sk h<|z.cells.toList.map cellOf).2,[],s)
  |none=>none
 | .box _ x=>if dr then none else match dU T x with
  |some p=>match rN p with
   |some cs=>some ((Sk h cs).1,(Sk h cs).2,[],s)
   |none=>none
  |none=>none
 | .build t parts=>match u4 T parts.toList with
  |some ps=>match Sl P t ps with
   |some p=>some (p,h,[],s)
   |none=>none
  |none=>none
 | .buildSlice t n parts=>match P.underlying t,u4 T parts.toList with
  |some (.slice e),some ps=>match Ch P e with
   |some z=>match zc z 0 ps with
    |some es=>
     if es.length=n/\0<z/\n*z<=16777216/\(oB P e).isSome=true then
      if dr then(if es.all (·.all fO)then some (.ro es,h,[],s)else none)
      else some (.own h.length 0 n,h++ [⟨es,0,[],z,false,false⟩],[],s)
     else none
    |none=>none
   |none=>none
  |_,_=>none
 | .load t a=>match dU T a with
  |some p=>match bs9 E p with
   |some tl=>match Gb P h t tl p with
    |some (v,X)=>some (v,h,[X],s)
    |none=>none
   |none=>match s with
   | .ld e::s'=>match F8 P h t e p with
    |some (v,X)=>some (v,h,[X],s')
    |none=>none
   | .lc::s'=>match rO P h t p with
    |some v=>some (v,h,[],s')
    |none=>none
   | .tab::s'=>match loadT P h t p with
    |some (v,X)=>some (v,h,[X],s')
    |none=>none
   |_=>match rO P h t p with
    |some v=>some (v,h,[],s)
    |none=>match as2 P t p with
     |some (v,X)=>some (v,h,[X],s)
     |none=>none
  |none=>none
 | .store t a x=>match dU T a,dU T x with
  |some p,some v=>if dr&& !Sj h p then none else match bs9 E p with
   |some tl=>match LZ P h t tl p v with
    |some (h',ob)=>some (.sc Go.undef,h',ob,s)
    |none=>none
   |none=>match Co P h t p v with
    |some h'=>some (.sc Go.undef,h',[],s)
    |none=>none
  |_,_=>none
 | .nilCheck x=>match dU T x with
  |some (.ptr id i off)=>some (.ptr id i off,h,[],s)
  |some (.kj cs off)=>some (.kj cs off,h,[],s)
  |_=>ql P T h o s
 | .fieldAddr t x f=>match P.underlying t,dU T x with
  |some (.struct fs),some p=>match fs[f]? with
   |some fd=>match Ch P fd.type,p with
    |some (_+1),.ptr id i off=>some (.ptr id i<|off+fd.offset,h,[],s)
    |some (_+1),.kj cs off=>some (.kj cs<|off+fd.offset,h,[],s)
    |_,_=>none
   |none=>none
  |_,_=>none
 | .indexAddr t x i=>match dU T x,Zg T i with
  |some p,some n=>match JT P h t n (mg p)with
   |some (q,ob)=>some (q,h,ob,s)
   |none=>none
  |_,_=>none
 | .slice t x lo hi mx=>match dU T x with
  |some p=>match Cp P T h t (mg p) lo hi mx with
   |some (q,ob)=>some (q,h,ob,s)
   |none=>none
  |none=>none
 | .field t x f=>match P.underlying t,dU T x with
  |some (.struct fs),some (.agg cs)=>match fs[f]? with
   |some fd=>match pC P fd.type cs fd.offset with
    |some q=>some (q,h,[],s)
    |none=>none
   |none=>none
  |_,_=>none
 | .index t x i=>match P.underlying t,dU T x,Zg T i with
  |some .string,some (.sc<|.string b),some n=>some (.sc<|.int .u8 (b.data.toList.getD n.toNat 0).toNat,h,[0<=n,n<b.size],s)
  |some (.array k e),some (.agg cs),some n=>match Ch P e with
   |some z=>match pC P e cs (n.toNat*z)with
    |some q=>some (q,h,[0<=n,n<k],s)
    |none=>none
   |none=>none
  |_,_,_=>none
 | .extract x i=>match dU T x with
  |some (.bg vs)=>match vs[i]? with
   |some p=>some (p,h,[],s)
   |none=>none
  |_=>none
 | .binOp k t x y _=>match bz5 P k t (dU T x) (dU T y)with
  |some (v,ob)=>some (v,h,ob,s)
  |none=>ql P T h o s
 | .makeSlice t l c=>if dr then none else match Zg T l,Zg T c with
  |some n,some k=>match V0 P h t n k with
   |some (r,h',ob)=>some (r,h',ob,s)
   |none=>none
  |_,_=>none
 | .convert src dst x=>match DB P h src dst (dU T x)with
  |some (v,ob)=>some (v,h,ob,s)
  |none=>ql P T h o s
 | .makeFunc (.func g) ⟨[]⟩ cs=>match Dy T cs.toList with
  |some ps=>some (.qS g ps,h,[],s)
  |none=>none
 | .call ⟨.value f,args,_⟩=>match Dz P E T h (.value f) args s with
  |some r=>some r
  |none=>if dr then none else JR P E T h (.value f) args s
 | .call ⟨.invoke f n,args,_⟩=>match Dz P E T h (.invoke f n) args s with
  |some r=>some r
  |none=>if dr then none else JR P E T h (.invoke f n) args s
 | .call ⟨.builtin .len,⟨[x]⟩,⟨[t]⟩⟩=>match dU T x,qm P t with
  |some p,some _=>match qk p with
   |some n=>some (.sc<|.int .i64 n,h,[],s)
   |none=>none
  |_,_=>ql P T h o s
 | .call ⟨.builtin .append,⟨[x,y]⟩,⟨[t,t2]⟩⟩=>if dr then none else match dU T x,dU T y,qm P t2 with
  |some p,some q,some _=>match AI P h t p q with
   |some (r,h',ob)=>some (r,h',ob,s)
   |none=>none
  |_,_,_=>none
 | .makeMap t none=>if dr then none else match sR P t with
  |some (kk,q)=>some (.mp h.length,h++ [⟨[Sq q kk],3,[],0,true,false⟩],[],s)
  |none=>none
 | .lookup t x y false=>match dU T x,dU T y with
  |some (.mp id),some p=>match h[id]? with
   |some B=>match yJ P t B p with
    |some v=>some (v,h,[],s)
    |none=>none
   |none=>none
  |_,_=>none
 | .mapUpdate t x y u=>if dr then none else match dU T x,dU T y,dU T u with
  |some (.mp id),some p,some v=>match h[id]? with
   |some B=>match Sr P t B p v with
    |some es=>some (.sc Go.undef,h.set id {B with es:=es},[],s)
    |none=>none
   |none=>none
  |_,_,_=>none
 | .makeInterface t x=>match P.underlying t,dU T x with
  |some (.interface _),_=>none
  |some _,some p=>some (.Dx t p,h,[],s)
  |_,_=>none
 | .call ⟨.builtin .clear,⟨[x]⟩,⟨[t]⟩⟩=>if dr then none else match dU T x with
  |some p=>match Sn P h t (mg p)with
   |some (h',ob)=>some (.sc<|.tuple #[],h',ob,s)
   |none=>none
  |none=>none
 |_=>ql P T h o s
def V2(ops:Array Oper)(T:List J)(o:Oper)(s:l8):Option (Bool×List J×List Ob×l8):=
 match o.guard with
 |none=>some (true,T,[],s)
 |some (j,want)=>
  match(ops[j]?).bind (·.dst)with
  |some t=>match T[t]? with
   |some (.sc<|.bool _)|some (.bit _)=>match dec T t s with
    |some (b,T',ob,s')=>some (b==want,T',ob,s')
    |none=>none
   |some (.sc _)=>some (false,T,[],s)
   |_=>none
  |none=>none
def V3(T:List J)(o:Oper)(s:l8):Option (List J×List Ob×l8):=
 match o.op with
 | .pick (.tmp t) _ _=>match dec T t s with
  |some (_,T',ob,s')=>some (T',ob,s')
  |none=>none
 |_=>some (T,[],s)
def xL(o:Oper):Bool:=
 match o.op with
 | .store _ _ _=>true
 |_=>false
def L2(P:Program)(E:Env)(dr:Bool)(ops:Array Oper)(T:List J)(h:Hp)(o:Oper)(s:l8):Option (List J×Hp×List Ob×l8):=
 match V2 ops T o s with
 |some (true,T1,tX,s1)=>match V3 T1 o s1 with
  |some (T2,OH,s2)=>match evalOp P E dr T2 h o s2 with
   |some (v,h',ob3,s3)=>some (put T2 o.dst v,h',tX++OH++ob3.map .xK,s3)
   |none=>none
  |none=>none
 |some (false,T1,tX,s1)=>some (put T1 o.dst (.sc Go.undef),h,tX,s1)
 |none=>none
def Cq(P:Program)(E:Env)(dr:Bool)(ops:Array Oper):List Oper->List J->Hp->l8->Option (List J×Hp×List Ob×l8)
 | [],T,h,s=>some (T,h,[],s)
 |o::os,T,h,s=>match L2 P E dr ops T h o s with
  |some (T',h',ob,s')=>match Cq P E dr ops os T' h' s' with
   |some (T'',h'',AK,Zh)=>some (T'',h'',ob++AK,Zh)
   |none=>none
  |none=>none
def mU(ops:Array Oper)(i j:Nat):Bool:=
 match ops[i]? with
 |some o=>o.after.any λe=>e.on==j&&Region.binds .any e
 |none=>false
def V4(ops:Array Oper)(i j:Nat):Bool:=if j<i then mU ops i j else mU ops j i
def V5(ops:Array Oper)(i j:Nat)(o q:Oper):Bool:=
 match q.dst with
 |some d=>(!(o.looksAt ops).contains d||V4 ops i j)&&o.dst !=some d
 |none=>true
def L3(ops:Array Oper):Bool:=
 (List.range ops.size).all λi=>match ops[i]? with
  |none=>true
  |some o=>(o.after.all λe=> !Region.binds .any e||decide (e.on<i))&&
   (List.range ops.size).all λj=>match ops[j]? with
    |none=>true
    |some q=>i==j||V5 ops i j o q
def b55(acc:List (List Nat))(o:Oper):List Nat:=
 o.after.toList.foldl (λl e=>if Region.binds .any e then u6 l (e.on::acc.getD e.on [])else l) []
def bb6:List Oper->List (List Nat)->List (List Nat)
 | [],acc=>acc
 |o::r,acc=>bb6 r (acc++ [b55 acc o])
def bz6(ops:Array Oper)(i j:Nat):Bool:=V4 ops i j||(if j<i then((bb6 ops.toList []).getD i []).contains j else((bb6 ops.toList []).getD j []).contains i)
def yK:J->Bool
 | .agg cs=>cs.all fO
 |p=>fO p
def bt1:J->Bool
 | .qS _ cs=>cs.all yK
 | .Dx _ q=>yK q
 |_=>true
def Ge(T:List J)(f:Callee)(args:Array Operand):Bool:=
 (args.toList.all λx=>((dU T x).map yK).getD true)&&match f with
  | .value x| .invoke x _=>((dU T x).map bt1).getD true
  |_=>true
def OI(T:List J)(f:Callee)(args:Array Operand):Option (List Nat)×List Nat:=if Ge T f args=true then(some [],[])else(none,[])
def mh(T:List J)(o:Oper):Option (List Nat)×List Nat:=
 match o.op with
 | .load _ x=>match dU T x with
  |some (.ptr id _ _)=>(some [id],[])
  |_=>(some [],[])
 | .store _ x _=>match dU T x with
  |some (.ptr id _ _)=>(some [],[id])
  |_=>(some [],[])
 | .indexAddr _ x _=>match(dU T x).map mg with
  |some (.own id _ _)=>(some [id],[])
  |_=>(some [],[])
 | .slice _ x _ _ _=>match(dU T x).map mg with
  |some (.own id _ _)=>(some [id],[])
  |_=>(some [],[])
 | .convert _ _ x=>match(dU T x).map mg with
  |some (.own id _ _)=>(some [id],[])
  |_=>(some [],[])
 | .call ⟨f,args,_⟩=>OI T f args
 | .lookup _ x _ _=>match dU T x with
  |some (.mp id)=>(some [id],[])
  |_=>(some [],[])
 |_=>(some [],[])
def L4(P:Program)(T:List J)(h h':Hp)(f:Callee)(args:Array Operand):List Nat:=
 h.length::((match u9 P T f args with
  |some (_,ps)=>handed h ps++nb h (handed h ps)
  |none=> [])++(List.range (h'.length-h.length)).map (h.length+ ·))
def AL(P:Program)(T:List J)(h h':Hp)(o:Oper):List Nat:=
 match o.op with
 | .call ⟨.builtin .append,⟨[x,_]⟩,_⟩=>match(dU T x).map mg with
  |some (.own id _ _)=>h.length::id::((h[id]?).map (·.par)).getD []
  |_=> [h.length]
 | .call ⟨.value f,args,_⟩=>L4 P T h h' (.value f) args
 | .call ⟨.invoke f n,args,_⟩=>L4 P T h h' (.invoke f n) args
 | .mapUpdate _ x _ _=>match dU T x with
  |some (.mp id)=> [h.length,id]
  |_=> [h.length]
 |_=> [h.length]
def Ss(o:Oper):Bool:=
 match o.op with
 | .alloc _| .box _ _| .buildSlice _ _ _| .makeSlice _ _ _| .call ⟨.builtin .append,_,_⟩| .call ⟨.value _,_,_⟩| .call ⟨.invoke _ _,_,_⟩| .makeMap _ _| .mapUpdate _ _ _ _=>true
 |_=>false
def as8(P:Program)(E:Env)(T:List J)(h:Hp)(o:Oper)(s:l8):Option ((J×Hp×List Prop×l8)×Option (List Nat)×List Nat):=
 match evalOp P E true T h o s with
 |some r=>some (r,mh T o)
 |none=>match Ss o with
  |true=>match evalOp P E false T h o s with
   |some r=>some (r,none,AL P T h r.2.1 o)
   |none=>none
  |false=>none
def Su(P:Program)(E:Env)(ops:Array Oper):List Oper->List J->Hp->l8->Option (List J×Hp×List Ob×l8×List (Option (List Nat)×List Nat))
 | [],T,h,s=>some (T,h,[],s,[])
 |o::os,T,h,s=>
  match V2 ops T o s with
  |some (true,T1,tX,s1)=>match V3 T1 o s1 with
   |some (T2,OH,s2)=>match as8 P E T2 h o s2 with
    |some ((v,h',ob3,s3),u)=>match Su P E ops os (put T2 o.dst v) h' s3 with
     |some (T',h'',AK,s',us)=>some (T',h'',tX++OH++ob3.map .xK++AK,s',u::us)
     |none=>none
    |none=>none
   |none=>none
  |some (false,T1,tX,s1)=>match Su P E ops os (put T1 o.dst<|.sc Go.undef) h s1 with
   |some (T',h'',AK,s',us)=>some (T',h'',tX++AK,s',(some [],[])::us)
   |none=>none
  |none=>none
def bt2(u v:Option (List Nat)×List Nat):Bool:=
 v.2.isEmpty||(u.2.isEmpty&&match u.1 with
  |none=>false
  |some l=>l.all λid=> !v.2.contains id)
def Cr(ops:Array Oper)(us:List (Option (List Nat)×List Nat)):Bool:=
 (us.all λu=>u.2.isEmpty)||(List.range us.length).all λj=>match us[j]? with
  |none=>true
  |some v=>v.2.isEmpty||(List.range us.length).all λi=>match us[i]? with
   |none=>true
   |some u=>i==j||bt2 u v||bz6 ops i j
def rq(P:Program)(E:Env)(ops:Array Oper)(draw:Bool)(T:List J)(h:Hp)(s:l8):Option (List J×Hp×List Ob×l8):=
 if draw then
  if P.follows .mixedOrders&&L3 ops then
   match Su P E ops ops.toList T h s with
   |some (T',h',ob,s',us)=>if Cr ops us then some (T',h',ob,s')else none
   |none=>none
  else none
 else Cq P E false ops ops.toList T h s
def as9(T:List J)(c:Operand)(s:l8):Option (Bool×List J×List Ob×l8):=
 match c with
 | .tmp t=>dec T t s
 | .const (.bool b)=>some (b,T,[],s)
 |_=>none
def L5:LT->l8->Option (Out×List J×Hp×List Ob×l8)
 | .out o T h,s=>some (o,T,h,[],s)
 | .ite c t f,s=>match s with
  | .bit true::s'=>match L5 t s' with
   |some (o,T,h,ob,Zh)=>some (o,T,h,.dec c true::ob,Zh)
   |none=>none
  | .bit false::s'=>match L5 f s' with
   |some (o,T,h,ob,Zh)=>some (o,T,h,.dec c false::ob,Zh)
   |none=>none
  | []=>match L5 t []with
   |some (o,T,h,ob,Zh)=>some (o,T,h,.dec c true::ob,Zh)
   |none=>none
  |_=>none
 | .bad,_=>none
def exec(P:Program)(E:Env)(L:gD)(Lp:Code->List J->Hp->Out->List J->Hp->Prop):Code->List J->Hp->l8->Option (Out×List J×Hp×List Ob×l8)
 | .skip,T,h,s=>some (.norm,T,h,[],s)
 | .label _,T,h,s=>some (.norm,T,h,[],s)
 | .region id ops draw,T,h,s=>match E.r id ops draw T h with
  |some (T',h',ob)=>some (.norm,T',h',ob.map .xK,s)
  |none=>match rq P E ops draw T h s with
   |some (T',h',ob,s')=>some (.norm,T',h',ob,s')
   |none=>none
 | .seq x y,T,h,s=>match exec P E L Lp x T h s with
  |some (.norm,T',h',ob,s')=>match exec P E L Lp y T' h' s' with
   |some (o,T'',h'',AK,Zh)=>some (o,T'',h'',ob++AK,Zh)
   |none=>none
  |r=>r
 | .cond c x y,T,h,s=>match as9 T c s with
  |some (true,T',ob,s')=>match exec P E L Lp x T' h s' with
   |some (o,T'',h'',AK,Zh)=>some (o,T'',h'',ob++AK,Zh)
   |none=>none
  |some (false,T',ob,s')=>match exec P E L Lp y T' h s' with
   |some (o,T'',h'',AK,Zh)=>some (o,T'',h'',ob++AK,Zh)
   |none=>none
  |none=>none
 | .block id x,T,h,s=>match exec P E L Lp x T h s with
  |some (.ext jd,T',h',ob,s')=>if jd=id then some (.norm,T',h',ob,s')else some (.ext jd,T',h',ob,s')
  |r=>r
 | .loop x,T,h,s=>match pD x with
  |some k=>match L1 (L k).2.1 T h with
   |some (T0,h0)=>match trim (L k).1 T0 h0 with
    |some (T1,O)=>match L5 ((L k).2.2 T1 O) (skip s)with
     |some (o,T',h',ob,s')=>some (o,T',h',ob++ [.xK<|Lp x T1 O o T' h'],s')
     |none=>none
    |none=>none
   |none=>none
  |none=>none
 | .exit id,T,h,s=>some (.ext id,T,h,[],s)
 | .ret,T,h,s=>some (.ret,T,h,[],s)
 |_,_,_,_=>none
def OJ(P:Program)(T:List J)(h:Hp):List ResultVar->Option (List J)
 | []=>some []
 | .tmp t::r=>match T[t]? with
  |some p=>match OJ P T h r with
   |some ps=>some (p::ps)
   |none=>none
  |none=>none
 | .cell x t::r=>match T[x]? with
  |some q=>match rO P h t q with
   |some p=>match OJ P T h r with
    |some ps=>some (p::ps)
    |none=>none
   |none=>none
  |none=>none
def Sv:List J->J
 | [p]=>p
 |ps=> .bg ps
def AM(fn:Func):Bool:= !(fn.name== "runtime.NumGoroutine")
def Sw(P:Program)(E:Env)(L:gD)(Lp:Code->List J->Hp->Out->List J->Hp->Prop)(fn:Func)(args:List J)(s:l8):Option (J×List Ob×l8):=
 match fn.body with
 |some c=>match exec P E L Lp c (args++List.replicate (fn.ntmps-args.length) (.sc Go.undef)) [] s with
  |some (o,T,h,ob,s')=>
   if o= .norm\/o= .ret then
    match OJ P T h fn.results.toList with
    |some ps=>match exp h ln (Sv ps)with
     |some (r,_)=>some (r,ob++(ou h ln<|Sv ps).map .xK,s')
     |none=>none
    |none=>none
   else none
  |none=>none
 |none=>none
def V6(P:Program)(E:Env)(L:gD)(Lp:Code->List J->Hp->Out->List J->Hp->Prop)(fn:Func)(args:List J)(s:l8):Option (J×List Ob×l8):=
 match AM fn with
 |true=>Sw P E L Lp fn args s
 |false=>none
def L6(P:Program)(E:Env)(L:gD)(Lp:Code->List J->Hp->Out->List J->Hp->Prop)(fn:Func)(args:List J)(h0:Hp)(s:l8):Option ((J×Hp)×List Ob×l8):=
 match fn.body with
 |some c=>match exec P E L Lp c (args++List.replicate (fn.ntmps-args.length) (.sc Go.undef)) h0 s with
  |some (o,T,h,ob,s')=>
   if o= .norm\/o= .ret then
    match OJ P T h fn.results.toList with
    |some ps=>match gc [Sv ps] h with
     |some ([r],h')=>some ((r,h'),ob,s')
     |_=>none
    |none=>none
   else none
  |none=>none
 |none=>none
def L7(P:Program)(E:Env)(L:gD)(Lp:Code->List J->Hp->Out->List J->Hp->Prop)(fn:Func)(args:List J)(h0:Hp)(s:l8):Option ((J×Hp)×List Ob×l8):=
 match AM fn with
 |true=>L6 P E L Lp fn args h0 s
 |false=>none
end
section
open Go.RowKit
section
variable {es:l_ (l_ J)}{w w':World}{S S' Sa:Nat->Prop}{b:Nat}{B:dW}{h:Hp}{α:Type}{sm:Bool}
def rQ {z:Nat}(h:k8 z es=true):JS z es:=λe F=>by have:=cU.1 h e F;simp only[fG,ev]at this;exact this
def OK(h:nc es=true):oA es:=λe F=>cU.1 h e F
def at0(h:va es=true):Bytes es:=λe F=>cU.1 h e F
inductive cf(w:World)(S:Nat->Prop):J->Value->Prop where
 |sc (v:Value):cf w S (.sc v) v
 |bit (b:Bool):cf w S (.bit b) (.bool b)
 |agg (cs:l_ J) (vs:Array Value) (hl:cs.length=vs.size) (Y:∀(i:Nat) c v,cs[i]?=some c->vs[i]?=some v->cf w S c v):cf w S (.agg cs) (.agg vs)
 |bg (cs:l_ J) (vs:Array Value) (hl:cs.length=vs.size) (Y:∀(i:Nat) c v,cs[i]?=some c->vs[i]?=some v->cf w S c v):cf w S (.bg cs) (.tuple vs)
 |qS (g:Nat) (cs:l_ J) (vs:Array Value) (hl:cs.length=vs.size) (Y:∀(i:Nat) c v,cs[i]?=some c->vs[i]?=some v->cf w S c v):cf w S (.qS g cs) (.func (.func g) #[] vs)
 |dF (a:Option Addr):cf w S .dF (.slice a 0 0)
 |any (v:Value):cf w S .any v
 |rf (n:Nat) (f:Nat->l_ J) (v:Value) (h:cf w S (.ro ((List.range n).map f)) v):cf w S (.rf n f) v
 |Dx (t:Nat) (p:J) (v:Value) (h:cf w S p v):cf w S (.Dx t p) (.iface t v)
 |kj (cs:l_ J) (off b o:Nat) (c:Array Value) (et:TypeId) (fz:Nat×Nat) (hS:S b) (hb:w.heap[b]?=some (.cells c et fz)) (hn:o+cs.length<=c.size)
   (Y:∀(j:Nat) p v,cs[j]?=some p->c[o+j]?=some v->cf w S p v):cf w S (.kj cs off) (.pointer<|some ⟨b,o+off,none⟩)
 |Fu (a:Option Addr) (cap:Nat):cf w S (.ro []) (.slice a 0 cap)
 |ro (es:l_ (l_ J)) (b o cap sz:Nat) (c:Array Value) (et:TypeId) (fz:Nat×Nat) (hS:S b) (hb:w.heap[b]?=some (.cells c et fz))
   (hz:∀e∈es,e.length=sz) (hn:o+es.length*sz<=c.size) (iq:es.length<=cap)
   (Y:∀(i j:Nat) e p v,es[i]?=some e->e[j]?=some p->c[o+i*sz+j]?=some v->cf w S p v):cf w S (.ro es) (.slice (some ⟨b,o,none⟩) es.length cap)
abbrev Mp:=l_<|Nat×Nat×Nat
inductive cv(w:World)(S:Nat->Prop)(m:Mp):J->Value->Prop where
 |st (p:J) (v:Value) (h:cf w S p v):cv w S m p v
 |agg (cs:l_ J) (vs:Array Value) (hl:cs.length=vs.size) (Y:∀(i:Nat) c v,cs[i]?=some c->vs[i]?=some v->cv w S m c v):cv w S m (.agg cs) (.agg vs)
 |bg (cs:l_ J) (vs:Array Value) (hl:cs.length=vs.size) (Y:∀(i:Nat) c v,cs[i]?=some c->vs[i]?=some v->cv w S m c v):cv w S m (.bg cs) (.tuple vs)
 |qS (g:Nat) (cs:l_ J) (vs:Array Value) (hl:cs.length=vs.size) (Y:∀(i:Nat) c v,cs[i]?=some c->vs[i]?=some v->cv w S m c v):cv w S m (.qS g cs) (.func (.func g) #[] vs)
 |own (id off len cap b o sz:Nat) (c:Array Value) (et:TypeId) (hm:m[id]?=some (b,o,sz)) (hz:0<sz) (hb:w.heap[b]?=some (.cells c et (0,0)))
   (iq:len<=cap) (hn:o+(off+cap)*sz<=c.size):cv w S m (.own id off len) (.slice (some ⟨b,o+off*sz,none⟩) len cap)
 |vZ (id off:Nat) (a:Option Addr):cv w S m (.own id off 0) (.slice a 0 0)
 |bf (id len:Nat) (v:Value) (h:cv w S m (.own id 0 len) v):cv w S m (.bf id len) v
 |ptr (id i off b o sz:Nat) (hm:m[id]?=some (b,o,sz)):cv w S m (.ptr id i off) (.pointer (some ⟨b,o+i*sz+off,none⟩))
 |mux (t:Nat) (want c:Bool) (p:J) (v:Value) (h:c=want->cv w S m p v):cv w S m (.mux t want c p) v
 |mp (id b o sz:Nat) (hm:m[id]?=some (b,o,sz)):cv w S m (.mp id) (.map (some b))
 |Dx (t:Nat) (p:J) (v:Value) (h:cv w S m p v):cv w S m (.Dx t p) (.iface t v)
theorem cv.kj{m:Mp} (cs:l_ J) (off b o:Nat) (c:Array Value) (et:TypeId) (fz:Nat×Nat) (hS:S b) (hb:w.heap[b]?=some (.cells c et fz)) (hn:o+cs.length<=c.size)
  (Y:∀(j:Nat) p v,cs[j]?=some p->c[o+j]?=some v->cf w S p v):cv w S m (.kj cs off) (.pointer<|some ⟨b,o+off,none⟩):= .st _ _<|.kj cs off b o c et fz hS hb hn Y
structure mi(w:World)(S:Nat->Prop)(w':World)(S':Nat->Prop):Prop where
 sub:∀b,S b->S' b
 keep:∀b:Nat,S b->w'.heap[b]?=w.heap[b]?
 shape:∀(b:Nat) (c:Array Value) (et:TypeId),w.heap[b]?=some (.cells c et (0,0))->∃c':Array Value,w'.heap[b]?=some (.cells c' et (0,0))/\c'.size=c.size
def mi.refl(w:World)(S:Nat->Prop):mi w S w S:=⟨λ_ h=>h,λ_ _=>rfl,λ_ c _ h=>⟨c,h,rfl⟩⟩
def cf.later(hs:∀b,S b->S' b)(hk:∀b,S b->w'.heap[b]?=w.heap[b]?) {p:J} {v:Value}(h:cf w S p v):cf w' S' p v:=by
 induction h with
 |sc v=>exact .sc v
 |bit b=>exact .bit b
 |agg cs vs hl _ ih=>exact .agg cs vs hl ih
 |qS g cs vs hl _ ih=>exact .qS g cs vs hl ih
 |bg cs vs hl _ ih=>exact .bg cs vs hl ih
 |dF a=>exact .dF a
 |any v=>exact .any v
 |Dx t p v _ ih=>exact .Dx t p v ih
 |kj cs off b o c et fz hS hb hn _ ih=>exact .kj cs off b o c et fz (hs b hS) ((hk b hS).trans hb) hn ih
 |rf n f v _ ih=>exact .rf n f v ih
 |Fu a cap=>exact .Fu a cap
 |ro es b o cap sz c et fz hS hb hz hn iq _ ih=>exact .ro es b o cap sz c et fz (hs b hS) ((hk b hS).trans hb) hz hn iq ih
theorem cv.later{m m':Mp}(hL:mi w S w' S')(hm:∀(i:Nat) x,m[i]?=some x->m'[i]?=some x) {p:J} {v:Value}(h:cv w S m p v):cv w' S' m' p v:=by
 induction h with
 |st p v h=>exact .st p v (h.later hL.sub hL.keep)
 |agg cs vs hl _ ih=>exact .agg cs vs hl ih
 |qS g cs vs hl _ ih=>exact .qS g cs vs hl ih
 |bg cs vs hl _ ih=>exact .bg cs vs hl ih
 |own id off len cap b o sz c et L8 h0 hb iq hn=>
  obtain⟨c',Sy,hz⟩:=hL.shape b c et hb;exact .own id off len cap b o sz c' et (hm _ _ L8) h0 Sy iq U
 |bf id len v _ ih=>exact .bf id len v ih
 |vZ id off a=>exact .vZ id off a
 |ptr id i off b o sz L8=>exact .ptr id i off b o sz (hm _ _ L8)
 |mux t want c p v _ ih=>exact .mux t want c p v ih
 |mp id b o sz L8=>exact .mp id b o sz (hm _ _ L8)
 |Dx t p v _ ih=>exact .Dx t p v ih
abbrev Rl(es:l_ (l_ J))(sz:Nat):Prop:=es≠ []\/0<sz
structure fR where
 g:World
 w:World
 D:Nat->Prop
 gV:Mp
def fR.own(w0:fR)(b:Nat):Prop:=w0.w.heap.size<=b\/w0.D b
structure V7(w0:fR)(w:World):Prop where
 root:Below w0.g.heap.size w0.g w
 os:w.os=w0.w.os
 tape:w.tape=w0.w.tape
 output:w.output=w0.w.output
 size:w0.w.heap.size<=w.heap.size
 block:∀k,k<w0.w.heap.size-> ¬w0.D k->w.heap[k]?=w0.w.heap[k]?
 shape:∀(b:Nat) (c:Array Value) (et:TypeId),w0.w.heap[b]?=some (.cells c et (0,0))->∃c':Array Value,w.heap[b]?=some (.cells c' et (0,0))/\c'.size=c.size
 gsz:w0.g.heap.size<=w0.w.heap.size
 dg:∀b,w0.D b->w0.g.heap.size<=b
def lt_of_block{x:Obj}(h:w.heap[b]?=some x):b<w.heap.size:=by
 rcases fA b w.heap.size with h'|h'
 .exact h'
 .rw[tk h']at h;cases h
def V7.grown {w0:fR}(h:V7 w0 w)(hb:Below w.heap.size w w'):V7 w0 w':=by refine⟨h.root.trans<|hb.mono h.root.size,hb.os.trans h.os,hb.tape.trans h.tape,hb.output.trans h.output,cm h.size hb.size,λk hk hD=>(hb.block k<|uY hk h.size).trans (h.block k hk hD),?_,h.gsz,h.dg⟩;intro b c et Y;obtain⟨c',O,h2⟩:=h.shape b c et Y;exact⟨c',(hb.block b<|lt_of_block O).trans O,h2⟩
theorem V7.alloc {w0:fR}(h:V7 w0 w)(o:Obj):V7 w0 (w.alloc o):=h.grown<|(Below.refl _ _).alloc (bE _) _
def fR.Sz {w0:fR}(h:V7 w0 w) {b:Nat}(hb:w0.own b):w0.g.heap.size<=b:=by
 rcases hb with hb|hb
 .exact cm h.gsz hb
 .exact h.dg b hb
theorem V7.setRow {w0:fR}(h:V7 w0 w) {b:Nat}(hb:w0.own b) {c:Array Value} {et:TypeId}(Y:w.heap[b]?=some (.cells c et (0,0))) {c':Array Value}(hz:c'.size=c.size):V7 w0 (w.setRow b c'):=by
 have hge:=fR.Sz h hb;have zd:=setRow_heap w b c c' et (0,0) Y;have jD:∀k,k≠b->(w.setRow b c').heap[k]?=w.heap[k]?:=λk hk=>setRow_other w b k _ hk;have kZ:(w.setRow b c').heap.size=w.heap.size:=sS;refine⟨below_setRow h.root hge _,h.os,h.tape,h.output,by rw[kZ];exact h.size,λk hk hD=> ?_,?_,h.gsz,h.dg⟩
 .by_cases I8:k=b
  .subst I8;rcases hb with hb|hb
   .omega
   .exact absurd hb hD
  .exact(jD k I8).trans<|h.block k hk hD
 .intro k ck etk hk;obtain⟨c2,O,h2⟩:=h.shape k ck etk hk;by_cases I8:k=b
  .subst I8;rw[Y]at O;cases O;exact⟨c',zd,hz.trans h2⟩
  .exact⟨c2,(jD k I8).trans O,h2⟩
def fH(e:MapEntry):l_ J:=(e.key.cells.toList++ [e.val]).map J.sc
def tY(kk:oN)(ks:l_ J)(v:Value):Prop:=
 match kk with
 | .int k=>∃n,v= .int k n/\ks=[.sc (.int k n)]
 | .str=>∃s,v= .string s/\ks=[.sc (.string s)]
 | .pair k=>∃n s,v= .agg #[.int k n,.string s]/\ks=[.sc (.int k n),.sc (.string s)]
def DC(kk:oN)(q:IntKind)(e:MapEntry):Prop:=(∃ks,tY kk ks e.key)/\∃n,e.val= .int q n
def gJ:l_ MapEntry->l_ J->Int
 | [],_=>0
 |e::r,ks=>bif rowIs (fH e) ks then iQ (fH e)else gJ r ks
def at1(w:World)(b:Nat)(es:l_ (l_ J)):Prop:=
 ∃(z:l_ J) (r:l_ (l_ J)) (kk:oN) (q:IntKind) (ents:Array MapEntry),es=z::r/\shapeOf z=some (kk,q)/\w.heap[b]?=some (.map ents ents.size)/\(∀(i:Nat) e,ents[i]?=some e->e.born=i)/\
  (∀e∈ents.toList,DC kk q e)/\∀ks v,tY kk ks v->gJ ents.toList ks=lF es ks
def DD(w:World)(b:Nat)(B:dW):Prop:=B.sym=true/\at1 w b B.es
def DD.same(h:DD w b B)(hb:w'.heap[b]?=w.heap[b]?):DD w' b B:=by obtain⟨h0,z,r,kk,q,ents,O,h2,h3,h4⟩:=h;exact⟨h0,z,r,kk,q,ents,O,h2,hb.trans h3,h4⟩
def DD.lt(h:DD w b B):b<w.heap.size:=by obtain⟨_,z,r,kk,q,ents,_,_,O,_⟩:=h;exact lt_of_block O
def DD.ne {b':Nat}{c:Array Value} {et:TypeId} {fz:Nat×Nat}(h:DD w b B)(Y:w.heap[b']?=some (.cells c et fz)):b≠b':=by rintro rfl;obtain⟨_,z,r,kk,q,ents,_,_,O,_⟩:=h;rw[Y]at O;cases O
structure Inv(w0:fR)(Sa:Nat->Prop)(h:Hp)(S:Nat->Prop)(m:Mp)(w:World):Prop where
 qf:V7 w0 w
 sub:∀b,S b->Sa b\/w0.own b
 lt:∀b,S b->b<w.heap.size
 len:m.length=h.length
 oq:∀(id:Nat) B b o sz,h[id]?=some B->B.st<=1->m[id]?=some (b,o,sz)->Rl B.es sz->∃c et,w.heap[b]?=some (.cells c et (0,0))/\o+B.es.length*sz<=c.size/\(∀e∈B.es,e.length=sz)/\
  ∀(i j:Nat) e p v,B.es[i]?=some e->e[j]?=some p->c[o+i*sz+j]?=some v->cv w S m p v
 live:∀(id:Nat) B b o sz,h[id]?=some B->B.st=0->m[id]?=some (b,o,sz)->Rl B.es sz->w0.own b/\ ¬S b
 uniq:∀(id jd:Nat) B B' b o sz o' nO,h[id]?=some B->B.st=0->m[id]?=some (b,o,sz)->h[jd]?=some B'->B'.st=0->m[jd]?=some (b,o',nO)->Rl B.es sz->Rl B'.es nO->id=jd
 tZ:∀(id:Nat) B b o sz,h[id]?=some B->B.st=1->m[id]?=some (b,o,sz)->Rl B.es sz->S b\/∃(jd:Nat) (B':dW) (o' nO:Nat),h[jd]?=some B'/\B'.st=0/\m[jd]?=some (b,o',nO)/\Rl B'.es nO/\id∈B'.par/\o+B.es.length*sz<=o'+B'.es.length*nO
 qU:∀(id q:Nat) B Bq,h[id]?=some B->q∈B.par->h[q]?=some Bq->Bq.st≠0
 oP:∀(id q:Nat) B,h[id]?=some B->q∈B.par->q<h.length
 Ci:∀(id:Nat) B b o sz,h[id]?=some B->m[id]?=some (b,o,sz)->Rl B.es sz->B.sz=sz
 syms:∀(id:Nat) B,h[id]?=some B->B.sym=true->oA B.es
 maps:∀(id:Nat) B b o sz,h[id]?=some B->B.st=3->m[id]?=some (b,o,sz)->w0.own b/\DD w b B/\ ¬S b
 ua:∀(id jd:Nat) B B' b o sz o' nO,h[id]?=some B->B.st=3->m[id]?=some (b,o,sz)->h[jd]?=some B'->B'.st=3->m[jd]?=some (b,o',nO)->id=jd
 gV:∀(i:Nat) x,w0.gV[i]?=some x->m[i]?=some x/\∃B,h[i]?=some B/\B.gV=true
def yx(w:World)(S:Nat->Prop)(m:Mp)(w':World)(S':Nat->Prop)(m':Mp):Prop:=∀p v,cv w S m p v->cv w' S' m' p v
def gw {o:Obj}(h:b<w.heap.size):(w.alloc o).heap[b]?=w.heap[b]?:=by show(w.heap.push o)[b]?=_;rw[Ap,if_neg U]
def dJ(w:World)(o:Obj):(w.alloc o).heap[w.heap.size]?=some o:=by show(w.heap.push o)[w.heap.size]?=_;simp
theorem mi.alloc(w:World)(S:Nat->Prop)(iH:∀b,S b->b<w.heap.size)(o:Obj):mi w S (w.alloc o) S:=
 ⟨λ_ h=>h,λb h=>gw (iH b h),λb c et h=>⟨c,by rw[gw<|lt_of_block h];exact h,rfl⟩⟩
def mi.grown(S:Nat->Prop)(iH:∀b,S b->b<w.heap.size)(hb:Below w.heap.size w w'):mi w S w' S:=
 ⟨λ_ h=>h,λb h=>hb.block b (iH b h),λb c et h=>⟨c,by rw[hb.block b<|lt_of_block h];exact h,rfl⟩⟩
theorem Inv.grown {w0:fR}{m:Mp}(hI:Inv w0 Sa h S m w)(hb:Below w.heap.size w w'):Inv w0 Sa h S m w':=by have hL:=mi.grown S hI.lt hb;refine⟨hI.qf.grown hb,hI.sub,λb h=>uY (hI.lt b h) hb.size,hI.len,?_,hI.live,hI.uniq,hI.tZ,hI.qU,hI.oP,hI.Ci,hI.syms,λid B b o sz O h2 h3=>⟨(hI.maps id B b o sz O h2 h3).1,(hI.maps id B b o sz O h2 h3).2.1.same<|hb.block b (hI.maps id B b o sz O h2 h3).2.1.lt,(hI.maps id B b o sz O h2 h3).2.2⟩,hI.ua,hI.gV⟩;intro id B b o sz O h2 h3 h4;obtain⟨c,et,e1,e2,e3,e4⟩:=hI.oq id B b o sz O h2 h3 h4;exact⟨c,et,by rw[hb.block b<|lt_of_block e1];exact e1,e2,e3,λi j e p v q1 q2 q3=>(e4 i j e p v q1 q2 q3).later hL λ_ _ h=>h⟩
def Inv.at2 {w0:fR}{m:Mp} (hI:Inv w0 Sa h S m w) (hs:∀b,S b->S' b) (iH:∀b,S' b->b<w.heap.size) (OL:∀b,S' b->Sa b\/w0.own b)
  (bt3:∀(id:Nat) B b o sz,h[id]?=some B->B.st=0->m[id]?=some (b,o,sz)->Rl B.es sz-> ¬S' b) (bz7:∀(id:Nat) B b o sz,h[id]?=some B->B.st=3->m[id]?=some (b,o,sz)-> ¬S' b):Inv w0 Sa h S' m w:=by
 have hL:mi w S w S':=⟨hs,λ_ _=>rfl,λ_ c _ h=>⟨c,h,rfl⟩⟩
 refine⟨hI.qf,OL,iH,hI.len,?_,λid B b o sz O h2 h3 h4=>⟨(hI.live id B b o sz O h2 h3 h4).1,bt3 id B b o sz O h2 h3 h4⟩,hI.uniq,?_,hI.qU,hI.oP,hI.Ci,hI.syms,λid B b o sz O h2 h3=>⟨(hI.maps id B b o sz O h2 h3).1,(hI.maps id B b o sz O h2 h3).2.1,bz7 id B b o sz O h2 h3⟩,hI.ua,hI.gV⟩
 .intro id B b o sz O h2 h3 h4;obtain⟨c,et,e1,e2,e3,e4⟩:=hI.oq id B b o sz O h2 h3 h4;exact⟨c,et,e1,e2,e3,λi j e p v q1 q2 q3=>(e4 i j e p v q1 q2 q3).later hL λ_ _ h=>h⟩
 .intro id B b o sz O h2 h3 h4;rcases hI.tZ id B b o sz O h2 h3 h4 with q|q
  .exact .inl<|hs b q
  .exact .inr q
def aJ(l:l_ α)(x:α)(i:Nat)(y:α)(h:(l++ [x])[i]?=some y):l[i]?=some y\/(i=l.length/\y=x):=by grind
def fg {l:l_ α}(x:α) {i:Nat} {y:α}(h:l[i]?=some y):(l++ [x])[i]?=some y:=by grind
def lJ(l:l_ α)(x:α):(l++ [x])[l.length]?=some x:=sS
def Inv.L9 {w0:fR}{m:Mp} (hI:Inv w0 Sa h S m w) (c:Array Value) (et:TypeId) (es:l_ (l_ J)) (sz:Nat) (pr:l_ Nat) (hp1:∀q∈pr,q<h.length) (hp2:∀q∈pr,∀cj3,h[q]?=some cj3->cj3.st≠0) (hz:∀e∈es,e.length=sz) (hn:es.length*sz<=c.size)
  (Y:∀(i j:Nat) e p v,es[i]?=some e->e[j]?=some p->c[i*sz+j]?=some v->cv w S m p v) (vd:sm=true->oA es):
  Inv w0 Sa (h++ [⟨es,0,pr,sz,sm,false⟩]) S (m++ [(w.heap.size,0,sz)]) (w.alloc<|.cells c et)/\yx w S m (w.alloc<|.cells c et) S (m++ [(w.heap.size,0,sz)]):=by
 have hL:=mi.alloc w S hI.lt (.cells c et);have hG:yx w S m (w.alloc<|.cells c et) S (m++ [(w.heap.size,0,sz)]):=λp v hp=>hp.later hL λi x hx=>fg _ hx;have hlen:=hI.len;have jE:∀ {id:Nat} {B:dW} {x:Nat×Nat×Nat},h[id]?=some B->(m++ [(w.heap.size,0,sz)])[id]?=some x->m[id]?=some x:=by
  intro id B x O h2;have:id<m.length:=by rw[hlen];exact(bm.1 O).1
  rw[dy this]at h2;exact h2
 have sA:∀ {x:Nat×Nat×Nat},(m++ [(w.heap.size,0,sz)])[h.length]?=some x->x=(w.heap.size,0,sz):=by intro x h2;rw[<-hlen,lJ]at h2;exact(ku h2).symm
 refine⟨⟨hI.qf.alloc _,hI.sub,λb hb=>by have:=hI.lt b hb;simp;omega,by simp [hlen],?_,?_,?_,?_,?_,?_,?_,?_,?_,?_,?_⟩,hG⟩
 .intro id B b o nO O h2 h3 N;rcases aJ _ _ _ _ O with O|⟨rfl,rfl⟩
  .obtain⟨c',et',e1,e2,e3,e4⟩:=hI.oq id B b o nO O h2 (jE O h3) N;exact⟨c',et',by rw[gw<|lt_of_block e1];exact e1,e2,e3,λi j e p v q1 q2 q3=>hG _ _ (e4 i j e p v q1 q2 q3)⟩
  .cases sA h3;exact⟨c,et,dJ _ _,by simpa using hn,hz,λi j e p v q1 q2 q3=>hG _ _ (Y i j e p v q1 q2<|by simpa using q3)⟩
 .intro id B b o nO O h2 h3 N;rcases aJ _ _ _ _ O with O|⟨rfl,rfl⟩
  .exact hI.live id B b o nO O h2 (jE O h3) N
  .cases sA h3;exact⟨.inl hI.qf.size,λhS=>absurd (hI.lt _ hS) (nI _)⟩
 .intro id jd B B' b o Zi o' Gf O h2 h3 h4 h5 h6 N qD;have ltm:∀ {id:Nat} {B:dW} {b o z:Nat},h[id]?=some B->B.st=0->m[id]?=some (b,o,z)->Rl B.es z->b<w.heap.size:=by intro id B b o z q1 q2 q3 q4;obtain⟨c',et',e1,_⟩:=hI.oq id B b o z q1 U q3 q4;exact lt_of_block e1
  rcases aJ _ _ _ _ O with O|⟨rfl,rfl⟩<;>rcases aJ _ _ _ _ h4 with h4|⟨rfl,rfl⟩
  .exact hI.uniq id jd B B' b o Zi o' Gf O h2 (jE O h3) h4 h5 (jE h4 h6) N qD
  .cases sA h6;have:=ltm O h2 (jE O h3) N;omega
  .cases sA h3;have:=ltm h4 h5 (jE h4 h6) qD;omega
  .rfl
 .intro id B b o nO O h2 h3 N;rcases aJ _ _ _ _ O with O|⟨rfl,rfl⟩
  .rcases hI.tZ id B b o nO O h2 (jE O h3) N with hS|⟨jd,B',o',z',q1,q2,q3,q4⟩
   .exact .inl hS
   .exact .inr ⟨jd,B',o',z',fg _ q1,q2,fg _ q3,q4⟩
  .cases h2
 .intro id q B Bq O h2 h3;rcases aJ _ _ _ _ O with O|⟨rfl,rfl⟩
  .rcases aJ _ _ _ _ h3 with h3|⟨rfl,rfl⟩
   .exact hI.qU id q B Bq O h2 h3
   .exact absurd (hI.oP id _ B O h2)<|nI _
  .rcases aJ _ _ _ _ h3 with h3|⟨rfl,rfl⟩
   .exact hp2 q h2 Bq h3
   .exact absurd (hp1 _ h2)<|nI _
 .intro id q B O h2;rcases aJ _ _ _ _ O with O|⟨rfl,rfl⟩
  .have:=hI.oP id q B O h2;simp;omega
  .have:=hp1 q h2;simp;omega
 .intro id B b o nO O h3 N;rcases aJ _ _ _ _ O with O|⟨rfl,rfl⟩
  .exact hI.Ci id B b o nO O (jE O h3) N
  .cases sA h3;rfl
 .intro id B O h2;rcases aJ _ _ _ _ O with O|⟨rfl,rfl⟩
  .exact hI.syms id B O h2
  .exact vd h2
 .intro id B b o nO O h2 h3;rcases aJ _ _ _ _ O with O|⟨rfl,rfl⟩
  .have:=hI.maps id B b o nO O h2<|jE O h3;exact⟨this.1,this.2.1.same<|gw this.2.1.lt,this.2.2⟩
  .cases h2
 .intro id jd B B' b o Zi o' Gf O h2 h3 h4 h5 h6;rcases aJ _ _ _ _ O with O|⟨rfl,rfl⟩
  .rcases aJ _ _ _ _ h4 with h4|⟨rfl,rfl⟩
   .exact hI.ua id jd B B' b o Zi o' Gf O h2 (jE O h3) h4 h5<|jE h4 h6
   .cases h5
  .cases h2
 .intro i x hx;obtain⟨O,B,h2,h3⟩:=hI.gV i x hx;exact⟨fg _ O,B,fg _ h2,h3⟩
def Inv.bz8 {w0:fR}{m:Mp}(hI:Inv w0 Sa h S m w)(sz:Nat)(pr:l_ Nat)(hp1:∀q∈pr,q<h.length)(hp2:∀q∈pr,∀cj3,h[q]?=some cj3->cj3.st≠0):
  Inv w0 Sa (h++ [⟨[],0,pr,sz,sm,false⟩]) S (m++ [(0,0,0)]) w/\yx w S m w S (m++ [(0,0,0)]):=by
 have hG:yx w S m w S (m++ [(0,0,0)]):=λp v hp=>hp.later (mi.refl w S) λi x hx=>fg _ hx;have hlen:=hI.len;have jE:∀ {id:Nat} {B:dW} {x:Nat×Nat×Nat},h[id]?=some B->(m++ [(0,0,0)])[id]?=some x->m[id]?=some x:=by
  intro id B x O h2;have:id<m.length:=by rw[hlen];exact(bm.1 O).1
  rw[dy this]at h2;exact h2
 have sA:∀ {b o z:Nat} {Q:Prop},(m++ [(0,0,0)])[h.length]?=some (b,o,z)->Rl ([]:l_ (l_ J)) z->Q:=by
  intro b o z Q h2 N;rw[<-hlen,lJ]at h2;cases h2;rcases N with h|h
  .exact absurd rfl h
  .omega
 refine⟨⟨hI.qf,hI.sub,hI.lt,by simp [hlen],?_,?_,?_,?_,?_,?_,?_,?_,?_,?_,?_⟩,hG⟩
 .intro id B b o nO O h2 h3 N;rcases aJ _ _ _ _ O with O|⟨rfl,rfl⟩
  .obtain⟨c',et',e1,e2,e3,e4⟩:=hI.oq id B b o nO O h2 (jE O h3) N;exact⟨c',et',e1,e2,e3,λi j e p v q1 q2 q3=>hG _ _ (e4 i j e p v q1 q2 q3)⟩
  .exact sA h3 N
 .intro id B b o nO O h2 h3 N;rcases aJ _ _ _ _ O with O|⟨rfl,rfl⟩
  .exact hI.live id B b o nO O h2 (jE O h3) N
  .exact sA h3 N
 .intro id jd B B' b o Zi o' Gf O h2 h3 h4 h5 h6 N qD;rcases aJ _ _ _ _ O with O|⟨rfl,rfl⟩<;>rcases aJ _ _ _ _ h4 with h4|⟨rfl,rfl⟩
  .exact hI.uniq id jd B B' b o Zi o' Gf O h2 (jE O h3) h4 h5 (jE h4 h6) N qD
  .exact sA h6 qD
  .exact sA h3 N
  .rfl
 .intro id B b o nO O h2 h3 N;rcases aJ _ _ _ _ O with O|⟨rfl,rfl⟩
  .rcases hI.tZ id B b o nO O h2 (jE O h3) N with hS|⟨jd,B',o',z',q1,q2,q3,q4⟩
   .exact .inl hS
   .exact .inr ⟨jd,B',o',z',fg _ q1,q2,fg _ q3,q4⟩
  .cases h2
 .intro id q B Bq O h2 h3;rcases aJ _ _ _ _ O with O|⟨rfl,rfl⟩
  .rcases aJ _ _ _ _ h3 with h3|⟨rfl,rfl⟩
   .exact hI.qU id q B Bq O h2 h3
   .exact absurd (hI.oP id _ B O h2)<|nI _
  .rcases aJ _ _ _ _ h3 with h3|⟨rfl,rfl⟩
   .exact hp2 q h2 Bq h3
   .exact absurd (hp1 _ h2)<|nI _
 .intro id q B O h2;rcases aJ _ _ _ _ O with O|⟨rfl,rfl⟩
  .have:=hI.oP id q B O h2;simp;omega
  .have:=hp1 q h2;simp;omega
 .intro id B b o nO O h3 N;rcases aJ _ _ _ _ O with O|⟨rfl,rfl⟩
  .exact hI.Ci id B b o nO O (jE O h3) N
  .exact sA h3 N
 .intro id B O h2;rcases aJ _ _ _ _ O with O|⟨rfl,rfl⟩
  .exact hI.syms id B O h2
  .intro e F;cases F
 .intro id B b o nO O h2 h3;rcases aJ _ _ _ _ O with O|⟨rfl,rfl⟩
  .have:=hI.maps id B b o nO O h2<|jE O h3;exact⟨this.1,this.2.1.same rfl,this.2.2⟩
  .cases h2
 .intro id jd B B' b o Zi o' Gf O h2 h3 h4 h5 h6;rcases aJ _ _ _ _ O with O|⟨rfl,rfl⟩
  .rcases aJ _ _ _ _ h4 with h4|⟨rfl,rfl⟩
   .exact hI.ua id jd B B' b o Zi o' Gf O h2 (jE O h3) h4 h5<|jE h4 h6
   .cases h5
  .cases h2
 .intro i x hx;obtain⟨O,B,h2,h3⟩:=hI.gV i x hx;exact⟨fg _ O,B,fg _ h2,h3⟩
theorem Inv.alloc {w0:fR}{m:Mp} (hI:Inv w0 Sa h S m w) (c:Array Value) (et:TypeId) (es:l_ (l_ J)) (sz:Nat) (hz:∀e∈es,e.length=sz) (hn:es.length*sz<=c.size)
  (Y:∀(i j:Nat) e p v,es[i]?=some e->e[j]?=some p->c[i*sz+j]?=some v->cv w S m p v) (vd:sm=true->oA es):
  Inv w0 Sa (h++ [⟨es,0,[],sz,sm,false⟩]) S (m++ [(w.heap.size,0,sz)]) (w.alloc<|.cells c et)/\yx w S m (w.alloc<|.cells c et) S (m++ [(w.heap.size,0,sz)]):=
 hI.L9 c et es sz [] (λ_ h=>by cases h) (λ_ h=>by cases h) hz hn Y vd
end
section
variable {h:Hp}{l:l_ Nat}{i off:Nat}{B:dW}
def kS(h:Hp)(l:l_ Nat)(i:Nat):(kill h l)[i]?=(h[i]?).map λB=>if l.contains i then {B with st:=2}else B:=by unfold kill;rw[b9,List.getElem?_zipIdx];cases h[i]?<;>simp
def jL(h:Hp)(l:l_ Nat):(kill h l).length=h.length:=by simp [kill]
def iI(hk:(kill h l)[i]?=some B):∃B0,h[i]?=some B0/\B.sz=B0.sz/\B.par=B0.par/\((i∈l/\B.st=2)\/(i∉l/\B=B0)):=by
 rw[kS]at hk;cases h0:h[i]? with
 |none=>rw[h0]at hk;cases hk
 |some B0=>
  rw[h0]at hk;simp only[jz,mo]at hk;by_cases hl:i∈l
  .rw[if_pos<|by simpa using hl]at hk;subst hk;exact⟨B0,rfl,rfl,rfl,.inl ⟨hl,rfl⟩⟩
  .rw[if_neg<|by simpa using hl]at hk;subst hk;exact⟨B0,rfl,rfl,rfl,.inr ⟨hl,rfl⟩⟩
def AN(hk:(kill h l)[i]?=some B):∃B0,h[i]?=some B0/\B.es=B0.es:=by
 rw[kS]at hk;cases h0:h[i]? with
 |none=>rw[h0]at hk;cases hk
 |some B0=>
  rw[h0]at hk;simp only[jz,mo]at hk;subst hk;refine⟨B0,rfl,?_⟩;split<;>rfl
def Gg{B0:dW}(hk:(kill h l)[i]?=some B)(h0:h[i]?=some B0):B.sym=B0.sym:=by rw[kS,h0]at hk;simp only[jz,mo]at hk;subst hk;split<;>rfl
def Gh(l:l_ Nat)(h0:h[i]?=some B):∃B',(kill h l)[i]?=some B'/\B'.gV=B.gV:=by rw[kS,h0];refine⟨_,rfl,?_⟩;split<;>rfl
def xM {id:Nat} {C X:dW}(hB:h[id]?=some B)(hC:C.gV=B.gV)(h0:h[i]?=some X):∃X',(h.set id C)[i]?=some X'/\X'.gV=X.gV:=by
 rw[cD];by_cases hi:id=i
 .subst hi;rw[hB]at h0;cases h0;have:id<h.length:=(bm.1 hB).1;exact⟨C,by simp [this],hC⟩
 .rw[if_neg hi];exact⟨X,h0,rfl⟩
def tx {e cs:l_ J}(h:off+cs.length<=e.length):(splice e off cs).length=e.length:=by simp [splice];omega
def oQ {α:Type}(e cs:l_ α)(off j:Nat)(h:off+cs.length<=e.length):
  (e.take off++cs++e.drop (off+cs.length))[j]?=if j<off then e[j]? else if j<off+cs.length then cs[j-off]? else e[j]?:=by
 have O:(e.take off).length=off:=by simp;omega
 by_cases hj:j<off
 .rw[if_pos hj,lG,dy U,lH hj]
 .rw[if_neg hj];by_cases hk:j<off+cs.length
  .rw[if_pos hk,dy (by simp;omega),gj U,O]
  .rw[if_neg hk,gj (by simp;omega),iO];congr 1;simp;omega
def Zj {sz i' j n:Nat}(nP:i'≠i)(hj:j<sz)(hn:off+n<=sz)(O:i*sz+off<=i'*sz+j)(h2:i'*sz+j<i*sz+off+n):False:=by
 rcases Nat.lt_or_gt_of_ne nP with h|h
 .have:=il sz (show i'+1<=i by omega);rw[ed]at this;omega
 .have:=il sz (show i+1<=i' by omega);rw[ed]at this;omega
def Inv.store {w0:fR} {w:World} {Sa S:Nat->Prop}{m:Mp} (hI:Inv w0 Sa h S m w) {id i off b o sz:Nat} {B:dW} {e cs:l_ J} {vs:l_ Value} {c:Array Value} {et:TypeId}
  (hB:h[id]?=some B) (cy:B.st=0) (hm:m[id]?=some (b,o,sz)) (F:B.es[i]?=some e) (nQ:off+cs.length<=e.length) (hvs:vs.length=cs.length)
  (lK:∀(j:Nat) p v,cs[j]?=some p->vs[j]?=some v->cv w S m p v) (hb:w.heap[b]?=some (.cells c et (0,0))) (SA:(!B.sym||cs.all fO)=true):
  let w':=w.setRow b (c.toList.take (o+i*sz+off)++vs++c.toList.drop (o+i*sz+off+vs.length)).toArray
  o+i*sz+off+vs.length<=c.size/\Inv w0 Sa (kill (h.set id {B with es:=B.es.set i (splice e off cs)}) B.par) S m w'/\yx w S m w' S m:=by
 intro w';have ub:Rl B.es sz:=by grind
 obtain⟨c1,SB,e1,e2,e3,e4⟩:=hI.oq id B b o sz hB U hm ub;rw[hb]at e1;cases e1;have oR:=(bm.1 F).1;have hez:=e3 e<|cw F;have SC:i*sz+sz<=B.es.length*sz:=by have:=il sz (show i+1<=B.es.length by omega);rw[ed]at this;omega
 have kZ:o+i*sz+off+vs.length<=c.size:=U;have bS8:c.toList.length=c.size:=sS;have hc':∀x,(c.toList.take (o+i*sz+off)++vs++c.toList.drop (o+i*sz+off+vs.length)).toArray[x]?=
   if x<o+i*sz+off then c[x]? else if x<o+i*sz+off+vs.length then vs[x-(o+i*sz+off)]? else c[x]?:=by
  intro x;rw[sL,oQ _ _ _ _ U];simp
 have zd:w'.heap[b]?=some (.cells _ et (0,0)):=setRow_heap w b c _ et (0,0) hb;have jD:∀k,k≠b->w'.heap[k]?=w.heap[k]?:=λk hk=>setRow_other w b k _ hk;have at3:∀ {z:Nat},Rl (B.es.set i<|splice e off cs) z->Rl B.es z:=by grind
 obtain⟨R5,SD⟩:=hI.live id B b o sz hB cy hm ub;have ch1:id∉B.par:=λhp=>hI.qU id id B B hB hp hB cy;have hL:mi w S w' S:=by
  refine⟨λ_ h=>h,λk hk=>jD k (λF=>SD (F▸hk)),λk ck etk hk=> ?_⟩;by_cases I8:k=b
  .subst I8;rw[hb]at hk;cases hk;exact⟨_,zd,by simp;omega⟩
  .exact⟨ck,(jD k I8).trans hk,rfl⟩
 have hG:yx w S m w' S m:=λp v hp=>hp.later hL λ_ _ h=>h;have jW:∀ {q:Nat} {X:dW},(h.set id {B with es:=B.es.set i (splice e off cs)})[q]?=some X->(q=id/\X= {B with es:=B.es.set i (splice e off cs)})\/(q≠id/\h[q]?=some X):=by
  intro q X hq;rw[cD]at hq;by_cases qV:id=q
  .subst qV;have:id<h.length:=(bm.1 hB).1;simp [this]at hq;exact .inl ⟨rfl,hq.symm⟩
  .rw[if_neg qV]at hq;exact .inr ⟨λe=>qV e.symm,hq⟩
 have hnk:∀ {q:Nat} {X:dW},(kill (h.set id {B with es:=B.es.set i (splice e off cs)}) B.par)[q]?=some X->X.st<=1->q∉B.par/\((q=id/\X= {B with es:=B.es.set i (splice e off cs)})\/(q≠id/\h[q]?=some X)):=by
  intro q X hq hx;obtain⟨X0,h0,_,_,hd|⟨hd,rfl⟩⟩:=iI hq
  .omega
  .exact⟨hd,jW h0⟩
 have bz9:∀ {q:Nat} {X:dW},(kill (h.set id {B with es:=B.es.set i (splice e off cs)}) B.par)[q]?=some X->X.st=3->q≠id/\h[q]?=some X:=by
  intro q X hq hx;obtain⟨X0,h0,_,_,hd|⟨hd,rfl⟩⟩:=iI hq
  .omega
  .rcases jW h0 with⟨rfl,rfl⟩|O
   .change B.st=3 at hx;omega
   .exact O
 refine⟨kZ,⟨hI.qf.setRow R5 hb (by simp;omega),hI.sub,λk hk=>by have:=hI.lt k hk;show k<(w.setRow _ _).heap.size;simpa using this,by rw[jL];simpa using hI.len,?_,?_,?_,?_,?_,?_,?_,?_,?_,?_,?_⟩,hG⟩
 .intro q X b' o' z' hq hx fL N;obtain⟨hqp,hqq⟩:=hnk hq hx;rcases hqq with⟨rfl,rfl⟩|⟨qV,hq0⟩
  .rw[hm]at fL;cases fL;refine⟨_,et,zd,by simp;omega,?_,?_⟩
   .intro e' he';rcases EO he' with O|rfl
    .exact e3 _ O
    .rw[tx nQ];exact hez
   .intro i' j e' p v O h2 h3;rw[hc']at h3;simp only[cD]at O;by_cases hii:i=i'
    .subst hii;simp [oR]at O;subst O;rw[splice,oQ _ _ _ _ nQ]at h2;by_cases hj1:j<off
     .rw[if_pos hj1]at h2;rw[if_pos U]at h3;exact hG _ _<|e4 i j e p v F h2 h3
     .rw[if_neg hj1]at h2;rw[if_neg U]at h3;by_cases hj2:j<off+cs.length
      .rw[if_pos hj2]at h2;rw[if_pos U,show o+i*sz+j-(o+i*sz+off)=j-off by omega]at h3;exact hG _ _<|lK (j-off) p v h2 h3
      .rw[if_neg hj2]at h2;rw[if_neg U]at h3;exact hG _ _<|e4 i j e p v F h2 h3
    .rw[if_neg hii]at O;have hjz:j<sz:=by have:=(bm.1 h2).1;rw[e3 e'<|cw O]at this;exact this
     have h3':c[o+i'*sz+j]?=some v:=by
      by_cases ha:o+i'*sz+j<o+i*sz+off
      .rw[if_pos ha]at h3;exact h3
      .rw[if_neg ha]at h3;by_cases hb2:o+i'*sz+j<o+i*sz+off+vs.length
       .exact(Zj (off:=off) (n:=vs.length) (λe=>hii e.symm) hjz U U U).elim
       .rw[if_neg hb2]at h3;exact h3
     exact hG _ _<|e4 i' j e' p v O h2 h3'
  .have Ai:b'≠b:=by
    intro Ai;subst Ai;by_cases hx0:X.st=0
    .exact qV<|hI.uniq q id X B b' o' z' o sz hq0 hx0 fL hB cy hm N ub
    .rcases hI.tZ q X b' o' z' hq0 U fL N with hS|⟨jd,B',o2,z2,q1,q2,q3,qr,q4⟩
     .exact SD hS
     .have:=hI.uniq jd id B' B b' o2 z2 o sz q1 q2 q3 hB cy hm qr ub;subst this;rw[hB]at q1;cases q1;exact hqp q4.1
   obtain⟨c2,et2,f1,f2,f3,f4⟩:=hI.oq q X b' o' z' hq0 hx fL N;exact⟨c2,et2,(jD b' Ai).trans f1,f2,f3,λi' j e' p v q1 q2 q3=>hG _ _ (f4 i' j e' p v q1 q2 q3)⟩
 .intro q X b' o' z' hq hx fL N;rcases(hnk hq U).2 with⟨rfl,rfl⟩|⟨_,hq0⟩
  .exact hI.live q B b' o' z' hB cy fL<|at3 N
  .exact hI.live q X b' o' z' hq0 hx fL N
 .intro q q' X X' b' o1 z1 o2 z2 hq hx fL uc xN kz N qD;have lv:∀ {q:Nat} {X:dW} {z:Nat},(kill (h.set id {B with es:=B.es.set i (splice e off cs)}) B.par)[q]?=some X->X.st=0->Rl X.es z->∃cj3,h[q]?=some cj3/\cj3.st=0/\Rl cj3.es z:=by
   intro q X z hq hx N;rcases(hnk hq U).2 with⟨rfl,rfl⟩|⟨_,hq0⟩
   .exact⟨B,hB,cy,at3 N⟩
   .exact⟨X,hq0,hx,N⟩
  obtain⟨cj3,y1,y2,y3⟩:=lv hq hx N;obtain⟨Y',Gi,I0,y3'⟩:=lv uc xN qD;exact hI.uniq q q' cj3 Y' b' o1 z1 o2 z2 y1 y2 fL Gi I0 kz y3 y3'
 .intro q X b' o' z' hq hx fL N;obtain⟨hqp,hqq⟩:=hnk hq U;rcases hqq with⟨rfl,rfl⟩|⟨qV,hq0⟩
  .change B.st=1 at hx;omega
  .rcases hI.tZ q X b' o' z' hq0 hx fL N with hS|⟨jd,B',o2,z2,q1,q2,q3,qr,q4⟩
   .exact .inl hS
   .by_cases hid:jd=id
    .subst hid;rw[hB]at q1;cases q1;exact absurd q4.1 hqp
    .refine .inr ⟨jd,B',o2,z2,?_,q2,q3,qr,q4⟩;rw[kS,cD,if_neg λe=>hid e.symm,q1];have:jd∉B.par:=λhp=>hI.qU id jd B B' hB hp q1 q2;simp [this]
 .intro q r X Xr hq N SE;obtain⟨X0,h0,_,hp,hd⟩:=iI hq;obtain⟨R0,r0,_,_,hdr⟩:=iI SE;have hX:∃cj3,h[q]?=some cj3/\cj3.par=X.par:=by
   rcases jW h0 with⟨rfl,rfl⟩|⟨_,O⟩
   .exact⟨B,hB,hp.symm⟩
   .exact⟨X0,O,hp.symm⟩
  obtain⟨cj3,y1,y2⟩:=hX;rcases hdr with⟨_,h2⟩|⟨_,rfl⟩
  .omega
  .rcases jW r0 with⟨rfl,rfl⟩|⟨_,O⟩
   .exact hI.qU q r cj3 B y1 (y2▸N) hB
   .exact hI.qU q r cj3 Xr y1 (y2▸N) O
 .intro q r X hq N;obtain⟨X0,h0,_,hp,_⟩:=iI hq;rw[jL,nJ];rcases jW h0 with⟨rfl,rfl⟩|⟨_,O⟩
  .exact hI.oP q r B hB<|hp▸N
  .exact hI.oP q r X0 O<|hp▸N
 .intro q X b' o' z' hq fL N;have kC:=AN hq;obtain⟨X0,h0,hs,_,_⟩:=iI hq;obtain⟨X1,O,kC⟩:=kC;rw[h0]at O;cases O;rw[kC]at N;rw[hs];rcases jW h0 with⟨rfl,rfl⟩|⟨_,O⟩
  .exact hI.Ci q B b' o' z' hB fL<|at3 N
  .exact hI.Ci q X0 b' o' z' O fL N
 .intro q X hq hx;obtain⟨X0,h0,kC⟩:=AN hq;have vd:=Gg hq h0;rw[kC];rcases jW h0 with⟨rfl,rfl⟩|⟨_,O⟩
  .have hBs:B.sym=true:=by rw[<-vd];exact hx
   have Aj:cs.all fO=true:=by rw[hBs]at SA;simpa using SA
   have hold:=hI.syms q B hB hBs;intro e' he';rcases EO he' with O|rfl
   .exact hold _ O
   .have he1:=hold e (cw F);rw[cU]at he1 Aj⊢;intro x hx;unfold splice at hx;rcases kx.1 hx with hx|hx
    .rcases kx.1 hx with hx|hx
     .exact he1 x<|rE hx
     .exact Aj x hx
    .exact he1 x<|uW hx
  .exact hI.syms q X0 O (by rw[<-vd];exact hx)
 .intro q X b' o' z' hq hx fL;obtain⟨hn,h0⟩:=bz9 hq hx;have hM:=hI.maps q X b' o' z' h0 hx fL;exact⟨hM.1,hM.2.1.same<|jD b'<|hM.2.1.ne hb,hM.2.2⟩
 .intro q q' X X' b' o1 z1 o2 z2 hq hx fL uc xN kz;exact hI.ua q q' X X' b' o1 z1 o2 z2 (bz9 hq hx).2 hx fL (bz9 uc xN).2 xN kz
 .intro i' x hx;obtain⟨O,X,h2,h3⟩:=hI.gV i' x hx;obtain⟨X',h4,h5⟩:=xM (C:= {B with es:=B.es.set i (splice e off cs)}) hB rfl h2;obtain⟨X2,h6,h7⟩:=Gh B.par h4;exact⟨O,X2,h6,by rw[h7,h5,h3]⟩
end
structure Ok(P:Program)(f:FuncId)(args:l_ J)(r:J):Prop where
 ent:enters P f=true
 run:∀(w:World) (Sa:Nat->Prop) (vs:l_ Value),GI P w->(∀b,Sa b->b<w.heap.size)->vs.length=args.length->(∀(i:Nat) p v,args[i]?=some p->vs[i]?=some v->cf w Sa p v)->
  Calls P f vs.toArray w λe w'=>∃v,e= .returned v/\Below w.heap.size w w'/\cf w' (λb=>Sa b\/(w.heap.size<=b/\b<w'.heap.size)) r v
structure kD(P:Program)(f:FuncId)(args:l_ J)(h:Hp)(r:J)(h':Hp):Prop where
 ent:enters P f=true
 run:∀(w0:fR) (S:Nat->Prop) (vs:l_ Value),GI P w0.g->Inv w0 S h S w0.gV w0.w->(∀b,w0.D b-> ¬S b)->vs.length=args.length->(∀(i:Nat) p v,args[i]?=some p->vs[i]?=some v->cv w0.w S w0.gV p v)->
  Calls P f vs.toArray w0.w λe w'=>∃v S' m',e= .returned v/\Inv w0 S h' S' m' w'/\(∀b,S b->S' b)/\cv w' S' m' r v
def SF(w:World)(S:Nat->Prop)(m:Mp)(T:l_ J)(a:Act):Prop:=T.length=a.tmps.size/\∀(t:Nat) p,T[t]?=some p->cv w S m p (a.tmps.getD t Go.undef)
def St(w0:fR)(Sa:Nat->Prop)(T:l_ J)(h:Hp)(a:Act)(w:World):Prop:=∃S m,Inv w0 Sa h S m w/\SF w S m T a/\a.defers=[]
def tz(P:Program)(id:Nat)(ops:Array Oper)(dr:Bool)(T:l_ J)(h:Hp)(T':l_ J)(h':Hp):Prop:=
 ∀(w0:fR) (Sa:Nat->Prop) (a:Act) (w:World) (Q:Exit->Act->World->Prop),GI P w0.g->St w0 Sa T h a w->(∀a' w',St w0 Sa T' h' a' w'->Q .normal a' w')->(Code.region id ops dr).wp P Q a w
structure an(P:Program)(E:Env):Prop where
 p:∀g ci6 r ob,E.p g ci6=some (r,ob)->(∀X∈ob,X)->Ok P g ci6 r
 m:∀g ci6 h r h' ob,E.m g ci6 h=some (r,h',ob)->(∀X∈ob,X)->kD P g ci6 h r h'
 r:∀id ops dr T h T' h' ob,E.r id ops dr T h=some (T',h',ob)->(∀X∈ob,X)->tz P id ops dr T h T' h'
def mv(w0:fR)(Sa:Nat->Prop)(h':Hp)(S:Nat->Prop)(m:Mp)(w:World)(v:J)(v':Value)(w':World):Prop:=
 ∃S' m',Inv w0 Sa h' S' m' w'/\yx w S m w' S' m'/\cv w' S' m' v v'
def yx.refl(w:World)(S:Nat->Prop)(m:Mp):yx w S m w S m:=λ_ _ h=>h
def Cs {w:World} {S:Nat->Prop} {m:Mp} {p:J} {v u:Value}(h:cv w S m p v)(Y:F6 p=some u):v=u:=by
 cases p<;>simp [F6]at Y
 .subst Y;cases h with
  |st _ _ h=>cases h;rfl
 .subst Y;cases h with
  |st _ _ h=>cases h;rfl
theorem Gj:∀ {cs:l_ J} {us:l_ Value},tv cs=some us->cs.length=us.length/\∀(i:Nat) c u,cs[i]?=some c->us[i]?=some u->F6 c=some u
 | [],us,h=>by simp [tv]at h;subst h;simp
 |c::cs,us,h=>by
  simp only[tv]at h;cases Y:F6 c with
  |none=>rw[Y]at h;cases h
  |some v=>
   rw[Y]at h;cases Aj:tv cs with
   |none=>rw[Aj]at h;cases h
   |some vs=>
    rw[Aj]at h;cases h;obtain⟨O,h2⟩:=Gj Aj;refine⟨by simp [O],λi d u hd hu=> ?_⟩;cases i with
    |zero=>simp at hd hu;subst hd;subst hu;exact Y
    |succ i=>simp at hd hu;exact h2 i d u hd hu
def V9 {w:World} {S:Nat->Prop} {m:Mp} {p:J} {v u:Value}(h:cv w S m p v)(Y:toV p=some u):v=u:=by
 cases p with
 |agg cs=>
  simp only[toV]at Y;cases Aj:tv cs with
  |none=>rw[Aj]at Y;cases Y
  |some us=>
   rw[Aj]at Y;cases Y;obtain⟨O,h2⟩:=Gj Aj;have key:∀vs:Array Value,cs.length=vs.size->(∀(i:Nat) c v,cs[i]?=some c->vs[i]?=some v->cv w S m c v)->vs=⟨us⟩:=by
    intro vs hl hcc;apply Array.ext';apply k6;intro i;by_cases hi:i<vs.size
    .have hi':i<cs.length:=U;have Wa:i<us.length:=U;have a1:vs.toList[i]?=some vs[i]:=sS;have a2:us[i]?=some us[i]:=sS;rw[a1,a2];have:=Cs (hcc i cs[i] vs[i] (by simp [hi'])<|by simp [hi])<|h2 i cs[i] us[i] (by simp [hi']) a2;rw[this]
    .rw[gx (by simp;omega),gx (by show us.length<=i;omega)]
   cases h with
   |st _ _ h=>cases h with
    |agg _ vs hl hcc=>rw[key vs hl λi c v q1 q2=> .st _ _ (hcc i c v q1 q2)]
   |agg _ vs hl hcc=>rw[key vs hl hcc]
 |sc _=>exact Cs h Y
 |bit _=>exact Cs h Y
 |_=>simp [toV,F6]at Y
def sU(w:World)(S:Nat->Prop)(v:Value):cf w S (cellOf v) v:=by
 unfold cellOf;split
 .exact .bit _
 .exact .dF _
 .exact .sc _
def OM(w:World)(S:Nat->Prop)(v:Value):cf w S (ofV v) v:=by
 unfold ofV;split
 .refine .agg _ _ sS λi c v O h2=> ?_;rename_i cs;simp only[b9]at O;have h3:cs.toList[i]?=some v:=by grind
  rw[h3]at O;simp at O;subst O;exact sU w S v
 .exact sU w S _
def Gk(w:World)(S:Nat->Prop)(v:Value):cf w S (VY v) v:=by
 unfold VY;split
 .exact .dF _
 .exact .sc _
def at4(w:World)(S:Nat->Prop)(v:Value):cf w S (ofR v) v:=by
 unfold ofR;split
 .refine .agg _ _ sS λi c v O h2=> ?_;rename_i cs;simp only[b9]at O;have h3:cs.toList[i]?=some v:=by grind
  rw[h3]at O;simp at O;subst O;exact Gk w S v
 .exact Gk w S _
theorem sV {α:Type} {P:Program}:∀ {s:Sem α} {x:α},qT P s=some x->∀w,s.run P w= .ok x w
 | .pure a,x,h,w=>by simp [qT]at h;subst h;rfl
 | .program k,x,h,w=>by
  simp only[qT]at h;show(k P).run P w=_;exact sV h w
 | .mark _ k,x,h,w=>by
  simp only[qT]at h;show k.run P w=_;exact sV h w
 | .load ..,_,h,_| .store ..,_,h,_| .new ..,_,h,_| .shape ..,_,h,_| .freeze ..,_,h,_| .frozen ..,_,h,_| .getObj ..,_,h,_| .setObj ..,_,h,_
 | .choose ..,_,h,_| .sys ..,_,h,_| .halt ..,_,h,_=>by simp [qT]at h
section
variable {P:Program} {w0:fR} {w:World} {Sa S:Nat->Prop} {h h':Hp} {m:Mp} {a:Act} {o:Oper} {T:l_ J} {s s':l8} {ob:l_ Prop} {v:J} {next:Act->World->Prop} {Q:Exit->Act->World->Prop}
def bQ {v':Value}(eM:(execOp a.eval o).run P w= .ok (.value v') w)(hn:next (a.put o.dst v') w):o.wp P a w next Q:=by unfold Oper.wp;rw[eM];exact hn
def gC {v':Value} {w':World}(eM:(execOp a.eval o).run P w= .ok (.value v') w')(hn:next (a.put o.dst v') w'):o.wp P a w next Q:=by unfold Oper.wp;rw[eM];exact hn
def bG(hI:Inv w0 Sa h S m w) {v':Value}(N:cv w S m v v'):mv w0 Sa h S m w v v' w:=⟨S,m,hI,yx.refl _ _ _,N⟩
def pF (hI:Inv w0 Sa h S m w) (hT:∀x∈o.op.operands,∀p,dU T x=some p->cv w S m p (a.eval x)) (F:ql P T h o s=some (v,h',ob,s'))
  (hn:∀v' w',mv w0 Sa h' S m w v v' w'->next (a.put o.dst v') w'):o.wp P a w next Q:=by
 have at5:∀cs b,o.op≠ .select cs b:=by intro cs b aX;simp [ql,aX]at F
 unfold ql at F;split at F
 .cases F
 .split at F
  .rename_i jM;split at F
   .rename_i v1 hp;cases F;have bA0:execOp a.eval o=execOp (λx=>((dU T x).bind toV).getD Go.undef) o:=by
     refine execOp_congr o at5 λx hx=> ?_;have hx1:=cU.1 jM x (by simpa using hx);cases aX:dU T x with
     |none=>rw[aX]at hx1;cases hx1
     |some p=>
      rw[aX]at hx1;simp only[Aq]at hx1⊢;cases ht:toV p with
      |none=>rw[ht]at hx1;cases hx1
      |some u=>simp only[xv];exact V9 (hT x hx p aX) ht
    have eM:=sV hp w;rw[<-bA0]at eM;exact bQ eM<|hn v1 w<|bG hI<|.st _ _<|at4 w S v1
   .cases F
  .cases F
end
section
variable {t:TypeId}{b off id:Nat}{cs:l_ J}{u:Value}{p:J}
section
variable {P:Program} {w0:fR} {w:World} {Sa S:Nat->Prop} {h h':Hp} {m:Mp} {a:Act} {o:Oper} {T:l_ J} {s s':l8} {ob:l_ Prop} {v:J} {next:Act->World->Prop} {Q:Exit->Act->World->Prop}
def bU {d:TypeDesc}(hu:P.underlying t=some d):(underlying t).run P w= .ok d w:=by simp [underlying,hu]
def dO {n:Nat}(hs:Ch P t=some n):(Go.sizeOf t).run P w= .ok n w:=by
 unfold Ch at hs;cases hi:P.info? t with
 |none=>rw[hi]at hs;cases hs
 |some i=>rw[hi]at hs;simp at hs;simp [Go.sizeOf,typeInfo,hi,hs]
def px {b:Bool}(hs:Cn P t=some b):(isAgg t).run P w= .ok b w:=by
 unfold Cn at hs;cases hu:P.underlying t with
 |none=>rw[hu]at hs;cases hs
 |some d=>rw[hu]at hs;simp at hs;cases d<;>simp at hs<;>simp [isAgg,bU hu,hs]
def jq(b x n:Nat):(⟨b,x,none⟩:Addr).add n=⟨b,x+n,none⟩:=by
 unfold Addr.add;split
 .rename_i h0;subst h0;rfl
 .rfl
def Ma(w:World)(S:Nat->Prop)(m:Mp)(b o:Nat)(cs:l_ J):Prop:=
 ∃c et fz,w.heap[b]?=some (.cells c et fz)/\o+cs.length<=c.size/\∀(j:Nat) p v,cs[j]?=some p->c[o+j]?=some v->cv w S m p v
def cell_of {x:Nat} {c:Array Value} {et:TypeId} {fz:Nat×Nat}(hb:w.heap[b]?=some (.cells c et fz)):w.cell? ⟨b,x,none⟩=c[x]?:=by simp [World.cell?,hb]
def ve {o:Nat}{q:J}(hC:Ma w S m b o cs)(hp:pC P t cs off=some q):
  ∃v',(loadVar t ⟨b,o+off,none⟩).run P w= .ok v' w/\cv w S m q v':=by
 obtain⟨c,et,fz,hb,hn,Y⟩:=hC;unfold pC at hp;split at hp
 .rename_i I9;split at hp
  .rename_i n hz;split at hp
   .rename_i nQ;cases hp;refine⟨.agg ((c.toList.drop<|o+off).take n).toArray,?_,?_⟩
    .have hlen:((c.toList.drop<|o+off).take n).length=n:=by simp;omega
     have:=run_loadCells_list (P:=P) w ⟨b,o+off,none⟩ ((c.toList.drop (o+off)).take n) (λj v hv=>by
      rw[jq,cell_of hb];have hj:j<n:=by have:=(bm.1 hv).1;omega
      rw[lH hj,iO]at hv;simpa using hv)
     rw[hlen]at this;simp [loadVar,px I9,dO hz,this]
    .refine .agg _ _ (by simp;omega) λi p v O h2=> ?_;have hi:i<n:=by have:=(bm.1 O).1;simp at this;omega
     rw[lH hi,iO]at O;rw[sL,lH hi,iO]at h2;exact Y (off+i) p v O (by rw[<-Si];simpa using h2)
   .cases hp
  .cases hp
 .rename_i I9;have iH:=(bm.1 hp).1;have hx:o+off<c.size:=U;refine⟨c[o+off],?_,Y off q c[o+off] hp<|by simp [hx]⟩;have wx:w.cell? ⟨b,o+off,none⟩=some c[o+off]:=by rw[cell_of hb];simp [hx]
  simp [loadVar,px I9,wx]
 .cases hp
def vg(hI:Inv w0 Sa h S m w) {id i b o' sz:Nat} {B:dW} {e:l_ J}(hB:h[id]?=some B)(cy:B.st<=1)(hm:m[id]?=some (b,o',sz))(F:B.es[i]?=some e):
  Ma w S m b (o'+i*sz) e:=by
 obtain⟨c,et,e1,e2,e3,e4⟩:=hI.oq id B b o' sz hB cy hm<|.inl (λh0=>by rw[h0]at F;cases F);have oR:=(bm.1 F).1;have hez:=e3 e<|cw F;have SC:i*sz+sz<=B.es.length*sz:=by have:=il sz (show i+1<=B.es.length by omega);rw[ed]at this;omega
 exact⟨c,et,(0,0),e1,U,λj p v O h2=>e4 i j e p v F O h2⟩
def nR {i:Nat}(N:cv w S m (.ptr id i off) u):∃b o' sz,m[id]?=some (b,o',sz)/\u= .pointer (some ⟨b,o'+i*sz+off,none⟩):=by
 cases N with
 |st _ _ h=>cases h
 |ptr _ _ _ b o sz hm=>exact⟨b,o,sz,hm,rfl⟩
def vh(N:cv w S m (.kj cs off) u):∃b o',u= .pointer (some ⟨b,o'+off,none⟩)/\Ma w S m b o' cs/\
  ∃c et fz,S b/\w.heap[b]?=some (.cells c et fz)/\o'+cs.length<=c.size/\∀(j:Nat) p v,cs[j]?=some p->c[o'+j]?=some v->cf w S p v:=by
 cases N with
 |st _ _ h=>cases h with
  |kj _ _ b o c et fz hS hb hn Y=>exact⟨b,o,rfl,⟨c,et,fz,hb,hn,λj p v q1 q2=> .st _ _ (Y j p v q1 q2)⟩,c,et,fz,hS,hb,hn,Y⟩
def ze(N:cv w S m (.mp id) u):∃b o' sz,m[id]?=some (b,o',sz)/\u= .map (some b):=by
 cases N with
 |st _ _ h=>cases h
 |mp _ b o sz hm=>exact⟨b,o,sz,hm,rfl⟩
def AO {t:Nat}(N:cv w S m (.Dx t p) u):∃v,u= .iface t v/\cv w S m p v:=by
 cases N with
 |st _ _ h=>cases h with
  |Dx _ _ v h=>exact⟨v,rfl,.st _ _ h⟩
 |Dx _ _ v h=>exact⟨v,rfl,h⟩
def rR (hI:Inv w0 Sa h S m w) {t:TypeId} {x:Operand} {p q:J} (aX:o.op= .load t x) (N:cv w S m p (a.eval x)) (hl:rO P h t p=some q)
  (hn:∀v' w',mv w0 Sa h S m w q v' w'->next (a.put o.dst v') w'):o.wp P a w next Q:=by
 unfold rO at hl;split at hl
 .rename_i id i off;split at hl
  .rename_i B hB;split at hl
   .rename_i cy;split at hl
    .rename_i e F;obtain⟨b,o',sz,hm,hu⟩:=nR N;obtain⟨v',eM,lK⟩:=ve (vg hI hB cy hm F) hl;refine bQ (v':=v') ?_<|hn v' w<|bG hI lK;simp [execOp,aX,Instr.loadAt,Instr.sureAddr,hu,eM]
    .cases hl
   .cases hl
  .cases hl
 .obtain⟨b,o',hu,hC,_⟩:=vh N;obtain⟨v',eM,lK⟩:=ve hC hl;refine bQ (v':=v') ?_<|hn v' w<|bG hI lK;simp [execOp,aX,Instr.loadAt,Instr.sureAddr,hu,eM]
 .cases hl
def Gl {es:l_ (l_ J)}(h:cf w S (.ro es) u):u.oneCell'=true:=by cases h<;>rfl
def Fv {g:Nat}(N:cv w S m (.qS g cs) u):∃vs,u= .func (.func g) #[] vs/\cs.length=vs.size/\∀(i:Nat) c v,cs[i]?=some c->vs[i]?=some v->cv w S m c v:=by
 cases N with
 |st _ _ h=>cases h with
  |qS _ _ vs hl Y=>exact⟨vs,rfl,hl,λi c v q1 q2=> .st _ _ (Y i c v q1 q2)⟩
 |qS _ _ vs hl Y=>exact⟨vs,rfl,hl,Y⟩
def Ct(N:cv w S m p u)(Y:rN p=some cs):u.cells.size=cs.length/\∀(i:Nat) q x,cs[i]?=some q->u.cells[i]?=some x->cv w S m q x:=by
 have one:∀ {p:J} {u:Value},cv w S m p u->u.oneCell'=true->u.cells.size=[p].length/\∀(i:Nat) q x,[p][i]?=some q->u.cells[i]?=some x->cv w S m q x:=by
  intro p u N O;have e:u.cells= #[u]:=by cases u<;>simp_all[Value.cells,Value.oneCell']
  rw[e];refine⟨rfl,λi q x q1 q2=> ?_⟩;cases i with
  |zero=>simp at q1 q2;subst q1;subst q2;exact N
  |succ i=>simp at q1
 cases p with
 |agg ds=>
  simp [rN]at Y;subst Y;cases N with
  |st _ _ h=>cases h with
   |agg _ vs hl hcc=>exact⟨hl.symm,λi q x q1 q2=> .st _ _ (hcc i q x q1 q2)⟩
  |agg _ vs hl hcc=>exact⟨hl.symm,hcc⟩
 |bg ds=>simp [rN]at Y
 |sc y=>
  simp only[rN]at Y;split at Y
  .rename_i O;cases Y;have:u=y:=by cases N with|st _ _ h=>cases h;rfl
   subst this;exact one N O
  .cases Y
 |bit b=>
  cases Y;exact one N (by cases N with|st _ _ h=>cases h;rfl)
 |dF=>
  cases Y;exact one N (by cases N with|st _ _ h=>cases h;rfl)
 |ro es=>
  cases Y;exact one N (by cases N with|st _ _ h=>cases h<;>rfl)
 |rf n f=>
  cases Y;exact one N (by cases N with|st _ _ h=>cases h with|rf _ _ _ h=>exact Gl h)
 |any=>simp [rN]at Y
 |mux=>simp [rN]at Y
 |qS g ds=>
  cases Y;exact one N (by obtain⟨_,rfl,_⟩:=Fv N;rfl)
 |own id off len=>
  cases Y;exact one N (by cases N with|st _ _ h=>cases h|own=>rfl|vZ=>rfl)
 |bf id len=>
  cases Y;exact one N (by cases N with|st _ _ h=>cases h|bf _ _ _ h=>cases h with|st _ _ h=>cases h|own=>rfl|vZ=>rfl)
 |ptr id i off=>
  cases Y;exact one N (by obtain⟨_,_,_,_,rfl⟩:=nR N;rfl)
 |kj ds off=>
  cases Y;exact one N (by obtain⟨_,_,rfl,_⟩:=vh N;rfl)
 |mp id=>
  cases Y;exact one N (by obtain⟨_,_,_,_,rfl⟩:=ze N;rfl)
 |Dx t q=>
  cases Y;exact one N (by obtain⟨_,rfl,_⟩:=AO N;rfl)
def DE(N:cv w S m p u)(Y:F7 p=true):u.oneCell'=true:=by
 cases p with
 |agg ds=>cases Y
 |bg ds=>cases Y
 |qS g ds=>cases Y
 |sc y=>
  have:u=y:=by cases N with|st _ _ h=>cases h;rfl
  subst this;exact Y
 |bit b=>cases N with|st _ _ h=>cases h;rfl
 |dF=>cases N with|st _ _ h=>cases h;rfl
 |ro es=>cases N with|st _ _ h=>cases h<;>rfl
 |rf n f=>cases N with|st _ _ h=>cases h with|rf _ _ _ h=>exact Gl h
 |any=>cases Y
 |mux=>cases Y
 |own id off len=>cases N with|st _ _ h=>cases h|own=>rfl|vZ=>rfl
 |bf id len=>cases N with|st _ _ h=>cases h|bf _ _ _ h=>cases h with|st _ _ h=>cases h|own=>rfl|vZ=>rfl
 |ptr id i off=>obtain⟨_,_,_,_,rfl⟩:=nR N;rfl
 |kj ds off=>obtain⟨_,_,rfl,_⟩:=vh N;rfl
 |mp id=>obtain⟨_,_,_,_,rfl⟩:=ze N;rfl
 |Dx t q=>obtain⟨_,rfl,_⟩:=AO N;rfl
def DF (hI:Inv w0 Sa h S m w) {t:TypeId} {x y:Operand} {p q:J} (aX:o.op= .store t x y) (N:cv w S m p (a.eval x)) (hq:cv w S m q (a.eval y)) (hs:Co P h t p q=some h')
  (hn:∀v' w',mv w0 Sa h' S m w (.sc Go.undef) v' w'->next (a.put o.dst v') w'):o.wp P a w next Q:=by
 unfold Co at hs;split at hs
 .rename_i id i off cs n Aj hz;split at hs
  .rename_i B hB;split at hs
   .rename_i e F;split at hs
    .rename_i iJ;obtain⟨cy,hlen,nQ,jM,SA⟩:=iJ;cases hs;obtain⟨b,o',sz,hm,hu⟩:=nR N;obtain⟨c,et,e1,e2,e3,e4⟩:=hI.oq id B b o' sz hB U hm (.inl (λh0=>by rw[h0]at F;cases F));obtain⟨kZ,lK⟩:=Ct hq Aj;have SG:(a.eval y).cells.toList.length=cs.length:=U;have bt4:∀(j:Nat) p v,cs[j]?=some p->(a.eval y).cells.toList[j]?=some v->cv w S m p v:=by grind
     obtain⟨lu,mV,hG⟩:=hI.store (off:=off) hB cy hm F U SG bt4 e1 SA;have Ja:∀v∈(a.eval y).cells.toList,v.oneCell'=true:=by
      intro v hv;obtain⟨j,hj⟩:=mY hv;have Cj:j<cs.length:=by have:=(bm.1 hj).1;omega
      have JV:cs[j]?=some cs[j]:=sS;exact DE (bt4 j cs[j] v JV hj)<|cU.1 jM _<|cw JV
     have eM:=run_storeCells_at (P:=P) b (o'+i*sz+off) et (a.eval y).cells.toList 0 c w e1 U Ja;simp only[rG]at eM;refine(show o.wp P a w next Q from ?_);unfold Oper.wp;have hx:(execOp a.eval o).run P w= .ok .skip (w.setRow b (c.toList.take (o'+i*sz+off)++(a.eval y).cells.toList++c.toList.drop (o'+i*sz+off+(a.eval y).cells.toList.length)).toArray):=by have Jb:(a.eval y).cells.size=n:=U;simp [execOp,aX,Instr.storeAt,Instr.sureAddr,hu,storeVar,dO hz,Jb,eM]
     rw[hx];exact hn _ _ ⟨S,m,mV,hG,.st _ _<|.sc _⟩
    .cases hs
   .cases hs
  .cases hs
 .cases hs
def JW (hI:Inv w0 Sa h S m w) {cs:l_ J} {u:Value} {t:TypeId} (eM:(execOp a.eval o).run P w= .ok (.value<|.pointer<|some ⟨w.heap.size,0,none⟩) (w.alloc<|.cells u.cells t))
  (kZ:u.cells.size=cs.length) (lK:∀(i:Nat) q x,cs[i]?=some q->u.cells[i]?=some x->cv w S m q x)
  (hn:∀v' w',mv w0 Sa (Sk h cs).2 S m w (Sk h cs).1 v' w'->next (a.put o.dst v') w'):o.wp P a w next Q:=by
 obtain⟨mV,hG⟩:=hI.alloc u.cells t [cs] cs.length sS (by simp;omega) (λi j e p v q1 q2 q3=>by
  cases i with
  |zero=>simp at q1 q3;subst q1;exact lK j p v q2 q3
  |succ i=>simp at q1) (sm:=false) (λh=>by cases h)
 refine gC eM<|hn _ _ ⟨S,_,mV,hG,?_⟩;have:=cv.ptr (w:=w.alloc (.cells u.cells t)) (S:=S) (m:=m++ [(w.heap.size,0,cs.length)]) h.length 0 0 w.heap.size 0 cs.length (by rw[<-hI.len];simp);simpa [Sk]using this
end
end
section
variable {u:Value}{n id len:Nat}
section
variable {P:Program} {w0:fR} {w:World} {Sa S:Nat->Prop} {h h':Hp} {m:Mp} {a:Act} {o:Oper} {T:l_ J} {s s':l8} {ob:l_ Prop} {v:J} {next:Act->World->Prop} {Q:Exit->Act->World->Prop}
def jr {x:Value}(N:cv w S m (.sc x) u):u=x:=by
 cases N with
 |st _ _ h=>cases h;rfl
def Jc (hI:Inv w0 Sa h S m w) {t:TypeId} {x:Operand} {f id i off n:Nat} {fs:Array Field} {fd:Field} (aX:o.op= .fieldAddr t x f) (hu:P.underlying t=some (.struct fs)) (hf:fs[f]?=some fd)
  (hz:Ch P fd.type=some (n+1)) (N:cv w S m (.ptr id i off) (a.eval x)) (hn:∀v' w',mv w0 Sa h S m w (.ptr id i<|off+fd.offset) v' w'->next (a.put o.dst v') w'):o.wp P a w next Q:=by
 obtain⟨b,o',sz,hm,F⟩:=nR N;refine bQ (v':= .pointer (some ⟨b,o'+i*sz+(off+fd.offset),none⟩)) ?_<|hn _ _<|bG hI<|.ptr _ _ _ b o' sz hm;simp [execOp,aX,Instr.fieldAt,bU hu,hf,Instr.sureAddr,F,fieldPlace,dO hz,jq,Nat.add_assoc]
def Jd (hI:Inv w0 Sa h S m w) {t:TypeId} {x:Operand} {f off n:Nat} {cs:l_ J} {fs:Array Field} {fd:Field} (aX:o.op= .fieldAddr t x f) (hu:P.underlying t=some (.struct fs)) (hf:fs[f]?=some fd)
  (hz:Ch P fd.type=some (n+1)) (N:cv w S m (.kj cs off) (a.eval x)) (hn:∀v' w',mv w0 Sa h S m w (.kj cs<|off+fd.offset) v' w'->next (a.put o.dst v') w'):o.wp P a w next Q:=by
 obtain⟨b,o',F,_,c,et,fz,hS,hb,hl,Y⟩:=vh N;refine bQ (v':= .pointer (some ⟨b,o'+(off+fd.offset),none⟩)) ?_<|hn _ _<|bG hI<|.kj _ _ b o' c et fz hS hb hl Y;simp [execOp,aX,Instr.fieldAt,bU hu,hf,Instr.sureAddr,F,fieldPlace,dO hz,jq,Nat.add_assoc]
def wy {es:l_ (l_ J)}(N:cv w S m (.ro es) u):(es=[]/\∃ad cap,u= .slice ad 0 cap)\/
  ∃b o' cap sz c et fz,u= .slice (some ⟨b,o',none⟩) es.length cap/\S b/\w.heap[b]?=some (.cells c et fz)/\(∀e∈es,e.length=sz)/\o'+es.length*sz<=c.size/\es.length<=cap/\
   ∀(i j:Nat) e p v,es[i]?=some e->e[j]?=some p->c[o'+i*sz+j]?=some v->cf w S p v:=by
 cases N with
 |st _ _ h=>cases h with
  |Fu ad cap=>exact .inl ⟨rfl,ad,cap,rfl⟩
  |ro _ b o' cap sz c et fz hS hb hz hn iq Y=>exact .inr ⟨b,o',cap,sz,c,et,fz,rfl,hS,hb,hz,hn,iq,Y⟩
def Mb {f:Nat->l_ J}(N:cv w S m (.rf n f) u):cv w S m (.ro<|(List.range n).map f) u:=by
 cases N with
 |st _ _ h=>cases h with
  |rf _ _ _ h=>exact .st _ _ h
def lx {off:Nat}(N:cv w S m (.own id off len) u):(len=0/\∃ad,u= .slice ad 0 0)\/
  ∃b o' sz cap c et,u= .slice (some ⟨b,o'+off*sz,none⟩) len cap/\m[id]?=some (b,o',sz)/\0<sz/\w.heap[b]?=some (.cells c et (0,0))/\len<=cap/\o'+(off+cap)*sz<=c.size:=by
 cases N with
 |st _ _ h=>cases h
 |own _ _ _ cap b o' sz c et hm hz hb iq hn=>exact .inr ⟨b,o',sz,cap,c,et,rfl,hm,hz,hb,iq,hn⟩
 |vZ _ _ ad=>exact .inl ⟨rfl,ad,rfl⟩
def qW(N:cv w S m (.bf id len) u):cv w S m (.own id 0 len) u:=by
 cases N with
 |st _ _ h=>cases h
 |bf _ _ _ h=>exact h
def Cu {p:J}(N:cv w S m p u):cv w S m (mg p) u:=by
 unfold mg;split
 .exact qW N
 .exact N
def vi(N:cv w S m .dF u):∃ad,u= .slice ad 0 0:=by
 cases N with
 |st _ _ h=>cases h with
  |dF ad=>exact⟨ad,rfl⟩
def kE {t:TypeId} {z:Nat}(hz:qm P t=some z):∃e,P.underlying t=some (.slice e)/\Ch P e=some z:=by
 unfold qm at hz;split at hz
 .rename_i e hu;exact⟨e,hu,hz⟩
 .cases hz
def wz {i sz:Nat}(hi:i<n):i*sz+sz<=n*sz:=by have:=il sz (show i+1<=n by omega);rw[ed]at this;omega
def Es (hI:Inv w0 Sa h S m w) {t:TypeId} {x y:Operand} {p q:J} {k:IntKind} {n:Int} (aX:o.op= .indexAddr t x y) (hy:a.eval y= .int k n) (N:cv w S m p (a.eval x))
  (hq:JT P h t n p=some (q,ob)) (cJ:∀X∈ob,X) (hn:∀v' w',mv w0 Sa h S m w q v' w'->next (a.put o.dst v') w'):o.wp P a w next Q:=by
 unfold JT at hq;split at hq
 .rename_i es;split at hq
  .rename_i z hz;cases hq;have O:0<=n:=cJ _ sS;have h2:n<es.length:=cJ _ sS;have h3:JS z es:=rQ (cJ _ sS);obtain⟨e,hu,I1⟩:=kE hz;obtain⟨k',rfl⟩:=k7 O;have hk:k'<es.length:=U;rcases wy N with⟨rfl,_⟩|⟨b,o',cap,sz,c,et,fz,F,hS,hb,Ot,hl,iq,Y⟩
   .simp at hk
   .have kZ:sz=z:=by rw[<-Ot es[k'] (rF hk),(h3 es[k']<|rF hk).1]
    subst kZ;have zf:es[k']?=some es[k']:=sS;refine bQ (v':= .pointer (some ⟨b,o'+k'*sz,none⟩)) ?_<|hn _ _<|bG hI ?_
    .simp [execOp,aX,Instr.indexAt,hy,asIntOf,bU hu,F,dO I1,hk,jq]
    .have hg:es.getD (k':Int).toNat []=es[k']:=by grind
     rw[hg];have nQ:o'+k'*sz+es[k'].length<=c.size:=by rw[Ot es[k']<|rF hk];have:=wz (sz:=sz) hk;omega
     exact cv.kj (m:=m) es[k'] 0 b (o'+k'*sz) c et fz hS hb nQ λj p v q1 q2=>Y k' j es[k'] p v zf q1 q2
  .cases hq
 .rename_i n' f;split at hq
  .rename_i z hz;split at hq
   .rename_i hfz;cases hq;have O:0<=n:=cJ _ sS;have h2:n<n':=cJ _ sS;obtain⟨e,hu,I1⟩:=kE hz;obtain⟨k',rfl⟩:=k7 O;have hk:k'<n':=U;rcases wy (Mb N)with⟨oS,_⟩|⟨b,o',cap,sz,c,et,fz,F,hS,hb,Ot,hl,iq,Y⟩
    .have:=ba List.length oS;simp at this;omega
    .have zf:((List.range n').map f)[k']?=some (f k'):=by grind
     simp only[dL]at hfz;have kZ:sz=z:=by grind
     subst kZ;simp only[gS,uX]at F hl iq;refine bQ (v':= .pointer (some ⟨b,o'+k'*sz,none⟩)) ?_<|hn _ _<|bG hI ?_
     .simp [execOp,aX,Instr.indexAt,hy,asIntOf,bU hu,F,dO I1,hk,jq]
     .have nQ:o'+k'*sz+(f k').length<=c.size:=by rw[hfz];have:=wz (sz:=sz) hk;omega
      simp only[dL];exact cv.kj (m:=m) (f k') 0 b (o'+k'*sz) c et fz hS hb nQ λj p v q1 q2=>Y k' j (f k') p v zf q1 q2
   .cases hq
  .cases hq
 .rename_i id off len;split at hq
  .rename_i z B hz hB;split at hq
   .rename_i hBz;cases hq;have O:0<=n:=cJ _ sS;have h2:n<len:=cJ _ sS;obtain⟨e,hu,I1⟩:=kE hz;obtain⟨k',rfl⟩:=k7 O;have hk:k'<len:=U;rcases lx N with⟨rfl,_⟩|⟨b,o',sz,cap,c,et,F,hm,mE,hb,iq,hl⟩
    .simp at hk
    .have kZ:=hI.Ci id B b o' sz hB hm<|.inr mE;have Ot:z=sz:=U;subst Ot;refine bQ (v':= .pointer (some ⟨b,o'+(off+k')*z+0,none⟩)) ?_<|hn _ _<|bG hI<|.ptr _ _ _ b o' z hm;simp [execOp,aX,Instr.indexAt,hy,asIntOf,bU hu,F,dO I1,hk,jq,Nat.add_mul,Nat.add_assoc]
   .cases hq
  .cases hq
 .rename_i id k2 off;split at hq
  .rename_i n2 e hu;split at hq
   .rename_i z I1;cases hq;have O:0<=n:=cJ _ sS;have h2:n<n2:=cJ _ sS;obtain⟨k',rfl⟩:=k7 O;have hk:k'<n2:=U;obtain⟨b,o',sz,hm,F⟩:=nR N;refine bQ (v':= .pointer (some ⟨b,o'+k2*sz+(off+k'*z),none⟩)) ?_<|hn _ _<|bG hI<|.ptr _ _ _ b o' sz hm;simp [execOp,aX,Instr.indexAt,hy,asIntOf,bU hu,F,Instr.sureAddr,dO I1,hk,jq,Nat.add_assoc]
   .cases hq
  .cases hq
 .rename_i cs off;split at hq
  .rename_i n2 e hu;split at hq
   .rename_i z I1;cases hq;have O:0<=n:=cJ _ sS;have h2:n<n2:=cJ _ sS;obtain⟨k',rfl⟩:=k7 O;have hk:k'<n2:=U;obtain⟨b,o',F,_,c,et,fz,hS,hb,hl,Y⟩:=vh N;refine bQ (v':= .pointer (some ⟨b,o'+(off+k'*z),none⟩)) ?_<|hn _ _<|bG hI<|.kj _ _ b o' c et fz hS hb hl Y;simp [execOp,aX,Instr.indexAt,hy,asIntOf,bU hu,F,Instr.sureAddr,dO I1,hk,jq,Nat.add_assoc]
   .cases hq
  .cases hq
 .rename_i u0;unfold bt0 at hq;split at hq
  .rename_i g;split at hq
   .rename_i n2 e hu;split at hq
    .rename_i I1 hg;cases hq;have O:0<=n:=cJ _ sS;have h2:n<n2:=cJ _ sS;obtain⟨k',rfl⟩:=k7 O;have hk:k'<n2:=U;have F:=jr N;refine bQ (v':= .pointer (some ⟨g,k',none⟩)) ?_<|hn _ _<|bG hI<|.st _ _ (by rw[dL];exact .sc _);simp [execOp,aX,Instr.indexAt,hy,asIntOf,bU hu,F,Instr.sureAddr,dO I1,hk,jq]
    .cases hq
   .cases hq
  .cases hq
 .cases hq
def lL {T:l_ J} {isS:Bool} {cap:Nat} {lo hi:Option Operand} {l r:Int} (JX:∀x∈lo,∀p,dU T x=some p->cv w S m p (a.eval x)) (Zk:∀x∈hi,∀p,dU T x=some p->cv w S m p (a.eval x))
  (e1:lI T 0 lo=some l) (e2:lI T len hi=some r) (h0:0<=l) (O:l<=r) (h2:r<=len) (h3:len<=cap):
  (Instr.sliceBounds isS len cap (lo.map a.eval) (hi.map a.eval) none).run P w= .ok (l.toNat,r.toNat,cap) w:=by
 have key:∀ {x:Operand} {d:Nat} {n:Int},(∀p,dU T x=some p->cv w S m p (a.eval x))->lI T d (some x)=some n->∃k,a.eval x= .int k n:=by
  intro x d n hx hb;simp only[lI]at hb;split at hb
  .rename_i k n' hp;cases hb;exact⟨k,jr<|hx _ hp⟩
  .cases hb
 have hb:∀ {k:IntKind} {n:Int} {y:Nat} {code:BoundsCode},0<=n->n<=y->(Instr.sliceBound (.int k n) y code).run P w= .ok n.toNat w:=by intro k n y code q1 q2;simp [Instr.sliceBound,asIntOf,q1,q2]
 unfold Instr.sliceBounds;cases hi with
 |none=>
  simp [lI]at e2;cases lo with
  |none=>simp [lI]at e1;subst e1;subst e2;simp
  |some x=>
   obtain⟨k,hx⟩:=key (λp=>JX x sS p) e1;subst e2;simp [hx,hb h0 (show l<=(len:Int) by omega)]
 |some y=>
  obtain⟨k,hy⟩:=key (λp=>Zk y sS p) e2;have Zl:0<=r:=U;cases lo with
  |none=>
   simp [lI]at e1;subst e1;simp [hy,hb Zl (show r<=(cap:Int) by omega)]
  |some x=>
   obtain⟨k',hx⟩:=key (λp=>JX x sS p) e1;simp [hy,hb Zl (show r<=(cap:Int) by omega),hx,hb h0 (show l<=(r.toNat:Int) by omega)]
def ON (hI:Inv w0 Sa h S m w) {t:TypeId} {x:Operand} {lo hi mx:Option Operand} {p q:J} (aX:o.op= .slice t x lo hi mx) (N:cv w S m p (a.eval x))
  (JX:∀x∈lo,∀p,dU T x=some p->cv w S m p (a.eval x)) (Zk:∀x∈hi,∀p,dU T x=some p->cv w S m p (a.eval x))
  (hq:Cp P T h t p lo hi mx=some (q,ob)) (cJ:∀X∈ob,X) (hn:∀v' w',mv w0 Sa h S m w q v' w'->next (a.put o.dst v') w'):o.wp P a w next Q:=by
 unfold Cp at hq;split at hq
 .rename_i b;split at hq
  .rename_i l r hu e1 e2;cases hq;have h0:0<=l:=cJ _ sS;have O:l<=r:=cJ _ sS;have h2:r<=b.size:=cJ _ sS;have hx:=jr N;have hb:=lL (P:=P) (isS:=false) (cap:=b.size) JX Zk e1 e2 h0 O h2<|bE _;refine bQ (v':= .string (b.extract l.toNat r.toNat)) ?_<|hn _ _<|bG hI<|.st _ _<|.sc _;simp [execOp,aX,Instr.sliceAt,Instr.slice,bU hu,hx,hb]
  .cases hq
 .split at hq
  .rename_i z l r hz e1 e2;cases hq;have h0:l=0:=cJ _ sS;have O:r=0:=cJ _ sS;subst h0;subst O;obtain⟨e,hu,I1⟩:=kE hz;obtain⟨ad,hx⟩:∃ad,a.eval x= .slice ad 0 0:=vi N;have hb:=lL (P:=P) (isS:=true) (len:=0) (cap:=0) JX Zk e1 e2 U U U<|bE _;refine bQ (v':= .slice ad 0 0) ?_<|hn _ _<|bG hI<|.st _ _<|.dF _;simp [execOp,aX,Instr.sliceAt,Instr.slice,bU hu,hx,hb,dO I1]
  .cases hq
 .rename_i es;split at hq
  .rename_i z l r hz e1 e2;cases hq;have h0:0<=l:=cJ _ sS;have O:l<=r:=cJ _ sS;have h2:r<=es.length:=cJ _ sS;have h3:JS z es:=rQ (cJ _ sS);obtain⟨e,hu,I1⟩:=kE hz;obtain⟨l',rfl⟩:=k7 h0;obtain⟨r',rfl⟩:=k7 (show 0<=r by omega);rcases wy N with⟨rfl,ad,cap,hx⟩|⟨b,o',cap,sz,c,et,fz,hx,hS,hb,Ot,hl,iq,Y⟩
   .have hb:=lL (P:=P) (isS:=true) (len:=0) (cap:=cap) JX Zk e1 e2 h0 O h2 (bJ _);have Zl:r'=0:=by grind
    have Wb:l'=0:=U;subst Zl;subst Wb;refine bQ (v':= .slice (if cap=0 then ad else ad.map (·.add 0)) 0 cap) ?_<|hn _ _<|bG hI<|.st _ _ ?_
    .simp [execOp,aX,Instr.sliceAt,Instr.slice,bU hu,hx,hb,dO I1]
    .simpa using cf.Fu (w:=w) (S:=S) _ _
   .have Sy:=lL (P:=P) (isS:=true) (len:=es.length) (cap:=cap) JX Zk e1 e2 h0 O h2 iq;refine bQ (v':= .slice (if cap=l' then some ⟨b,o',none⟩else some ⟨b,o'+l'*z,none⟩) (r'-l') (cap-l')) ?_ (hn _ _<|bG hI<|.st _ _ ?_)
    .simp [execOp,aX,Instr.sliceAt,Instr.slice,bU hu,hx,Sy,dO I1,jq]
    .by_cases hlr:l'=r'
     .subst hlr;simpa using cf.Fu (w:=w) (S:=S) _ _
     .have Et:l'<r':=U;have Je:r'<=es.length:=U;have nP: ¬cap=l':=U;rw[if_neg nP];have kZ:sz=z:=by rw[<-Ot es[l'] (rF U),(h3 es[l']<|rF U).1]
      subst kZ;have hlen:((es.drop l').take<|r'-l').length=r'-l':=by simp;omega
      have hmul:(r'-l')*sz+l'*sz=r'*sz:=by rw[<-ed];congr 1;omega
      have bS9:r'*sz<=es.length*sz:=il _ Je;have:=cf.ro (w:=w) (S:=S) ((es.drop l').take<|r'-l') b (o'+l'*sz) (cap-l') sz c et fz hS hb (λe F=>Ot e (uW<|rE F))
       (by rw[hlen];omega) (by rw[hlen];omega) (λi j e p v q1 q2 q3=>by
        have hi:i<r'-l':=by have:=(bm.1 q1).1;omega
        rw[lH hi,iO]at q1;refine Y (l'+i) j e p v q1 q2 ?_;rw[<-q3];congr 1;rw[ed];omega)
      rw[hlen]at this;simpa using this
  .cases hq
 .rename_i n f;split at hq
  .rename_i z l r hz e1 e2;split at hq
   .rename_i hfz;cases hq;have h0:0<=l:=cJ _ sS;have O:l<=r:=cJ _ sS;have h2:r<=n:=cJ _ sS;obtain⟨e,hu,I1⟩:=kE hz;obtain⟨l',rfl⟩:=k7 h0;obtain⟨r',rfl⟩:=k7 (show 0<=r by omega);simp only[dL]at hfz;rcases wy (Mb N)with⟨oS,ad,cap,hx⟩|⟨b,o',cap,sz,c,et,fz,hx,hS,hb,Ot,hl,iq,Y⟩
    .have Gm:n=0:=by have:=ba List.length oS;simpa using this
     subst Gm;have hb:=lL (P:=P) (isS:=true) (len:=0) (cap:=cap) JX Zk e1 e2 h0 O h2<|bJ _;have Zl:r'=0:=U;have Wb:l'=0:=U;subst Zl;subst Wb;refine bQ (v':= .slice (if cap=0 then ad else ad.map (·.add 0)) 0 cap) ?_<|hn _ _<|bG hI<|.st _ _<|.rf _ _ _ ?_
     .simp [execOp,aX,Instr.sliceAt,Instr.slice,bU hu,hx,hb,dO I1]
     .simpa using cf.Fu (w:=w) (S:=S) _ _
    .simp only[gS,uX]at hx hl iq;have Sy:=lL (P:=P) (isS:=true) (len:=n) (cap:=cap) JX Zk e1 e2 h0 O h2 iq;refine bQ (v':= .slice (if cap=l' then some ⟨b,o',none⟩else some ⟨b,o'+l'*z,none⟩) (r'-l') (cap-l')) ?_ (hn _ _<|bG hI<|.st _ _<|.rf _ _ _ ?_)
     .simp [execOp,aX,Instr.sliceAt,Instr.slice,bU hu,hx,Sy,dO I1,jq]
     .by_cases hlr:l'=r'
      .subst hlr;simpa using cf.Fu (w:=w) (S:=S) _ _
      .have Et:l'<r':=U;have Je:r'<=n:=U;have nP: ¬cap=l':=U;rw[if_neg nP];have zf:((List.range n).map f)[l']?=some (f l'):=by have:l'<n:=U;simp [this]
       have kZ:sz=z:=by grind
       subst kZ;simp only[dL];have hlen:((List.range<|r'-l').map λi=>f (l'+i)).length=r'-l':=sS;have hmul:(r'-l')*sz+l'*sz=r'*sz:=by rw[<-ed];congr 1;omega
       have bS9:r'*sz<=n*sz:=il _ Je;have Fw:∀(i:Nat) e,((List.range<|r'-l').map λi=>f (l'+i))[i]?=some e->i<r'-l'/\((List.range n).map f)[l'+i]?=some e:=by
        intro i e hi;have oR:i<r'-l':=by have:=(bm.1 hi).1;rwa [hlen]at this
        simp [oR]at hi;subst hi;have:l'+i<n:=U;exact⟨oR,by simp [this]⟩
       have:=cf.ro (w:=w) (S:=S) ((List.range<|r'-l').map λi=>f (l'+i)) b (o'+l'*sz) (cap-l') sz c et fz hS hb (λe F=>by obtain⟨i,hi⟩:=mY F;exact Ot e (cw (Fw i e hi).2))
        (by rw[hlen];omega) (by rw[hlen];omega) (λi j e p v q1 q2 q3=>by refine Y (l'+i) j e p v (Fw i e q1).2 q2 ?_;rw[<-q3];congr 1;rw[ed];omega)
       rw[hlen]at this;simpa using this
   .cases hq
  .cases hq
 .rename_i id off len;split at hq
  .rename_i z l r hz e1 e2;split at hq
   .rename_i B hB;split at hq
    .rename_i hBz;cases hq;have h0:0<=l:=cJ _ sS;have O:l<=r:=cJ _ sS;have h2:r<=len:=cJ _ sS;obtain⟨e,hu,I1⟩:=kE hz;obtain⟨l',rfl⟩:=k7 h0;obtain⟨r',rfl⟩:=k7 (show 0<=r by omega);rcases lx N with⟨rfl,ad,hx⟩|⟨b,o',sz,cap,c,et,hx,hm,mE,hb,iq,hl⟩
     .have hb:=lL (P:=P) (isS:=true) (len:=0) (cap:=0) JX Zk e1 e2 h0 O h2 (bJ _);have Zl:r'=0:=U;have Wb:l'=0:=U;subst Zl;subst Wb;refine bQ (v':= .slice ad 0 0) ?_ (hn _ _<|bG hI ?_)
      .simp [execOp,aX,Instr.sliceAt,Instr.slice,bU hu,hx,hb,dO I1]
      .exact cv.vZ _ _ _
     .have Sy:=lL (P:=P) (isS:=true) (len:=len) (cap:=cap) JX Zk e1 e2 h0 O h2 iq;have kZ:=hI.Ci id B b o' sz hB hm (.inr mE);have Ot:z=sz:=U;subst Ot;refine bQ (v':= .slice (if cap=l' then some ⟨b,o'+off*z,none⟩else some ⟨b,o'+off*z+l'*z,none⟩) (r'-l') (cap-l')) ?_ (hn _ _<|bG hI ?_)
      .simp [execOp,aX,Instr.sliceAt,Instr.slice,bU hu,hx,Sy,dO I1,jq]
      .by_cases hlc:cap=l'
       .have e1:r'-l'=0:=U;have e2:cap-l'=0:=U;have e3:(r':Int).toNat-(l':Int).toNat=0:=U;rw[e1,e2,e3];exact cv.vZ _ _ _
       .rw[if_neg hlc];have:=cv.own (w:=w) (S:=S) (m:=m) id (off+l') (r'-l') (cap-l') b o' z c et hm mE hb U (by
         have:off+l'+(cap-l')=off+cap:=U;rw[this];exact hl)
        rw[ed,<-Si]at this;simpa using this
    .cases hq
   .cases hq
  .cases hq
 .cases hq
end
end
section
variable {cs:l_ J}{u:Value}{t:TypeId}{vs:Array Value}{off d:Nat}{f:TypeId->Value->Value->Option Bool}
section
variable {P:Program} {w0:fR} {w:World} {Sa S:Nat->Prop} {h h':Hp} {m:Mp} {a:Act} {o:Oper} {T:l_ J} {s s':l8} {ob:l_ Prop} {v:J} {next:Act->World->Prop} {Q:Exit->Act->World->Prop}
def AP(N:cv w S m (.agg cs) u):∃vs,u= .agg vs/\cs.length=vs.size/\∀(i:Nat) c v,cs[i]?=some c->vs[i]?=some v->cv w S m c v:=by
 cases N with
 |st _ _ h=>cases h with
  |agg _ vs hl Y=>exact⟨vs,rfl,hl,λi c v q1 q2=> .st _ _ (Y i c v q1 q2)⟩
 |agg _ vs hl Y=>exact⟨vs,rfl,hl,Y⟩
def Mc(N:cv w S m (.bg cs) u):∃vs,u= .tuple vs/\cs.length=vs.size/\∀(i:Nat) c v,cs[i]?=some c->vs[i]?=some v->cv w S m c v:=by
 cases N with
 |st _ _ h=>cases h with
  |bg _ vs hl Y=>exact⟨vs,rfl,hl,λi c v q1 q2=> .st _ _ (Y i c v q1 q2)⟩
 |bg _ vs hl Y=>exact⟨vs,rfl,hl,Y⟩
def py {b:Bool}(N:cv w S m (.bit b) u):u= .bool b:=by
 cases N with
 |st _ _ h=>cases h;rfl
def OO (hI:Inv w0 Sa h S m w) {t:TypeId} {x:Operand} {f:Nat} {cs:l_ J} {fs:Array Field} {fd:Field} {q:J} (aX:o.op= .field t x f) (hu:P.underlying t=some (.struct fs)) (hf:fs[f]?=some fd)
  (N:cv w S m (.agg cs) (a.eval x)) (hp:pC P fd.type cs fd.offset=some q) (hn:∀v' w',mv w0 Sa h S m w q v' w'->next (a.put o.dst v') w'):o.wp P a w next Q:=by
 obtain⟨vs,hx,hl,Y⟩:=AP N;unfold pC at hp;split at hp
 .rename_i I9;split at hp
  .rename_i n hz;split at hp
   .rename_i nQ;cases hp;refine bQ (v':= .agg (vs.extract fd.offset<|fd.offset+n)) ?_ (hn _ _<|bG hI ?_)
    .simp [execOp,aX,Instr.field,bU hu,hf,hx,asAgg,part,px I9,dO hz]
    .refine .agg _ _ (by simp;omega) λi c v q1 q2=> ?_;have hi:i<n:=by have:=(bm.1 q1).1;simp at this;omega
     rw[lH hi,iO]at q1;refine Y (fd.offset+i) c v q1 ?_;rw[Array.getElem?_extract]at q2;split at q2
     .exact q2
     .cases q2
   .cases hp
  .cases hp
 .rename_i I9;have iH:=(bm.1 hp).1;have hx2:fd.offset<vs.size:=U;refine bQ (v':=vs[fd.offset]) ?_ (hn _ _<|bG hI<|Y fd.offset q _ hp<|by simp [hx2]);simp [execOp,aX,Instr.field,bU hu,hf,hx,asAgg,part,px I9,hx2]
 .cases hp
def Jf (hI:Inv w0 Sa h S m w) {x:Operand} {i:Nat} {cs:l_ J} {q:J} (aX:o.op= .extract x i) (N:cv w S m (.bg cs) (a.eval x)) (hp:cs[i]?=some q)
  (hn:∀v' w',mv w0 Sa h S m w q v' w'->next (a.put o.dst v') w'):o.wp P a w next Q:=by
 obtain⟨vs,hx,hl,Y⟩:=Mc N;have iH:=(bm.1 hp).1;have hx2:i<vs.size:=U;refine bQ (v':=vs[i]) ?_ (hn _ _<|bG hI<|Y i q _ hp<|by simp [hx2]);simp [execOp,aX,Instr.extract,hx,hx2]
def OP (hI:Inv w0 Sa h S m w) {t:TypeId} {x y:Operand} {b:y_} {k:IntKind} {n:Int} (aX:o.op= .index t x y) (hu:P.underlying t=some .string) (hx:a.eval x= .string b) (hy:a.eval y= .int k n)
  (O:0<=n) (h2:n<b.size) (hn:∀v' w',mv w0 Sa h S m w (.sc<|.int .u8 (b.data.toList.getD n.toNat 0).toNat) v' w'->next (a.put o.dst v') w'):o.wp P a w next Q:=by
 obtain⟨k',rfl⟩:=k7 O;have hk:k'<b.size:=U;refine bQ (v':= .int .u8 (b.data.toList.getD (k':Int).toNat 0).toNat) ?_ (hn _ _<|bG hI<|.st _ _<|.sc _);have e:b.data.toList.getD (k':Int).toNat 0=b[k']:=by
  have:k'<b.data.toList.length:=by simpa using hk
  simp only[dL];rw[cc,bX this];rfl
 rw[e];have e2:b[k']?=some b[k']:=sS;simp [execOp,aX,Instr.index,hy,asIntOf,bU hu,hx,e2]
def at6{q:J}(hl:cs.length=vs.size)(Y:∀(i:Nat) c v,cs[i]?=some c->vs[i]?=some v->cv w S m c v)(hp:pC P t cs off=some q):
  ∃v,(part t vs off).run P w= .ok v w/\cv w S m q v:=by
 unfold pC at hp;split at hp
 .rename_i I9;split at hp
  .rename_i n hz;split at hp
   .rename_i nQ;cases hp;refine⟨.agg<|vs.extract off<|off+n,?_,?_⟩
    .simp [part,px I9,dO hz]
    .refine .agg _ _ (by simp;omega) λi c v q1 q2=> ?_;have hi:i<n:=by have:=(bm.1 q1).1;simp at this;omega
     rw[lH hi,iO]at q1;refine Y (off+i) c v q1 ?_;rw[Array.getElem?_extract]at q2;split at q2
     .exact q2
     .cases q2
   .cases hp
  .cases hp
 .rename_i I9;have iH:=(bm.1 hp).1;have hx2:off<vs.size:=U;exact⟨vs[off],by simp [part,px I9,hx2],Y off q _ hp (by simp [hx2])⟩
 .cases hp
def Md (hI:Inv w0 Sa h S m w) {t e:TypeId} {x y:Operand} {cs:l_ J} {k:IntKind} {n:Int} {len z:Nat} {q:J} (aX:o.op= .index t x y) (hu:P.underlying t=some (.array len e)) (N:cv w S m (.agg cs) (a.eval x)) (hy:a.eval y= .int k n)
  (hz:Ch P e=some z) (hp:pC P e cs (n.toNat*z)=some q) (O:0<=n) (h2:n<len) (hn:∀v' w',mv w0 Sa h S m w q v' w'->next (a.put o.dst v') w'):o.wp P a w next Q:=by
 obtain⟨vs,hx,hl,Y⟩:=AP N;obtain⟨v,g1,g2⟩:=at6 (P:=P) hl Y hp;refine bQ (v':=v) ?_<|hn _ _<|bG hI g2;simp [execOp,aX,Instr.index,hy,asIntOf,bU hu,hx,O,h2,dO hz,g1]
def Me (hI:Inv w0 Sa h S m w) {t t':TypeId} {x y:Operand} {b c:y_} (aX:o.op= .binOp .add t x y t') (hx:a.eval x= .string b) (hy:a.eval y= .string c) (O:b.size+c.size<=9223372036854775807)
  (hn:∀v' w',mv w0 Sa h S m w (.sc<|.string<|b++c) v' w'->next (a.put o.dst v') w'):o.wp P a w next Q:=by
 refine bQ (v':= .string (b++c)) ?_ (hn _ _<|bG hI<|.st _ _<|.sc _);have: ¬(((b.size+c.size:Nat):Int)>IntKind.i64.max):=by
  have:IntKind.i64.max=9223372036854775807:=by rfl
  rw[this];omega
 simp only[execOp,aX,hx,hy,eqGuard,binOp,Op.stringOp];rw[if_neg this];rfl
def SH(a b:y_):(a.toList==b.toList)=dN a b:=by rw[ByteArray.toList_eq,ByteArray.toList_eq];unfold dN;rw[ea];simp
def rr{v:Value}(hp:AJ P t vs off=some v):(part t vs off).run P w= .ok v w:=by
 unfold AJ at hp;split at hp
 .rename_i I9;split at hp
  .rename_i n hz;cases hp;simp [part,px I9,dO hz]
  .cases hp
 .rename_i I9;simp [part,px I9,hp]
 .cases hp
theorem Gn(hf:∀t x y b,f t x y=some b->(Op.equalIn d t x y).run P w= .ok b w) {xs ys:Array Value}:∀ {fs:l_ Field} {b:Bool},Sp P f xs ys fs=some b->(Op.eqFields d xs ys fs).run P w= .ok b w
 | [],b,h=>by simp [Sp]at h;subst h;simp [Op.eqFields]
 |g::r,b,h=>by
  simp only[Sp]at h;by_cases hg:g.name= "_"
  .rw[if_pos hg]at h;simp only[Op.eqFields,hg];simpa using Gn hf h
  .rw[if_neg hg]at h;split at h
   .rename_i x y hx hy;split at h
    .rename_i p q hp hq;cases h;have ih:=Gn hf hq;simp only[Op.eqFields,hg,ne_eq,LB,rH,Sem.run_bind,rr hx,rr hy,hf _ _ _ _ hp,Result.andThen_ok];cases p
     .simp
     .simpa using ih
    .cases h
   .cases h
theorem OQ(hf:∀t x y b,f t x y=some b->(Op.equalIn d t x y).run P w= .ok b w) {e:TypeId} {c:Nat} {xs ys:Array Value}:∀ {is:l_ Nat} {b:Bool},as7 P f e c xs ys is=some b->(Op.eqItems d e c xs ys is).run P w= .ok b w
 | [],b,h=>by simp [as7]at h;subst h;simp [Op.eqItems]
 |i::r,b,h=>by
  simp only[as7]at h;split at h
  .rename_i x y hx hy;split at h
   .rename_i p q hp hq;cases h;have ih:=OQ hf hq;simp only[Op.eqItems,Sem.run_bind,rr hx,rr hy,hf _ _ _ _ hp,Result.andThen_ok];cases p
    .simp
    .simpa using ih
   .cases h
  .cases h
theorem Fx:∀ {n:Nat} {t:TypeId} {x y:Value} {b:Bool} (d:Nat),eqV P n t x y=some b->(Op.equalIn (d+n) t x y).run P w= .ok b w
 |0,_,_,_,_,_,h=>by simp [eqV]at h
 |n+1,t,x,y,b,d,h=>by
  unfold eqV at h;split at h
  .rename_i hu;split at h
   .cases h;exact run_equalIn_bool' w _ t _ _ hu
   .cases h
  .rename_i hu;split at h
   .split at h
    .rename_i hk;cases h;subst hk;exact run_equalIn_int w _ t _ _ _ _ hu
    .cases h
   .cases h
  .rename_i hu;split at h
   .cases h;rw[<-SH];exact run_equalIn_string w _ t _ _ hu
   .cases h
  .rename_i fs hu;split at h
   .split at h
    .cases h
    .rename_i cy;have hfs:P.fieldsOf t=fs:=by simp [Program.fieldsOf,hu]
     rw[show d+(n+1)=(d+n)+1 from rfl,run_equalIn_struct w (d+n) t _ _ (by rw[hfs];exact hu) (by simpa using cy),hfs];exact Gn (λt x y b hb=>Fx d hb) h
   .cases h
  .rename_i len e hu;split at h
   .split at h
    .rename_i i hi;rw[show d+(n+1)=(d+n)+1 from rfl,run_equalIn_array w (d+n) _ _ hu hi,show P.cellsOf e=i.size by simp [Program.cellsOf,hi]];exact OQ (λt x y b hb=>Fx d hb) h
    .cases h
   .cases h
  .cases h
def at7 {us:l_ Value}(N:cv w S m (.agg cs) u)(Y:tv cs=some us):u= .agg ⟨us⟩:=
 V9 N (by simp [toV,Y])
def Zm (hI:Inv w0 Sa h S m w) {k:BinOp} {t t':TypeId} {x y:Operand} (aX:o.op= .binOp k t x y t') (hx:∀p,dU T x=some p->cv w S m p (a.eval x)) (hy:∀p,dU T y=some p->cv w S m p (a.eval y))
  (hb:bz5 P k t (dU T x) (dU T y)=some (v,ob)) (cJ:∀X∈ob,X) (hn:∀v' w',mv w0 Sa h S m w v v' w'->next (a.put o.dst v') w'):o.wp P a w next Q:=by
 have str:∀ {x:Operand} {b:y_},(∀p,dU T x=some p->cv w S m p (a.eval x))->dU T x=some (.sc<|.string b)->a.eval x= .string b:=λO h2=>jr (O _ h2);have agg:∀ {xs ys:l_ J} {b:Bool},dU T x=some (.agg xs)->dU T y=some (.agg ys)->V1 P t xs ys=some b->∃us vs,a.eval x= .agg us/\a.eval y= .agg vs/\P.eqGuardType P.depth t=false/\(Op.equalIn 10000 t (.agg us)<|.agg vs).run P w= .ok b w:=by
  intro xs ys b O h2 h3;unfold V1 at h3;split at h3
  .rename_i us vs e1 e2;split at h3
   .cases h3
   .rename_i hg;exact⟨⟨us⟩,⟨vs⟩,at7 (hx _ O) e1,at7 (hy _ h2) e2,by simpa using hg,Fx 9988 h3⟩
  .cases h3
 unfold bz5 at hb;split at hb
 .split at hb
  .rename_i b1 b2 O h2;cases hb;exact Me hI aX (str hx O) (str hy h2) (cJ _ sS) hn
  .cases hb
 .split at hb
  .rename_i b1 b2 O h2;cases hb;refine bQ (v':= .bool (dN b1 b2)) ?_<|hn _ _<|bG hI<|.st _ _<|.sc _;simp [execOp,aX,str hx O,str hy h2,eqGuard,binOp,Op.stringOp,SH]
  .rename_i xs ys O h2;split at hb
   .rename_i b Sy;cases hb;obtain⟨us,vs,e1,e2,e3,e4⟩:=agg O h2 Sy;refine bQ (v':= .bool b) ?_<|hn _ _<|bG hI<|.st _ _<|.sc _;simp [execOp,aX,e1,e2,run_eqGuard_agg,e3,run_eql_struct,e4]
   .cases hb
  .cases hb
 .split at hb
  .rename_i b1 b2 O h2;cases hb;refine bQ (v':= .bool (!dN b1 b2)) ?_<|hn _ _<|bG hI<|.st _ _<|.sc _;simp [execOp,aX,str hx O,str hy h2,eqGuard,binOp,Op.stringOp,SH]
  .rename_i xs ys O h2;split at hb
   .rename_i b Sy;cases hb;obtain⟨us,vs,e1,e2,e3,e4⟩:=agg O h2 Sy;refine bQ (v':= .bool (!b)) ?_<|hn _ _<|bG hI<|.st _ _<|.sc _;simp [execOp,aX,e1,e2,run_eqGuard_agg,e3,run_neq_struct,e4]
   .cases hb
  .cases hb
 .cases hb
def Zn (hI:Inv w0 Sa h S m w) {t e:TypeId} {x:Operand} {p:J} {n:Nat} (aX:o.op= .call ⟨.builtin .len,#[x],#[t]⟩) (hu:P.underlying t=some (.slice e)) (N:cv w S m p (a.eval x)) (hl:qk p=some n)
  (hn:∀v' w',mv w0 Sa h S m w (.sc<|.int .i64 n) v' w'->next (a.put o.dst v') w'):o.wp P a w next Q:=by
 have hx:∃ad cap,a.eval x= .slice ad n cap:=by
  unfold qk at hl;split at hl
  .cases hl;obtain⟨ad,h⟩:=vi N;exact⟨ad,0,h⟩
  .cases hl;rcases wy N with⟨rfl,ad,cap,h⟩|⟨b,o',cap,_,_,_,_,h,_⟩
   .exact⟨ad,cap,h⟩
   .exact⟨_,cap,h⟩
  .cases hl;rcases wy (Mb N)with⟨oS,ad,cap,h⟩|⟨b,o',cap,_,_,_,_,h,_⟩
   .have:n=0:=by have:=ba List.length oS;simpa using this
    subst this;exact⟨ad,cap,h⟩
   .simp only[gS,uX]at h;exact⟨_,cap,h⟩
  .cases hl;rcases lx N with⟨rfl,ad,h⟩|⟨b,o',sz,cap,_,_,h,_⟩
   .exact⟨ad,0,h⟩
   .exact⟨_,cap,h⟩
  .cases hl;rcases lx (qW N)with⟨rfl,ad,h⟩|⟨b,o',sz,cap,_,_,h,_⟩
   .exact⟨ad,0,h⟩
   .exact⟨_,cap,h⟩
  .cases hl
 obtain⟨ad,cap,hx⟩:=hx;refine bQ (v':= .int .i64 n) ?_<|hn _ _<|bG hI<|.st _ _<|.sc _;simp [execOp,aX,resolve,invoke,builtin,Builtin.len_,bU hu,hx,goInt]
def au0(l:l_ Value):∀(k off:Nat) (cells:Array Value),off+k+l.length<=cells.size->
  ((l.zipIdx k).foldl (λcs (x:Value×Nat)=>cs.setIfInBounds (off+x.2) x.1) cells).size=cells.size/\
  ∀j,((l.zipIdx k).foldl (λcs (x:Value×Nat)=>cs.setIfInBounds (off+x.2) x.1) cells)[j]?=if j<off+k then cells[j]? else if j<off+k+l.length then l[j-(off+k)]? else cells[j]?:=by
 induction l with
 |nil=>
  intro k off cells _;refine⟨rfl,λj=> ?_⟩;by_cases ha:j<off+k
  .rw[if_pos ha];rfl
  .rw[if_neg ha,if_neg<|by simpa using ha];rfl
 |cons x l ih=>
  intro k off cells nQ;simp only[List.zipIdx_cons,xw];simp only[iP]at nQ;obtain⟨O,h2⟩:=ih (k+1) off (cells.setIfInBounds (off+k) x) (by simp;omega);refine⟨by rw[O];simp,λj=> ?_⟩;rw[h2];simp only[Ar,iP];by_cases ha:j<off+k
  .rw[if_pos U,if_pos ha,if_neg U]
  .rw[if_neg ha];by_cases hb:j=off+k
   .subst hb;rw[if_pos U,if_pos rfl,if_pos U,if_pos U];simp
   .rw[if_neg U];by_cases Y:j<off+(k+1)+l.length
    .rw[if_pos Y,if_pos U];rw[show j-(off+k)=(j-(off+(k+1)))+1 by omega];simp
    .rw[if_neg Y,if_neg U,if_neg U]
def rS(w:World)(S:Nat->Prop)(m:Mp):l_ (Nat×J)->l_ (Nat×Value)->Prop
 | [],[]=>True
 |(i,p)::r,(j,u)::q=>i=j/\cv w S m p u/\rS w S m r q
 |_,_=>False
theorem vj {place:Nat->Option (Nat×Nat)}:∀ {ps:l_ (Nat×J)} {us:l_ (Nat×Value)} {ca ca':l_ J} {cr:Array Value},rS w S m ps us->wv place ca ps=some ca'->ca.length=cr.size->
  (∀(i:Nat) p x,ca[i]?=some p->cr[i]?=some x->cv w S m p x)->
  ∃cr',Instr.fill place cr us=some cr'/\ca'.length=cr'.size/\∀(i:Nat) p x,ca'[i]?=some p->cr'[i]?=some x->cv w S m p x
 | [],[],ca,ca',cr,_,hf,hl,Y=>by simp [wv]at hf;subst hf;exact⟨cr,rfl,hl,Y⟩
 | [],_::_,_,_,_,hp,_,_,_=>by simp [rS]at hp
 |_::_,[],_,_,_,hp,_,_,_=>by simp [rS]at hp
 |(i,p)::r,(j,u)::q,ca,ca',cr,hp,hf,hl,Y=>by
  obtain⟨rfl,hpu,wA⟩:=hp;simp only[wv]at hf;split at hf
  .rename_i off size cs hpl Aj;split at hf
   .rename_i iJ;obtain⟨kZ,lK⟩:=Ct hpu Aj;have I2:u.cells.toList.length=cs.length:=U;have hfg:=au0 u.cells.toList 0 off cr (by rw[I2];omega);simp only[rG]at hfg;have bt5:u.cells.zipIdx.foldl (λcs (x:Value×Nat)=>cs.setIfInBounds (off+x.2) x.1) cr=(u.cells.toList.zipIdx 0).foldl (λcs (x:Value×Nat)=>cs.setIfInBounds (off+x.2) x.1) cr:=by rw[<-Array.foldl_toList];simp
    obtain⟨cr',O,h2,h3⟩:=vj (cr:=u.cells.zipIdx.foldl (λcs (x:Value×Nat)=>cs.setIfInBounds (off+x.2) x.1) cr) wA hf
     (by rw[bt5,hfg.1,tx U];exact hl)
     (by
      intro k p' x' q1 q2;rw[bt5,hfg.2]at q2;rw[splice,oQ _ _ _ _ U]at q1;by_cases ha:k<off
      .rw[if_pos ha]at q1 q2;exact Y k p' x' q1 q2
      .rw[if_neg ha]at q1 q2;by_cases hb:k<off+cs.length
       .rw[if_pos hb]at q1;rw[if_pos U]at q2;exact lK (k-off) p' x' q1 (by simpa using q2)
       .rw[if_neg hb]at q1;rw[if_neg U]at q2;exact Y k p' x' q1 q2)
    refine⟨cr',?_,h2,h3⟩;simp only[Instr.fill,hpl];rw[if_neg (by simp;omega)];exact O
   .cases hf
  .cases hf
theorem Cv:∀ {l:l_ (Nat×Operand)} {ps:l_ (Nat×J)},(∀x∈l.map (·.2),∀p,dU T x=some p->cv w S m p (a.eval x))->u4 T l=some ps->rS w S m ps (l.map λ(i,x)=>(i,a.eval x))
 | [],ps,_,hp=>by simp [u4]at hp;subst hp;trivial
 |(i,x)::r,ps,hT,hp=>by
  simp only[u4]at hp;split at hp
  .rename_i v hv;split at hp
   .rename_i vs hvs;cases hp;exact⟨rfl,hT x sS v hv,Cv (λy hy=>hT y (by simp at hy⊢;exact .inr hy)) hvs⟩
   .cases hp
  .cases hp
theorem Gp:∀ {fs:l_ Field} {l:l_ (Nat×Nat)},AH P fs=some l->(fs.mapM (m:=Sem) λf=>do pure (f.offset,<-Go.sizeOf f.type)).run P w= .ok l w
 | [],l,hp=>by simp [AH]at hp;subst hp;rfl
 |f::fs,l,hp=>by
  simp only[AH]at hp;split at hp
  .rename_i n hn;split at hp
   .rename_i l' hl;cases hp;have ih:=Gp hl;simp only[As,Sem.run_bind,dO hn,Result.andThen_ok,Sem.run_pure,ih]
   .cases hp
  .cases hp
def pG {z:Value}(hz:oB P t=some z):(zeroValue t).run P w= .ok z w:=by
 unfold oB at hz;cases hi:P.info? t with
 |none=>rw[hi]at hz;cases hz
 |some i=>rw[hi]at hz;simp at hz;simp [zeroValue,typeInfo,hi,hz]
def AQ(z:Value):∀(i:Nat) p x,(z.cells.toList.map cellOf)[i]?=some p->z.cells[i]?=some x->cv w S m p x:=by
 intro i p x O h2;rw[b9]at O;have:z.cells.toList[i]?=some x:=by simpa using h2
 rw[this]at O;simp at O;subst O;exact .st _ _<|sU w S x
def OR (hI:Inv w0 Sa h S m w) {t:TypeId} {parts:Array (Nat×Operand)} {ps:l_ (Nat×J)} {q:J} (aX:o.op= .build t parts)
  (hT:∀x∈o.op.operands,∀p,dU T x=some p->cv w S m p (a.eval x)) (hp:u4 T parts.toList=some ps) (hb:Sl P t ps=some q)
  (hn:∀v' w',mv w0 Sa h S m w q v' w'->next (a.put o.dst v') w'):o.wp P a w next Q:=by
 have hpr:rS w S m ps ((parts.map λ(i,x)=>(i,a.eval x)).toList):=by have:=Cv (a:=a) (w:=w) (S:=S) (m:=m) (l:=parts.toList) (λx hx p hpx=>hT x (by rw[aX];simpa [Op.operands]using hx) p hpx) hp;simpa using this
 unfold Sl at hb;split at hb
 .rename_i z fields hz hu;split at hb
  .rename_i places hpl;cases hf:wv (places[·]?) (z.cells.toList.map cellOf) ps with
   |none=>rw[hf]at hb;cases hb
   |some ca=>
    rw[hf]at hb;cases hb;obtain⟨cr,O,h2,h3⟩:=vj hpr hf sS<|AQ z;have bz7:(fields.mapM (m:=Sem) λf=>do pure (f.offset,<-Go.sizeOf f.type)).run P w= .ok places.toArray w:=by rw[LC];simp only[Sem.run_map,Gp hpl,Result.andThen_ok]
    refine bQ (v':= .agg cr) ?_ (hn _ _<|bG hI<|.agg _ _ h2 h3);have OS:Instr.fill (λx=>places.toArray[x]?) z.cells ((parts.map λ(i,x)=>(i,a.eval x)).toList)=some cr:=by
     have:(λx:Nat=>places.toArray[x]?)=(λx:Nat=>places[x]?):=by funext x;simp
     rw[this];exact O
    simp only[execOp,aX,Instr.build,Sem.run_bind,pG hz,Result.andThen_ok,bU hu,bz7,OS,Sem.run_pure]
  .cases hb
 .rename_i z n elem hz hu;split at hb
  .rename_i k hk;cases hf:wv (λi=>some (i*k,k)) (z.cells.toList.map cellOf) ps with
   |none=>rw[hf]at hb;cases hb
   |some ca=>
    rw[hf]at hb;cases hb;obtain⟨cr,O,h2,h3⟩:=vj hpr hf sS<|AQ z;refine bQ (v':= .agg cr) ?_<|hn _ _<|bG hI<|.agg _ _ h2 h3;simp only[execOp,aX,Instr.build,Sem.run_bind,pG hz,Result.andThen_ok,bU hu,dO hk,O,Sem.run_pure]
  .cases hb
 .cases hb
end
end
theorem DG {z:Nat}:∀ {es:l_ (l_ J)} {i j:Nat} {e:l_ J} {p:J},(∀e∈es,e.length=z)->es[i]?=some e->e[j]?=some p->es.flatten[i*z+j]?=some p
 | [],i,j,e,p,_,O,_=>by simp at O
 |x::es,0,j,e,p,hz,O,h2=>by
  simp at O;subst O;have:=(bm.1 h2).1;simp [List.getElem?_append_left this,h2]
 |x::es,i+1,j,e,p,hz,O,h2=>by simp at O;have hx:=hz x sS;have ih:=DG (λe F=>hz e (by simp [F])) O h2;rw[LD,gj (by rw[hx,ed];omega),hx,<-ih];congr 1;rw[ed];omega
theorem DH {z:Nat}:∀ {es:l_ (l_ J)},(∀e∈es,e.length=z)->es.flatten.length=es.length*z
 | [],_=>sS
 |x::es,hz=>by have:=DH (es:=es) λe F=>hz e (by simp [F]);rw[LD,br,this,hz x sS,iP,ed];omega
theorem Gq {z:Nat}:∀ {ps:l_ (Nat×J)} {k:Nat} {es:l_ (l_ J)} {ca:l_ J},zc z k ps=some es->ca.length=(k+es.length)*z->
  wv (λi=>some (i*z,z)) ca ps=some (ca.take (k*z)++es.flatten)/\∀e∈es,e.length=z
 | [],k,es,ca,F,hl=>by
  simp [zc]at F;subst F;simp at hl;simp [wv,<-hl]
 |(i,v)::r,k,es,ca,F,hl=>by
  simp only[zc]at F;split at F
  .rename_i cs Aj;split at F
   .rename_i iJ;obtain⟨rfl,hcz⟩:=iJ;split at F
    .rename_i es' kC;cases F;simp only[iP]at hl;have OT:(i+(es'.length+1))*z=i*z+z+es'.length*z:=by rw[ed,ed];omega
     have nQ:i*z+cs.length<=ca.length:=by rw[hl,hcz,OT];omega
     obtain⟨O,h2⟩:=Gq (ca:=splice ca (i*z) cs) kC (by rw[tx nQ,hl];congr 1;omega);refine⟨?_,λe F=> ?_⟩
     .simp only[wv,Aj];rw[if_pos ⟨hcz,nQ⟩,O];congr 1;have:(splice ca (i*z) cs).take ((i+1)*z)=ca.take (i*z)++cs:=by
       unfold splice;have h3:(ca.take (i*z)++cs).length=(i+1)*z:=by rw[br,im,hcz,ed];omega
       rw[LF U,wq U]
      rw[this];simp
     .rcases fB.1 F with rfl|F
      .exact hcz
      .exact h2 e F
    .cases F
   .cases F
  .cases F
section
variable {P:Program} {w0:fR} {w:World} {Sa S:Nat->Prop} {h h':Hp} {m:Mp} {a:Act} {o:Oper} {T:l_ J} {s s':l8} {ob:l_ Prop} {v:J} {next:Act->World->Prop} {Q:Exit->Act->World->Prop}
def AS {p:J} {u:Value}(N:cv w S m p u)(hs:fO p=true):cf w S p u:=by
 cases p<;>simp [fO]at hs;all_goals (cases N with|st _ _ h=>exact h)
def Gr {t e:TypeId} {n z:Nat} {parts:Array (Nat×Operand)} {ps:l_ (Nat×J)} {es:l_ (l_ J)} (aX:o.op= .buildSlice t n parts)
  (hT:∀x∈o.op.operands,∀p,dU T x=some p->cv w S m p (a.eval x)) (hp:u4 T parts.toList=some ps) (hu:P.underlying t=some (.slice e)) (hz:Ch P e=some z) (F:zc z 0 ps=some es)
  (hn:es.length=n) (lu:n*z<=16777216) (hzero:(oB P e).isSome=true):
  ∃c:Array Value,(execOp a.eval o).run P w= .ok (.value<|.slice (some ⟨w.heap.size,0,none⟩) n n) (w.alloc<|.cells c e)/\(∀e∈es,e.length=z)/\c.size=n*z/\
   ∀(i j:Nat) e p x,es[i]?=some e->e[j]?=some p->c[i*z+j]?=some x->cv w S m p x:=by
 have hpr:rS w S m ps ((parts.map λ(i,x)=>(i,a.eval x)).toList):=by have:=Cv (a:=a) (w:=w) (S:=S) (m:=m) (l:=parts.toList) (λx hx p hpx=>hT x (by rw[aX];simpa [Op.operands]using hx) p hpx) hp;simpa using this
 obtain⟨zv,hzv⟩:=LG.1 hzero;have main:∀cr0:Array Value,cr0.size=n*z->∃cr:Array Value,Instr.fill (λi=>some (i*z,z)) cr0 ((parts.map λ(i,x)=>(i,a.eval x)).toList)=some cr/\(∀e∈es,e.length=z)/\cr.size=n*z/\
   ∀(i j:Nat) e p x,es[i]?=some e->e[j]?=some p->cr[i*z+j]?=some x->cv w S m p x:=by
  intro cr0 h0;obtain⟨f1,f2⟩:=Gq (ca:=cr0.toList.map J.sc) F (by simp [hn,h0]);obtain⟨cr,O,h2,h3⟩:=vj (cr:=cr0) hpr f1 sS (λi p x q1 q2=>by
   rw[b9]at q1;have:cr0.toList[i]?=some x:=by simpa using q2
   rw[this]at q1;simp at q1;subst q1;exact .st _ _ (.sc x))
  refine⟨cr,O,f2,?_,λi j e p x q1 q2 q3=>h3 (i*z+j) p x ?_ q3⟩
  .rw[<-h2];simp [DH f2,hn]
  .simpa using DG f2 q1 q2
 have bT0: ¬(n*z>2^24):=U;by_cases h0:n*z=0
 .obtain⟨cr,O,h2,h3,h4⟩:=main ((Array.range<|n*z).map λx=>(#[]:Array Value)[x%(#[]:Array Value).size]!) sS;refine⟨cr,?_,h2,h3,h4⟩;simp only[execOp,aX,Instr.buildSlice,Sem.run_bind,bU hu,dO hz,Result.andThen_ok,Sem.run_ite,if_neg bT0,if_pos h0,Sem.run_pure,O,newRow,run_newObj,World.alloc_eq]
 .obtain⟨cr,O,h2,h3,h4⟩:=main ((Array.range<|n*z).map λx=>zv.cells[x%zv.cells.size]!) sS;refine⟨cr,?_,h2,h3,h4⟩;simp only[execOp,aX,Instr.buildSlice,Sem.run_bind,bU hu,dO hz,Result.andThen_ok,Sem.run_ite,if_neg bT0,if_neg h0,pG hzv,Sem.run_pure,O,newRow,run_newObj,World.alloc_eq]
def Inv.fresh(hI:Inv w0 Sa h S m w)(c:Array Value)(et:TypeId):Inv w0 Sa h (λb=>S b\/b=w.heap.size) m (w.alloc<|.cells c et)/\yx w S m (w.alloc<|.cells c et) (λb=>S b\/b=w.heap.size) m:=by
 have hb:Below w.heap.size w (w.alloc (.cells c et)):=(Below.refl _ _).alloc (bE _) _;have O:=hI.grown hb;refine⟨O.at2 (λb hb=> .inl hb) ?_ ?_ ?_ (λid B b o sz q1 q2 q3=>by
  have hM:=hI.maps id B b o sz q1 q2 q3;have:=hM.2.1.lt;rintro(hb|rfl)
  .exact hM.2.2 hb
  .omega),λp v hp=>hp.later ⟨λb hb=> .inl hb,λb hb=>gw (hI.lt b hb),λb c' et' Y=>⟨c',by rw[gw (lt_of_block Y)];exact Y,rfl⟩⟩ λ_ _ h=>h⟩
 .rintro b (hb|rfl)
  .exact O.lt b hb
  .simp
 .rintro b (hb|rfl)
  .exact hI.sub b hb
  .exact .inr<|.inl hI.qf.size
 .intro id B b o sz q1 q2 q3 qr;rintro(hb|rfl)
  .exact(hI.live id B b o sz q1 q2 q3 qr).2 hb
  .obtain⟨c',et',e1,_⟩:=hI.oq id B _ o sz q1 U q3 qr;exact absurd (lt_of_block e1)<|nI _
def ud (hI:Inv w0 Sa h S m w) {dr:Bool} {t e:TypeId} {n z:Nat} {parts:Array (Nat×Operand)} {ps:l_ (Nat×J)} {es:l_ (l_ J)} {q:J} (aX:o.op= .buildSlice t n parts)
  (hT:∀x∈o.op.operands,∀p,dU T x=some p->cv w S m p (a.eval x)) (hp:u4 T parts.toList=some ps) (hu:P.underlying t=some (.slice e)) (hz:Ch P e=some z) (F:zc z 0 ps=some es)
  (Gm:es.length=n) (mE:0<z) (lu:n*z<=16777216) (hzero:(oB P e).isSome=true)
  (hq:(dr=true/\es.all (·.all fO)=true/\q= .ro es/\h'=h)\/(q= .own h.length 0 n/\h'=h++ [⟨es,0,[],z,false,false⟩]))
  (hn:∀v' w',mv w0 Sa h' S m w q v' w'->next (a.put o.dst v') w'):o.wp P a w next Q:=by
 obtain⟨c,eM,f2,f3,f4⟩:=Gr (P:=P) aX hT hp hu hz F Gm lu hzero;rcases hq with⟨_,cy,rfl,rfl⟩|⟨rfl,rfl⟩
 .obtain⟨mV,hG⟩:=hI.fresh c e;refine gC eM (hn _ _ ⟨_,m,mV,hG,.st _ _ ?_⟩);by_cases h0:es=[]
  .subst h0;simp at Gm;subst Gm;exact .Fu _ _
  .have:=cf.ro (w:=w.alloc (.cells c e)) (S:=λb=>S b\/b=w.heap.size) es w.heap.size 0 n z c e (0,0) (.inr rfl) (dJ _ _) f2 (by rw[f3,Gm];omega) U
    (λi j e' p x q1 q2 q3=>by have hs:=cU.1 (cU.1 cy e'<|cw q1) p (cw q2);exact AS (hG p x<|f4 i j e' p x q1 q2<|by simpa using q3) hs)
   rw[Gm]at this;exact this
 .obtain⟨mV,hG⟩:=hI.alloc c e es z f2 (by rw[f3,Gm];exact bE _) f4 (sm:=false) (λh=>by cases h);refine gC eM<|hn _ _ ⟨S,_,mV,hG,?_⟩;have:=cv.own (w:=w.alloc (.cells c e)) (S:=S) (m:=m++ [(w.heap.size,0,z)]) h.length 0 n n w.heap.size 0 z c e (by rw[<-hI.len];simp) mE (dJ _ _) (bE _) (by rw[f3];simp);simpa using this
end
structure Zo(h:Hp)(id:Nat)(B:dW)(tip:Prop)(hA:Hp):Prop where
 len:hA.length=h.length
 old:∀(q:Nat) X,hA[q]?=some X->∃cj3,h[q]?=some cj3/\X.es=cj3.es/\X.par=cj3.par/\X.sz=cj3.sz/\(X.st=0->cj3.st=0/\q≠id)/\(X.st=1->(cj3.st=1\/q=id)/\(tip\/(q≠id/\q∉B.par)))
 keep:∀(q:Nat) cj3,h[q]?=some cj3->cj3.st=0->q≠id->hA[q]?=some cj3
 syms:∀(q:Nat) X cj3,hA[q]?=some X->h[q]?=some cj3->X.sym=cj3.sym
 maps:∀(q:Nat) X,hA[q]?=some X->X.st=3->h[q]?=some X
 gV:∀(q:Nat) cj3,h[q]?=some cj3->∃X,hA[q]?=some X/\X.gV=cj3.gV
def Gs {h:Hp} {id:Nat} {B:dW} {tip:Prop}(hB:h[id]?=some B)(ht:tip):Zo h id B tip (h.set id {B with st:=1}):=by
 refine⟨sS,λq X hq=> ?_,λq cj3 hq _ nP=> ?_,λq X cj3 hq hY=> ?_,λq X hq hx=> ?_,λq cj3 hq=>xM (C:= {B with st:=1}) hB rfl hq⟩
 .rw[cD]at hq;by_cases qV:id=q
  .subst qV;have:id<h.length:=(bm.1 hB).1;simp [this]at hq;subst hq;exact⟨B,hB,rfl,rfl,rfl,(λh=>by cases h),λ_=>⟨.inr rfl,.inl ht⟩⟩
  .rw[if_neg qV]at hq;exact⟨X,hq,rfl,rfl,rfl,λh=>⟨h,λe=>qV e.symm⟩,λh=>⟨.inl h,.inl ht⟩⟩
 .rw[cD,if_neg λe=>nP e.symm];exact hq
 .rw[cD]at hq;by_cases qV:id=q
  .subst qV;have:id<h.length:=(bm.1 hB).1;simp [this]at hq;subst hq;rw[hB]at hY;cases hY;rfl
  .rw[if_neg qV,hY]at hq;cases hq;rfl
 .rw[cD]at hq;by_cases qV:id=q
  .subst qV;have:id<h.length:=(bm.1 hB).1;simp [this]at hq;subst hq;cases hx
  .rw[if_neg qV]at hq;exact hq
def OU {h:Hp} {id:Nat} {B:dW} {tip:Prop}(hB:h[id]?=some B)(OV:∀q∈B.par,∀cj3,h[q]?=some cj3->cj3.st≠0):Zo h id B tip (kill (h.set id {B with st:=2}) B.par):=by
 refine⟨by rw[jL];simp,λq X hq=> ?_,λq cj3 hq hy nP=> ?_,λq X cj3 hq hY=> ?_,λq X hq hx=> ?_,λq cj3 hq=> ?_⟩
 .obtain⟨X0,h0,hs,hp,hd⟩:=iI hq;have kC:X.es=X0.es:=by rw[kS,h0]at hq;simp at hq;subst hq;split<;>rfl
  rw[cD]at h0;by_cases qV:id=q
  .subst qV;have:id<h.length:=(bm.1 hB).1;simp [this]at h0;subst h0;have hx:X.st=2:=by
    rcases hd with⟨_,h2⟩|⟨_,rfl⟩
    .exact h2
    .rfl
   exact⟨B,hB,kC,hp,hs,λh=>U,λh=>U⟩
  .rw[if_neg qV]at h0;refine⟨X0,h0,kC,hp,hs,λhx=> ?_,λhx=> ?_⟩
   .rcases hd with⟨_,h2⟩|⟨_,rfl⟩
    .omega
    .exact⟨hx,λe=>qV e.symm⟩
   .rcases hd with⟨_,h2⟩|⟨hd,rfl⟩
    .omega
    .exact⟨.inl hx,.inr ⟨λe=>qV e.symm,hd⟩⟩
 .rw[kS,cD,if_neg λe=>nP e.symm,hq];have:q∉B.par:=λhp=>OV q hp cj3 hq hy;simp [this]
 .obtain⟨X0,h0,_⟩:=AN hq;rw[Gg hq h0];rw[cD]at h0;by_cases qV:id=q
  .subst qV;have:id<h.length:=(bm.1 hB).1;simp [this]at h0;subst h0;rw[hB]at hY;cases hY;rfl
  .rw[if_neg qV,hY]at h0;cases h0;rfl
 .obtain⟨X0,h0,_,_,hd|⟨hd,rfl⟩⟩:=iI hq
  .omega
  .rw[cD]at h0;by_cases qV:id=q
   .subst qV;have:id<h.length:=(bm.1 hB).1;simp [this]at h0;subst h0;cases hx
   .rw[if_neg qV]at h0;exact h0
 .obtain⟨X,O,h2⟩:=xM (C:= {B with st:=2}) hB rfl hq;obtain⟨X2,h3,h4⟩:=Gh B.par O;exact⟨X2,h3,h4.trans h2⟩
section
variable {P:Program} {w0:fR} {w:World} {Sa S:Nat->Prop} {h h':Hp} {m:Mp} {a:Act} {o:Oper} {T:l_ J} {s s':l8} {ob:l_ Prop} {v:J} {next:Act->World->Prop} {Q:Exit->Act->World->Prop}
def nn {x y z k:Nat}(h:x=y+k):x*z=y*z+k*z:=by rw[h,ed]
def Inv.Gt (hI:Inv w0 Sa h S m w) {id off len b o' sz:Nat} {B:dW} {hA:Hp} {pr:l_ Nat} {ys:l_ (l_ J)} {news:l_ Value} {c:Array Value} {et:TypeId} {sm:Bool}
  (hB:h[id]?=some B) (cy:B.st=0) (hm:m[id]?=some (b,o',sz)) (ub:Rl B.es sz) (mE:0<sz) (hlen:off+len<=B.es.length) (l9:Zo h id B (off+len=B.es.length) hA)
  (au1:off+len=B.es.length->pr=id::B.par) (Eu:∀q∈pr,q=id\/q∈B.par) (Mf:∀e∈ys,e.length=sz) (ue:news.length=ys.length*sz)
  (lK:∀(i j:Nat) e p v,ys[i]?=some e->e[j]?=some p->news[i*sz+j]?=some v->cv w S m p v) (hb:w.heap[b]?=some (.cells c et (0,0))) (lu:o'+(off+len)*sz+news.length<=c.size) (vd:sm=true->oA ((B.es.drop off).take len++ys)):
  let w':=w.setRow b (c.toList.take (o'+(off+len)*sz)++news++c.toList.drop (o'+(off+len)*sz+news.length)).toArray
  Inv w0 Sa (hA++ [⟨(B.es.drop off).take len++ys,0,pr,sz,sm,false⟩]) S (m++ [(b,o'+off*sz,sz)]) w'/\yx w S m w' S (m++ [(b,o'+off*sz,sz)]):=by
 intro w';obtain⟨c1,SB,e1,e2,e3,e4⟩:=hI.oq id B b o' sz hB U hm ub;rw[hb]at e1;cases e1;have bS8:c.toList.length=c.size:=sS;have hc':∀x,(c.toList.take (o'+(off+len)*sz)++news++c.toList.drop (o'+(off+len)*sz+news.length)).toArray[x]?=
   if x<o'+(off+len)*sz then c[x]? else if x<o'+(off+len)*sz+news.length then news[x-(o'+(off+len)*sz)]? else c[x]?:=by
  intro x;rw[sL,oQ _ _ _ _ U];simp
 have zd:w'.heap[b]?=some (.cells _ et (0,0)):=setRow_heap w b c _ et (0,0) hb;have AT:(c.toList.take (o'+(off+len)*sz)++news++c.toList.drop (o'+(off+len)*sz+news.length)).toArray.size=c.size:=by simp;omega
 have jD:∀k,k≠b->w'.heap[k]?=w.heap[k]?:=λk hk=>setRow_other w b k _ hk;obtain⟨R5,SD⟩:=hI.live id B b o' sz hB cy hm ub;have hL:mi w S w' S:=by
  refine⟨λ_ h=>h,λk hk=>jD k (λF=>SD (F▸hk)),λk ck etk hk=> ?_⟩;by_cases I8:k=b
  .subst I8;rw[hb]at hk;cases hk;exact⟨_,zd,AT⟩
  .exact⟨ck,(jD k I8).trans hk,rfl⟩
 have hG:yx w S m w' S (m++ [(b,o'+off*sz,sz)]):=λp v hp=>hp.later hL λi x hx=>fg _ hx;have Zp:=hI.len;have jE:∀ {q:Nat} {X:dW} {x:Nat×Nat×Nat},hA[q]?=some X->(m++ [(b,o'+off*sz,sz)])[q]?=some x->m[q]?=some x:=by
  intro q X x O h2;have:q<m.length:=by rw[Zp,<-l9.len];exact(bm.1 O).1
  rw[dy this]at h2;exact h2
 have sA:∀ {x:Nat×Nat×Nat},(m++ [(b,o'+off*sz,sz)])[hA.length]?=some x->x=(b,o'+off*sz,sz):=by intro x h2;rw[l9.len,<-Zp,lJ]at h2;exact(ku h2).symm
 have hmul:(off+len)*sz=off*sz+len*sz:=by grind
 have AU:((B.es.drop off).take len).length=len:=by simp;omega
 have bA1:off+len=B.es.length->Rl ((B.es.drop off).take len++ys) sz:=U;refine⟨⟨hI.qf.setRow R5 hb AT,hI.sub,λk hk=>by have:=hI.lt k hk;show k<(w.setRow _ _).heap.size;simpa using this,by simp [Zp,l9.len],?_,?_,?_,?_,?_,?_,?_,?_,?_,?_,?_⟩,hG⟩
 .intro q X b' o2 z2 hq hx fL N;rcases aJ _ _ _ _ hq with hq|⟨rfl,rfl⟩
  .have kz:=jE hq fL;obtain⟨cj3,y1,y2,y3,y4,y5,y6⟩:=l9.old q X hq;rw[y2]at N;have hY:cj3.st<=1:=by
    by_cases h0:X.st=0
    .have:=(y5 h0).1;omega
    .rcases(y6 U).1 with O|rfl
     .omega
     .rw[hB]at y1;cases y1;omega
   obtain⟨c2,et2,f1,f2,f3,f4⟩:=hI.oq q cj3 b' o2 z2 y1 hY kz N;by_cases Ai:b'=b
   .
    subst Ai;rw[hb]at f1;cases f1;have aR:o2+cj3.es.length*z2<=o'+(off+len)*sz:=by
     by_cases h0:X.st=0
     .exact absurd (hI.uniq q id cj3 B b' o2 z2 o' sz y1 (y5 h0).1 kz hB cy hm N ub) (y5 h0).2
     .obtain⟨hh,Mg⟩:=y6 U;rcases hh with O|rfl
      .rcases hI.tZ q cj3 b' o2 z2 y1 O kz N with hS|⟨jd,B',o3,z3,q1,q2,q3,qr,q4,q5⟩
       .exact absurd hS SD
       .have:=hI.uniq jd id B' B b' o3 z3 o' sz q1 q2 q3 hB cy hm qr ub;subst this;rw[hB]at q1;cases q1;rw[hm]at q3;cases q3;rcases Mg with ht|⟨_,hp⟩
        .rw[ht];exact q5
        .exact absurd q4 hp
      .rw[hB]at y1;cases y1;rw[hm]at kz;cases kz;rcases Mg with ht|⟨hp,_⟩
       .rw[ht];exact bE _
       .exact absurd rfl hp
    refine⟨_,et,zd,by rw[AT,y2];omega,by rw[y2];exact f3,?_⟩;intro i j e p v q1 q2 q3;rw[y2]at q1;have oR:=(bm.1 q1).1;have Cj:j<z2:=by have:=(bm.1 q2).1;rw[f3 e<|cw q1]at this;exact this
    have:=wz (sz:=z2) oR;rw[hc',if_pos U]at q3;exact hG _ _<|f4 i j e p v q1 q2 q3
   .exact⟨c2,et2,(jD b' Ai).trans f1,by rw[y2];exact f2,by rw[y2];exact f3,λi j e p v q1 q2 q3=>hG _ _ (f4 i j e p v (by rw[<-y2];exact q1) q2 q3)⟩
  .cases sA fL;refine⟨_,et,zd,?_,?_,?_⟩
   .rw[AT,br,AU,ed];omega
   .intro e F;rcases kx.1 F with F|F
    .exact e3 e<|uW<|rE F
    .exact Mf e F
   .intro i j e p v q1 q2 q3;have Cj:j<sz:=by
     have O:=(bm.1 q2).1;have:e.length=sz:=by
      rcases kx.1 (cw q1)with F|F
      .exact e3 e<|uW<|rE F
      .exact Mf e F
     omega
    rw[hc']at q3;by_cases hi:i<len
    .rw[dy U,lH hi,iO]at q1;have:=wz (sz:=sz) hi;rw[if_pos U]at q3;refine hG _ _<|e4 (off+i) j e p v q1 q2 ?_;rw[<-q3];congr 1;rw[ed];omega
    .rw[gj U,AU]at q1;have hiy:=(bm.1 q1).1;have hsp:i*sz=len*sz+(i-len)*sz:=nn U;have:=wz (sz:=sz) hiy;rw[if_neg U,if_pos U,show o'+off*sz+i*sz+j-(o'+(off+len)*sz)=(i-len)*sz+j by omega]at q3;exact hG _ _<|lK (i-len) j e p v q1 q2 q3
 .intro q X b' o2 z2 hq hx fL N;rcases aJ _ _ _ _ hq with hq|⟨rfl,rfl⟩
  .obtain⟨cj3,y1,y2,_,_,y5,_⟩:=l9.old q X hq;exact hI.live q cj3 b' o2 z2 y1 (y5 hx).1 (jE hq fL)<|y2▸N
  .cases sA fL;exact⟨R5,SD⟩
 .intro q q' X X' b' o1 z1 o2 z2 hq hx fL uc xN kz N qD;rcases aJ _ _ _ _ hq with hq|⟨rfl,rfl⟩<;>rcases aJ _ _ _ _ uc with uc|⟨rfl,rfl⟩
  .obtain⟨cj3,y1,y2,_,_,y5,_⟩:=l9.old q X hq;obtain⟨Y',Gi,I0,_,_,y5',_⟩:=l9.old q' X' uc;exact hI.uniq q q' cj3 Y' b' o1 z1 o2 z2 y1 (y5 hx).1 (jE hq fL) Gi (y5' xN).1 (jE uc kz) (y2▸N)<|I0▸qD
  .obtain⟨cj3,y1,y2,_,_,y5,_⟩:=l9.old q X hq;cases sA kz;exact absurd (hI.uniq q id cj3 B b o1 z1 o' sz y1 (y5 hx).1 (jE hq fL) hB cy hm (y2▸N) ub) (y5 hx).2
  .obtain⟨Y',Gi,I0,_,_,y5',_⟩:=l9.old q' X' uc;cases sA fL;exact absurd (hI.uniq q' id Y' B b o2 z2 o' sz Gi (y5' xN).1 (jE uc kz) hB cy hm (I0▸qD) ub) (y5' xN).2
  .rfl
 .intro q X b' o2 z2 hq hx fL N;rcases aJ _ _ _ _ hq with hq|⟨rfl,rfl⟩
  .have kz:=jE hq fL;obtain⟨cj3,y1,y2,_,_,_,y6⟩:=l9.old q X hq;rw[y2]at N;obtain⟨hh,Mg⟩:=y6 hx;have JY:∀(ht:off+len=B.es.length),q∈pr->o2+cj3.es.length*z2<=o'+(off+len)*sz->b'=b->S b'\/∃(jd:Nat) (B':dW) (o4 z4:Nat),(hA++ [⟨(B.es.drop off).take len++ys,0,pr,sz,sm,false⟩])[jd]?=some B'/\B'.st=0/\
     (m++ [(b,o'+off*sz,sz)])[jd]?=some (b',o4,z4)/\Rl B'.es z4/\q∈B'.par/\o2+X.es.length*z2<=o4+B'.es.length*z4:=by
    intro ht hqp aR Ai;refine .inr ⟨hA.length,_,o'+off*sz,sz,lJ _ _,rfl,?_,bA1 ht,hqp,?_⟩
    .rw[l9.len,<-Zp,Ai];exact lJ _ _
    .show o2+X.es.length*z2<=o'+off*sz+((B.es.drop off).take len++ys).length*sz;rw[y2,br,AU,ed];omega
   rcases hh with O|rfl
   .rcases hI.tZ q cj3 b' o2 z2 y1 O kz N with hS|⟨jd,B',o3,z3,q1,q2,q3,qr,q4,q5⟩
    .exact .inl hS
    .by_cases hid:jd=id
     .subst hid;rw[hB]at q1;cases q1;rw[hm]at q3;cases q3;rcases Mg with ht|⟨_,hp⟩
      .exact JY ht (by rw[au1 ht];exact fh _ q4) (by rw[ht];exact q5) rfl
      .exact absurd q4 hp
     .exact .inr ⟨jd,B',o3,z3,fg _ (l9.keep jd B' q1 q2 hid),q2,fg _ q3,qr,q4,by rw[y2];exact q5⟩
   .rw[hB]at y1;cases y1;rw[hm]at kz;cases kz;rcases Mg with ht|⟨hp,_⟩
    .exact JY ht (by rw[au1 ht];exact ch) (by rw[ht];exact bE _) rfl
    .exact absurd rfl hp
  .cases hx
 .intro q r X Xr hq N SE;have bT1:∀qD:r<h.length,∃cj3,h[r]?=some cj3/\(cj3.st≠0\/r=id->Xr.st≠0):=by
   intro qD;rcases aJ _ _ _ _ SE with SE|⟨rfl,rfl⟩
   .obtain⟨cj3,y1,_,_,_,y5,_⟩:=l9.old r Xr SE;exact⟨cj3,y1,λhn h0=>hn.elim (λh=>h (y5 h0).1) λh=>(y5 h0).2 h⟩
   .rw[l9.len]at qD;exact absurd qD<|nI _
  rcases aJ _ _ _ _ hq with hq|⟨rfl,rfl⟩
  .obtain⟨cj3,y1,_,y3,_⟩:=l9.old q X hq;rw[y3]at N;obtain⟨cj4,z1,z2⟩:=bT1<|hI.oP q r cj3 y1 N;exact z2<|.inl<|hI.qU q r cj3 cj4 y1 N z1
  .have iH:r<h.length:=by
    rcases Eu r N with rfl|hp
    .exact(bm.1 hB).1
    .exact hI.oP id r B hB hp
   obtain⟨cj4,z1,z2⟩:=bT1 iH;rcases Eu r N with rfl|hp
   .exact z2<|.inr rfl
   .exact z2<|.inl<|hI.qU id r B cj4 hB hp z1
 .intro q r X hq N;rw[br,l9.len];rcases aJ _ _ _ _ hq with hq|⟨rfl,rfl⟩
  .obtain⟨cj3,y1,_,y3,_⟩:=l9.old q X hq;rw[y3]at N;have:=hI.oP q r cj3 y1 N;omega
  .rcases Eu r N with rfl|hp
   .have:=(bm.1 hB).1;omega
   .have:=hI.oP id r B hB hp;omega
 .intro q X b' o2 z2 hq fL N;rcases aJ _ _ _ _ hq with hq|⟨rfl,rfl⟩
  .obtain⟨cj3,y1,y2,_,y4,_⟩:=l9.old q X hq;rw[y4];exact hI.Ci q cj3 b' o2 z2 y1 (jE hq fL)<|y2▸N
  .cases sA fL;rfl
 .intro q X hq hx;rcases aJ _ _ _ _ hq with hq|⟨rfl,rfl⟩
  .obtain⟨cj3,y1,y2,_⟩:=l9.old q X hq;rw[y2];exact hI.syms q cj3 y1 (by rw[<-l9.syms q X cj3 hq y1];exact hx)
  .exact vd hx
 .intro q X b' o2 z2 hq hx fL;rcases aJ _ _ _ _ hq with hq|⟨rfl,rfl⟩
  .have hM:=hI.maps q X b' o2 z2 (l9.maps q X hq hx) hx<|jE hq fL;exact⟨hM.1,hM.2.1.same<|jD b'<|hM.2.1.ne hb,hM.2.2⟩
  .cases hx
 .intro q q' X X' b' o1 z1 o2 z2 hq hx fL uc xN kz;rcases aJ _ _ _ _ hq with hq|⟨rfl,rfl⟩
  .rcases aJ _ _ _ _ uc with uc|⟨rfl,rfl⟩
   .exact hI.ua q q' X X' b' o1 z1 o2 z2 (l9.maps q X hq hx) hx (jE hq fL) (l9.maps q' X' uc xN) xN<|jE uc kz
   .cases xN
  .cases hx
 .intro i x hx;obtain⟨O,cj3,h2,h3⟩:=hI.gV i x hx;obtain⟨X,h4,h5⟩:=l9.gV i cj3 h2;exact⟨fg _ O,X,fg _ h4,h5.trans h3⟩
def Inv.bA2(hI:Inv w0 Sa h S m w) {id b o' sz:Nat} {B:dW} {tip:Prop} {hA:Hp}(hB:h[id]?=some B)(cy:B.st=0)(hm:m[id]?=some (b,o',sz))(ub:Rl B.es sz)(l9:Zo h id B tip hA):
  Inv w0 Sa hA (λx=>S x\/x=b) m w/\yx w S m w (λx=>S x\/x=b) m:=by
 have hL:mi w S w (λx=>S x\/x=b):=⟨λ_ h=> .inl h,λ_ _=>rfl,λ_ c _ h=>⟨c,h,rfl⟩⟩
 have hG:yx w S m w (λx=>S x\/x=b) m:=λp v hp=>hp.later hL λ_ _ h=>h;obtain⟨R5,SD⟩:=hI.live id B b o' sz hB cy hm ub;obtain⟨c,et,e1,_⟩:=hI.oq id B b o' sz hB U hm ub;have Gu:∀ {q:Nat} {X:dW},hA[q]?=some X->X.st<=1->∃cj3,h[q]?=some cj3/\X.es=cj3.es/\cj3.st<=1/\(X.st=0->cj3.st=0/\q≠id)/\(X.st=1->cj3.st=1\/q=id):=by
  intro q X hq hx;obtain⟨cj3,y1,y2,_,_,y5,y6⟩:=l9.old q X hq;refine⟨cj3,y1,y2,?_,y5,λh=>(y6 h).1⟩;by_cases h0:X.st=0
  .have:=(y5 h0).1;omega
  .rcases(y6 U).1 with O|rfl
   .omega
   .rw[hB]at y1;cases y1;omega
 refine⟨⟨hI.qf,?_,?_,by rw[hI.len,l9.len],?_,?_,?_,?_,?_,?_,?_,?_,λq X b' o2 z2 hq hx fL=>⟨(hI.maps q X b' o2 z2 (l9.maps q X hq hx) hx fL).1,(hI.maps q X b' o2 z2 (l9.maps q X hq hx) hx fL).2.1,λY=>Y.elim (hI.maps q X b' o2 z2 (l9.maps q X hq hx) hx fL).2.2 λY=>(hI.maps q X b' o2 z2 (l9.maps q X hq hx) hx fL).2.1.ne e1 Y⟩,λq q' X X' b' o1 z1 o2 z2 hq hx fL uc xN kz=>hI.ua q q' X X' b' o1 z1 o2 z2 (l9.maps q X hq hx) hx fL (l9.maps q' X' uc xN) xN kz,λi x hx=> ?_⟩,hG⟩
 .rintro x (hx|rfl)
  .exact hI.sub x hx
  .exact .inr R5
 .rintro x (hx|rfl)
  .exact hI.lt x hx
  .exact lt_of_block e1
 .intro q X b' o2 z2 hq hx fL N;obtain⟨cj3,y1,y2,y3,_⟩:=Gu hq hx;obtain⟨c2,et2,f1,f2,f3,f4⟩:=hI.oq q cj3 b' o2 z2 y1 y3 fL<|y2▸N;exact⟨c2,et2,f1,by rw[y2];exact f2,by rw[y2];exact f3,λi j e p v q1 q2 q3=>hG _ _ (f4 i j e p v (by rw[<-y2];exact q1) q2 q3)⟩
 .intro q X b' o2 z2 hq hx fL N;obtain⟨cj3,y1,y2,_,y5,_⟩:=Gu hq U;rw[y2]at N;obtain⟨l1,l2⟩:=hI.live q cj3 b' o2 z2 y1 (y5 hx).1 fL N;refine⟨l1,?_⟩;rintro(hS|rfl)
  .exact l2 hS
  .exact(y5 hx).2<|hI.uniq q id cj3 B b' o2 z2 o' sz y1 (y5 hx).1 fL hB cy hm N ub
 .intro q q' X X' b' o1 z1 o2 z2 hq hx fL uc xN kz N qD;obtain⟨cj3,y1,y2,_,y5,_⟩:=Gu hq U;obtain⟨Y',Gi,I0,_,y5',_⟩:=Gu uc U;exact hI.uniq q q' cj3 Y' b' o1 z1 o2 z2 y1 (y5 hx).1 fL Gi (y5' xN).1 kz (y2▸N)<|I0▸qD
 .intro q X b' o2 z2 hq hx fL N;obtain⟨cj3,y1,y2,_,_,y6⟩:=Gu hq U;rw[y2]at N;rcases y6 hx with O|rfl
  .rcases hI.tZ q cj3 b' o2 z2 y1 O fL N with hS|⟨jd,B',o3,z3,q1,q2,q3,qr,q4,q5⟩
   .exact .inl<|.inl hS
   .by_cases hid:jd=id
    .subst hid;rw[hm]at q3;cases q3;exact .inl<|.inr rfl
    .exact .inr ⟨jd,B',o3,z3,l9.keep jd B' q1 q2 hid,q2,q3,qr,q4,by rw[y2];exact q5⟩
  .rw[hm]at fL;cases fL;exact .inl<|.inr rfl
 .intro q r X Xr hq N SE h0;obtain⟨cj3,y1,_,y3,_⟩:=l9.old q X hq;obtain⟨cj4,z1,_,_,_,z5,_⟩:=l9.old r Xr SE;exact hI.qU q r cj3 cj4 y1 (y3▸N) z1 (z5 h0).1
 .intro q r X hq N;obtain⟨cj3,y1,_,y3,_⟩:=l9.old q X hq;rw[l9.len];exact hI.oP q r cj3 y1<|y3▸N
 .intro q X b' o2 z2 hq fL N;obtain⟨cj3,y1,y2,_,y4,_⟩:=l9.old q X hq;rw[y4];exact hI.Ci q cj3 b' o2 z2 y1 fL<|y2▸N
 .intro q X hq hx;obtain⟨cj3,y1,y2,_⟩:=l9.old q X hq;rw[y2];exact hI.syms q cj3 y1 (by rw[<-l9.syms q X cj3 hq y1];exact hx)
 .obtain⟨O,cj3,h2,h3⟩:=hI.gV i x hx;obtain⟨X,h4,h5⟩:=l9.gV i cj3 h2;exact⟨O,X,h4,h5.trans h3⟩
def Inv.bT2(hI:Inv w0 Sa h S m w) {id b o' sz:Nat} {B:dW} {tip:Prop} {hA:Hp}(hB:h[id]?=some B)(cy:B.st=0)(hm:m[id]?=some (b,o',sz))(hnr: ¬Rl B.es sz)(l9:Zo h id B tip hA):
  Inv w0 Sa hA S m w:=by
 have Gu:∀ {q:Nat} {X:dW},hA[q]?=some X->X.st<=1->∃cj3,h[q]?=some cj3/\X.es=cj3.es/\cj3.st<=1/\(X.st=0->cj3.st=0/\q≠id)/\(X.st=1->cj3.st=1\/q=id):=by
  intro q X hq hx;obtain⟨cj3,y1,y2,_,_,y5,y6⟩:=l9.old q X hq;refine⟨cj3,y1,y2,?_,y5,λh=>(y6 h).1⟩;by_cases h0:X.st=0
  .have:=(y5 h0).1;omega
  .rcases(y6 U).1 with O|rfl
   .omega
   .rw[hB]at y1;cases y1;omega
 refine⟨hI.qf,hI.sub,hI.lt,by rw[hI.len,l9.len],?_,?_,?_,?_,?_,?_,?_,?_,λq X b' o2 z2 hq hx fL=>hI.maps q X b' o2 z2 (l9.maps q X hq hx) hx fL,λq q' X X' b' o1 z1 o2 z2 hq hx fL uc xN kz=>hI.ua q q' X X' b' o1 z1 o2 z2 (l9.maps q X hq hx) hx fL (l9.maps q' X' uc xN) xN kz,λi x hx=> ?_⟩
 .intro q X b' o2 z2 hq hx fL N;obtain⟨cj3,y1,y2,y3,_⟩:=Gu hq hx;obtain⟨c2,et2,f1,f2,f3,f4⟩:=hI.oq q cj3 b' o2 z2 y1 y3 fL<|y2▸N;exact⟨c2,et2,f1,by rw[y2];exact f2,by rw[y2];exact f3,λi j e p v q1 q2 q3=>f4 i j e p v (by rw[<-y2];exact q1) q2 q3⟩
 .intro q X b' o2 z2 hq hx fL N;obtain⟨cj3,y1,y2,_,y5,_⟩:=Gu hq U;exact hI.live q cj3 b' o2 z2 y1 (y5 hx).1 fL<|y2▸N
 .intro q q' X X' b' o1 z1 o2 z2 hq hx fL uc xN kz N qD;obtain⟨cj3,y1,y2,_,y5,_⟩:=Gu hq U;obtain⟨Y',Gi,I0,_,y5',_⟩:=Gu uc U;exact hI.uniq q q' cj3 Y' b' o1 z1 o2 z2 y1 (y5 hx).1 fL Gi (y5' xN).1 kz (y2▸N)<|I0▸qD
 .intro q X b' o2 z2 hq hx fL N;obtain⟨cj3,y1,y2,_,_,y6⟩:=Gu hq U;rw[y2]at N;rcases y6 hx with O|rfl
  .rcases hI.tZ q cj3 b' o2 z2 y1 O fL N with hS|⟨jd,B',o3,z3,q1,q2,q3,qr,q4,q5⟩
   .exact .inl hS
   .by_cases hid:jd=id
    .subst hid;rw[hm]at q3;cases q3;rw[hB]at q1;cases q1;exact absurd qr hnr
    .exact .inr ⟨jd,B',o3,z3,l9.keep jd B' q1 q2 hid,q2,q3,qr,q4,by rw[y2];exact q5⟩
  .rw[hm]at fL;cases fL;rw[hB]at y1;cases y1;exact absurd N hnr
 .intro q r X Xr hq N SE h0;obtain⟨cj3,y1,_,y3,_⟩:=l9.old q X hq;obtain⟨cj4,z1,_,_,_,z5,_⟩:=l9.old r Xr SE;exact hI.qU q r cj3 cj4 y1 (y3▸N) z1 (z5 h0).1
 .intro q r X hq N;obtain⟨cj3,y1,_,y3,_⟩:=l9.old q X hq;rw[l9.len];exact hI.oP q r cj3 y1<|y3▸N
 .intro q X b' o2 z2 hq fL N;obtain⟨cj3,y1,y2,_,y4,_⟩:=l9.old q X hq;rw[y4];exact hI.Ci q cj3 b' o2 z2 y1 fL<|y2▸N
 .intro q X hq hx;obtain⟨cj3,y1,y2,_⟩:=l9.old q X hq;rw[y2];exact hI.syms q cj3 y1 (by rw[<-l9.syms q X cj3 hq y1];exact hx)
 .obtain⟨O,cj3,h2,h3⟩:=hI.gV i x hx;obtain⟨X,h4,h5⟩:=l9.gV i cj3 h2;exact⟨O,X,h4,h5.trans h3⟩
def Src(P:Program)(w:World)(S:Nat->Prop)(m:Mp)(z:Nat)(ys:l_ (l_ J))(u:Value):Prop:=
 ∃(ad:Option Addr) (cap:Nat) (news:l_ Value),u= .slice ad ys.length cap/\news.length=ys.length*z/\(∀cj2:World,cj2.heap=w.heap->(Builtin.firstCells z ys.length u).run P cj2= .ok news.toArray cj2)/\
  ∀(i j:Nat) e p v,ys[i]?=some e->e[j]?=some p->news[i*z+j]?=some v->cv w S m p v
def Gv(hI:Inv w0 Sa h S m w) {q:J} {u:Value} {ys:l_ (l_ J)} {z:Nat}(N:cv w S m q u)(hq:mT h q=some ys)(Mf:∀e∈ys,e.length=z):Src P w S m z ys u:=by
 have zero:∀(ad:Option Addr) (cap:Nat),ys=[]->Src P w S m z ys (.slice ad 0 cap):=by intro ad cap h0;subst h0;refine⟨ad,cap,[],rfl,sS,λcj2 _=> ?_,λi j e p v q1=>by simp at q1⟩;cases ad<;>simp [Builtin.firstCells,loadCells,loadCellsFrom]
 have row:∀(b o' cap:Nat) (c:Array Value) (et:TypeId) (fz:Nat×Nat),u= .slice (some ⟨b,o',none⟩) ys.length cap->w.heap[b]?=some (.cells c et fz)->o'+ys.length*z<=c.size->
   (∀(i j:Nat) e p v,ys[i]?=some e->e[j]?=some p->c[o'+i*z+j]?=some v->cv w S m p v)->Src P w S m z ys u:=by
  intro b o' cap c et fz hu hb nQ Y;have hl:((c.toList.drop o').take<|ys.length*z).length=ys.length*z:=by simp;omega
  refine⟨_,cap,(c.toList.drop o').take<|ys.length*z,hu,hl,λcj2 hW=> ?_,λi j e p v q1 q2 q3=> ?_⟩
  .rw[hu];refine run_firstCells_some cj2 z ys.length ⟨b,o',none⟩ _ _ _ hl λj v hj=> ?_;have xO:j<ys.length*z:=by have:=(bm.1 hj).1;omega
   rw[lH xO,iO]at hj;rw[jq,cell_of (by rw[hW];exact hb)];simpa using hj
  .have iH:=(bm.1 q3).1;rw[lH U,iO]at q3;exact Y i j e p v q1 q2 (by rw[Si];simpa using q3)
 have roc:cv w S m (.ro ys) u->Src P w S m z ys u:=by
  intro N;rcases wy N with⟨h0,ad,cap,hu⟩|⟨b,o',cap,sz,c,et,fz,hu,hS,hb,Ot,hl,iq,Y⟩
  .rw[hu];exact zero ad cap h0
  .by_cases h0:ys=[]
   .rw[hu];have:=zero (some ⟨b,o',none⟩) cap h0;have e:ys.length=0:=by rw[h0];rfl
    rw[e];exact this
   .obtain⟨y1,hy1⟩:=List.exists_mem_of_ne_nil _ h0;have kZ:sz=z:=by grind
    subst kZ;exact row b o' cap c et fz hu hb hl λi j e p v q1 q2 q3=> .st _ _<|Y i j e p v q1 q2 q3
 cases q with
 |dF=>
  cases hq;obtain⟨ad,rfl⟩:=vi N;exact zero ad 0 rfl
 |ro es=>
  cases hq;exact roc N
 |rf n f=>
  cases hq;exact roc<|Mb N
 |own id off len=>
  simp only[mT]at hq;split at hq
  .rename_i B hB;split at hq
   .rename_i iJ;cases hq;have AU:((B.es.drop off).take len).length=len:=by simp;omega
    rcases lx N with⟨rfl,ad,rfl⟩|⟨b,o',sz,cap,c,et,hu,hm,mE,hb,iq,hl⟩
    .exact zero ad 0 sS
    .obtain⟨c1,SB,e1,e2,e3,e4⟩:=hI.oq id B b o' sz hB iJ.1 hm (.inr mE);rw[hb]at e1;cases e1;by_cases h0:len=0
     .subst h0;rw[hu];have:=zero (some ⟨b,o'+off*sz,none⟩) cap sS;exact this
     .have hex:∃y1,y1∈(B.es.drop off).take len:=List.exists_mem_of_ne_nil _ (λe=>by rw[e]at AU;simp at AU;omega);obtain⟨y1,hy1⟩:=hex;have kZ:sz=z:=by grind
      subst kZ;have hmul:(off+len)*sz=off*sz+len*sz:=by grind
      have hle:(off+len)*sz<=B.es.length*sz:=il _ iJ.2;refine row b (o'+off*sz) cap c et (0,0) (by rw[AU];exact hu) hb (by rw[AU];omega) λi j e p v q1 q2 q3=> ?_;have hi:i<len:=by have:=(bm.1 q1).1;omega
      rw[lH hi,iO]at q1;refine e4 (off+i) j e p v q1 q2 ?_;rw[<-q3];congr 1;rw[ed];omega
   .cases hq
  .cases hq
 |_=>cases hq
def bb7(h:Hp) {id len:Nat} {B:dW}(hB:h[id]?=some B)(cy:B.st<=1)(hl:len=B.es.length):mT h (.own id 0 len)=some B.es:=by simp only[mT,hB];rw[if_pos ⟨cy,U⟩,hl,xu,Ao]
def xP(hI:Inv w0 Sa h S m w) {q:J} {u:Value} {ys:l_ (l_ J)} {ob:l_ Prop} {z:Nat}(N:cv w S m q u)(hq:u5 h q=some (ys,ob))(cJ:∀X∈ob,X)(Mf:∀e∈ys,e.length=z):Src P w S m z ys u:=by
 unfold u5 at hq;split at hq
 .split at hq
  .rename_i B hB;split at hq
   .rename_i cy;cases hq;exact Gv hI (qW N) (bb7 h hB cy<|cJ _ ch) Mf
   .cases hq
  .cases hq
 .split at hq
  .rename_i B hB;split at hq
   .split at hq
    .rename_i cy;cases hq;exact Gv hI N (by simp only[mT,hB];rw[if_pos ⟨cy,cJ _ ch⟩]) Mf
    .cases hq
   .split at hq
    .rename_i es kC;cases hq;exact Gv hI N kC Mf
    .cases hq
  .cases hq
 .split at hq
  .rename_i es kC;cases hq;exact Gv hI N kC Mf
  .cases hq
end
section
variable {t t2 e ty:TypeId}{z uT sLen sCap n cx:Nat}{zv:Value}{base ad:Option Addr}{news olds:l_ Value}{xs ys:l_ (l_ J)}
def au2(w:World)(need old:Nat)(e:TypeId):need<=Go.Question.cut (.appendCap need old e) (w.tape w.drawn<|.appendCap need old e):=by simp [Question.cut]
section
variable {P:Program} {w0:fR} {w:World} {Sa S:Nat->Prop} {h h':Hp} {m:Mp} {a:Act} {o:Oper} {T:l_ J} {s s':l8} {ob:l_ Prop} {v:J} {next:Act->World->Prop} {Q:Exit->Act->World->Prop}
structure Wc(P:Program)(t t2 e:TypeId)(z uT:Nat)(zv:Value):Prop where
 ut:P.underlying t=some (.slice e)
 ut2:∃e2,P.underlying t2=some (.slice e2)
 sz:Ch P e=some z
 bytes:(P.info? e).map (·.bytes)=some uT
 zero:oB P e=some zv
 zsz:zv.cells.size=z
def mH{w':World} (hA:Wc P t t2 e z uT zv)
  (hf:∀cj2:World,cj2.heap=w.heap->(Builtin.firstCells z n<|.slice ad n cx).run P cj2= .ok news.toArray cj2) (lu:sLen+n<=sCap)
  (cy:(match base with|some x=>storeCells (x.add<|sLen*z) news|none=>pure ()).run P w= .ok () w'):
  (Builtin.append_ #[t,t2] ty #[.slice base sLen sCap,.slice ad n cx]).run P w= .ok (.slice base (sLen+n) sCap) w':=by
 obtain⟨e2,Wd⟩:=hA.ut2;have hf0:=hf w rfl;cases base with
 |none=>
  simp at cy;subst cy;simp [Builtin.append_,bU hA.ut,bU Wd,dO hA.sz,Builtin.lenOf,lu,hf0]
 |some x=>
  simp at cy;simp [Builtin.append_,bU hA.ut,bU Wd,dO hA.sz,Builtin.lenOf,lu,hf0,cy]
def lM(hA:Wc P t t2 e z uT zv) (hb8:0<uT)
  (hf:∀cj2:World,cj2.heap=w.heap->(Builtin.firstCells z n<|.slice ad n cx).run P cj2= .ok news.toArray cj2)
  (ho:∀cj2:World,cj2.heap=w.heap->(Builtin.firstCells z sLen<|.slice base sLen sCap).run P cj2= .ok olds.toArray cj2) (lu: ¬sLen+n<=sCap) (nQ:(sLen+n)*uT<=pE):
  ∃(cap:Nat) (rest:l_ Value),sLen+n<=cap/\rest.length=(cap-(sLen+n))*z/\
  (Builtin.append_ #[t,t2] ty #[.slice base sLen sCap,.slice ad n cx]).run P w= .ok (.slice (some ⟨w.heap.size,0,none⟩) (sLen+n) cap) (w.drew.alloc<|.cells (olds++news++rest).toArray e):=by
 obtain⟨e2,Wd⟩:=hA.ut2;have hf0:=hf w.drew rfl;have ho0:=ho w.drew rfl;have iq:=growslice_fits (need:=sLen+n) (old:=sCap) (bytes:=uT) U nQ;refine⟨_,(Builtin.zeroCells zv.cells<|Go.Question.cut (.appendCap (sLen+n) sCap e) (w.tape w.drawn<|.appendCap (sLen+n) sCap e)-(sLen+n)).toList,au2 w (sLen+n) sCap e,by simp [Builtin.zeroCells,hA.zsz],?_⟩;cases hi:P.info? e with
 |none=>have:=hA.bytes;rw[hi]at this;cases this
 |some i=>
  have hb:i.bytes=uT:=by have:=hA.bytes;rw[hi]at this;simpa using this
  have hz:i.zero=some zv:=by have:=hA.zero;unfold oB at this;rw[hi]at this;simpa using this
  have b56: ¬(281474976710656<Builtin.nextslicecap (sLen+n) sCap*i.bytes):=by rw[hb];omega
  have We: ¬i.bytes=0:=U;simp [Builtin.append_,bU hA.ut,bU Wd,dO hA.sz,Builtin.lenOf,lu,typeInfo,zeroValue,hi,hz,We,b56,Question.forced,hf0,ho0,newRow];congr 2;apply Array.ext';simp
def wB {rest:l_ Value}(hxs:∀e∈xs,e.length=z) (hol:olds.length=xs.length*z) (ue:news.length=ys.length*z) (Mf:∀e∈ys,e.length=z)
  (ho:∀(i j:Nat) e p v,xs[i]?=some e->e[j]?=some p->olds[i*z+j]?=some v->cv w S m p v) (hn:∀(i j:Nat) e p v,ys[i]?=some e->e[j]?=some p->news[i*z+j]?=some v->cv w S m p v):
  (∀e∈xs++ys,e.length=z)/\(xs++ys).length*z<=(olds++news++rest).toArray.size/\
  ∀(i j:Nat) e p v,(xs++ys)[i]?=some e->e[j]?=some p->(olds++news++rest).toArray[i*z+j]?=some v->cv w S m p v:=by
 refine⟨λe F=>(kx.1 F).elim (hxs e) (Mf e),by simp [Nat.add_mul,hol,ue],λi j e p v q1 q2 q3=> ?_⟩;rw[sL]at q3;have hjz:j<z:=by have O:=(bm.1 q2).1;have:e.length=z:=(kx.1<|cw q1).elim (hxs e)<|Mf e;omega
 by_cases hi:i<xs.length
 .rw[dy hi]at q1;have:=wz (sz:=z) hi;rw[lG,dy U]at q3;exact ho i j e p v q1 q2 q3
 .rw[gj U]at q1;have hiy:=(bm.1 q1).1;have hsp:i*z=xs.length*z+(i-xs.length)*z:=nn U;have:=wz (sz:=z) hiy;rw[lG,gj U,hol,dy U,show i*z+j-xs.length*z=(i-xs.length)*z+j by omega]at q3;exact hn (i-xs.length) j e p v q1 q2 q3
def Mh(O:oA xs)(h2:oA ys):oA (xs++ys):=λe F=>(kx.1 F).elim (O e)<|h2 e
def mI {x y:Operand} (aX:o.op= .call ⟨.builtin .append,#[x,y],#[t,t2]⟩) {r:Value} {w':World}
  (eM:(Builtin.append_ #[t,t2] o.type #[a.eval x,a.eval y]).run P w= .ok r w'):(execOp a.eval o).run P w= .ok (.value r) w':=by
 simp [execOp,aX,resolve,invoke,builtin,eM]
def pI(hI:Inv w0 Sa h S m w):Inv w0 Sa h S m w.drew/\yx w S m w.drew S m:=by
 have hL:mi w S w.drew S:=⟨λ_ h=>h,λ_ _=>rfl,λ_ c _ h=>⟨c,h,rfl⟩⟩
 exact⟨hI.grown ⟨rfl,rfl,rfl,bE _,λ_ _=>rfl⟩,λp v hp=>hp.later hL λ_ _ h=>h⟩
def bb8(hI:Inv w0 Sa h S m w) {id:Nat} {B:dW}(hB:h[id]?=some B):∃b o' sz,m[id]?=some (b,o',sz):=by
 have:id<m.length:=by rw[hI.len];exact(bm.1 hB).1
 exact⟨m[id].1,m[id].2.1,m[id].2.2,by simp [this]⟩
def Mi (hI:Inv w0 Sa h S m w) {t t2 e:TypeId} {x y:Operand} {q:J} {z uT id off len:Nat} {zv:Value} {B:dW} {hA:Hp} {pr:l_ Nat} {ys:l_ (l_ J)} {sm:Bool}
  (aX:o.op= .call ⟨.builtin .append,#[x,y],#[t,t2]⟩) (hAT:Wc P t t2 e z uT zv) (We:0<uT) (hp:cv w S m (.own id off len) (a.eval x)) (hq:cv w S m q (a.eval y)) {obs:l_ Prop} (Fw:u5 h q=some (ys,obs)) (OW:∀X∈obs,X) (mE:0<z)
  (hB:h[id]?=some B) (cy:B.st=0) (hlen:off+len<=B.es.length) (hBz:B.sz=z) (l9:Zo h id B (off+len=B.es.length) hA) (au1:off+len=B.es.length->pr=id::B.par) (Eu:∀q∈pr,q=id\/q∈B.par)
  (lu:(len+ys.length)*uT<=pE) (hE:JS z ys) (vd:sm=true->oA ((B.es.drop off).take len++ys))
  (hn:∀v' w',mv w0 Sa (hA++ [⟨(B.es.drop off).take len++ys,0,pr,z,sm,false⟩]) S m w (.own h.length 0<|len+ys.length) v' w'->next (a.put o.dst v') w'):o.wp P a w next Q:=by
 obtain⟨b,o',sz,hm⟩:=bb8 hI hB;by_cases ub:Rl B.es sz
 case neg=>
  have oS:B.es=[]:=by grind
  have hs0:sz=0:=by
   rcases ER sz with h|h
   .exact h
   .exact absurd (.inr h) ub
  have Wb:len=0/\off=0:=by rw[oS]at hlen;simp at hlen;omega
  obtain⟨rfl,rfl⟩:=Wb;obtain⟨ad,hx⟩:∃ad,a.eval x= .slice ad 0 0:=by
   rcases lx hp with⟨_,h⟩|⟨b1,o1,Zi,cap,c1,SB,_,L8,h0,_⟩
   .exact h
   .rw[hm]at L8;cases L8;omega
  have DI:=hI.bT2 hB cy hm ub l9;obtain⟨ad2,cx,news,hy,ue,hf,lK⟩:=xP (P:=P) (z:=z) hI hq Fw OW (λe F=>(hE e F).1);rw[hy]at hf;have bt6:∀q∈pr,q<hA.length:=λq hq=>by
   rw[l9.len];rcases Eu q hq with rfl|hp
   .exact(bm.1 hB).1
   .exact hI.oP id q B hB hp
  have bt7:∀q∈pr,∀cj3,hA[q]?=some cj3->cj3.st≠0:=λq hq cj3 hY h0=>by
   obtain⟨cj4,z1,_,_,_,z5,_⟩:=l9.old q cj3 hY;rcases Eu q hq with rfl|hp
   .exact(z5 h0).2 rfl
   .exact hI.qU id q B cj4 hB hp z1 (z5 h0).1
  have e0:(B.es.drop 0).take 0++ys=ys:=sS;rw[e0]at hn vd;by_cases Gm:ys=[]
  .subst Gm;have Gw:=oL (by rw[ue];simp);subst Gw;have eM:=mH (P:=P) (w:=w) (ty:=o.type) (base:=ad) (sLen:=0) (sCap:=0) (w':=w) hAT hf sS (by cases ad<;>simp [storeCells]);rw[<-hx,<-hy]at eM;obtain⟨Ck,Gx⟩:=DI.bz8 z pr bt6 bt7;refine gC (mI aX eM)<|hn _ _ ⟨S,_,Ck,Gx,?_⟩;exact cv.vZ _ _ _
  .have DJ:=sM.2 Gm;have ho:∀cj2:World,cj2.heap=w.heap->(Builtin.firstCells z 0<|.slice ad 0 0).run P cj2= .ok ([]:l_ Value).toArray cj2:=by intro cj2 _;cases ad<;>simp [Builtin.firstCells,loadCells,loadCellsFrom]
   obtain⟨cap,rest,iq,Fy,eM⟩:=lM (P:=P) (w:=w) (ty:=o.type) (base:=ad) (sLen:=0) (sCap:=0) (olds:=[]) hAT We hf ho U lu;rw[<-hx,<-hy]at eM;obtain⟨Ck,Gx⟩:=pI DI;obtain⟨f1,f2,f3⟩:=wB (w:=w.drew) (S:=S) (m:=m) (xs:=[]) (ys:=ys) (olds:=[]) (news:=news) (rest:=rest) (z:=z) sS sS ue (λe F=>(hE e F).1)
    sS (λi j e p v q1 q2 q3=>Gx _ _ (lK i j e p v q1 q2 q3))
   rw[nL]at f1 f2 f3;obtain⟨hI3,hG3⟩:=Ck.L9 ([]++news++rest).toArray e ys z pr bt6 bt7 f1 f2 f3 vd;refine gC (mI aX eM) (hn _ _ ⟨_,_,hI3,λp v hp=>hG3 _ _ (Gx _ _ hp),?_⟩);have:=cv.own (w:=w.drew.alloc (.cells ([]++news++rest).toArray e)) (S:=S) (m:=m++ [(w.drew.heap.size,0,z)]) h.length 0 (0+ys.length) cap w.drew.heap.size 0 z ([]++news++rest).toArray e
    (by rw[<-hI.len];simp) mE (dJ _ _) iq (by
     have:cap*z=ys.length*z+(cap-(0+ys.length))*z:=nn U;have mE:(0+cap)*z=cap*z:=sS;simp only[nL,rI,br,ue,Fy];omega)
   simpa using this
 have kZ:sz=z:=by rw[<-hI.Ci id B b o' sz hB hm ub,hBz]
 subst kZ;obtain⟨c,et,e1,e2,e3,e4⟩:=hI.oq id B b o' sz hB U hm ub;obtain⟨ad2,cx,news,hy,ue,hf,lK⟩:=xP (P:=P) (z:=sz) hI hq Fw OW λe F=>(hE e F).1;rw[hy]at hf;have hmul:(off+len)*sz=off*sz+len*sz:=by grind
 have hle:(off+len)*sz<=B.es.length*sz:=il _ hlen;have AU:((B.es.drop off).take len).length=len:=by simp;omega
 have Ja:∀v∈news,v.oneCell'=true:=by
  intro v hv;obtain⟨k,hk⟩:=mY hv;have hkl:k<ys.length*sz:=by have:=(bm.1 hk).1;omega
  have hsp:0<sz:=by
   rcases ER sz with h0|h0
   .rw[h0]at hkl;omega
   .exact h0
  have hi:=(ES hsp).2 hkl;have hj:k%sz<sz:=Au _ hsp;have hg:ys[k/sz]?=some ys[k/sz]:=sS;obtain⟨l1,l2⟩:=hE ys[k/sz]<|rF hi;have hg2:ys[k/sz][k%sz]?=some (ys[k/sz][k%sz]' U):=by rw[bX]
  refine DE (lK (k/sz) (k%sz) _ _ v hg hg2 ?_)<|cU.1 l2 _<|cw hg2;rw[xx,Nat.div_add_mod];exact hk
 rcases lx hp with⟨rfl,ad,hx⟩|⟨b1,o1,Zi,cap,c1,SB,hx,L8,_,hb1,iq,zg⟩
 .
  by_cases Gm:ys.length=0
  .have Gw:=oL (by rw[ue,Gm];simp);subst Gw;rw[Gm]at hf hy;have eM:=mH (P:=P) (w:=w) (ty:=o.type) (base:=ad) (sLen:=0) (sCap:=0) (w':=w) hAT hf U (by cases ad<;>simp [storeCells]);rw[<-hx,<-hy]at eM;obtain⟨mV,hG⟩:=hI.Gt (news:=[]) hB cy hm ub mE hlen l9 au1 Eu (λe F=>(hE e F).1) ue (λi j e p v q1 q2 q3=>by simp at q3) e1 (by simp;omega) vd;have bT3:w.setRow b (c.toList.take (o'+(off+0)*sz)++ []++c.toList.drop (o'+(off+0)*sz+([]:l_ Value).length)).toArray=w:=by simp only[List.append_nil,qj,rG,wu,Array.toArray_toList];exact setRow_self w b c et (0,0) e1
   rw[bT3]at mV hG;refine gC (mI aX eM)<|hn _ _ ⟨S,_,mV,hG,?_⟩;rw[Gm];rw[hx];exact cv.vZ _ _ _
  .have ho:∀cj2:World,cj2.heap=w.heap->(Builtin.firstCells sz 0<|.slice ad 0 0).run P cj2= .ok ([]:l_ Value).toArray cj2:=by intro cj2 _;cases ad<;>simp [Builtin.firstCells,loadCells,loadCellsFrom]
   obtain⟨cap,rest,iq,Fy,eM⟩:=lM (P:=P) (w:=w) (ty:=o.type) (base:=ad) (sLen:=0) (sCap:=0) (olds:=[]) hAT We hf ho U lu;rw[<-hx,<-hy]at eM;obtain⟨DI,OX⟩:=hI.bA2 hB cy hm ub l9;obtain⟨Ck,Gx⟩:=pI DI;obtain⟨f1,f2,f3⟩:=wB (w:=w.drew) (S:=λx=>S x\/x=b) (m:=m) (xs:=(B.es.drop off).take 0) (ys:=ys) (olds:=[]) (news:=news) (rest:=rest) (z:=sz) sS sS ue (λe F=>(hE e F).1)
    sS (λi j e p v q1 q2 q3=>Gx _ _ (OX _ _<|lK i j e p v q1 q2 q3))
   obtain⟨hI3,hG3⟩:=Ck.L9 ([]++news++rest).toArray e _ sz pr (λq hq=>by
     rw[l9.len];rcases Eu q hq with rfl|hp
     .exact(bm.1 hB).1
     .exact hI.oP id q B hB hp) (λq hq cj3 hY h0=>by
     obtain⟨cj4,z1,_,_,_,z5,_⟩:=l9.old q cj3 hY;rcases Eu q hq with rfl|hp
     .exact(z5 h0).2 rfl
     .exact hI.qU id q B cj4 hB hp z1 (z5 h0).1) f1 f2 f3 vd
   refine gC (mI aX eM) (hn _ _ ⟨_,_,hI3,λp v hp=>hG3 _ _ (Gx _ _<|OX _ _ hp),?_⟩);have:=cv.own (w:=w.drew.alloc (.cells ([]++news++rest).toArray e)) (S:=λx=>S x\/x=b) (m:=m++ [(w.drew.heap.size,0,sz)]) h.length 0 (0+ys.length) cap w.drew.heap.size 0 sz ([]++news++rest).toArray e
    (by rw[<-hI.len];simp) mE (dJ _ _) iq (by
     have:cap*sz=ys.length*sz+(cap-(0+ys.length))*sz:=nn U;have mE:(0+cap)*sz=cap*sz:=sS;simp only[nL,rI,br,ue,Fy];omega)
   simpa using this
 .rw[hm]at L8;cases L8;rw[e1]at hb1;cases hb1;by_cases hin:len+ys.length<=cap
  .have nQ:o'+(off+len)*sz+news.length<=c.size:=by
    have:(off+cap)*sz=(off+len)*sz+ys.length*sz+(cap-(len+ys.length))*sz:=by rw[<-ed,<-ed];congr 1;omega
    omega
   have au3:=run_storeCells_at (P:=P) b (o'+(off+len)*sz) et news 0 c w e1 (by simpa using nQ) Ja;simp only[rG]at au3;have eM:=mH (P:=P) (w:=w) (ty:=o.type) (base:=some ⟨b,o'+off*sz,none⟩) (sLen:=len) (sCap:=cap) hAT hf hin (by
    simp only[jq];rw[show o'+off*sz+len*sz=o'+(off+len)*sz by omega];exact au3)
   rw[<-hx,<-hy]at eM;obtain⟨mV,hG⟩:=hI.Gt hB cy hm ub mE hlen l9 au1 Eu (λe F=>(hE e F).1) ue lK e1 nQ vd;refine gC (mI aX eM) (hn _ _ ⟨S,_,mV,hG,?_⟩);have:=cv.own (w:=w.setRow b (c.toList.take (o'+(off+len)*sz)++news++c.toList.drop (o'+(off+len)*sz+news.length)).toArray) (S:=S) (m:=m++ [(b,o'+off*sz,sz)]) h.length 0 (len+ys.length) cap b (o'+off*sz) sz _ et
    (by rw[<-hI.len];simp) mE (setRow_heap w b c _ et (0,0) e1) hin (by
     have:(off+cap)*sz=off*sz+cap*sz:=ed _ _ _;simp;omega)
   simpa using this
  .obtain⟨ad3,cx3,olds,hy3,hol,ho,bT4⟩:=Gv (P:=P) (z:=sz) (q:= .own id off len) (ys:=(B.es.drop off).take len) hI hp (by
     simp only[mT,hB];rw[if_pos ⟨U,hlen⟩]) (λe F=>e3 e (uW (rE F)))
   rw[AU]at ho hol;rw[hx]at ho;obtain⟨wC,rest,bT5,Fy,eM⟩:=lM (P:=P) (w:=w) (ty:=o.type) (base:=some ⟨b,o'+off*sz,none⟩) (sLen:=len) (sCap:=cap) (olds:=olds) hAT We hf ho hin lu;rw[<-hx,<-hy]at eM;obtain⟨DI,OX⟩:=hI.bA2 hB cy hm ub l9;obtain⟨Ck,Gx⟩:=pI DI;obtain⟨f1,f2,f3⟩:=wB (w:=w.drew) (S:=λx=>S x\/x=b) (m:=m) (xs:=(B.es.drop off).take len) (ys:=ys) (olds:=olds) (news:=news) (rest:=rest) (z:=sz)
    (λe F=>e3 e (uW<|rE F)) (by rw[AU];exact hol) ue (λe F=>(hE e F).1)
    (λi j e p v q1 q2 q3=>Gx _ _ (OX _ _<|bT4 i j e p v q1 q2 q3)) (λi j e p v q1 q2 q3=>Gx _ _ (OX _ _<|lK i j e p v q1 q2 q3))
   obtain⟨hI3,hG3⟩:=Ck.L9 (olds++news++rest).toArray e _ sz pr (λq hq=>by
     rw[l9.len];rcases Eu q hq with rfl|hp
     .exact(bm.1 hB).1
     .exact hI.oP id q B hB hp) (λq hq cj3 hY h0=>by
     obtain⟨cj4,z1,_,_,_,z5,_⟩:=l9.old q cj3 hY;rcases Eu q hq with rfl|hp
     .exact(z5 h0).2 rfl
     .exact hI.qU id q B cj4 hB hp z1 (z5 h0).1) f1 f2 f3 vd
   refine gC (mI aX eM) (hn _ _ ⟨_,_,hI3,λp v hp=>hG3 _ _ (Gx _ _<|OX _ _ hp),?_⟩);have:=cv.own (w:=w.drew.alloc (.cells (olds++news++rest).toArray e)) (S:=λx=>S x\/x=b) (m:=m++ [(w.drew.heap.size,0,sz)]) h.length 0 (len+ys.length) wC w.drew.heap.size 0 sz (olds++news++rest).toArray e
    (by rw[<-hI.len];simp) mE (dJ _ _) bT5 (by
     have:wC*sz=(len+ys.length)*sz+(wC-(len+ys.length))*sz:=nn U;have mE:(0+wC)*sz=wC*sz:=sS;have h2:(len+ys.length)*sz=len*sz+ys.length*sz:=by grind
     simp only[rI,br,hol,ue,Fy];omega)
   simpa using this
def Mj (hI:Inv w0 Sa h S m w) {t t2:TypeId} {x y:Operand} {p q r:J} {z2:Nat} (aX:o.op= .call ⟨.builtin .append,#[x,y],#[t,t2]⟩) (hp:cv w S m p (a.eval x)) (hq:cv w S m q (a.eval y)) (ht2:qm P t2=some z2)
  (ov:AI P h t p q=some (r,h',ob)) (cJ:∀X∈ob,X) (hn:∀v' w',mv w0 Sa h' S m w r v' w'->next (a.put o.dst v') w'):o.wp P a w next Q:=by
 obtain⟨e2,Wd,_⟩:=kE ht2;unfold AI at ov;split at ov
 .rename_i e hu;split at ov
  .rename_i z uT ys obs hz hby Fw;split at ov
   .rename_i SI;obtain⟨mE,We,hzs⟩:=SI;obtain⟨zv,hzv,hzc⟩:∃zv,oB P e=some zv/\zv.cells.size=z:=by
     cases Ot:oB P e with
     |none=>rw[Ot]at hzs;cases hzs
     |some zv=>rw[Ot]at hzs;exact⟨zv,rfl,by simpa using hzs⟩
    have hA:Wc P t t2 e z uT zv:=⟨hu,⟨e2,Wd⟩,hz,hby,hzv,hzc⟩
    split at ov
    .
     obtain⟨ad,hx⟩:=vi hp;split at ov
     .
      cases ov;have lu:ys.length*uT<=pE:=cJ _ sS;have hE:JS z ys:=rQ<|cJ _ sS;have OW:∀X∈obs,X:=by grind
      obtain⟨ad2,cx,news,hy,ue,hf,lK⟩:=xP (P:=P) (z:=z) hI hq Fw OW λe F=>(hE e F).1;rw[hy]at hf;by_cases Gm:ys=[]
      .subst Gm;have Gw:=oL (by rw[ue];simp);subst Gw;have eM:=mH (P:=P) (w:=w) (ty:=o.type) (base:=ad) (sLen:=0) (sCap:=0) (w':=w) hA hf sS (by cases ad<;>simp [storeCells]);rw[<-hx,<-hy]at eM;obtain⟨Ck,Gx⟩:=hI.bz8 z [] (λ_ h=>by cases h) (λ_ h=>by cases h);refine gC (mI aX eM)<|hn _ _ ⟨S,_,Ck,Gx,?_⟩;exact .bf _ _ _<|cv.vZ _ _ _
      .have DJ:=sM.2 Gm;have ho:∀cj2:World,cj2.heap=w.heap->(Builtin.firstCells z 0<|.slice ad 0 0).run P cj2= .ok ([]:l_ Value).toArray cj2:=by intro cj2 _;cases ad<;>simp [Builtin.firstCells,loadCells,loadCellsFrom]
       obtain⟨cap,rest,iq,Fy,eM⟩:=lM (P:=P) (w:=w) (ty:=o.type) (base:=ad) (sLen:=0) (sCap:=0) (olds:=[]) hA We hf ho U (by simpa using lu);rw[<-hx,<-hy]at eM;obtain⟨DI,OX⟩:=pI hI;obtain⟨f1,f2,f3⟩:=wB (w:=w.drew) (S:=S) (m:=m) (xs:=[]) (ys:=ys) (olds:=[]) (news:=news) (rest:=rest) (z:=z) sS sS ue (λe F=>(hE e F).1)
        sS (λi j e p v q1 q2 q3=>OX _ _ (lK i j e p v q1 q2 q3))
       rw[nL]at f1 f2 f3;obtain⟨Ck,Gx⟩:=DI.alloc ([]++news++rest).toArray e ys z f1 f2 f3 (sm:=true) (λ_=>OK (cJ _ sS));refine gC (mI aX eM) (hn _ _ ⟨S,_,Ck,λp v hp=>Gx _ _ (OX _ _ hp),.bf _ _ _ ?_⟩);have:=cv.own (w:=w.drew.alloc (.cells ([]++news++rest).toArray e)) (S:=S) (m:=m++ [(w.drew.heap.size,0,z)]) h.length 0 (0+ys.length) cap w.drew.heap.size 0 z ([]++news++rest).toArray e
        (by rw[<-hI.len];simp) mE (dJ _ _) iq (by
         have:cap*z=ys.length*z+(cap-(0+ys.length))*z:=nn U;have mE:(0+cap)*z=cap*z:=sS;simp only[nL,rI,br,ue,Fy];omega)
       simpa using this
     split at ov
     .cases ov;have OW:=cJ;obtain⟨ad2,cx,news,hy,ue,hf,_⟩:=xP (P:=P) (z:=z) hI hq Fw OW sS;have nP:=oL (by simpa using ue);subst nP;rw[hy]at hf;simp only[qj]at hf hy;have eM:=mH (P:=P) (w:=w) (ty:=o.type) (base:=ad) (sLen:=0) (sCap:=0) (w':=w) hA hf U (by cases ad<;>simp [storeCells]);rw[<-hx,<-hy]at eM;exact gC (mI aX eM) (hn _ _<|bG hI<|by simpa [hx]using hp)
     .rename_i y1 yr;cases ov;have lu:(yr.length+1)*uT<=pE:=cJ _ sS;have hE:JS z (y1::yr):=rQ (cJ _ sS);have OW:∀X∈obs,X:=by grind
      obtain⟨ad2,cx,news,hy,ue,hf,lK⟩:=xP (P:=P) (z:=z) hI hq Fw OW λe F=>(hE e F).1;rw[hy]at hf;have ho:∀cj2:World,cj2.heap=w.heap->(Builtin.firstCells z 0<|.slice ad 0 0).run P cj2= .ok ([]:l_ Value).toArray cj2:=by intro cj2 _;cases ad<;>simp [Builtin.firstCells,loadCells,loadCellsFrom]
      obtain⟨cap,rest,iq,Fy,eM⟩:=lM (P:=P) (w:=w) (ty:=o.type) (base:=ad) (sLen:=0) (sCap:=0) (olds:=[]) hA We hf ho sS (by simpa using lu);rw[<-hx,<-hy]at eM;obtain⟨DI,OX⟩:=pI hI;obtain⟨f1,f2,f3⟩:=wB (w:=w.drew) (S:=S) (m:=m) (xs:=[]) (ys:=y1::yr) (olds:=[]) (news:=news) (rest:=rest) (z:=z) sS sS ue (λe F=>(hE e F).1)
       sS (λi j e p v q1 q2 q3=>OX _ _ (lK i j e p v q1 q2 q3))
      rw[nL]at f1 f2 f3;obtain⟨Ck,Gx⟩:=DI.alloc ([]++news++rest).toArray e (y1::yr) z f1 f2 f3 (sm:=false) (λh=>by cases h);refine gC (mI aX eM) (hn _ _ ⟨S,_,Ck,λp v hp=>Gx _ _ (OX _ _ hp),?_⟩);have:=cv.own (w:=w.drew.alloc (.cells ([]++news++rest).toArray e)) (S:=S) (m:=m++ [(w.drew.heap.size,0,z)]) h.length 0 (0+(y1::yr).length) cap w.drew.heap.size 0 z ([]++news++rest).toArray e
       (by rw[<-hI.len];simp) mE (dJ _ _) iq (by
        have:cap*z=(y1::yr).length*z+(cap-(0+(y1::yr).length))*z:=nn U;have mE:(0+cap)*z=cap*z:=sS;simp only[nL,rI,br,ue,Fy];omega)
      simpa using this
    .rename_i id len;split at ov
     .rename_i B hB;split at ov
      .rename_i iJ;obtain⟨cy,hBz,hBs⟩:=iJ;cases ov;have hle:len=B.es.length:=cJ _ sS;have e0:(B.es.drop 0).take len++ys=B.es++ys:=by grind
       refine Mi (off:=0) (pr:=id::B.par) hI aX hA We (qW hp) hq Fw (λX hX=>cJ X (by simp [hX])) mE hB cy U hBz (Gs hB U) (λ_=>rfl) (λq hq=>by simpa using hq) (cJ _ sS) (rQ<|cJ _ sS) (sm:=true) (λ_=>by rw[e0];exact Mh (hI.syms id B hB hBs) (OK<|cJ _ sS)) ?_;rw[e0];rintro v' w' ⟨S',m',q1,q2,q3⟩;exact hn v' w' ⟨S',m',q1,q2,.bf _ _ _ q3⟩
      .cases ov
     .cases ov
    .rename_i id off len;split at ov
     .rename_i B hB;split at ov
      .rename_i iJ;obtain⟨hBs,cy,hlen,hBz⟩:=iJ;split at ov
       .rename_i Mg;cases ov;exact Mi hI aX hA We hp hq Fw (λX hX=>cJ X (by simp [hX])) mE hB cy hlen hBz (Gs hB Mg) (λ_=>rfl) (λq hq=>by simpa using hq) (cJ _ sS) (rQ<|cJ _ sS) (sm:=false) (λh=>by cases h) hn
       .rename_i Mg;cases ov;exact Mi hI aX hA We hp hq Fw (λX hX=>cJ X (by simp [hX])) mE hB cy hlen hBz (OU hB λq hq cj3 hY=>hI.qU id q B cj3 hB hq hY) (λh=>absurd h Mg) (λq hq=>by cases hq) (cJ _ sS) (rQ<|cJ _ sS) (sm:=false) (λh=>by cases h) hn
      .cases ov
     .cases ov
    .cases ov
   .cases ov
  .cases ov
 .cases ov
end
end
section
variable {f:J->Option (J×l_ Nat)}{g:FuncId}
section
variable {E:Env} {P:Program} {w0:fR} {w:World} {Sa S:Nat->Prop} {h h':Hp} {m:Mp} {a:Act} {o:Oper} {T:l_ J} {s s':l8} {ob:l_ Prop} {v:J} {next:Act->World->Prop} {Q:Exit->Act->World->Prop}
theorem uf:∀ {cs ds:l_ J} {vis:l_ Nat},tw f cs=some (ds,vis)->ds.length=cs.length/\
  ∀(i:Nat) d,ds[i]?=some d->∃c v,cs[i]?=some c/\f c=some (d,v)/\∀q∈v,q∈vis
 | [],ds,vis,F=>by simp [tw]at F;obtain⟨rfl,rfl⟩:=F;simp
 |c::cs,ds,vis,F=>by
  simp only[tw]at F;split at F
  .rename_i d v hd;split at F
   .rename_i ds' vs hds;cases F;obtain⟨O,h2⟩:=uf hds;refine⟨by simp [O],λi d' hi=> ?_⟩;cases i with
    |zero=>simp at hi;subst hi;exact⟨c,v,rfl,hd,λq hq=>qO _ hq⟩
    |succ i=>
     simp at hi;obtain⟨c',v',q1,q2,q3⟩:=h2 i d' hi;exact⟨c',v',by simpa using q1,q2,λq hq=>tm _ (q3 q hq)⟩
   .cases F
  .cases F
theorem JZ:∀ {cs ds:l_ (l_ J)} {vis:l_ Nat},OG f cs=some (ds,vis)->ds.length=cs.length/\
  ∀(i:Nat) d,ds[i]?=some d->∃c v,cs[i]?=some c/\tw f c=some (d,v)/\∀q∈v,q∈vis
 | [],ds,vis,F=>by simp [OG]at F;obtain⟨rfl,rfl⟩:=F;simp
 |c::cs,ds,vis,F=>by
  simp only[OG]at F;split at F
  .rename_i d v hd;split at F
   .rename_i ds' vs hds;cases F;obtain⟨O,h2⟩:=JZ hds;refine⟨by simp [O],λi d' hi=> ?_⟩;cases i with
    |zero=>simp at hi;subst hi;exact⟨c,v,rfl,hd,λq hq=>qO _ hq⟩
    |succ i=>
     simp at hi;obtain⟨c',v',q1,q2,q3⟩:=h2 i d' hi;exact⟨c',v',by simpa using q1,q2,λq hq=>tm _ (q3 q hq)⟩
   .cases F
  .cases F
def zh {α:Type}(l:l_ α)(d:α):((List.range l.length).map λi=>l.getD i d)=l:=by
 apply k6;intro i;by_cases hi:i<l.length
 .simp [hi,List.getD]
 .simp [hi]
def Zq {l:l_ (l_ J)} {off len:Nat}(h:off+len<=l.length):((List.range len).map λi=>l.getD (off+i) [])=(l.drop off).take len:=by
 apply k6;intro i;by_cases hi:i<len
 .rw[lH hi,iO];have:off+i<l.length:=U;simp [hi,List.getD,this]
 .rw[gx (by simp;omega),gx (by simp;omega)]
def Mk(hI:Inv w0 Sa h S m w) {R:Nat->Prop}(hSR:∀b,S b->R b):∀ {n:Nat} {p p':J} {vis:l_ Nat} {u:Value},exp h n p=some (p',vis)->(∀q∈vis,∀B b o sz,h[q]?=some B->B.st<=1->m[q]?=some (b,o,sz)->Rl B.es sz->b<w.heap.size->R b)->(∀X∈ou h n p,X)->cv w S m p u->cf w R p' u:=by
 intro n
 induction n with
 |zero=>intro p p' vis u F;simp [exp]at F
 |succ n ih=>
  intro p p' vis u F hv hO N;have lst:∀ {cs ds:l_ J} {bA3:l_ Nat} {vs:Array Value},tw (exp h n) cs=some (ds,bA3)->(∀X∈cs.flatMap (ou h n),X)->(∀q∈bA3,q∈vis)->cs.length=vs.size->(∀(i:Nat) c v,cs[i]?=some c->vs[i]?=some v->cv w S m c v)->
    ds.length=vs.size/\∀(i:Nat) c v,ds[i]?=some c->vs[i]?=some v->cf w R c v:=by
   intro cs ds bA3 vs hL hO' OL hl Y;obtain⟨O,h2⟩:=uf hL;refine⟨U,λi d v q1 q2=> ?_⟩;obtain⟨c,v',e1,e2,e3⟩:=h2 i d q1;exact ih e2 (λq hq=>hv q (OL q<|e3 q hq)) (λX hX=>hO' X (tn.2 ⟨c,cw e1,hX⟩))<|Y i c v e1 q2
  unfold exp at F;split at F
  .cases F;rw[jr N];exact .sc _
  .cases F;rw[py N];exact .sc _
  .cases F;obtain⟨ad,rfl⟩:=vi N;exact .rf _ _ _<|.Fu _ _
  .cases F;refine .rf _ _ _ ?_;rw[zh];cases N with
   |st _ _ h=>exact h.later hSR λ_ _=>rfl
  .cases F;cases N with
   |st _ _ h=>exact h.later hSR λ_ _=>rfl
  .split at F
   .rename_i l v hL;cases F;obtain⟨vs,rfl,hl,Y⟩:=AP N;obtain⟨q1,q2⟩:=lst hL (by simpa only[ou]using hO) (λ_ h=>h) hl Y;exact .agg _ _ q1 q2
   .cases F
  .split at F
   .rename_i l v hL;cases F;obtain⟨vs,rfl,hl,Y⟩:=Fv N;obtain⟨q1,q2⟩:=lst hL (by simpa only[ou]using hO) (λ_ h=>h) hl Y;exact .qS _ _ _ q1 q2
   .cases F
  .split at F
   .rename_i l v hL;cases F;obtain⟨vs,rfl,hl,Y⟩:=Mc N;obtain⟨q1,q2⟩:=lst hL (by simpa only[ou]using hO) (λ_ h=>h) hl Y;exact .bg _ _ q1 q2
   .cases F
  .rename_i id off len;split at F
   case h_2=>cases F
   rename_i B0 R5;split at F
   .
    rename_i SA;split at F
    .rename_i cy;cases F;have hlen:=hO _ (by simp only[ou,R5,SA];exact ch);have AV:=hI.syms id B0 R5 SA;refine .rf _ _ _ ?_;rw[Zq hlen];have AU:((B0.es.drop off).take len).length=len:=by simp;omega
     rcases lx N with⟨rfl,ad,rfl⟩|⟨b,o',sz,cap,c,et,rfl,hm,mE,hb,iq,hl⟩
     .rw[List.take_zero];exact .Fu _ _
     .obtain⟨c1,SB,e1,e2,e3,e4⟩:=hI.oq id B0 b o' sz R5 cy hm (.inr mE);rw[hb]at e1;cases e1;have hmul:(off+len)*sz=off*sz+len*sz:=by grind
      have hle:(off+len)*sz<=B0.es.length*sz:=il _ hlen;have:=cf.ro (w:=w) (S:=R) ((B0.es.drop off).take len) b (o'+off*sz) cap sz c et (0,0) (hv id sS B0 b o' sz R5 cy hm (.inr mE)<|lt_of_block hb) hb
       (λe F=>e3 e (uW (rE F))) (by rw[AU];omega) U (λi j e p v q1 q2 q3=>by
       have hi:i<len:=by have:=(bm.1 q1).1;omega
       rw[lH hi,iO]at q1;have hs:=cU.1 (AV e (cw q1)) p (cw q2);refine(AS (e4 (off+i) j e p v q1 q2 ?_) hs).later hSR λ_ _=>rfl;rw[<-q3];congr 1;rw[ed];omega)
      rw[AU]at this;exact this
    .cases F
   rename_i SA;split at F
   .rename_i es kC;split at F
    .rename_i l v hL;cases F;have hO':∀e∈es,∀X∈e.flatMap (ou h n),X:=λe F X hX=>hO X (by simp only[ou,R5,SA,kC];exact tn.2 ⟨e,F,hX⟩);refine .rf _ _ _ ?_;rw[zh];simp only[mT]at kC;split at kC
     .rename_i B hB;split at kC
      .rename_i iJ;cases kC;obtain⟨O,h2⟩:=JZ hL;have AU:((B.es.drop off).take len).length=len:=by simp;omega
       rcases lx N with⟨rfl,ad,rfl⟩|⟨b,o',sz,cap,c,et,rfl,hm,mE,hb,iq,hl⟩
       .have:l=[]:=oL (by rw[O];simp);subst this;exact .Fu _ _
       .by_cases h0:len=0
        .subst h0;have:l=[]:=oL (by rw[O];simp);subst this;exact .Fu _ _
        .obtain⟨c1,SB,e1,e2,e3,e4⟩:=hI.oq id B b o' sz hB iJ.1 hm (.inr mE);rw[hb]at e1;cases e1;have Zr:l.length=len:=U;have hmul:(off+len)*sz=off*sz+len*sz:=by grind
         have hle:(off+len)*sz<=B.es.length*sz:=il _ iJ.2;have key:∀(i:Nat) d,l[i]?=some d->∃e v,B.es[off+i]?=some e/\tw (exp h n) e=some (d,v)/\∀q∈v,q∈id::v:=by
          intro i d hi;obtain⟨e,v',q1,q2,_⟩:=h2 i d hi;have oR:i<len:=by have:=(bm.1 hi).1;omega
          rw[lH oR,iO]at q1;exact⟨e,v',q1,q2,λq hq=>fh _ hq⟩
         have:=cf.ro (w:=w) (S:=R) l b (o'+off*sz) cap sz c et (0,0) (hv id sS B b o' sz hB iJ.1 hm (.inr mE) (lt_of_block hb)) hb (by
           intro d hd;obtain⟨i,hi⟩:=mY hd;obtain⟨e,v',q1,q2,_⟩:=key i d hi;rw[(uf q2).1];exact e3 e (cw q1)) (by rw[Zr];omega) U (by
           intro i j d p v1 q1 q2 q3;obtain⟨e,v',f1,f2,f3⟩:=h2 i d q1;have oR:i<len:=by have:=(bm.1 q1).1;omega
           have bA4:=cw f1;rw[lH oR,iO]at f1;obtain⟨g1,g2⟩:=uf f2;obtain⟨p0,v2,k1,k2,k3⟩:=g2 j p q2;refine ih k2 (λq hq=>hv q (fh _ (f3 q (k3 q hq)))) (λX hX=>hO' e bA4 X (tn.2 ⟨p0,cw k1,hX⟩)) (e4 (off+i) j e p0 v1 f1 k1 ?_);rw[<-q3];congr 1;rw[ed];omega)
         rw[Zr]at this;exact this
      .cases kC
     .cases kC
    .cases F
   .cases F
  .rename_i id len;split at F
   .rename_i B hB;split at F
    .rename_i cy;obtain⟨cy,SA⟩:=cy;cases F;have hlen:=hO _ (by simp only[ou,hB];exact ch);have AV:=hI.syms id B hB SA;refine .rf _ _ _ ?_;rw[hlen,zh];rcases lx (qW N)with⟨rfl,ad,rfl⟩|⟨b,o',sz,cap,c,et,rfl,hm,mE,hb,iq,hl⟩
     .have:B.es=[]:=oL hlen.symm;rw[this];exact .Fu _ _
     .obtain⟨c1,SB,e1,e2,e3,e4⟩:=hI.oq id B b o' sz hB cy hm (.inr mE);rw[hb]at e1;cases e1;have:=cf.ro (w:=w) (S:=R) B.es b o' cap sz c et (0,0) (hv id sS B b o' sz hB cy hm (.inr mE)<|lt_of_block hb) hb e3 e2 U (λi j e p v q1 q2 q3=>by have hs:=cU.1 (AV e<|cw q1) p (cw q2);exact(AS (e4 i j e p v q1 q2 q3) hs).later hSR λ_ _=>rfl)
      rw[<-hlen]at this;simpa using this
    .cases F
   .cases F
  .cases F;cases N with
   |st _ _ h=>exact h.later hSR λ_ _=>rfl
  .rename_i id i off;split at F
   .rename_i B hB;split at F
    .rename_i cy;split at F
     .rename_i e hee;split at F
      .rename_i l v hL;cases F;have hO':∀X∈e.flatMap (ou h n),X:=λX hX=>hO X (by simp only[ou,hB,hee];exact hX);obtain⟨b,o',sz,hm,rfl⟩:=nR N;have ub:Rl B.es sz:=by grind
       obtain⟨c,et,e1,e2,e3,e4⟩:=hI.oq id B b o' sz hB cy hm ub;obtain⟨g1,g2⟩:=uf hL;have oR:=(bm.1 hee).1;have hez:=e3 e<|cw hee;have:=wz (sz:=sz) oR;refine .kj l off b (o'+i*sz) c et (0,0) (hv id sS B b o' sz hB cy hm ub<|lt_of_block e1) e1 (by rw[g1,hez];omega) λj p v1 q2 q3=> ?_;obtain⟨p0,v2,k1,k2,k3⟩:=g2 j p q2;exact ih k2 (λq hq=>hv q (fh _<|k3 q hq)) (λX hX=>hO' X (tn.2 ⟨p0,cw k1,hX⟩))<|e4 i j e p0 v1 hee k1 q3
      .cases F
     .cases F
    .cases F
   .cases F
  .rename_i t q;split at F
   .rename_i r v hq;cases F;obtain⟨v',rfl,qD⟩:=AO N;exact .Dx _ _ _<|ih hq hv (λX hX=>hO X (by simp only[ou];exact hX)) qD
   .cases F
  .cases F
def au4 {w w':World} {R R':Nat->Prop} {r:J} {u:Value}(N:cf w R r u)(hn:bz4 r=true):cf w' R' r u:=by
 have base:∀ {r:J} {u:Value},cf w R r u->VZ r=true->cf w' R' r u:=by
  intro r u N hn;cases N with
  |sc=>exact .sc _
  |bit=>exact .bit _
  |dF=>exact .dF _
  |any=>exact .any _
  |_=>cases hn
 have bT6:∀ {r:J} {u:Value},cf w R r u->bs8 r=true->cf w' R' r u:=by
  intro r u N hn;cases N with
  |sc=>exact .sc _
  |bit=>exact .bit _
  |dF=>exact .dF _
  |any=>exact .any _
  |agg cs vs hl Y=>exact .agg cs vs hl λi c v q1 q2=>base (Y i c v q1 q2)<|cU.1 hn c<|cw q1
  |_=>cases hn
 cases N with
 |sc=>exact .sc _
 |bit=>exact .bit _
 |dF=>exact .dF _
 |any=>exact .any _
 |agg cs vs hl Y=>exact .agg cs vs hl λi c v q1 q2=>bT6 (Y i c v q1 q2) (cU.1 hn c (cw q1))
 |bg cs vs hl Y=>exact .bg cs vs hl λi c v q1 q2=>bT6 (Y i c v q1 q2) (cU.1 hn c (cw q1))
 |_=>cases hn
theorem AW:∀ {l:l_ Operand} {ps:l_ J},Dy T l=some ps->ps.length=l.length/\∀(i:Nat) p,ps[i]?=some p->∃x,l[i]?=some x/\dU T x=some p
 | [],ps,F=>by simp [Dy]at F;subst F;simp
 |x::l,ps,F=>by
  simp only[Dy]at F;split at F
  .rename_i v hv;split at F
   .rename_i vs hvs;cases F;obtain⟨O,h2⟩:=AW hvs;refine⟨by simp [O],λi p hi=> ?_⟩;cases i with
    |zero=>simp at hi;subst hi;exact⟨x,rfl,hv⟩
    |succ i=>simp at hi;obtain⟨y,q1,q2⟩:=h2 i p hi;exact⟨y,by simpa using q1,q2⟩
   .cases F
  .cases F
def Zs (hI:Inv w0 Sa h S m w) {g:FuncId} {Gy:l_ Value} {ps ci6:l_ J} {vis:l_ Nat} {r1:J} (qg:GI P w0.g) (DK:Ok P g ci6 r1)
  (eM:(execOp a.eval o).run P w= .ok (.enter g Gy.toArray) w) (p1:ps.length=Gy.length) (p2:∀(i:Nat) c,ps[i]?=some c->∃u,Gy[i]?=some u/\cv w S m c u)
  (hex:tw (exp h ln) ps=some (ci6,vis)) (cJ:∀X∈ps.flatMap (ou h ln),X) (b57:(vis.isEmpty||bz4 r1)=true)
  (hn:∀v' w',mv w0 Sa h S m w r1 v' w'->next (a.put o.dst v') w'):o.wp P a w next Q:=by
 have hGw:=qg.below hI.qf.root;let R:Nat->Prop:=λb=>S b\/∃q∈vis,∃B o sz,h[q]?=some B/\m[q]?=some (b,o,sz)/\Rl B.es sz/\b<w.heap.size;obtain⟨x1,x2⟩:=uf hex;have b58:∀b,R b->b<w.heap.size:=by
  rintro b (hb|⟨q,_,_,o',sz,_,_,_,iH⟩)
  .exact hI.lt b hb
  .exact iH
 have SJ:=DK.2 w R Gy hGw b58 U (by
  intro i p u q1 q2;obtain⟨c,vv,e1,e2,e3⟩:=x2 i p q1;obtain⟨y,f1,f2⟩:=p2 i c e1;obtain rfl:=ku (q2.symm.trans f1);refine Mk (R:=R) hI (λb hb=> .inl hb) e2 ?_ (λX hX=>cJ X (tn.2 ⟨c,cw e1,hX⟩)) f2;intro q hq B b o' sz hB _ hm N iH;exact .inr ⟨q,e3 q hq,B,o',sz,hB,hm,N,iH⟩)
 unfold Oper.wp;rw[eM];refine SJ.mono ?_;rintro e w' ⟨u,rfl,bT7,lK⟩;refine hn u w' ?_;have DI:=hI.grown bT7;have hL:=mi.grown S hI.lt bT7;rcases jA _ _▸b57 with hv0|yy
 .have hv0:vis=[]:=by grind
  subst hv0;refine⟨λb=>S b\/(w.heap.size<=b/\b<w'.heap.size),m,DI.at2 (λb hb=> .inl hb) ?_ ?_ ?_ ?_,λp x hp=>hp.later ⟨λb hb=> .inl hb,hL.keep,hL.shape⟩ λ_ _ h=>h,.st _ _<|lK.later ?_ λ_ _=>rfl⟩
  .rintro b (hb|hb)
   .exact DI.lt b hb
   .exact hb.2
  .rintro b (hb|hb)
   .exact hI.sub b hb
   .exact .inr<|.inl<|cm hI.qf.size hb.1
  .intro id B b o' sz q1 q2 q3 qr;rintro(hb|hb)
   .exact(hI.live id B b o' sz q1 q2 q3 qr).2 hb
   .obtain⟨c',et',e1,_⟩:=hI.oq id B b o' sz q1 U q3 qr;have:=lt_of_block e1;omega
  .have old:∀(id:Nat) B b o sz,h[id]?=some B->B.st=3->m[id]?=some (b,o,sz)-> ¬(S b\/(w.heap.size<=b/\b<w'.heap.size)):=by
    intro id B b o sz q1 q2 q3;have hM:=hI.maps id B b o sz q1 q2 q3;have:=hM.2.1.lt;rintro(hb|hb)
    .exact hM.2.2 hb
    .omega
   exact old
  .rintro b ((hb|⟨q,hq,_⟩)|hb)
   .exact .inl hb
   .cases hq
   .exact .inr hb
 .exact⟨S,m,DI,λp x hp=>hp.later hL λ_ _ h=>h,.st _ _<|au4 lK yy⟩
def SK(Ml:enters P g=true):∃fn,P.funcs[g]?=some fn/\fn.body.isNone=false/\(fn.name== "runtime.NumGoroutine")=false:=by
 unfold enters at Ml;split at Ml
 .rename_i fn hfn;simp only[fG,gl]at Ml;refine⟨fn,hfn,?_,Ml.2⟩;cases hb:fn.body with
  |none=>rw[hb]at Ml;cases Ml.1
  |some c=>rfl
 .cases Ml
def au5 {t:TypeId} {name:String}{v:Value}(hm:as6 P t name=some g)(n:Nat):(method (n+1) t v name).run P w= .ok (g,v) w:=by
 unfold as6 at hm;split at hm
 .rename_i e r hu N;split at hm
  .rename_i f hp hf;cases hm;cases hi:P.info? t with
   |none=>rw[hi]at N;cases N
   |some i=>
    rw[hi]at N;simp only[Aq]at N;have hpl:r.path.toList=[]:=by grind
    have hti:(typeInfo t).run P w= .ok i w:=by simp [typeInfo,hi]
    simp [method,hti,N,hpl,follow,hf,receiverAt,bU hu,Place.get]
  .cases hm
 .cases hm
def Gz {c:Callee} {args:Array Operand} {Wg:Array TypeId}{ps:l_ J} (aX:o.op= .call ⟨c,args,Wg⟩)
  (hT:∀x∈o.op.operands,∀p,dU T x=some p->cv w S m p (a.eval x)) (Y:u9 P T c args=some (g,ps)) (Ml:enters P g=true):
  ∃Gy:l_ Value,(execOp a.eval o).run P w= .ok (.enter g Gy.toArray) w/\ps.length=Gy.length/\∀(i:Nat) c,ps[i]?=some c->∃u,Gy[i]?=some u/\cv w S m c u:=by
 obtain⟨fn,hfn,au6,Wh⟩:=SK Ml;have vU:(args.map a.eval)=(args.toList.map a.eval).toArray:=by apply Array.ext';simp
 have har:∀ {ps:l_ J},Dy T args.toList=some ps->ps.length=(args.toList.map a.eval).length/\∀(i:Nat) c,ps[i]?=some c->∃u,(args.toList.map a.eval)[i]?=some u/\cv w S m c u:=by
  intro ps wD;obtain⟨p1,p2⟩:=AW wD;refine⟨by simp [p1],λi d hi=> ?_⟩;obtain⟨y,f1,f2⟩:=p2 i d hi;refine⟨a.eval y,by rw[b9,f1];rfl,hT y ?_ d f2⟩;rw[aX];have:y∈args:=by simpa using cw f1
  simp [Op.operands,Call.operands,this]
 unfold u9 at Y;split at Y
 .rename_i f ps' wD;have GA:f∈o.op.operands:=by rw[aX];simp [Op.operands,Call.operands]
  obtain⟨p1,p2⟩:=har wD;split at Y
  .rename_i g' hf;cases Y;have hfv:a.eval f= .func (.func g) #[] #[]:=jr<|hT f GA _ hf;refine⟨_,?_,p1,p2⟩;simp only[execOp,aX,resolve,hfv,Deferred.ofValue,invoke,Sem.run_bind,Sem.run_pure,Result.andThen_ok,callFunc,run_program,hfn,Wh,au6,jZ,ky,vU];simp
  .rename_i g' cs hf;cases Y;obtain⟨vs,hfv,hl,Aj⟩:=Fv (hT f GA _ hf);refine⟨args.toList.map a.eval++vs.toList,?_,by simp only[br,p1];simp [hl],?_⟩
   .simp only[execOp,aX,resolve,hfv,Deferred.ofValue,invoke,Sem.run_bind,Sem.run_pure,Result.andThen_ok,callFunc,run_program,hfn,Wh,au6,jZ,ky,vU];simp
   .intro i c hi;by_cases iH:i<ps'.length
    .rw[dy iH]at hi;obtain⟨u,u1,u2⟩:=p2 i c hi;exact⟨u,by rw[dy U];exact u1,u2⟩
    .rw[gj U]at hi;have SL:i-ps'.length<vs.size:=by have:=(bm.1 hi).1;omega
     refine⟨vs[i-ps'.length],?_,Aj _ _ _ hi<|by simp [SL]⟩;rw[gj U,<-p1];simp [SL]
  .cases Y
 .rename_i rcv name ps' wD;have GA:rcv∈o.op.operands:=by rw[aX];simp [Op.operands,Call.operands]
  obtain⟨p1,p2⟩:=har wD;split at Y
  .rename_i t q hf;split at Y
   .rename_i g' hm;cases Y;obtain⟨v,hv,N⟩:=AO (hT rcv GA _ hf);refine⟨v::args.toList.map a.eval,?_,by simp [p1],?_⟩
    .have hme:=au5 (P:=P) (w:=w) (v:=v) hm (P.types.size+Made.depth-1);have kZ:P.types.size+Made.depth-1+1=P.types.size+Made.depth:=by have:0<Made.depth:=dD;omega
     rw[kZ]at hme;have hex:(#[Value.iface t v]++(args.toList.map a.eval).toArray).extract 1 (#[Value.iface t v]++(args.toList.map a.eval).toArray).size=(args.toList.map a.eval).toArray:=by apply Array.ext';simp [List.take_of_length_le]
     have h0:(#[Value.iface t v]++(args.toList.map a.eval).toArray)[0]?=some (Value.iface t v):=sS;have hcm:(callMethod (.iface t v) name (args.toList.map a.eval).toArray).run P w= .ok (.enter g<|(v::args.toList.map a.eval).toArray) w:=by simp only[callMethod,Sem.run_bind,run_program,Result.andThen_ok,hme,callFunc,hfn,Wh,au6,jZ,ky,Sem.run_pure];simp
     simp only[execOp,aX,resolve,hv,invoke,Sem.run_bind,Sem.run_pure,Result.andThen_ok,vU,h0,hex,hcm]
    .intro i c hi;cases i with
     |zero=>simp at hi;subst hi;exact⟨v,rfl,N⟩
     |succ i=>simp at hi⊢;simpa using p2 i c hi
   .cases Y
  .cases Y
 .cases Y
def GB (hI:Inv w0 Sa h S m w) {f:Callee} {args:Array Operand} {Wg:Array TypeId} (aX:o.op= .call ⟨f,args,Wg⟩)
  (hT:∀x∈o.op.operands,∀p,dU T x=some p->cv w S m p (a.eval x)) (hE:an P E) (qg:GI P w0.g) (Y:Dz P E T h f args s=some (v,h',ob,s')) (cJ:∀X∈ob,X)
  (hn:∀v' w',mv w0 Sa h' S m w v v' w'->next (a.put o.dst v') w'):o.wp P a w next Q:=by
 unfold Dz at Y;split at Y
 .rename_i g ps OY;split at Y
  .rename_i ci6 vis hex;split at Y
   .rename_i r1 tX hEg;split at Y;all_goals first|(cases Y;done)|skip
    rename_i iJ;cases Y;have DK:=hE.p g ci6 _ _ hEg λX hX=>cJ X<|tm _ hX;obtain⟨Gy,eM,p1,p2⟩:=Gz aX hT OY DK.1;exact Zs hI qg DK eM p1 p2 hex (λX hX=>cJ X (qO _ hX)) iJ hn
   .cases Y
  .cases Y
 .cases Y
end
end
section
variable {E:Env} {P:Program} {w0:fR} {w:World} {Sa S:Nat->Prop} {h h':Hp} {m:Mp} {a:Act} {o:Oper} {T:l_ J} {s s':l8} {ob:l_ Prop} {v:J} {next:Act->World->Prop} {Q:Exit->Act->World->Prop}
def bb9 {i j z:Nat}(hj:j<z):(i*z+j)%z=j:=by rw[xx,Nat.mul_add_mod];exact LH hj
def SM (hI:Inv w0 Sa h S m w) {t:TypeId} {x y:Operand} {kl kc:IntKind} {n k:Int} {r:J} (aX:o.op= .makeSlice t x y) (hx:a.eval x= .int kl n) (hy:a.eval y= .int kc k)
  (hm:V0 P h t n k=some (r,h',ob)) (cJ:∀X∈ob,X) (hn:∀v' w',mv w0 Sa h' S m w r v' w'->next (a.put o.dst v') w'):o.wp P a w next Q:=by
 unfold V0 at hm;split at hm
 .rename_i e hu;split at hm
  .rename_i z uT zv hz hb hzv;split at hm
   .rename_i SI;obtain⟨mE,We,hzs,b59⟩:=SI;cases hm;have h0:0<=n:=cJ _ sS;have O:n<=k:=cJ _ sS;have h2:k*uT<=pE:=cJ _ sS;unfold pE at h2;have hk:k<=140737488355328:=Int.le_trans (by
     have:k*1<=k*(uT:Int):=Int.mul_le_mul_of_nonneg_left U U;omega) h2
    cases hi:P.info? e with
    |none=>unfold Ch at hz;rw[hi]at hz;cases hz
    |some i=>
     have hib:i.bytes=uT:=by rw[hi]at hb;simpa using hb
     have hiz:i.zero=some zv:=by unfold oB at hzv;rw[hi]at hzv;simpa using hzv
     have his:i.size=z:=by unfold Ch at hz;rw[hi]at hz;simpa using hz
     have eM:=run_make (P:=P) w t e i zv hu hi hiz kl kc n k h0 O (by rw[hib,Int.mul_comm];omega) U;rw[his]at eM;obtain⟨n',rfl⟩:=k7 h0;obtain⟨k',rfl⟩:=k7 (show 0<=k by omega);simp only[dL]at eM hn;have bT8:∀e∈List.replicate n' (zv.cells.toList.map cellOf),e.length=z:=λe F=>by rw[(LI.1 F).2];simpa using hzs
     have au7:(madeCells zv.cells<|k'*z).size=k'*z:=by simp [madeCells]
     have hle:n'*z<=k'*z:=il _ U;obtain⟨mV,hG⟩:=hI.alloc (madeCells zv.cells (k'*z)) e (List.replicate n' (zv.cells.toList.map cellOf)) z bT8 (by rw[au7];simpa using hle) (by
      intro i' j e' p v q1 q2 q3;have oR:i'<n':=by have:=(bm.1 q1).1;simpa using this
      have he':=(LI.1<|cw q1).2;subst he';have hj:j<z:=by have:=(bm.1 q2).1;rw[<-hzs];simpa using this
      refine AQ (w:=w) (S:=S) (m:=m) zv j p v q2 ?_;have iH:=(Array.getElem?_eq_some_iff.1 q3).1;rw[au7]at iH;rw[madeCells,Array.getElem?_map,Array.getElem?_range,if_pos iH]at q3;simp only[jz,mo]at q3;rw[hzs,bb9 hj]at q3;have hjs:j<zv.cells.size:=U;rw[<-q3,jc hjs,tp zv.cells j hjs]) (sm:=true) (λ_ e F=>by rw[(LI.1 F).2];exact b59)
     refine gC (v':= .slice (some ⟨w.heap.size,0,none⟩) n' k') (by simp [execOp,aX,hx,hy,eM])<|hn _ _ ⟨S,_,mV,hG,.bf _ _ _ ?_⟩;have:=cv.own (w:=w.alloc (.cells (madeCells zv.cells<|k'*z) e)) (S:=S) (m:=m++ [(w.heap.size,0,z)]) h.length 0 n' k' w.heap.size 0 z (madeCells zv.cells<|k'*z) e (by rw[<-hI.len];simp) mE (dJ _ _) U (by rw[au7];simp);simpa using this
   .cases hm
  .cases hm
 .cases hm
theorem foldl_push:∀(ns:l_ Int) (s:y_),ns.foldl (λr n=>r.push (UInt8.ofNat n.toNat)) s=⟨(s.data.toList++ns.map λn=>UInt8.ofNat n.toNat).toArray⟩
 | [],s=>sS
 |n::ns,s=>by rw[xw,foldl_push ns];simp [ByteArray.push]
def SN (hI:Inv w0 Sa h S m w) {src dst:TypeId} {x:Operand} {q r:J} (aX:o.op= .convert src dst x) (N:cv w S m q (a.eval x)) (Y:DB P h src dst (some q)=some (r,ob)) (cJ:∀X∈ob,X)
  (hn:∀v' w',mv w0 Sa h S m w r v' w'->next (a.put o.dst v') w'):o.wp P a w next Q:=by
 unfold DB at Y;split at Y
 .rename_i e hs hd;split at Y
  .rename_i q' F hz hq;cases hq;split at Y
   .rename_i es AK Fw;cases Y;have hB:Bytes es:=at0 (cJ _ ch);have Ja:∀e∈es,e.length=1:=λe F=>by
     have:=hB e F;unfold isByte at this;split at this
     .rfl
     .cases this
    obtain⟨ad,cap,news,hu,ue,hf,lK⟩:=xP (P:=P) (z:=1) hI N Fw (λX hX=>cJ X (fh _ hX)) Ja;have Gw:news=(es.map λe=>match e with| [.sc<|.int .u8 n]=>n|_=>0).map (Value.int .u8):=by
     apply k6;intro i;by_cases hi:i<es.length
     .have oR:i<news.length:=U;rw[bX oR];have hb:=hB es[i] (rF hi);unfold isByte at hb;split at hb
      .rename_i n F;have:=lK i 0 _ (.sc<|.int .u8 n) news[i] (bX hi) (by rw[F];rfl) (by simp [oR]);have hv:=jr this;rw[hv,b9,b9,bX hi,F];rfl
      .cases hb
     .rw[gx U,gx (by simp;omega)]
    have SO:dA es=⟨((es.map λe=>match e with| [.sc<|.int .u8 n]=>n|_=>0).map λn=>UInt8.ofNat n.toNat).toArray⟩:=by
     unfold dA;rw[qP];congr 2;apply EX;intro e F;have hb:=hB e F;unfold isByte at hb;split at hb
     .rfl
     .cases hb
    refine bQ (v':= .string (dA es)) ?_<|hn _ _<|bG hI<|.st _ _<|.sc _;simp only[execOp,aX,Sem.run_bind];rw[hu,run_convert_bytes_string w src dst e ad _ cap hs F hd];cases ad with
    |none=>
     have h0:=hf w rfl;rw[hu]at h0;have oS:news=[]:=by simpa [Builtin.firstCells]using h0.symm
     rw[oS]at ue;have:es=[]:=oL (by simpa using ue.symm);subst this;simp [Conv.bytesToString,dA];rfl
    |some ad=>
     have h0:=hf w rfl;rw[hu]at h0;simp only[Builtin.firstCells,xy]at h0;rw[Gw]at h0;rw[run_bytesToString w ad es.length cap _ h0,foldl_push,SO];simp [ByteArray.empty,ByteArray.emptyWithCapacity];rfl
   .cases Y
  .cases Y
 .cases Y
end
section
variable {α β:Type}{f:Nat->Option Nat}{B:dW}{es:l_ (l_ J)}{sz id:Nat}{keep:l_ Nat}
theorem j5 {f:α->Option β}:∀ {l:l_ α} {r:l_ β},rP f l=some r->r.length=l.length/\∀(i:Nat) y,r[i]?=some y->∃x,l[i]?=some x/\f x=some y
 | [],r,h=>by simp [rP]at h;subst h;simp
 |x::l,r,h=>by
  simp only[rP]at h;split at h
  .rename_i y hy;split at h
   .rename_i l' hl;cases h;obtain⟨O,h2⟩:=j5 hl;refine⟨by simp [O],λi z hi=> ?_⟩;cases i with
    |zero=>simp at hi;subst hi;exact⟨x,rfl,hy⟩
    |succ i=>simp at hi;obtain⟨u,u1,u2⟩:=h2 i z hi;exact⟨u,by simpa using u1,u2⟩
   .cases h
  .cases h
def Wi {f:α->Option β} {l:l_ α} {r:l_ β}(h:rP f l=some r) {i:Nat} {x:α}(hx:l[i]?=some x):∃y,r[i]?=some y/\f x=some y:=by
 obtain⟨O,h2⟩:=j5 h;have hi:i<r.length:=by rw[O];exact(bm.1 hx).1
 obtain⟨x',e1,e2⟩:=h2 i r[i] (by simp [hi]);rw[hx]at e1;cases e1;exact⟨r[i],by simp [hi],e2⟩
theorem Mm:∀ {l:l_ Nat} {x j:Nat},pos x l=some j->l[j]?=some x
 | [],x,j,h=>by simp [pos]at h
 |y::l,x,j,h=>by
  simp only[pos]at h;split at h
  .rename_i hxy;cases h;simp [hxy]
  .split at h
   .rename_i k hk;cases h;simpa using Mm hk
   .cases h
section
variable {E:Env} {P:Program} {w0:fR} {w w':World} {Sa S S':Nat->Prop} {h h':Hp} {m m':Mp} {a:Act} {o:Oper} {T:l_ J} {s s':l8} {ob:l_ Prop} {v:J} {next:Act->World->Prop} {Q:Exit->Act->World->Prop}
def xQ(hm:∀(id j:Nat) x,f id=some j->m[id]?=some x->m'[j]?=some x):∀ {n:Nat} {p p':J} {v:Value},mG f n p=some p'->cv w S m p v->cv w S m' p' v:=by
 intro n
 induction n with
 |zero=>intro p p' v h;simp [mG]at h
 |succ n ih=>
  intro p p' v h N;have lst:∀ {cs l:l_ J} {vs:Array Value},rP (mG f n) cs=some l->cs.length=vs.size->(∀(i:Nat) c v,cs[i]?=some c->vs[i]?=some v->cv w S m c v)->l.length=vs.size/\∀(i:Nat) c v,l[i]?=some c->vs[i]?=some v->cv w S m' c v:=by intro cs l vs hl hlen Y;obtain⟨O,h2⟩:=j5 hl;refine⟨U,λi c x q1 q2=> ?_⟩;obtain⟨y,y1,y2⟩:=h2 i c q1;exact ih y2<|Y i y x y1 q2
  cases p with
  |own id off len=>
   simp only[mG]at h;split at h
   .rename_i j hj;cases h;cases N with
    |st _ _ h=>cases h
    |own _ _ _ cap b o sz c et L8 mE hb iq hn=>exact .own j off len cap b o sz c et (hm id j _ hj L8) mE hb iq hn
    |vZ=>exact .vZ _ _ _
   .cases h
  |ptr id i off=>
   simp only[mG]at h;split at h
   .rename_i j hj;cases h;obtain⟨b,o',sz,L8,rfl⟩:=nR N;exact .ptr j i off b o' sz<|hm id j _ hj L8
   .cases h
  |bf id len=>
   simp only[mG]at h;split at h
   .rename_i j hj;cases h;refine .bf _ _ _ ?_;cases qW N with
    |st _ _ h=>cases h
    |own _ _ _ cap b o sz c et L8 mE hb iq hn=>exact .own j 0 len cap b o sz c et (hm id j _ hj L8) mE hb iq hn
    |vZ=>exact .vZ _ _ _
   .cases h
  |mp id=>
   simp only[mG]at h;split at h
   .rename_i j hj;cases h;obtain⟨b,o',sz,L8,rfl⟩:=ze N;exact .mp j b o' sz<|hm id j _ hj L8
   .cases h
  |agg cs=>
   simp only[mG]at h;split at h
   .rename_i l hl;cases h;obtain⟨vs,rfl,hlen,Y⟩:=AP N;obtain⟨q1,q2⟩:=lst hl hlen Y;exact .agg _ _ q1 q2
   .cases h
  |qS g cs=>
   simp only[mG]at h;split at h
   .rename_i l hl;cases h;obtain⟨vs,rfl,hlen,Y⟩:=Fv N;obtain⟨q1,q2⟩:=lst hl hlen Y;exact .qS _ _ _ q1 q2
   .cases h
  |bg cs=>
   simp only[mG]at h;split at h
   .rename_i l hl;cases h;obtain⟨vs,rfl,hlen,Y⟩:=Mc N;obtain⟨q1,q2⟩:=lst hl hlen Y;exact .bg _ _ q1 q2
   .cases h
  |Dx t q=>
   simp only[mG]at h;split at h
   .rename_i r hq;cases h;obtain⟨v',rfl,qD⟩:=AO N;exact .Dx _ _ _<|ih hq qD
   .cases h
  |mux=>simp [mG]at h
  |sc=>simp [mG]at h;subst h;cases N with|st _ _ h=>exact .st _ _ h
  |bit=>simp [mG]at h;subst h;cases N with|st _ _ h=>exact .st _ _ h
  |dF=>simp [mG]at h;subst h;cases N with|st _ _ h=>exact .st _ _ h
  |ro=>simp [mG]at h;subst h;cases N with|st _ _ h=>exact .st _ _ h
  |rf=>simp [mG]at h;subst h;cases N with|st _ _ h=>exact .st _ _ h
  |kj=>simp [mG]at h;subst h;cases N with|st _ _ h=>exact .st _ _ h
  |any=>simp [mG]at h;subst h;exact .st _ _<|.any _
def Turned(w:World)(S:Nat->Prop)(m m':Mp)(es:l_ (l_ J))(B:dW):Prop:=
 es.length=B.es.length/\(B.sym=true->es=B.es)/\∀(i:Nat) e',es[i]?=some e'->∃e,B.es[i]?=some e/\e'.length=e.length/\∀(k:Nat) p',e'[k]?=some p'->∃p,e[k]?=some p/\∀v,cv w S m p v->cv w S m' p' v
def xR(hk:Zf f B=some es)(hs:B.sym=true->oA B.es)(hm:∀(id j:Nat) x,f id=some j->m[id]?=some x->m'[j]?=some x):Turned w S m m' es B:=by
 unfold Zf at hk;split at hk
 .rename_i SA;cases hk;refine⟨rfl,λ_=>rfl,λi e' hi=>⟨e',hi,rfl,λk p' hp=>⟨p',hp,λv hv=> ?_⟩⟩⟩;have:=cU.1 (hs SA e'<|cw hi) p'<|cw hp;exact .st _ _<|AS hv this
 .rename_i SA;obtain⟨q1,q2⟩:=j5 hk;refine⟨q1,λh=>(by rw[SA]at h;cases h),λi e' hi=> ?_⟩;obtain⟨x,x1,x2⟩:=q2 i e' hi;refine⟨x,x1,(j5 x2).1,λk p' hk=> ?_⟩;obtain⟨y,y1,y2⟩:=(j5 x2).2 k p' hk;exact⟨y,y1,λv hv=>xQ hm y2 hv⟩
def xS {p:J} {u:Value}(N:cv w S m p u):cv w S m (cj p) u:=by
 cases p with
 |bit b=>obtain rfl:=py N;exact .st _ _ (.sc _)
 |_=>exact N
def Turned.norm(h:Turned w S m m' es B):Turned w S m m' (bif B.sym then es else es.map (·.map cj)) B:=by
 cases hs:B.sym with
 |true=>exact h
 |false=>
  refine⟨by simp [h.1],λh=>(by rw[hs]at h;cases h),λi e' hi=> ?_⟩;simp only[xz,b9]at hi;cases F:es[i]? with
  |none=>rw[F]at hi;cases hi
  |some e0=>
   rw[F]at hi;simp only[jz,mo]at hi;subst hi;obtain⟨e,O,h2,h3⟩:=h.2.2 i e0 F;refine⟨e,O,by simpa using h2,λk p' hk=> ?_⟩;rw[b9]at hk;cases hp:e0[k]? with
   |none=>rw[hp]at hk;cases hk
   |some p0=>
    rw[hp]at hk;simp only[jz,mo]at hk;subst hk;obtain⟨p,k1,k2⟩:=h3 k p0 hp;exact⟨p,k1,λv hv=>xS (k2 v hv)⟩
def ir {es':l_ (l_ J)}(O:es'.length=es.length)(h2:Rl es' sz):Rl es sz:=by grind
def Turned.oq{o':Nat} {c:Array Value} (h:Turned w S m m' es B) (g2:o'+B.es.length*sz<=c.size) (g3:∀e∈B.es,e.length=sz)
  (g4:∀(i j:Nat) e p v,B.es[i]?=some e->e[j]?=some p->c[o'+i*sz+j]?=some v->cv w S m p v):o'+es.length*sz<=c.size/\(∀e∈es,e.length=sz)/\∀(i j:Nat) e p v,es[i]?=some e->e[j]?=some p->c[o'+i*sz+j]?=some v->cv w S m' p v:=by
 refine⟨by rw[h.1];exact g2,λe F=> ?_,λi k e p v r1 r2 r3=> ?_⟩
 .obtain⟨i,hi⟩:=mY F;obtain⟨x,x1,x2,_⟩:=h.2.2 i e hi;rw[x2];exact g3 x<|cw x1
 .obtain⟨x,x1,_,x3⟩:=h.2.2 i e r1;obtain⟨y,y1,y2⟩:=x3 k p r2;exact y2 v<|g4 i k x y v x1 y1 r3
def kT(m:Mp)(keep:l_ Nat):Mp:=keep.map λid=>m.getD id (0,0,0)
def xT {j:Nat} {x:Nat×Nat×Nat}(O:keep[j]?=some id)(h2:m[id]?=some x):(kT m keep)[j]?=some x:=by unfold kT;rw[b9,O];simp [List.getD,h2]
def Cw(hkm:∀id∈keep,∃x,m[id]?=some x) {j:Nat} {x:Nat×Nat×Nat}(O:(kT m keep)[j]?=some x):∃id,keep[j]?=some id/\m[id]?=some x:=by
 unfold kT at O;rw[b9]at O;cases hk:keep[j]? with
 |none=>rw[hk]at O;cases O
 |some id=>
  rw[hk]at O;obtain⟨y,hy⟩:=hkm id<|cw hk;simp [List.getD,hy]at O;exact⟨id,rfl,by rw[hy,O]⟩
def wE(Ou:keep.Nodup) {j j' id:Nat}(O:keep[j]?=some id)(h2:keep[j']?=some id):j=j':=
 (List.getElem_inj Ou).1 ((bm.1 O).2.trans (bm.1 h2).2.symm)
def Zt{X:dW}(hI:Inv w0 Sa h S m w)(hX:bb5 h keep id=some X)(hm:∀(id j:Nat) x,pos id keep=some j->m[id]?=some x->m'[j]?=some x):
  ∃B,h[id]?=some B/\(B.st=0\/B.st=3)/\X.st=B.st/\X.par=[]/\X.gV=true/\X.sz=B.sz/\X.sym=B.sym/\Turned w S m m' X.es B:=by
 unfold bb5 at hX;split at hX
 .rename_i B hB;split at hX
  .rename_i cy;split at hX
   .rename_i es kC;cases hX;exact⟨B,hB,cy,rfl,rfl,rfl,rfl,rfl,(xR kC (hI.syms id B hB) hm).norm⟩
   .cases hX
  .cases hX
 .cases hX
def Handed(h:Hp)(m:Mp)(keep:l_ Nat)(b:Nat):Prop:=∃id∈keep,∃B o sz,h[id]?=some B/\m[id]?=some (b,o,sz)/\((B.st=0/\Rl B.es sz)\/B.st=3)
theorem Handed.own(hI:Inv w0 Sa h S m w) {keep:l_ Nat} {b:Nat}(hD:Handed h m keep b):w0.own b/\ ¬S b:=by
 obtain⟨id,_,B,o',sz,O,h2,⟨h3,h4⟩|h3⟩:=hD
 .exact hI.live id B b o' sz O h3 h2 h4
 .exact⟨(hI.maps id B b o' sz O h3 h2).1,(hI.maps id B b o' sz O h3 h2).2.2⟩
def bc0(hI:Inv w0 Sa h S m w) {keep:l_ Nat} {hs:Hp}(Ou:keep.Nodup)(hh:rP (bb5 h keep) keep=some hs):
  Inv ⟨w0.g,w,Handed h m keep,kT m keep⟩ S hs S (kT m keep) w/\hs.length=keep.length/\(∀id∈keep,∃x,m[id]?=some x)/\∀(id j:Nat) x,pos id keep=some j->m[id]?=some x->(kT m keep)[j]?=some x:=by
 obtain⟨k1,k2⟩:=j5 hh;have hmm:∀(id j:Nat) x,pos id keep=some j->m[id]?=some x->(kT m keep)[j]?=some x:=λid j x O h2=>xT (Mm O) h2;have hblk:∀ {j:Nat} {X:dW},hs[j]?=some X->∃id B,keep[j]?=some id/\h[id]?=some B/\(B.st=0\/B.st=3)/\X.st=B.st/\X.par=[]/\X.gV=true/\X.sz=B.sz/\X.sym=B.sym/\Turned w S m (kT m keep) X.es B:=by intro j X hj;obtain⟨id,e1,e2⟩:=k2 j X hj;obtain⟨B,q⟩:=Zt hI e2 hmm;exact⟨id,B,e1,q⟩
 have hkm:∀id∈keep,∃x,m[id]?=some x:=by
  intro id hid;obtain⟨j,hj⟩:=mY hid;have Cj:j<hs.length:=by rw[k1];exact(bm.1 hj).1
  obtain⟨jd,B,e1,e2,_⟩:=hblk (show hs[j]?=some hs[j] by simp [Cj]);rw[hj]at e1;cases e1;have:id<m.length:=by rw[hI.len];exact(bm.1 e2).1
  exact⟨m[id],by simp [this]⟩
 have jM:∀ {j:Nat} {X:dW} {x:Nat×Nat×Nat},hs[j]?=some X->(kT m keep)[j]?=some x->∃id B,keep[j]?=some id/\m[id]?=some x/\h[id]?=some B/\(B.st=0\/B.st=3)/\X.st=B.st/\X.par=[]/\X.sz=B.sz/\X.sym=B.sym/\Turned w S m (kT m keep) X.es B:=by intro j X x hj hx;obtain⟨id,B,e1,e2,e3,e4,e5,e6,e7,e8,e9⟩:=hblk hj;obtain⟨jd,f1,f2⟩:=Cw hkm hx;rw[e1]at f1;cases f1;exact⟨id,B,e1,f2,e2,e3,e4,e5,e7,e8,e9⟩
 refine⟨⟨⟨hI.qf.root,rfl,rfl,rfl,bE _,λ_ _ _=>rfl,λb c et Y=>⟨c,Y,rfl⟩,hI.qf.root.size,λb hb=>fR.Sz hI.qf (hb.own hI).1⟩,λb hb=> .inl hb,hI.lt,by simp [kT,k1],?_,?_,?_,?_,?_,?_,?_,?_,?_,?_,?_⟩,k1,hkm,hmm⟩
 .intro j X b o' sz hj cy sC N;obtain⟨id,B,e1,e2,e3,e4,e5,e6,e7,e8,e9⟩:=jM hj sC;obtain⟨c,et,g1,g2,g3,g4⟩:=hI.oq id B b o' sz e3 U e2<|ir e9.1 N;exact⟨c,et,g1,e9.oq g2 g3 g4⟩
 .intro j X b o' sz hj cy sC N;obtain⟨id,B,e1,e2,e3,e4,e5,e6,e7,e8,e9⟩:=jM hj sC;exact⟨.inr ⟨id,cw e1,B,o',sz,e3,e2,.inl ⟨U,ir e9.1 N⟩⟩,(hI.live id B b o' sz e3 U e2<|ir e9.1 N).2⟩
 .intro j j' X X' b o1 z1 o2 z2 hj cy sC xO AX GC N qD;obtain⟨id,B,e1,e2,e3,e4,e5,e6,e7,e8,e9⟩:=jM hj sC;obtain⟨jd,B',f1,f2,f3,f4,f5,f6,f7,f8,f9⟩:=jM xO GC;have:=hI.uniq id jd B B' b o1 z1 o2 z2 e3 U e2 f3 U f2 (ir e9.1 N)<|ir f9.1 qD;subst this;exact wE Ou e1 f1
 .intro j X b o' sz hj cy sC N;obtain⟨id,B,e1,e2,e3,e4,e5,_⟩:=jM hj sC;omega
 .intro j q X cj3 hj hq;obtain⟨id,B,e1,e2,e3,e4,e5,_⟩:=hblk hj;rw[e5]at hq;cases hq
 .intro j q X hj hq;obtain⟨id,B,e1,e2,e3,e4,e5,_⟩:=hblk hj;rw[e5]at hq;cases hq
 .intro j X b o' sz hj sC N;obtain⟨id,B,e1,e2,e3,e4,e5,e6,e7,e8,e9⟩:=jM hj sC;rw[e7];exact hI.Ci id B b o' sz e3 e2<|ir e9.1 N
 .intro j X hj hx;obtain⟨id,B,e1,e2,e3,e4,e5,e6,e7,e8,e9⟩:=hblk hj;rw[e9.2.1 (by rw[<-e8];exact hx)];exact hI.syms id B e2 (by rw[<-e8];exact hx)
 .intro j X b o' sz hj hx sC;obtain⟨id,B,e1,e2,e3,e4,e5,e6,e7,e8,e9⟩:=jM hj sC;obtain⟨q1,⟨q2,q5⟩,q6⟩:=hI.maps id B b o' sz e3 U e2;exact⟨.inr ⟨id,cw e1,B,o',sz,e3,e2,.inr U⟩,⟨by rw[e8];exact q2,by rw[e9.2.1 q2];exact q5⟩,q6⟩
 .intro j j' X X' b o1 z1 o2 z2 hj cy sC xO AX GC;obtain⟨id,B,e1,e2,e3,e4,e5,e6,e7,e8,e9⟩:=jM hj sC;obtain⟨jd,B',f1,f2,f3,f4,f5,f6,f7,f8,f9⟩:=jM xO GC;have:=hI.ua id jd B B' b o1 z1 o2 z2 e3 U e2 f3 U f2;subst this;exact wE Ou e1 f1
 .intro i x hx;refine⟨hx,?_⟩;have hi:i<hs.length:=by have:=(bm.1 hx).1;rw[k1];simpa [kT]using this
  obtain⟨id,B,e1,e2,e3,e4,e5,e6,_⟩:=hblk (show hs[i]?=some hs[i] by simp [hi]);exact⟨hs[i],by simp [hi],e6⟩
end
end
theorem tC:∀(h:Hp) (ids:l_ Nat) (Bs:Hp),(mu h ids Bs).length=h.length
 |h,[],Bs=>by cases Bs<;>rfl
 |h,id::ids,[]=>rfl
 |h,id::ids,B::Bs=>by simp only[mu];rw[tC];simp
theorem kF:∀(h:Hp) (ids:l_ Nat) (Bs:Hp) (i:Nat),i∉ids->(mu h ids Bs)[i]?=h[i]?
 |h,[],Bs,i,_=>by cases Bs<;>rfl
 |h,id::ids,[],i,_=>rfl
 |h,id::ids,B::Bs,i,hi=>by simp only[mu];rw[kF _ _ _ _ (λY=>hi (fh _ Y)),cD,if_neg];rintro rfl;exact hi ch
theorem xU:∀(h:Hp) (ids:l_ Nat) (Bs:Hp) (j i:Nat) (B:dW),ids.Nodup->ids[j]?=some i->Bs[j]?=some B->i<h.length->(mu h ids Bs)[i]?=some B
 |h,[],Bs,j,i,B,_,O,_,_=>by simp at O
 |h,id::ids,[],j,i,B,_,_,h2,_=>by simp at h2
 |h,id::ids,C::Bs,0,i,B,hn,O,h2,h3=>by
  simp at O h2;subst O;subst h2;simp only[mu];rw[kF _ _ _ _ (List.nodup_cons.1 hn).1];simp [h3]
 |h,id::ids,C::Bs,j+1,i,B,hn,O,h2,h3=>by simp only[mu];exact xU _ ids Bs j i B (List.nodup_cons.1 hn).2 (by simpa using O) (by simpa using h2) (by simpa using h3)
theorem J0 {h:Hp} {keep:l_ Nat}:∀ {k:Nat} {hs bs:Hp},JQ h keep k hs=some bs->bs.length=hs.length/\∀(j:Nat) B,hs[j]?=some B->∃X,bs[j]?=some X/\oC h keep (k+j) B=some X
 |k,[],bs,F=>by simp [JQ]at F;subst F;simp
 |k,C::hs,bs,F=>by
  simp only[JQ]at F;split at F
  .rename_i X hX;split at F
   .rename_i l hl;cases F;obtain⟨O,h2⟩:=J0 hl;refine⟨by simp [O],λj B hj=> ?_⟩;cases j with
    |zero=>simp at hj;subst hj;exact⟨X,rfl,hX⟩
    |succ j=>
     simp at hj;obtain⟨cj3,y1,y2⟩:=h2 j B hj;exact⟨cj3,by simpa using y1,by rw[show k+(j+1)=k+1+j by omega];exact y2⟩
   .cases F
  .cases F
section
variable {E:Env} {P:Program} {w0:fR} {w w':World} {Sa S S':Nat->Prop} {h h':Hp} {m m':Mp} {a:Act} {o:Oper} {T:l_ J} {s s':l8} {ob:l_ Prop} {v:J} {next:Act->World->Prop} {Q:Exit->Act->World->Prop}
def pL(keep:l_ Nat)(n j:Nat):Nat:=if j<keep.length then keep.getD j 0 else n+(j-keep.length)
def SP {keep:l_ Nat} {j:Nat} {B X:dW}(hX:oC h keep j B=some X)(hs:B.sym=true->oA B.es) {ms:Mp}(hm:∀(id j:Nat) x,DA keep h.length id=some j->ms[id]?=some x->m'[j]?=some x):
  X.st=B.st/\X.sz=B.sz/\X.sym=B.sym/\X.par=B.par.map (pL keep h.length)/\Turned w S ms m' X.es B/\(j<keep.length->X.gV=((h[keep.getD j 0]?).map (·.gV)).getD false):=by
 unfold oC at hX;split at hX
 .rename_i es kC;cases hX;refine⟨rfl,rfl,rfl,?_,xR kC hs hm,λhj=>by simp [hj]⟩;show B.par.map _=_;apply EX;intro q _;simp [DA,pL]
 .cases hX
def au8 (hI:Inv w0 Sa h S m w) {keep:l_ Nat} {hs bs:Hp} {ms:Mp} (Ou:keep.Nodup) (hkl:∀id∈keep,id<h.length) (hpk:(h.all λB=>B.par.all λq=> !keep.contains q)=true)
  (hkm:∀id∈keep,∃x,m[id]?=some x) (mV:Inv ⟨w0.g,w,Handed h m keep,kT m keep⟩ S hs S' ms w') (hS:∀b,S b->S' b) (hle:keep.length<=hs.length) (hb:JQ h keep 0 hs=some bs):
  Inv w0 Sa (mu (kill h<|nb h keep) keep bs++bs.drop keep.length) S' (m++ms.drop keep.length) w'/\yx w S m w' S' (m++ms.drop keep.length)/\
   ∀(id j:Nat) x,DA keep h.length id=some j->ms[id]?=some x->(m++ms.drop keep.length)[j]?=some x:=by
 have Zp:=hI.len;have b60:=mV.len;obtain⟨b1,b2⟩:=J0 hb;have OZ:∀b,fR.own ⟨w0.g,w,Handed h m keep,kT m keep⟩ b->w0.own b:=by
  intro b hb;rcases hb with hb|hb
  .exact .inl<|cm hI.qf.size hb
  .exact(hb.own hI).1
 have SQ:∀(j:Nat) x,(kT m keep)[j]?=some x->ms[j]?=some x:=λj x hx=>(mV.gV j x hx).1;have au9:∀(j:Nat) x,ms[j]?=some x->(m++ms.drop keep.length)[pL keep h.length j]?=some x:=by
  intro j x hx;unfold pL;by_cases hj:j<keep.length
  .rw[if_pos hj];have hkj:keep[j]?=some (keep.getD j 0):=by grind
   obtain⟨y,hy⟩:=hkm _<|cw hkj;have:=SQ j y<|xT hkj hy;rw[hx]at this;cases this;exact(dy (bm.1 hy).1).trans hy
  .rw[if_neg hj,gj U,iO];rw[show keep.length+(h.length+(j-keep.length)-m.length)=j by omega];exact hx
 have av0:∀(id j:Nat) x,DA keep h.length id=some j->ms[id]?=some x->(m++ms.drop keep.length)[j]?=some x:=by
  intro id j x O h2;have:j=pL keep h.length id:=by simpa [DA,pL]using O.symm
  rw[this];exact au9 id x h2
 have hold:∀ {id:Nat} {x:Nat×Nat×Nat},id<h.length->(m++ms.drop keep.length)[id]?=some x->m[id]?=some x:=by intro id x O h2;rw[dy U]at h2;exact h2
 have hL:mi w S w' S':=by refine⟨hS,λb hb=> ?_,λb c et Y=>mV.qf.shape b c et Y⟩;exact mV.qf.block b (hI.lt b hb) λhD=>(hD.own hI).2 hb
 have hG:yx w S m w' S' (m++ms.drop keep.length):=λp v hp=>hp.later hL λi x hx=>by rw[dy (bm.1 hx).1];exact hx
 have av1:(mu (kill h<|nb h keep) keep bs).length=h.length:=by rw[tC,jL]
 have Ev:∀ {id:Nat} {X:dW},(mu (kill h<|nb h keep) keep bs++bs.drop keep.length)[id]?=some X->
   (id<h.length/\id∉keep/\(kill h<|nb h keep)[id]?=some X)\/(∃j B,hs[j]?=some B/\bs[j]?=some X/\oC h keep j B=some X/\id=pL keep h.length j):=by
  intro id X hX;by_cases hid:id<h.length
  .rw[dy U]at hX;by_cases hk:id∈keep
   .obtain⟨j,hj⟩:=mY hk;have Cj:=(bm.1 hj).1;obtain⟨cj3,y1,y2⟩:=b2 j (hs[j]' U)<|bX _;rw[xU _ _ _ j id cj3 Ou hj y1 (by rw[jL];exact hid)]at hX;cases hX;refine .inr ⟨j,hs[j]' U,bX _,y1,by simpa using y2,?_⟩;unfold pL;rw[if_pos Cj];simp [List.getD,hj]
   .rw[kF _ _ _ _ hk]at hX;exact .inl ⟨hid,hk,hX⟩
  .rw[gj U,av1,iO]at hX;have Cj:=(bm.1 hX).1;obtain⟨cj3,y1,y2⟩:=b2 (keep.length+(id-h.length)) (hs[keep.length+(id-h.length)]' U)<|bX _;rw[hX]at y1;cases y1;refine .inr ⟨_,_,bX U,hX,(by rw[eP]at y2;exact y2),?_⟩;unfold pL;rw[if_neg U];omega
 have bA5:∀ {j:Nat} {B:dW},hs[j]?=some B->∃X,(mu (kill h<|nb h keep) keep bs++bs.drop keep.length)[pL keep h.length j]?=some X/\oC h keep j B=some X:=by
  intro j B hj;obtain⟨X,x1,x2⟩:=b2 j B hj;refine⟨X,?_,by simpa using x2⟩;unfold pL;by_cases hjk:j<keep.length
  .rw[if_pos hjk];have hkj:keep[j]?=some (keep.getD j 0):=by grind
   have iH:=hkl _<|cw hkj;rw[dy U];exact xU _ _ _ j _ X Ou hkj x1 (by rw[jL];exact iH)
  .rw[if_neg hjk,gj U,av1,iO,show keep.length+(h.length+(j-keep.length)-h.length)=j by omega];exact x1
 have bA6:∀ {j j':Nat},j<hs.length->j'<hs.length->pL keep h.length j=pL keep h.length j'->j=j':=by
  intro j j' _ _ F;unfold pL at F;by_cases O:j<keep.length<;>by_cases h2:j'<keep.length
  .rw[if_pos O,if_pos h2]at F;have e1:keep[j]?=some (keep.getD j 0):=by grind
   have e2:keep[j']?=some (keep.getD j' 0):=by grind
   rw[F]at e1;exact wE Ou e1 e2
  .rw[if_pos O,if_neg h2]at F;have e1:keep[j]?=some (keep.getD j 0):=by grind
   have:=hkl _<|cw e1;omega
  .rw[if_neg O,if_pos h2]at F;have e1:keep[j']?=some (keep.getD j' 0):=by grind
   have:=hkl _<|cw e1;omega
  .rw[if_neg O,if_neg h2]at F;omega
 have Zu:∀ {j:Nat} {B:dW} {x:Nat×Nat×Nat},hs[j]?=some B->(m++ms.drop keep.length)[pL keep h.length j]?=some x->ms[j]?=some x:=by intro j B x O h2;have Cj:=(bm.1 O).1;have hm:ms[j]?=some (ms[j]' U):=sS;have:=au9 j _ hm;rw[h2]at this;cases this;exact hm
 have nS:∀ {j:Nat} {B X:dW},hs[j]?=some B->oC h keep j B=some X->X.st=B.st/\X.sz=B.sz/\X.sym=B.sym/\X.par=B.par.map (pL keep h.length)/\Turned w' S' ms (m++ms.drop keep.length) X.es B/\(j<keep.length->X.gV=((h[keep.getD j 0]?).map (·.gV)).getD false):=
  λO h2=>SP h2 (mV.syms _ _ O) av0
 have zj:∀ {id:Nat} {X:dW} {b o' sz:Nat},id∉keep->(kill h<|nb h keep)[id]?=some X->X.st<=1->m[id]?=some (b,o',sz)->Rl X.es sz->h[id]?=some X/\id∉nb h keep/\b<w.heap.size/\ ¬Handed h m keep b:=by
  intro id X b o' sz hk hX cy v7 N;obtain⟨X0,h0,_,_,hd|⟨hd,rfl⟩⟩:=iI hX
  .omega
  obtain⟨c,et,e1,_⟩:=hI.oq id X b o' sz h0 cy v7 N;refine⟨h0,hd,lt_of_block e1,?_⟩;rintro⟨id2,Cx,B2,o2,z2,q1,q2,⟨q3,q4⟩|q3⟩
  .by_cases hx:X.st=0
   .exact hk<|hI.uniq id id2 X B2 b o' sz o2 z2 h0 hx v7 q1 q3 q2 N q4▸Cx
   .rcases hI.tZ id X b o' sz h0 U v7 N with hS'|⟨jd,B',o3,z3,r1,r2,r3,r4,r5,_⟩
    .exact(hI.live id2 B2 b o2 z2 q1 q3 q2 q4).2 hS'
    .have:=hI.uniq jd id2 B' B2 b o3 z3 o2 z2 r1 r2 r3 q1 q3 q2 r4 q4;subst this;rw[r1]at q1;cases q1;exact hd<|tn.2 ⟨jd,Cx,by rw[r1];exact r5⟩
  .exact(hI.maps id2 B2 b o2 z2 q1 q3 q2).2.1.ne e1 rfl
 have AY:∀ {id:Nat} {X:dW} {b o' sz:Nat},id∉keep->(kill h<|nb h keep)[id]?=some X->X.st=3->m[id]?=some (b,o',sz)->h[id]?=some X/\b<w.heap.size/\ ¬Handed h m keep b:=by
  intro id X b o' sz hk hX cy v7;obtain⟨X0,h0,_,_,hd|⟨hd,rfl⟩⟩:=iI hX
  .omega
  have hM:=(hI.maps id X b o' sz h0 cy v7).2.1;refine⟨h0,hM.lt,?_⟩;rintro⟨id2,Cx,B2,o2,z2,q1,q2,⟨q3,q4⟩|q3⟩
  .obtain⟨c,et,e1,_⟩:=hI.oq id2 B2 b o2 z2 q1 U q2 q4;exact hM.ne e1 rfl
  .exact hk<|hI.ua id id2 X B2 b o' sz o2 z2 h0 cy v7 q1 q3 q2▸Cx
 have AT:∀ {b:Nat},b<w.heap.size-> ¬Handed h m keep b->w'.heap[b]?=w.heap[b]?:=λO h2=>mV.qf.block _ O h2;have bT9:∀ {b:Nat},b<w.heap.size-> ¬Handed h m keep b-> ¬S b-> ¬S' b:=by
  intro b O h2 h3 h4;rcases mV.sub b h4 with h5|h5|h5
  .exact h3 h5
  .change w.heap.size<=b at h5;omega
  .exact h2 h5
 have Wj:∀ {b:Nat},b<w.heap.size-> ¬Handed h m keep b-> ¬fR.own ⟨w0.g,w,Handed h m keep,kT m keep⟩ b:=by
  intro b O h2 h3;rcases h3 with h3|h3
  .change w.heap.size<=b at h3;omega
  .exact h2 h3
 have Zv:∀ {j:Nat},j<hs.length->pL keep h.length j<(mu (kill h<|nb h keep) keep bs++bs.drop keep.length).length:=by intro j hj;obtain⟨X,x1,_⟩:=bA5 (show hs[j]?=some hs[j] by simp [hj]);exact(bm.1 x1).1
 refine⟨⟨⟨mV.qf.root,mV.qf.os.trans hI.qf.os,mV.qf.tape.trans hI.qf.tape,mV.qf.output.trans hI.qf.output,cm hI.qf.size mV.qf.size,?_,?_,hI.qf.gsz,hI.qf.dg⟩,?_,mV.lt,?_,?_,?_,?_,?_,?_,?_,?_,?_,?_,?_,?_⟩,hG,av0⟩
 .intro k hk hD;rw[mV.qf.block k (uY hk hI.qf.size) λhH=> ?_]
  .exact hI.qf.block k hk hD
  .rcases(hH.own hI).1 with q|q
   .omega
   .exact hD q
 .intro b c et Y;obtain⟨c1,q1,q2⟩:=hI.qf.shape b c et Y;obtain⟨c2,q3,q4⟩:=mV.qf.shape b c1 et q1;exact⟨c2,q3,q4.trans q2⟩
 .intro b hb;rcases mV.sub b hb with q|q
  .exact hI.sub b q
  .exact .inr<|OZ b q
 .rw[br,br,av1,jX,jX,Zp,b60,b1]
 .
  intro id X b o' sz hX cy v7 N;rcases Ev hX with⟨hid,hk,hX⟩|⟨j,B,hj,_,Jg,rfl⟩
  .obtain⟨h0,_,O,h2⟩:=zj hk hX cy (hold hid v7) N;obtain⟨c,et,e1,e2,e3,e4⟩:=hI.oq id X b o' sz h0 cy (hold hid v7) N;exact⟨c,et,(AT O h2).trans e1,e2,e3,λi j e p v q1 q2 q3=>hG _ _ (e4 i j e p v q1 q2 q3)⟩
  .obtain⟨s1,s2,s3,s4,s5,_⟩:=nS hj Jg;obtain⟨c,et,e1,e2,e3,e4⟩:=mV.oq j B b o' sz hj U (Zu hj v7)<|ir s5.1 N;exact⟨c,et,e1,s5.oq e2 e3 e4⟩
 .
  intro id X b o' sz hX cy v7 N;rcases Ev hX with⟨hid,hk,hX⟩|⟨j,B,hj,_,Jg,rfl⟩
  .obtain⟨h0,_,O,h2⟩:=zj hk hX U (hold hid v7) N;obtain⟨q1,q2⟩:=hI.live id X b o' sz h0 cy (hold hid v7) N;exact⟨q1,bT9 O h2 q2⟩
  .obtain⟨s1,s2,s3,s4,s5,_⟩:=nS hj Jg;obtain⟨q1,q2⟩:=mV.live j B b o' sz hj U (Zu hj v7)<|ir s5.1 N;exact⟨OZ b q1,q2⟩
 .
  intro id jd X X' b o1 z1 o2 z2 hX cy v7 hX' AX GD N qD;rcases Ev hX with⟨hid,hk,hX⟩|⟨j,B,hj,_,Jg,rfl⟩<;>rcases Ev hX' with⟨Mn,Cl,hX'⟩|⟨j',B',xO,_,av2,rfl⟩
  .obtain⟨h0,_⟩:=zj hk hX U (hold hid v7) N;obtain⟨h0',_⟩:=zj Cl hX' U (hold Mn GD) qD;exact hI.uniq id jd X X' b o1 z1 o2 z2 h0 cy (hold hid v7) h0' AX (hold Mn GD) N qD
  .obtain⟨_,_,O,h2⟩:=zj hk hX U (hold hid v7) N;obtain⟨s1,s2,s3,s4,s5,_⟩:=nS xO av2;exact absurd (mV.live j' B' b o2 z2 xO U (Zu xO GD)<|ir s5.1 qD).1<|Wj O h2
  .obtain⟨_,_,O,h2⟩:=zj Cl hX' U (hold Mn GD) qD;obtain⟨s1,s2,s3,s4,s5,_⟩:=nS hj Jg;exact absurd (mV.live j B b o1 z1 hj U (Zu hj v7)<|ir s5.1 N).1<|Wj O h2
  .obtain⟨s1,s2,s3,s4,s5,_⟩:=nS hj Jg;obtain⟨t1,t2,t3,t4,t5,_⟩:=nS xO av2;rw[mV.uniq j j' B B' b o1 z1 o2 z2 hj U (Zu hj v7) xO U (Zu xO GD) (ir s5.1 N)<|ir t5.1 qD]
 .
  intro id X b o' sz hX cy v7 N;rcases Ev hX with⟨hid,hk,hX⟩|⟨j,B,hj,_,Jg,rfl⟩
  .obtain⟨h0,hnp,O,h2⟩:=zj hk hX U (hold hid v7) N;rcases hI.tZ id X b o' sz h0 cy (hold hid v7) N with q|⟨jd,B',o3,z3,r1,r2,r3,r4,r5,r6⟩
   .exact .inl<|hS b q
   .have Cl:jd∉keep:=λY=>hnp (tn.2 ⟨jd,Y,by rw[r1];exact r5⟩);have bA7:=(bm.1 r1).1;have b61:jd∉nb h keep:=by
     intro Y;obtain⟨q,q1,q2⟩:=tn.1 Y;cases hq:h[q]? with
     |none=>rw[hq]at q2;cases q2
     |some Bq=>
      rw[hq]at q2;exact hI.qU q jd Bq B' hq q2 r1 r2
    refine .inr ⟨jd,B',o3,z3,?_,r2,?_,r4,r5,r6⟩
    .rw[dy U,kF _ _ _ _ Cl,kS,r1];simp [b61]
    .rw[dy U];exact r3
  .obtain⟨s1,s2,s3,s4,s5,_⟩:=nS hj Jg;rcases mV.tZ j B b o' sz hj U (Zu hj v7) (ir s5.1 N)with q|⟨j',B',o3,z3,r1,r2,r3,r4,r5,r6⟩
   .exact .inl q
   .obtain⟨X',x1,x2⟩:=bA5 r1;obtain⟨t1,t2,t3,t4,t5,_⟩:=nS r1 x2;refine .inr ⟨_,X',o3,z3,x1,t1.trans r2,au9 j' _ r3,ir t5.1.symm r4,by rw[t4];exact jB.2 ⟨j,r5,rfl⟩,by rw[s5.1,t5.1];exact r6⟩
 .
  intro id q X cj3 hX hq hY;rcases Ev hX with⟨hid,hk,hX⟩|⟨j,B,hj,_,Jg,rfl⟩
  .obtain⟨X0,h0,_,hp,_⟩:=iI hX;rw[hp]at hq;have hqk:q∉keep:=by have O:=cU.1 hpk X0 (cw h0);have:=cU.1 O q hq;simpa using this
   have hql:=hI.oP id q X0 h0 hq;rw[dy U,kF _ _ _ _ hqk]at hY;obtain⟨Y0,y0,_,_,hd|⟨_,rfl⟩⟩:=iI hY
   .omega
   .exact hI.qU id q X0 cj3 h0 hq y0
  .obtain⟨s1,s2,s3,s4,s5,_⟩:=nS hj Jg;rw[s4]at hq;obtain⟨q',uc,rfl⟩:=jB.1 hq;have hql:=mV.oP j q' B hj uc;obtain⟨cj4,z1,z2⟩:=bA5 (show hs[q']?=some hs[q'] by simp [hql]);rw[hY]at z1;cases z1;rw[(nS (show hs[q']?=some hs[q'] by simp [hql]) z2).1];exact mV.qU j q' B hs[q'] hj uc (by simp [hql])
 .
  intro id q X hX hq;rcases Ev hX with⟨hid,hk,hX⟩|⟨j,B,hj,_,Jg,rfl⟩
  .obtain⟨X0,h0,_,hp,_⟩:=iI hX;rw[hp]at hq;have:=hI.oP id q X0 h0 hq;rw[br];omega
  .obtain⟨s1,s2,s3,s4,s5,_⟩:=nS hj Jg;rw[s4]at hq;obtain⟨q',uc,rfl⟩:=jB.1 hq;exact Zv<|mV.oP j q' B hj uc
 .
  intro id X b o' sz hX v7 N;rcases Ev hX with⟨hid,hk,hX⟩|⟨j,B,hj,_,Jg,rfl⟩
  .obtain⟨X0,h0,kC⟩:=AN hX;obtain⟨X1,O,hs1,_⟩:=iI hX;rw[h0]at O;cases O;rw[kC]at N;rw[hs1];exact hI.Ci id X0 b o' sz h0 (hold hid v7) N
  .obtain⟨s1,s2,s3,s4,s5,_⟩:=nS hj Jg;rw[s2];exact mV.Ci j B b o' sz hj (Zu hj v7)<|ir s5.1 N
 .
  intro id X hX hx;rcases Ev hX with⟨hid,hk,hX⟩|⟨j,B,hj,_,Jg,rfl⟩
  .obtain⟨X0,h0,kC⟩:=AN hX;rw[kC];exact hI.syms id X0 h0 (by rw[<-Gg hX h0];exact hx)
  .obtain⟨s1,s2,s3,s4,s5,_⟩:=nS hj Jg;rw[s3]at hx;rw[s5.2.1 hx];exact mV.syms j B hj hx
 .
  intro id X b o' sz hX cy v7;rcases Ev hX with⟨hid,hk,hX⟩|⟨j,B,hj,_,Jg,rfl⟩
  .obtain⟨h0,O,h2⟩:=AY hk hX cy<|hold hid v7;obtain⟨q1,q2,q3⟩:=hI.maps id X b o' sz h0 cy<|hold hid v7;exact⟨q1,q2.same<|AT O h2,bT9 O h2 q3⟩
  .obtain⟨s1,s2,s3,s4,s5,_⟩:=nS hj Jg;obtain⟨q1,⟨q2,q5⟩,q6⟩:=mV.maps j B b o' sz hj U<|Zu hj v7;exact⟨OZ b q1,⟨by rw[s3];exact q2,by rw[s5.2.1 q2];exact q5⟩,q6⟩
 .
  intro id jd X X' b o1 z1 o2 z2 hX cy v7 hX' AX GD;rcases Ev hX with⟨hid,hk,hX⟩|⟨j,B,hj,_,Jg,rfl⟩<;>rcases Ev hX' with⟨Mn,Cl,hX'⟩|⟨j',B',xO,_,av2,rfl⟩
  .obtain⟨h0,_⟩:=AY hk hX cy<|hold hid v7;obtain⟨h0',_⟩:=AY Cl hX' AX<|hold Mn GD;exact hI.ua id jd X X' b o1 z1 o2 z2 h0 cy (hold hid v7) h0' AX<|hold Mn GD
  .obtain⟨_,O,h2⟩:=AY hk hX cy<|hold hid v7;have:=(nS xO av2).1;exact absurd (mV.maps j' B' b o2 z2 xO U<|Zu xO GD).1<|Wj O h2
  .obtain⟨_,O,h2⟩:=AY Cl hX' AX<|hold Mn GD;have:=(nS hj Jg).1;exact absurd (mV.maps j B b o1 z1 hj U<|Zu hj v7).1<|Wj O h2
  .have:=(nS hj Jg).1;have:=(nS xO av2).1;rw[mV.ua j j' B B' b o1 z1 o2 z2 hj U (Zu hj v7) xO U<|Zu xO GD]
 .
  intro i x hx;obtain⟨O,B,h2,h3⟩:=hI.gV i x hx;have oR:=(bm.1 h2).1;refine⟨by rw[dy U];exact O,?_⟩;rw[dy U];by_cases hk:i∈keep
  .obtain⟨j,hj⟩:=mY hk;have Cj:=(bm.1 hj).1;have hjs:hs[j]?=some (hs[j]' U):=sS;obtain⟨X,x1,x2⟩:=b2 j _ hjs;refine⟨X,xU _ _ _ j i X Ou hj x1 (by rw[jL];exact oR),?_⟩;have hp:=(nS hjs<|by simpa using x2).2.2.2.2.2 Cj;have:keep.getD j 0=i:=by simp [List.getD,hj]
   rw[hp,this,h2];exact h3
  .rw[kF _ _ _ _ hk];obtain⟨X,x1,x2⟩:=Gh (nb h keep) h2;exact⟨X,x1,x2.trans h3⟩
def DL (hI:Inv w0 Sa h S m w) {f:Callee} {args:Array Operand} {Wg:Array TypeId} (aX:o.op= .call ⟨f,args,Wg⟩)
  (hT:∀x∈o.op.operands,∀p,dU T x=some p->cv w S m p (a.eval x)) (hE:an P E) (qg:GI P w0.g) (Y:JR P E T h f args s=some (v,h',ob,s')) (cJ:∀X∈ob,X)
  (hn:∀v' w',mv w0 Sa h' S m w v v' w'->next (a.put o.dst v') w'):o.wp P a w next Q:=by
 unfold JR at Y;split at Y
 .rename_i g ps OY;split at Y
  .rename_i ci6 hs has hhs;split at Y
   .rename_i r hs' tX hEg;split at Y
    .rename_i iJ;simp only[fG,bK]at iJ;obtain⟨⟨Ou,hle⟩,hpk⟩:=iJ;split at Y
     .rename_i r' bs qD hbs;cases Y;have DK:=hE.m g _ _ _ _ _ hEg cJ;obtain⟨Gy,eM,p1,p2⟩:=Gz aX hT OY DK.1;obtain⟨hIs,hsl,hkm,hmm⟩:=bc0 hI Ou hhs;have hkl:∀id∈handed h ps,id<h.length:=λid hid=>by obtain⟨x,hx⟩:=hkm id hid;rw[<-hI.len];exact(bm.1 hx).1
      have SJ:=DK.2 ⟨w0.g,w,Handed h m (handed h ps),kT m (handed h ps)⟩ S Gy qg hIs (λb hb=>(hb.own hI).2) (by rw[gS,(j5 has).1,p1]) (by
       intro i p u q1 q2;rw[b9]at q1;cases hai:ci6[i]? with
       |none=>rw[hai]at q1;cases q1
       |some p0=>
        rw[hai]at q1;simp only[jz,mo]at q1;subst q1;obtain⟨c,e1,e2⟩:=(j5 has).2 i p0 hai;obtain⟨y,f1,f2⟩:=p2 i c e1;obtain rfl:=ku (q2.symm.trans f1);exact xS (xQ hmm e2 f2))
      unfold Oper.wp;rw[eM];refine SJ.mono ?_;rintro e w' ⟨u,S',ms,rfl,mV,hS,lK⟩;obtain⟨g1,g2,g3⟩:=au8 hI Ou hkl hpk hkm mV hS hle hbs;exact hn u w' ⟨S',_,g1,g2,xQ g3 qD lK⟩
     .cases Y
    .cases Y
   .cases Y
  .cases Y
 .cases Y
end
section
variable {P:Program} {w0:fR} {w:World} {Sa S:Nat->Prop} {h h':Hp} {m:Mp} {a:Act} {o:Oper} {T:l_ J} {next:Act->World->Prop} {Q:Exit->Act->World->Prop}
def wF(es:l_ (l_ J))(r ks:l_ J):lF (es++ [r]) ks=bif rowIs r ks then iQ r else lF es ks:=by unfold lF;rw[List.foldl_append];rfl
def firstM(ks:l_ J):l_ MapEntry->Nat->Option (Nat×Value)
 | [],_=>none
 |e::r,i=>bif rowIs (fH e) ks then some (i,e.val)else firstM ks r (i+1)
def av3(a b:y_):dN a b=dN b a:=by unfold dN;rw[oM];exact⟨Eq.symm,Eq.symm⟩
def wG {a b:y_}(h:dN a b=true):a=b:=by unfold dN at h;have:=cn h;exact sK (by rw[<-EY];exact this)
def AZ(a:y_):dN a a=true:=cd rfl
def GF {k:IntKind} {n:Int} {e:MapEntry}(h:e.key= .int k n):fH e=[.sc<|.int k n,.sc e.val]:=by unfold fH;rw[h];rfl
def GG {s:y_} {e:MapEntry}(h:e.key= .string s):fH e=[.sc<|.string s,.sc e.val]:=by unfold fH;rw[h];rfl
def Cy {k:IntKind} {n:Int} {s:y_} {e:MapEntry}(h:e.key= .agg #[.int k n,.string s]):fH e=[.sc<|.int k n,.sc<|.string s,.sc e.val]:=by unfold fH;rw[h];rfl
def mJ {kk:oN} {ks:l_ J} {v:Value} {e:MapEntry}(hk:tY kk ks v)(F:∃wj,tY kk wj e.key):rowIs (fH e) ks=true↔e.key=v:=by
 obtain⟨wj,F⟩:=F;cases kk with
 |int k=>
  obtain⟨n,rfl,rfl⟩:=hk;obtain⟨n',O,_⟩:=F;rw[GF O,O];simp [rowIs,yI]
 |str=>
  obtain⟨s,rfl,rfl⟩:=hk;obtain⟨s',O,_⟩:=F;rw[GG O,O];simp only[rowIs,yI,tq,Value.string.injEq];exact⟨wG,λh=>h▸AZ _⟩
 |pair k=>
  obtain⟨n,s,rfl,rfl⟩:=hk;obtain⟨n',s',O,_⟩:=F;rw[Cy O,O];simp only[rowIs,yI,tq,fG,ev,Value.agg.injEq];constructor
  .rintro⟨rfl,h2⟩;rw[wG h2]
  .intro h;have O:=ba (λx:Array Value=>x[0]?) h;have h2:=ba (λx:Array Value=>x[1]?) h;simp at O h2;exact⟨O,h2▸AZ _⟩
def DM {t:TypeId} {k:IntKind}(h:nN P t=some (.int k)):P.underlying t=some (.int k):=by
 unfold nN at h;split at h
 .rename_i k' hu;cases h;exact hu
 .cases h
 .split at h
  .split at h
   .split at h<;>cases h
   .cases h
  .cases h
 .cases h
def DN {t:TypeId}(h:nN P t=some .str):P.underlying t=some .string:=by
 unfold nN at h;split at h
 .cases h
 .assumption
 .split at h
  .split at h
   .split at h<;>cases h
   .cases h
  .cases h
 .cases h
def A0 {t:TypeId} {k:IntKind}(h:nN P t=some (.pair k)):∃f g,P.underlying t=some (.struct #[f,g])/\P.underlying f.type=some (.int k)/\P.underlying g.type=some .string/\f.name≠ "_"/\g.name≠ "_"/\f.offset=0/\g.offset=1/\P.stoodInHeld t=false:=by
 unfold nN at h;split at h
 .cases h
 .cases h
 .rename_i fs hu;split at h
  .rename_i f g hfs;split at h
   .rename_i k' O h2;split at h
    .cases h
    .rename_i Y;cases h;simp only[not_or,tr]at Y;refine⟨f,g,?_,O,h2,Y.1,Y.2.1,Y.2.2.1,Y.2.2.2.1,by simpa using Y.2.2.2.2⟩;rw[hu,<-hfs]
   .cases h
  .cases h
 .cases h
def Wk {t:TypeId} {k:IntKind}(h:P.underlying t=some (.int k)):Cn P t=some false:=by simp [Cn,h]
def Wl {t:TypeId}(h:P.underlying t=some .string):Cn P t=some false:=by simp [Cn,h]
def Zw {f g:Field} {k:IntKind}(O:P.underlying f.type=some (.int k))(h2:P.underlying g.type=some .string)(o1:f.offset=0)(o2:g.offset=1)(n:Int)(s:y_):
  (part f.type #[.int k n,.string s] f.offset).run P w= .ok (.int k n) w/\(part g.type #[.int k n,.string s] g.offset).run P w= .ok (.string s) w:=
 ⟨rr<|by simp [AJ,Wk O,o1],rr<|by simp [AJ,Wl h2,o2]⟩
def SR {t:TypeId} {kk:oN}(Mo:nN P t=some kk) {ks:l_ J} {v:Value}(hv:tY kk ks v)(b:Bool)(d:Nat):(Instr.checkKey b (d+2) t v).run P w= .ok () w:=by
 cases kk with
 |int k=>
  obtain⟨n,rfl,_⟩:=hv;simp [Instr.checkKey,bU<|DM Mo]
 |str=>
  obtain⟨s,rfl,_⟩:=hv;simp [Instr.checkKey,bU<|DN Mo]
 |pair k=>
  obtain⟨n,s,rfl,_⟩:=hv;obtain⟨f,g,hu,O,h2,n1,n2,o1,o2,hs⟩:=A0 Mo;obtain⟨p1,p2⟩:=Zw (P:=P) (w:=w) O h2 o1 o2 n s;simp [Instr.checkKey,bU hu,n1,n2,p1,p2,bU O,bU h2]
def xV {t:TypeId} {kk:oN}(Mo:nN P t=some kk) {ks:l_ J} {v:Value}(hv:tY kk ks v)(b:Bool):(Instr.checkKey b 10000 t v).run P w= .ok () w:=SR Mo hv b 9998
def Wm(a b:y_):(a==b)=dN a b:=by
 show(a.data==b.data)=dN a b;rw[ea];constructor
 .intro h;exact cd<|ba Array.toList<|eq_of_beq h
 .intro h;rw[wG h];exact LJ _
theorem O0 {t k q:IntKind}(n:Int):∀(l:l_ MapEntry) (i:Nat),(∀e∈l,DC (.int k) q e)->Instr.findNow (.int t) (.int k n) l i=some (firstM [.sc<|.int k n] l i)
 | [],i,_=>rfl
 |e::r,i,h=>by
  obtain⟨⟨ks,n',O,_⟩,_⟩:=h e ch;have ih:=O0 (t:=t) n r (i+1) λe F=>h e<|fh _ F;unfold Instr.findNow firstM;rw[GF O,O];simp only[Instr.sameNow,rH,rowIs,yI,tq];by_cases hn:n=n'
  .subst hn;simp
  .have e1:(n==n')=false:=by grind
   have e2:(n'==n)=false:=by grind
   rw[e1,e2];exact ih
theorem O1 {q:IntKind}(s:y_):∀(l:l_ MapEntry) (i:Nat),(∀e∈l,DC .str q e)->Instr.findNow .string (.string s) l i=some (firstM [.sc<|.string s] l i)
 | [],i,_=>rfl
 |e::r,i,h=>by
  obtain⟨⟨ks,s',O,_⟩,_⟩:=h e ch;have ih:=O1 s r (i+1) λe F=>h e<|fh _ F;unfold Instr.findNow firstM;rw[GG O,O];simp only[Instr.sameNow,rowIs,yI,tq,Wm];by_cases hn:s=s'
  .subst hn;simp [AZ]
  .have e1:=jY.2 λh=>hn<|wG h;have e2:=jY.2 λh=>hn (wG h).symm;rw[e1,e2];exact ih
def SS {t:TypeId} {f g:Field} {k:IntKind} (hu:P.underlying t=some (.struct #[f,g])) (O:P.underlying f.type=some (.int k)) (h2:P.underlying g.type=some .string) (n1:f.name≠ "_") (n2:g.name≠ "_") (o1:f.offset=0) (o2:g.offset=1) (hs:P.stoodInHeld t=false)
  (n n':Int) (s s':y_):(Op.equal t (.agg #[.int k n,.string s])<|.agg #[.int k n',.string s']).run P w= .ok ((n==n')&&dN s s') w:=by
 have h3:eqV P 2 t (.agg #[.int k n,.string s]) (.agg #[.int k n',.string s'])=some ((n==n')&&dN s s'):=by simp [eqV,hu,hs,Sp,n1,n2,AJ,Wk O,Wl h2,o1,o2,O,h2]
 exact Fx (w:=w) 9998 h3
theorem J1 {t:TypeId} {f g:Field} {k:IntKind} {q:IntKind} (hu:P.underlying t=some (.struct #[f,g])) (O:P.underlying f.type=some (.int k)) (h2:P.underlying g.type=some .string) (n1:f.name≠ "_") (n2:g.name≠ "_") (o1:f.offset=0) (o2:g.offset=1) (hs:P.stoodInHeld t=false)
  (n:Int) (s:y_):∀(l:l_ MapEntry) (i:Nat),(∀e∈l,DC (.pair k) q e)->(Instr.findAsking t (.agg #[.int k n,.string s]) l i).run P w= .ok (firstM [.sc<|.int k n,.sc<|.string s] l i) w
 | [],i,_=>rfl
 |e::r,i,h=>by
  obtain⟨⟨ks,n',s',h3,_⟩,_⟩:=h e ch;have ih:=J1 hu O h2 n1 n2 o1 o2 hs n s r (i+1) λe F=>h e<|fh _ F;unfold Instr.findAsking firstM;rw[Cy h3,h3];have F:=SS (w:=w) hu O h2 n1 n2 o1 o2 hs n n' s s';have hb:((n==n')&&dN s s')=((n'==n)&&dN s' s):=by rw[av3];congr 1;rw[ea];simp only[ev];exact⟨Eq.symm,Eq.symm⟩
  simp only[rowIs,yI,tq];rw[hb]at F;cases Y:((n'==n)&&dN s' s)with
  |true=>rw[Y]at F;simp [F]
  |false=>rw[Y]at F;simp [F,ih]
def A1 {t:TypeId} {kk:oN} {q:IntKind}(Mo:nN P t=some kk) {ks:l_ J} {v:Value}(hv:tY kk ks v)(l:l_ MapEntry)(hl:∀e∈l,DC kk q e):(Instr.findKey t v l).run P w= .ok (firstM ks l 0) w:=by
 cases kk with
 |int k=>
  obtain⟨n,rfl,rfl⟩:=hv;simp [Instr.findKey,bU<|DM Mo,O0 n l 0 hl]
 |str=>
  obtain⟨s,rfl,rfl⟩:=hv;simp [Instr.findKey,bU<|DN Mo,O1 s l 0 hl]
 |pair k=>
  obtain⟨n,s,rfl,rfl⟩:=hv;obtain⟨f,g,hu,O,h2,n1,n2,o1,o2,hs⟩:=A0 Mo;have hp:=J1 (w:=w) hu O h2 n1 n2 o1 o2 hs n s l 0 hl;cases l with
  |nil=>simp [Instr.findKey,bU hu,Instr.findNow,firstM]
  |cons e r=>
   have hn:Instr.findNow (.struct #[f,g]) (.agg #[.int k n,.string s]) (e::r) 0=none:=by simp [Instr.findNow,Instr.sameNow]
   simp [Instr.findKey,bU hu,hn,hp]
theorem vk {q:IntKind} {kk:oN} {ks:l_ J}:∀(l:l_ MapEntry) (i:Nat),(∀e∈l,DC kk q e)->(match firstM ks l i with|some (_,v)=>v= .int q (gJ l ks)|none=>gJ l ks=0)
 | [],i,_=>rfl
 |e::r,i,h=>by
  have ih:=vk (ks:=ks) r (i+1) λe F=>h e<|fh _ F;obtain⟨⟨wj,hk⟩,n,hn⟩:=h e ch;unfold firstM gJ;cases Y:rowIs (fH e) ks with
  |true=>
   simp only[Av];have:iQ (fH e)=n:=by
    unfold fH;rw[hn];generalize e.key.cells.toList=l
    induction l with
    |nil=>rfl
    |cons x l ih=>
     have:iQ (List.map J.sc (x::l++ [Value.int q n]))=iQ (List.map J.sc<|l++ [Value.int q n]):=by
      cases l<;>simp [iQ]
     rw[this];exact ih
   rw[this,hn]
  |false=>exact ih
def sW {t:TypeId} {kk:oN} {q:IntKind}(h:sR P t=some (kk,q)):∃kt vt,P.underlying t=some (.map kt vt)/\nN P kt=some kk/\P.underlying vt=some (.int q)/\oB P vt=some (.int q 0):=by
 unfold sR at h;split at h
 .rename_i kt vt hu;split at h
  .rename_i kk' q1 q2 O h2 h3;split at h
   .rename_i F;cases h;subst F;exact⟨kt,vt,hu,O,h2,h3⟩
   .cases h
  .cases h
 .cases h
def ug {kk:oN} {p:J} {ks:l_ J} {v:Value}(h:Gd kk p=some ks)(N:cv w S m p v):tY kk ks v:=by
 unfold Gd at h;split at h
 .split at h
  .rename_i F;subst F;cases h;exact⟨_,jr N,rfl⟩
  .cases h
 .cases h;exact⟨_,jr N,rfl⟩
 .split at h
  .rename_i k k' n s F;subst F;cases h;obtain⟨vs,rfl,hl,Y⟩:=AP N;refine⟨n,s,?_,rfl⟩;obtain⟨vs⟩:=vs
   match vs,hl with
   | [x,y],_=>
    have O:=jr<|Y 0 _ x rfl rfl;have h2:=jr<|Y 1 _ y rfl rfl;rw[O,h2]
  .cases h
 .cases h
def Mq (hI:Inv w0 Sa h S m w) {t:TypeId} {x y:Operand} {id:Nat} {B:dW} {p v:J} (aX:o.op= .lookup t x y false) (N:cv w S m (.mp id) (a.eval x)) (hp:cv w S m p (a.eval y)) (hB:h[id]?=some B) (hl:yJ P t B p=some v)
  (hn:∀v' w',mv w0 Sa h S m w v v' w'->next (a.put o.dst v') w'):o.wp P a w next Q:=by
 unfold yJ at hl;split at hl
 .rename_i kk q z r hk kC;split at hl
  .rename_i Y;obtain⟨cy,Ew⟩:=Y;split at hl
   .rename_i ks SU;cases hl;obtain⟨b,o',sz,hm,hu⟩:=ze N;obtain⟨_,⟨_,z',r',kk',q',ents,e1,e2,e3,e4,e5,e6⟩,_⟩:=hI.maps id B b o' sz hB cy hm;rw[kC]at e1;cases e1;rw[Ew]at e2;cases e2;obtain⟨kt,vt,O,h2,h3,h4⟩:=sW hk;have v8:=ug SU hp;have hf:=A1 (w:=w) h2 v8 ents.toList e5;have hv:=vk (ks:=ks) ents.toList 0 e5;have Jh:=xV (w:=w) h2 v8 ents.isEmpty;have A2:gJ ents.toList ks=lF (z::r) ks:=by rw[<-kC];exact e6 ks _ v8
    have eM:(execOp a.eval o).run P w= .ok (.value<|.int q<|lF (z::r) ks) w:=by
     cases GA:firstM ks ents.toList 0 with
     |none=>
      rw[GA]at hf hv;simp only at hv;rw[A2]at hv;simp [execOp,aX,Instr.lookup,bU O,hu,Sem.run,getObj,e3,Jh,hf,pG h4,hv]
     |some iv=>
      obtain⟨i,u⟩:=iv;rw[GA]at hf hv;simp only at hv;rw[A2]at hv;subst hv;simp [execOp,aX,Instr.lookup,bU O,hu,Sem.run,getObj,e3,Jh,hf]
    exact bQ eM<|hn _ _<|bG hI<|.st _ _<|.sc _
   .cases hl
  .cases hl
 .cases hl
end
section
variable {kk:oN}{ks:l_ J}{b:Nat}{x:Obj}{v:Value}{e e':MapEntry}
section
variable {P:Program} {w0:fR} {w:World} {Sa S:Nat->Prop} {h h':Hp} {m:Mp} {a:Act} {o:Oper} {T:l_ J} {next:Act->World->Prop} {Q:Exit->Act->World->Prop}
def SV(q:IntKind)(kk:oN):shapeOf (Sq q kk)=some (kk,q):=by cases kk<;>rfl
def av4 {q:IntKind}:lF [Sq q kk] ks=0:=by
 unfold lF;simp only[xw,EZ];cases rowIs (Sq q kk) ks with
 |false=>rfl
 |true=>cases kk<;>rfl
def Inv.bA8(hI:Inv w0 Sa h S m w)(q:IntKind)(kk:oN):
  Inv w0 Sa (h++ [⟨[Sq q kk],3,[],0,true,false⟩]) S (m++ [(w.heap.size,0,0)]) (w.alloc<|.map #[] 0)/\yx w S m (w.alloc<|.map #[] 0) S (m++ [(w.heap.size,0,0)]):=by
 have hL:=mi.alloc w S hI.lt (.map #[] 0);have hG:yx w S m (w.alloc<|.map #[] 0) S (m++ [(w.heap.size,0,0)]):=λp v hp=>hp.later hL λi x hx=>fg _ hx;have hlen:=hI.len;have jE:∀ {id:Nat} {B:dW} {x:Nat×Nat×Nat},h[id]?=some B->(m++ [(w.heap.size,0,0)])[id]?=some x->m[id]?=some x:=by
  intro id B x O h2;have:id<m.length:=by rw[hlen];exact(bm.1 O).1
  rw[dy this]at h2;exact h2
 have sA:∀ {x:Nat×Nat×Nat},(m++ [(w.heap.size,0,0)])[h.length]?=some x->x=(w.heap.size,0,0):=by intro x h2;rw[<-hlen,lJ]at h2;exact(ku h2).symm
 refine⟨⟨hI.qf.alloc _,hI.sub,λb hb=>by have:=hI.lt b hb;simp;omega,by simp [hlen],?_,?_,?_,?_,?_,?_,?_,?_,?_,?_,?_⟩,hG⟩
 .intro id B b o nO O h2 h3 N;rcases aJ _ _ _ _ O with O|⟨rfl,rfl⟩
  .obtain⟨c',et',e1,e2,e3,e4⟩:=hI.oq id B b o nO O h2 (jE O h3) N;exact⟨c',et',by rw[gw<|lt_of_block e1];exact e1,e2,e3,λi j e p v q1 q2 q3=>hG _ _ (e4 i j e p v q1 q2 q3)⟩
  .change 3<=1 at h2;omega
 .intro id B b o nO O h2 h3 N;rcases aJ _ _ _ _ O with O|⟨rfl,rfl⟩
  .exact hI.live id B b o nO O h2 (jE O h3) N
  .cases h2
 .intro id jd B B' b o Zi o' Gf O h2 h3 h4 h5 h6 N qD;rcases aJ _ _ _ _ O with O|⟨rfl,rfl⟩
  .rcases aJ _ _ _ _ h4 with h4|⟨rfl,rfl⟩
   .exact hI.uniq id jd B B' b o Zi o' Gf O h2 (jE O h3) h4 h5 (jE h4 h6) N qD
   .cases h5
  .cases h2
 .intro id B b o nO O h2 h3 N;rcases aJ _ _ _ _ O with O|⟨rfl,rfl⟩
  .rcases hI.tZ id B b o nO O h2 (jE O h3) N with hS|⟨jd,B',o',z',q1,q2,q3,q4⟩
   .exact .inl hS
   .exact .inr ⟨jd,B',o',z',fg _ q1,q2,fg _ q3,q4⟩
  .cases h2
 .intro id q B Bq O h2 h3;rcases aJ _ _ _ _ O with O|⟨rfl,rfl⟩
  .rcases aJ _ _ _ _ h3 with h3|⟨rfl,rfl⟩
   .exact hI.qU id q B Bq O h2 h3
   .exact absurd (hI.oP id _ B O h2)<|nI _
  .cases h2
 .intro id q B O h2;rcases aJ _ _ _ _ O with O|⟨rfl,rfl⟩
  .have:=hI.oP id q B O h2;simp;omega
  .cases h2
 .intro id B b o nO O h3 N;rcases aJ _ _ _ _ O with O|⟨rfl,rfl⟩
  .exact hI.Ci id B b o nO O (jE O h3) N
  .cases sA h3;rfl
 .intro id B O h2;rcases aJ _ _ _ _ O with O|⟨rfl,rfl⟩
  .exact hI.syms id B O h2
  .intro e F;rw[mq]at F;subst F;cases kk<;>rfl
 .intro id B b o nO O h2 h3;rcases aJ _ _ _ _ O with O|⟨rfl,rfl⟩
  .have:=hI.maps id B b o nO O h2<|jE O h3;exact⟨this.1,this.2.1.same<|gw this.2.1.lt,this.2.2⟩
  .cases sA h3;refine⟨.inl hI.qf.size,⟨rfl,Sq q kk,[],kk,q,#[],rfl,SV q kk,dJ _ _,λi e F=>by simp at F,λe F=>by simp at F,λks v _=>av4.symm⟩,λhS=>absurd (hI.lt _ hS) (nI _)⟩
 .intro id jd B B' b o Zi o' Gf O h2 h3 h4 h5 h6;have ltm:∀ {id:Nat} {B:dW} {b o z:Nat},h[id]?=some B->B.st=3->m[id]?=some (b,o,z)->b<w.heap.size:=λq1 q2 q3=>(hI.maps _ _ _ _ _ q1 q2 q3).2.1.lt;rcases aJ _ _ _ _ O with O|⟨rfl,rfl⟩<;>rcases aJ _ _ _ _ h4 with h4|⟨rfl,rfl⟩
  .exact hI.ua id jd B B' b o Zi o' Gf O h2 (jE O h3) h4 h5<|jE h4 h6
  .cases sA h6;have:=ltm O h2<|jE O h3;omega
  .cases sA h3;have:=ltm h4 h5<|jE h4 h6;omega
  .rfl
 .intro i x hx;obtain⟨O,B,h2,h3⟩:=hI.gV i x hx;exact⟨fg _ O,B,fg _ h2,h3⟩
def Ji (hI:Inv w0 Sa h S m w) {t:TypeId} {kk:oN} {q:IntKind} (aX:o.op= .makeMap t none)
  (hn:∀v' w',mv w0 Sa (h++ [⟨[Sq q kk],3,[],0,true,false⟩]) S m w (.mp h.length) v' w'->next (a.put o.dst v') w'):o.wp P a w next Q:=by
 obtain⟨O,h2⟩:=hI.bA8 q kk;refine gC (v':= .map (some w.heap.size)) (w':=w.alloc (.map #[] 0)) ?_<|hn _ _ ⟨S,_,O,h2,?_⟩
 .simp [execOp,aX,Instr.makeMap,newObj,Sem.run]
 .refine .mp h.length w.heap.size 0 0 ?_;rw[<-hI.len,lJ]
def tD(w:World)(b:Nat)(x:Obj):World:= {w with heap:=w.heap.setIfInBounds b x}
def A3 {w:World}(hb:b<w.heap.size):(tD w b x).heap[b]?=some x:=by simp [tD,hb]
def nd {w:World} {k:Nat}(hk:k≠b):(tD w b x).heap[k]?=w.heap[k]?:=by show(w.heap.setIfInBounds b x)[k]?=_;rw[Ar,if_neg λe=>hk e.symm]
def Cz {w:World}:(tD w b x).heap.size=w.heap.size:=by simp [tD]
def SX {B:Nat} {g w:World}(h:Below B g w)(hb:B<=b):Below B g (tD w b x):=
 ⟨h.os,h.tape,h.output,by rw[Cz];exact h.size,λk hk=>(nd U).trans (h.block k hk)⟩
def V7.bA9 {w0:fR} {w:World}(h:V7 w0 w) {b:Nat}(hb:w0.own b) {e0:Array MapEntry} {c0:Nat}(Y:w.heap[b]?=some (.map e0 c0))(x:Obj):V7 w0 (tD w b x):=by
 have hge:=fR.Sz h hb;refine⟨SX h.root hge,h.os,h.tape,h.output,by rw[Cz];exact h.size,λk hk hD=> ?_,?_,h.gsz,h.dg⟩
 .by_cases I8:k=b
  .subst I8;rcases hb with hb|hb
   .omega
   .exact absurd hb hD
  .exact(nd I8).trans<|h.block k hk hD
 .intro k ck etk hk;obtain⟨c2,O,h2⟩:=h.shape k ck etk hk;have I8:k≠b:=by rintro rfl;rw[Y]at O;cases O
  exact⟨c2,(nd I8).trans O,h2⟩
def Inv.SY (hI:Inv w0 Sa h S m w) {id b o sz:Nat} {B:dW} (hB:h[id]?=some B) (cy:B.st=3) (hm:m[id]?=some (b,o,sz)) {es:l_ (l_ J)} {ents:Array MapEntry}
  (hM:at1 (tD w b<|.map ents ents.size) b es) (hs:oA es):
  Inv w0 Sa (h.set id {B with es:=es}) S m (tD w b<|.map ents ents.size)/\yx w S m (tD w b<|.map ents ents.size) S m:=by
 obtain⟨R5,hMA,SD⟩:=hI.maps id B b o sz hB cy hm;obtain⟨e0,hb⟩:∃e0:Array MapEntry,w.heap[b]?=some (.map e0 e0.size):=by obtain⟨_,z,r,kk,q,e0,_,_,O,_⟩:=hMA;exact⟨e0,O⟩
 have b62:B.es≠ []:=by obtain⟨_,z,r,kk,q,e0,O,_⟩:=hMA;rw[O];exact λh=>by cases h
 have jD:∀k,k≠b->(tD w b<|.map ents ents.size).heap[k]?=w.heap[k]?:=λk hk=>nd hk;have hL:mi w S (tD w b<|.map ents ents.size) S:=by
  refine⟨λ_ h=>h,λk hk=>jD k (λF=>SD (F▸hk)),λk ck etk hk=> ?_⟩;have I8:k≠b:=by rintro rfl;rw[hb]at hk;cases hk
  exact⟨ck,(jD k I8).trans hk,rfl⟩
 have hG:yx w S m (tD w b<|.map ents ents.size) S m:=λp v hp=>hp.later hL λ_ _ h=>h;have jW:∀ {q:Nat} {X:dW},(h.set id {B with es:=es})[q]?=some X->(q=id/\X= {B with es:=es})\/(q≠id/\h[q]?=some X):=by
  intro q X hq;rw[cD]at hq;by_cases qV:id=q
  .subst qV;have:id<h.length:=(bm.1 hB).1;simp [this]at hq;exact .inl ⟨rfl,hq.symm⟩
  .rw[if_neg qV]at hq;exact .inr ⟨λe=>qV e.symm,hq⟩
 have low:∀ {q:Nat} {X:dW},(h.set id {B with es:=es})[q]?=some X->X.st≠3->h[q]?=some X:=by
  intro q X hq hx;rcases jW hq with⟨rfl,rfl⟩|⟨_,O⟩
  .exact absurd cy hx
  .exact O
 have back:∀ {q:Nat} {X:dW},(h.set id {B with es:=es})[q]?=some X->∃cj3,h[q]?=some cj3/\cj3.st=X.st/\cj3.par=X.par/\cj3.sz=X.sz/\cj3.sym=X.sym/\cj3.gV=X.gV:=by
  intro q X hq;rcases jW hq with⟨rfl,rfl⟩|⟨_,O⟩
  .exact⟨B,hB,rfl,rfl,rfl,rfl,rfl⟩
  .exact⟨X,O,rfl,rfl,rfl,rfl,rfl⟩
 refine⟨⟨hI.qf.bA9 R5 hb _,hI.sub,λk hk=>by rw[Cz];exact hI.lt k hk,by simpa using hI.len,?_,?_,?_,?_,?_,?_,?_,?_,?_,?_,?_⟩,hG⟩
 .intro q X b' o' z' hq hx fL N;obtain⟨c2,et2,f1,f2,f3,f4⟩:=hI.oq q X b' o' z' (low hq U) hx fL N;have Ai:b'≠b:=by rintro rfl;rw[hb]at f1;cases f1
  exact⟨c2,et2,(jD b' Ai).trans f1,f2,f3,λi' j e' p v q1 q2 q3=>hG _ _ (f4 i' j e' p v q1 q2 q3)⟩
 .intro q X b' o' z' hq hx fL N;exact hI.live q X b' o' z' (low hq U) hx fL N
 .intro q q' X X' b' o1 z1 o2 z2 hq hx fL uc xN kz N qD;exact hI.uniq q q' X X' b' o1 z1 o2 z2 (low hq U) hx fL (low uc U) xN kz N qD
 .intro q X b' o' z' hq hx fL N;rcases hI.tZ q X b' o' z' (low hq U) hx fL N with hS|⟨jd,B',o2,z2,q1,q2,q3,qr,q4⟩
  .exact .inl hS
  .refine .inr ⟨jd,B',o2,z2,?_,q2,q3,qr,q4⟩;rw[cD,if_neg,q1];rintro rfl;rw[hB]at q1;cases q1;omega
 .intro q r X Xr hq N SE;obtain⟨cj3,y1,_,y2,_⟩:=back hq;obtain⟨R,r1,r2,_⟩:=back SE;rw[<-r2];exact hI.qU q r cj3 R y1 (y2▸N) r1
 .intro q r X hq N;obtain⟨cj3,y1,_,y2,_⟩:=back hq;rw[nJ];exact hI.oP q r cj3 y1<|y2▸N
 .intro q X b' o' z' hq fL N;rcases jW hq with⟨rfl,rfl⟩|⟨_,O⟩
  .exact hI.Ci q B b' o' z' hB fL<|.inl b62
  .exact hI.Ci q X b' o' z' O fL N
 .intro q X hq hx;rcases jW hq with⟨rfl,rfl⟩|⟨_,O⟩
  .exact hs
  .exact hI.syms q X O hx
 .intro q X b' o' z' hq hx fL;rcases jW hq with⟨rfl,rfl⟩|⟨qV,O⟩
  .rw[hm]at fL;cases fL;exact⟨R5,⟨hMA.1,hM⟩,SD⟩
  .have hMq:=hI.maps q X b' o' z' O hx fL;have Ai:b'≠b:=by rintro rfl;exact qV (hI.ua q id X B b' o' z' o sz O hx fL hB cy hm)
   exact⟨hMq.1,hMq.2.1.same<|jD b' Ai,hMq.2.2⟩
 .intro q q' X X' b' o1 z1 o2 z2 hq hx fL uc xN kz;obtain⟨cj3,y1,y2,_⟩:=back hq;obtain⟨Y',Gi,I0,_⟩:=back uc;exact hI.ua q q' cj3 Y' b' o1 z1 o2 z2 y1 (y2.trans hx) fL Gi (I0.trans xN) kz
 .intro i' x hx;obtain⟨O,X,h2,h3⟩:=hI.gV i' x hx;obtain⟨X',h4,h5⟩:=xM (C:= {B with es:=es}) hB rfl h2;exact⟨O,X',h4,by rw[h5,h3]⟩
def A4 {wj:l_ J}(h:tY kk ks v)(h':tY kk wj v):ks=wj:=by
 cases kk with
 |int k=>obtain⟨n,rfl,rfl⟩:=h;obtain⟨n',e,rfl⟩:=h';cases e;rfl
 |str=>obtain⟨n,rfl,rfl⟩:=h;obtain⟨n',e,rfl⟩:=h';cases e;rfl
 |pair k=>obtain⟨n,s,rfl,rfl⟩:=h;obtain⟨n',s',e,rfl⟩:=h';cases e;rfl
def Fz(h:tY kk ks e.key):fH e=ks++ [.sc e.val]:=by
 cases kk with
 |int k=>obtain⟨n,O,rfl⟩:=h;rw[GF O];rfl
 |str=>obtain⟨n,O,rfl⟩:=h;rw[GG O];rfl
 |pair k=>obtain⟨n,s,O,rfl⟩:=h;rw[Cy O];rfl
def np(ks:l_ J)(q:IntKind)(n:Int):iQ (ks++ [.sc<|.int q n])=n:=by
 induction ks with
 |nil=>rfl
 |cons x l ih=>
  have:iQ (x::l++ [J.sc<|Value.int q n])=iQ (l++ [J.sc<|Value.int q n]):=by
   cases l<;>simp [iQ]
  rw[this];exact ih
def Wn(hk:tY kk ks v)(F:∃wj,tY kk wj e.key)(h:e'.key=e.key):rowIs (fH e') ks=rowIs (fH e) ks:=by rw[ea,mJ hk F,mJ hk (by rw[h];exact F),h]
theorem wH:∀(l:l_ MapEntry) (i:Nat),firstM ks l i=none->∀e∈l,rowIs (fH e) ks=false
 | [],_,_=>λe F=>by cases F
 |x::r,i,h=>by
  unfold firstM at h;intro e F;cases hx:rowIs (fH x) ks with
  |true=>rw[hx]at h;cases h
  |false=>
   rw[hx]at h;rcases fB.1 F with rfl|F
   .exact hx
   .exact wH r (i+1) h e F
theorem sX:∀(l:l_ MapEntry) (j i:Nat) (u:Value),firstM ks l j=some (i,u)->∃k e,i=j+k/\l[k]?=some e/\rowIs (fH e) ks=true/\∀k' e',k'<k->l[k']?=some e'->rowIs (fH e') ks=false
 | [],_,_,_,h=>by cases h
 |x::r,j,i,u,h=>by
  unfold firstM at h;cases hx:rowIs (fH x) ks with
  |true=>
   rw[hx]at h;cases h;exact⟨0,x,rfl,rfl,hx,λk' e' O=>absurd O (jC _)⟩
  |false=>
   rw[hx]at h;obtain⟨k,e,O,h2,h3,h4⟩:=sX r (j+1) i u h;refine⟨k+1,e,U,by simpa using h2,h3,λk' e' h5 h6=> ?_⟩;cases k' with
   |zero=>simp at h6;subst h6;exact hx
   |succ k'=>exact h4 k' e' U (by simpa using h6)
theorem wI:∀ {l:l_ MapEntry},(∀e∈l,rowIs (fH e) ks=false)->∀e,gJ (l++ [e]) ks=gJ [e] ks
 | [],_,_=>rfl
 |x::r,h,e=>by show(bif rowIs (fH x) ks then iQ (fH x)else gJ (r++ [e]) ks)=_;rw[h x ch];exact wI (λe F=>h e (fh _ F)) e
theorem wJ(h:rowIs (fH e) ks=false):∀(l:l_ MapEntry),gJ (l++ [e]) ks=gJ l ks
 | []=>by
  show(bif rowIs (fH e) ks then iQ (fH e)else 0)=0;rw[h];rfl
 |x::r=>by
  show(bif rowIs (fH x) ks then iQ (fH x)else gJ (r++ [e]) ks)=bif rowIs (fH x) ks then iQ (fH x)else gJ r ks
  rw[wJ h r]
theorem zm(h:rowIs (fH e') ks=true):∀(l:l_ MapEntry) (k:Nat),k<l.length->(∀k' e'',k'<k->l[k']?=some e''->rowIs (fH e'') ks=false)->gJ (l.set k e') ks=iQ (fH e')
 | [],k,hk,_=>by simp at hk
 |x::r,0,_,_=>by
  show(bif rowIs (fH e') ks then iQ (fH e')else gJ r ks)=_;rw[h];rfl
 |x::r,k+1,hk,hb=>by show(bif rowIs (fH x) ks then iQ (fH x)else gJ (r.set k e') ks)=_;rw[hb 0 x U rfl];exact zm h r k (by simpa using hk) λk' e'' O h2=>hb (k'+1) e'' U (by simpa using h2)
theorem wL(h:rowIs (fH e) ks=false)(h':rowIs (fH e') ks=false):∀(l:l_ MapEntry) (k:Nat),l[k]?=some e->gJ (l.set k e') ks=gJ l ks
 | [],k,hk=>by simp at hk
 |x::r,0,hk=>by
  simp at hk;subst hk;show(bif rowIs (fH e') ks then iQ (fH e')else gJ r ks)=bif rowIs (fH x) ks then iQ (fH x)else gJ r ks
  rw[h,h'];rfl
 |x::r,k+1,hk=>by
  show(bif rowIs (fH x) ks then iQ (fH x)else gJ (r.set k e') ks)=bif rowIs (fH x) ks then iQ (fH x)else gJ r ks
  rw[wL h h' r k<|by simpa using hk]
def Mr(h:tY kk ks v)(d:Nat):Instr.sameBits (d+1) v v=true:=by
 have hs:∀s:y_,(s==s)=true:=λs=>by rw[Wm];exact AZ s
 cases kk with
 |int k=>obtain⟨n,rfl,_⟩:=h;simp [Instr.sameBits]
 |str=>obtain⟨s,rfl,_⟩:=h;simp [Instr.sameBits,hs]
 |pair k=>obtain⟨n,s,rfl,_⟩:=h;simp [Instr.sameBits,hs]
def O2(h:tY kk ks v):(Instr.keyThatStays v v).run P w= .ok v w:=by have:=Mr h 9999;simp [Instr.keyThatStays,this]
def J2(h:tY kk ks v)(q:IntKind)(n:Int):(ks++ [J.sc<|.int q n]).all fO=true:=by
 cases kk with
 |int k=>obtain⟨_,_,rfl⟩:=h;rfl
 |str=>obtain⟨_,_,rfl⟩:=h;rfl
 |pair k=>obtain⟨_,_,_,rfl⟩:=h;rfl
def Ex (hI:Inv w0 Sa h S m w) {t:TypeId} {x y u:Operand} {id:Nat} {B:dW} {p v:J} {es:l_ (l_ J)} (aX:o.op= .mapUpdate t x y u) (N:cv w S m (.mp id) (a.eval x)) (hp:cv w S m p (a.eval y)) (hu:cv w S m v (a.eval u))
  (hB:h[id]?=some B) (hl:Sr P t B p v=some es) (hn:∀v' w',mv w0 Sa (h.set id {B with es:=es}) S m w (.sc Go.undef) v' w'->next (a.put o.dst v') w'):o.wp P a w next Q:=by
 unfold Sr at hl;split at hl
 .rename_i kk q z r q1 n hk kC;split at hl
  .rename_i Y;obtain⟨cy,Ew,rfl⟩:=Y;split at hl
   .rename_i ks SU;cases hl;have A2:=jr hu;obtain⟨b,o',sz,hm,hmv⟩:=ze N;obtain⟨_,⟨_,z',r',kk',q',ents,e1,e2,e3,e4,e5,e6⟩,_⟩:=hI.maps id B b o' sz hB cy hm;rw[kC]at e1;cases e1;rw[Ew]at e2;cases e2;obtain⟨kt,vt,O,h2,h3,h4⟩:=sW hk;have v8:=ug SU hp;have hf:=A1 (w:=w) h2 v8 ents.toList e5;have Jh:=xV (w:=w) h2 v8 false;have Zv:=lt_of_block e3;have AV:oA ((z::r)++ [ks++ [.sc<|.int q1 n]]):=by
     intro e F;rcases kx.1 F with F|F
     .rw[<-kC]at F;exact hI.syms id B hB (hI.maps id B b o' sz hB cy hm).2.1.1 e F
     .rw[mq]at F;subst F;exact J2 v8 q1 n
    have fin:∀nT:Array MapEntry,(execOp a.eval o).run P w= .ok .skip (tD w b<|.map nT nT.size)->(∀(i:Nat) e,nT[i]?=some e->e.born=i)->(∀e∈nT.toList,DC kk q1 e)->
      (∀wj v',tY kk wj v'->gJ nT.toList wj=bif rowIs (ks++ [.sc<|.int q1 n]) wj then n else gJ ents.toList wj)->o.wp P a w next Q:=by
     intro nT eM g1 g2 g3;obtain⟨mV,hG⟩:=hI.SY (es:=(z::r)++ [ks++ [.sc<|.int q1 n]]) (ents:=nT) hB cy hm ⟨z,r++ [ks++ [.sc<|.int q1 n]],kk,q1,nT,rfl,Ew,A3 Zv,g1,g2,λwj v' I3=>by rw[wF,np,g3 wj v' I3,e6 wj v' I3,kC]⟩ AV
     unfold Oper.wp;rw[eM];exact hn _ _ ⟨S,m,mV,hG,.st _ _<|.sc _⟩
    cases GA:firstM ks ents.toList 0 with
    |none=>
     have yy:=wH _ _ GA;rw[GA]at hf;refine fin (ents.push ⟨a.eval y,.int q1 n,ents.size⟩) ?_ ?_ ?_ ?_
     .simp [execOp,aX,Instr.mapUpdate,bU O,hmv,A2,getObj,setObj,Sem.run,e3,Jh,hf,tD]
     .intro i e F;rw[Ap]at F;split at F
      .cases F;rename_i hi;exact hi.symm
      .exact e4 i e F
     .intro e F;rw[Aw]at F;rcases kx.1 F with F|F
      .exact e5 e F
      .rw[mq]at F;subst F;exact⟨⟨ks,v8⟩,n,rfl⟩
     .intro wj v' I3;rw[Aw];have hre:fH ⟨a.eval y,.int q1 n,ents.size⟩=ks++ [.sc<|.int q1 n]:=Fz (e:=⟨a.eval y,.int q1 n,ents.size⟩) v8;rw[<-hre];cases Y:rowIs (fH ⟨a.eval y,.int q1 n,ents.size⟩) wj with
      |true=>
       have hv2:a.eval y=v':=(mJ (e:=⟨a.eval y,.int q1 n,ents.size⟩) I3 ⟨ks,v8⟩).1 Y;have SZ:=A4 (hv2▸v8) I3;subst SZ;rw[wI yy];show(bif rowIs (fH _) ks then iQ (fH _)else 0)=n;rw[Y,hre];exact np _ _ _
      |false=>exact wJ Y _
    |some iv=>
     obtain⟨i,u0⟩:=iv;rw[GA]at hf;obtain⟨k,e0,hi,Wo,SC,FA⟩:=sX _ _ _ _ GA;rw[eP]at hi;subst hi;have O3:ents[i]?=some e0:=by grind
     have oR:=(bm.1 Wo).1;have he0:=e5 e0 (cw Wo);have GH:=(mJ v8 he0.1).1 SC;have Ms:(ents.modify i λe=> {e with key:=a.eval y,val:= .int q1 n}).toList=ents.toList.set i {e0 with key:=a.eval y,val:= .int q1 n}:=by
      rw[Array.toList_modify];refine k6 λj=> ?_;rw[List.getElem?_modify,cD];by_cases Jj:i=j
      .subst Jj;simp only[rH,if_pos oR,Wo];rfl
      .simp only[if_neg Jj];cases ents.toList[j]?<;>rfl
     refine fin (ents.modify i λe=> {e with key:=a.eval y,val:= .int q1 n}) ?_ ?_ ?_ ?_
     .simp [execOp,aX,Instr.mapUpdate,bU O,hmv,A2,getObj,setObj,Sem.run,e3,Jh,hf,O3,GH,O2 v8,tD]
     .intro j e F;rw[<-rJ,Ms,cD]at F;split at F
      .rename_i Jj;cases F;subst Jj;exact e4 _ e0 O3
      .exact e4 j e (by simpa using F)
     .intro e F;rw[Ms]at F;rcases EO F with F|rfl
      .exact e5 e F
      .exact⟨⟨ks,v8⟩,n,rfl⟩
     .intro wj v' I3;rw[Ms];have hre:fH {e0 with key:=a.eval y,val:= .int q1 n}=ks++ [.sc<|.int q1 n]:=Fz (e:= {e0 with key:=a.eval y,val:= .int q1 n}) v8;have Mo:rowIs (fH {e0 with key:=a.eval y,val:= .int q1 n}) wj=rowIs (fH e0) wj:=Wn I3 he0.1 GH.symm;rw[<-hre];cases Y:rowIs (fH e0) wj with
      |true=>
       have hv2:=(mJ I3 he0.1).1 Y;have SZ:=A4 (kk:=kk) (v:=v') (by rw[<-hv2,GH];exact v8) I3;subst SZ;rw[Mo,Y,zm (Mo.trans Y) _ _ oR FA,hre];exact np _ _ _
      |false=>
       rw[Mo,Y];exact wL Y (Mo.trans Y) _ _ Wo
   .cases hl
  .cases hl
 .cases hl
end
end
section
variable {t:TypeId}{p q:J}{X:Prop}{tl:Tl}
section
variable {E:Env} {P:Program} {w0:fR} {w:World} {Sa S:Nat->Prop} {h h':Hp} {m:Mp} {a:Act} {o:Oper} {T:l_ J} {s s':l8} {ob:l_ Prop} {v:J} {next:Act->World->Prop} {Q:Exit->Act->World->Prop}
def O4 {e:l_ J}(hq:F8 P h t e p=some (q,X))(hX:X):rO P h t p=some q:=by
 unfold F8 at hq;unfold rO;split at hq
 .rename_i id i off;split at hq
  .rename_i B hB;split at hq
   .rename_i cy;split at hq
    .rename_i q' hp;cases hq;simp only[if_pos cy];rw[hX];exact hp
    .cases hq
   .cases hq
  .cases hq
 .rename_i cs off;split at hq
  .rename_i q' hp;cases hq;subst hX;exact hp
  .cases hq
 .cases hq
def av5(hq:Gb P h t tl p=some (q,X))(hX:X):rO P h t p=some q:=by
 unfold Gb at hq;split at hq
 .exact O4 hq hX
 .rename_i v id i off;split at hq
  .rename_i B hB I9;split at hq
   .rename_i cy;cases hq;unfold rO;simp only[hB,if_pos cy];cases F:B.es[i]? with
    |none=>rw[F]at hX;cases hX
    |some e=>
     rw[F]at hX;simp only[pC,I9];exact hX
   .cases hq
  .cases hq
 .cases hq
def Zx(hs:LZ P h t tl p q=some (h',ob))(cJ:∀X∈ob,X):Co P h t p q=some h':=by
 unfold LZ at hs;unfold Co;split at hs
 .rename_i id i off cs n Aj hz;split at hs
  .rename_i B hB;split at hs
   .rename_i Y;obtain⟨c1,c2,c3,c4⟩:=Y;split at hs
    .rename_i e;split at hs
     .rename_i nQ;cases hs;have F:B.es[i]?=some e:=cJ _ sS;simp only[F];rw[if_pos ⟨c1,c2,nQ,c3,c4⟩]
     .cases hs
    .cases hs;have O:i<B.es.length:=cJ _ sS;have h2:off+n<=(B.es.getD i []).length:=cJ _ sS;have F:B.es[i]?=some (B.es.getD i []):=by rw[cc,bX O];rfl
     simp only[F];rw[if_pos ⟨c1,c2,h2,c3,c4⟩]
   .cases hs
  .cases hs
 .cases hs
def O5 (hI:Inv w0 Sa h S m w) (qg:GI P w0.g) {t:TypeId} {x:Operand} {p q:J} {X:Prop} (aX:o.op= .load t x) (N:cv w S m p (a.eval x)) (hl:as2 P t p=some (q,X)) (hX:X)
  (hn:∀v' w',mv w0 Sa h S m w q v' w'->next (a.put o.dst v') w'):o.wp P a w next Q:=by
 unfold as2 at hl;split at hl
 .rename_i g k;split at hl
  .rename_i q0 l hg I9;cases hl;obtain⟨et,fz,Y⟩:=(qg.below hI.qf.root).tab g q0 l hg;have hu:=jr N;have wx:w.cell? ⟨g,k,none⟩=some (.int q0<|l.getD k 0):=by rw[cell_of Y,sL,b9,cc,bX hX];rfl
   refine bQ (v':= .int q0 (l.getD k 0)) ?_<|hn _ _<|bG hI<|.st _ _<|.sc _;simp [execOp,aX,Instr.loadAt,Instr.sureAddr,hu,loadVar,px I9,wx]
  .cases hl
 .cases hl
theorem Inv.O6 (hI:Inv w0 Sa h S m w) {id b o z:Nat} {B:dW} {zs:l_ Value} {c:Array Value} {et:TypeId} (hB:h[id]?=some B) (cy:B.st=0) (hp:B.par=[]) (hm:m[id]?=some (b,o,z)) (hz:zs.length=z)
  (hsb:(zs.map cellOf).all fO=true) (hb:w.heap[b]?=some (.cells c et (0,0))) (mE:0<z) (off:Nat):∀len,off+len<=B.es.length->
  o+off*z+len*z<=c.size/\Inv w0 Sa (h.set id {B with es:=B.es.take off++List.replicate len (zs.map cellOf)++B.es.drop (off+len)}) S m (w.setRow b (c.toList.take (o+off*z)++(List.replicate len zs).flatten++c.toList.drop (o+off*z+len*z)).toArray)/\
   yx w S m (w.setRow b (c.toList.take (o+off*z)++(List.replicate len zs).flatten++c.toList.drop (o+off*z+len*z)).toArray) S m
 |0,hl=>by
  have kZ:o+B.es.length*z<=c.size:=by obtain⟨c1,SB,e1,e2,_⟩:=hI.oq id B b o z hB U hm<|.inr mE;rw[hb]at e1;cases e1;exact e2
  have:=il z (show off<=B.es.length by omega);have e1:(c.toList.take (o+off*z)++(List.replicate 0 zs).flatten++c.toList.drop (o+off*z+0*z)).toArray=c:=sS;have e2:({B with es:=B.es.take off++List.replicate 0 (zs.map cellOf)++B.es.drop (off+0)}:dW)=B:=sS;rw[e1,e2,setRow_self w b c et (0,0) hb];refine⟨U,?_,λ_ _ h=>h⟩;have:h.set id B=h:=by
   apply k6;intro i;rw[cD];by_cases hi:id=i
   .subst hi;rw[if_pos rfl,if_pos (bm.1 hB).1,hB]
   .rw[if_neg hi]
  rw[this];exact hI
 |len+1,hl=>by
  obtain⟨q1,q2,q3⟩:=Inv.O6 hI hB cy hp hm hz hsb hb mE off len U;have kZ:o+B.es.length*z<=c.size:=by obtain⟨c1,SB,e1,e2,_⟩:=hI.oq id B b o z hB U hm<|.inr mE;rw[hb]at e1;cases e1;exact e2
  have hmul:=il z (show off+(len+1)<=B.es.length by omega);have hid:=(bm.1 hB).1;have oR:off+len<B.es.length:=U;have iH:(B.es.take off++List.replicate len (zs.map cellOf)).length=off+len:=by simp;omega
  have Fw:(B.es[off+len]).length=z:=by obtain⟨c1,SB,e1,_,e3,_⟩:=hI.oq id B b o z hB U hm<|.inr mE;exact e3 _<|rF oR
  have hge:(B.es.take off++List.replicate len (zs.map cellOf)++B.es.drop (off+len))[off+len]?=some B.es[off+len]:=by rw[gj U,iH,xA,iO,rG,bX oR]
  have zd:(w.setRow b (c.toList.take (o+off*z)++(List.replicate len zs).flatten++c.toList.drop (o+off*z+len*z)).toArray).heap[b]?=some (.cells _ et (0,0)):=setRow_heap w b c _ et (0,0) hb;have ch2:(off+len)*z=off*z+len*z:=by grind
  have hs1:(len+1)*z=len*z+z:=by grind
  have hs2:(off+(len+1))*z=off*z+(len*z+z):=by grind
  have hfl:(List.replicate len zs).flatten.length=len*z:=by simp [hz]
  obtain⟨_,r1,r2⟩:=q2.store (B:= {B with es:=B.es.take off++List.replicate len (zs.map cellOf)++B.es.drop (off+len)}) (id:=id) (i:=off+len) (off:=0) (cs:=zs.map cellOf) (vs:=zs) (e:=B.es[off+len]) (by rw[cD,if_pos rfl,if_pos hid]) cy hm hge (by simp;omega) sS (λj p v p1 p2=>by rw[b9,p2]at p1;cases p1;exact .st _ _ (sU _ _ _)) zd (by simp [hsb])
  have ew:∀(x:l_ Value),c.toList.length=c.size->x=(c.toList.take (o+off*z)++(List.replicate len zs).flatten++c.toList.drop (o+off*z+len*z))->
    x.take (o+(off+len)*z+0)++zs++x.drop (o+(off+len)*z+0+zs.length)=c.toList.take (o+off*z)++(List.replicate (len+1) zs).flatten++c.toList.drop (o+off*z+(len+1)*z):=by
   intro x Y hx;have hA:(c.toList.take (o+off*z)++(List.replicate len zs).flatten).length=o+(off+len)*z+0:=by rw[br,hfl,im];omega
   subst hx;rw[List.take_left' hA,LK,List.drop_of_length_le (by rw[hA];omega),nL,xC,hA];have N:(List.replicate (len+1) zs).flatten=(List.replicate len zs).flatten++zs:=by rw[LL,List.flatten_append];simp
   rw[N];simp only[lG];congr 4;omega
  have hw:=ew _ sS rfl;simp only[setRow_setRow]at r1 r2;rw[hw]at r1 r2;refine⟨U,?_,λp v hp=>r2 _ _ (q3 _ _ hp)⟩;have hh:kill ((h.set id {B with es:=B.es.take off++List.replicate len (zs.map cellOf)++B.es.drop (off+len)}).set id {B with es:=(B.es.take off++List.replicate len (zs.map cellOf)++B.es.drop (off+len)).set (off+len) (splice B.es[off+len] 0<|zs.map cellOf)}) B.par=h.set id {B with es:=B.es.take off++List.replicate (len+1) (zs.map cellOf)++B.es.drop (off+(len+1))}:=by
   rw[hp,List.set_set];have hk:∀g:Hp,kill g []=g:=λg=>by apply k6;intro i;rw[kS];cases g[i]?<;>simp
   rw[hk];have kC:(B.es.take off++List.replicate len (zs.map cellOf)++B.es.drop (off+len)).set (off+len) (splice B.es[off+len] 0<|zs.map cellOf)=B.es.take off++List.replicate (len+1) (zs.map cellOf)++B.es.drop (off+(len+1)):=by
    have hsp:splice B.es[off+len] 0 (zs.map cellOf)=zs.map cellOf:=by unfold splice;rw[List.take_zero,nL,List.drop_of_length_le (by simp;omega),List.append_nil]
    rw[hsp,List.set_append_right _ _ U,iH,xA,Fa oR,List.set_cons_zero,LL];simp [Nat.add_assoc]
   rw[kC]
  rw[hh]at r1;exact r1
theorem O7 {α:Type}(zs:l_ α):∀(n i:Nat),i<n*zs.length->(List.replicate n zs).flatten[i]?=zs[i%zs.length]?
 |0,i,h=>U
 |n+1,i,h=>by
  rw[List.replicate_succ,LD];have hs:(n+1)*zs.length=n*zs.length+zs.length:=by grind
  by_cases hi:i<zs.length
  .rw[dy hi,LH hi]
  .rw[gj U,O7 zs n (i-zs.length) U,Nat.mod_eq_sub_mod (by omega:i>=zs.length)]
def Jk {za:Array Value} {n:Nat}:(Builtin.zeroCells za n).toList=(List.replicate n za.toList).flatten:=by
 apply k6;intro i;by_cases hi:i<n*za.size
 .rw[O7 za.toList n i<|by simpa using hi];have hz:0<za.size:=by
   rcases ER za.size with h|h
   .rw[h]at hi;omega
   .exact h
  have hm:i%za.size<za.size:=Au _ hz;simp [Builtin.zeroCells,hi,hm]
 .rw[gx (by simp [Builtin.zeroCells];omega),gx (by simp;omega)]
def O8 (hI:Inv w0 Sa h S m w) {x:Operand} {t:TypeId} {p:J} (aX:o.op= .call ⟨.builtin .clear,#[x],#[t]⟩) (N:cv w S m p (a.eval x)) (Y:Sn P h t p=some (h',ob)) (cJ:∀X∈ob,X)
  (hn:∀v' w',mv w0 Sa h' S m w (.sc<|.tuple #[]) v' w'->next (a.put o.dst v') w'):o.wp P a w next Q:=by
 unfold Sn at Y;split at Y
 .rename_i id off len;split at Y
  .rename_i e B hu hB;split at Y
   .rename_i z zv hz hzv;split at Y
    .rename_i iJ;obtain⟨c1,c2,c3,c4,c5,c6,c7⟩:=iJ;cases Y;have hl:off+len<=B.es.length:=cJ _ sS;rcases lx N with⟨rfl,ad,hv⟩|⟨b,o',sz,cap,c,et,F,hm,mE,hb,iq,hlen⟩
     .
      have e2:({B with es:=B.es.take off++List.replicate 0 (zv.cells.toList.map cellOf)++B.es.drop (off+0)}:dW)=B:=sS;have:h.set id B=h:=by
       apply k6;intro i;rw[cD];by_cases hi:id=i
       .subst hi;rw[if_pos rfl,if_pos (bm.1 hB).1,hB]
       .rw[if_neg hi]
      rw[e2,this]at hn;refine bQ (v':= .tuple #[]) ?_<|hn _ _<|bG hI<|.st _ _<|.sc _;cases ad<;>simp [execOp,aX,resolve,invoke,builtin,Builtin.clear_,bU hu,hv]
     .have kZ:=hI.Ci id B b o' sz hB hm (.inr mE);have Ot:z=sz:=U;subst Ot;obtain⟨r1,r2,r3⟩:=hI.O6 hB c1 c4 hm (by simpa using c5) c6 hb mE off len hl;by_cases Wb:len=0
      .subst Wb;have e1:(c.toList.take (o'+off*z)++(List.replicate 0 zv.cells.toList).flatten++c.toList.drop (o'+off*z+0*z)).toArray=c:=sS;rw[e1,setRow_self w b c et (0,0) hb]at r2;refine bQ (v':= .tuple #[]) ?_<|hn _ _ ⟨S,m,r2,yx.refl _ _ _,.st _ _<|.sc _⟩;simp [execOp,aX,resolve,invoke,builtin,Builtin.clear_,bU hu,F]
      .have eM:=run_storeCells_at (P:=P) b (o'+off*z) et (List.replicate len zv.cells.toList).flatten 0 c w hb (by simp [c5];omega) (λv hv=>by obtain⟨l,zg,Et⟩:=List.mem_flatten.1 hv;rw[List.eq_of_mem_replicate zg]at Et;exact cU.1 c7 v Et)
       have hfl:(List.replicate len zv.cells.toList).flatten.length=len*z:=by simp [c5]
       rw[hfl]at eM;simp only[rG]at eM;refine gC (v':= .tuple #[]) ?_<|hn _ _ ⟨S,m,r2,r3,.st _ _<|.sc _⟩;obtain⟨k,rfl⟩:∃k,len=k+1:=⟨len-1,U⟩
       simp [execOp,aX,resolve,invoke,builtin,Builtin.clear_,bU hu,F,pG hzv,Jk,eM]
    .cases Y
   .cases Y
  .cases Y
 .cases Y
end
end
section
variable {E:Env} {P:Program} {w0:fR} {w:World} {Sa S:Nat->Prop} {h h':Hp} {m:Mp} {a:Act} {o:Oper} {T:l_ J} {s s':l8} {ob:l_ Prop} {v:J} {next:Act->World->Prop} {Q:Exit->Act->World->Prop}
def GJ(hT:∀x∈o.op.operands,∀p,dU T x=some p->cv w S m p (a.eval x)) {y:Operand} {n:Int}(hy:y∈o.op.operands)(hi:Zg T y=some n):∃k,a.eval y= .int k n:=by
 unfold Zg at hi;split at hi
 .rename_i k n' hp;cases hi;exact⟨k,jr<|hT y hy _ hp⟩
 .cases hi
def Zy {t:TypeId} {z:Value}(hz:oB P t=some z)(aX:o.op= .alloc t):(execOp a.eval o).run P w= .ok (.value<|.pointer<|some ⟨w.heap.size,0,none⟩) (w.alloc<|.cells z.cells t):=by simp [execOp,aX,Instr.alloc,pG hz,newVar,newRow]
theorem GK:∀ {es:l_ (l_ J)} {l:l_ y_},F9 es=some l->l.length=es.length/\∀i,i<es.length->es[i]?=some [.sc<|.string<|l.getD i default]
 | [],l,h=>by simp [F9]at h;subst h;simp
 |e::r,l,h=>by
  unfold F9 at h;split at h
  .rename_i oS;cases oS
  .rename_i b r' heq;cases heq;split at h
   .rename_i l' hl;cases h;obtain⟨O,h2⟩:=GK hl;refine⟨by simp [O],λi hi=> ?_⟩;cases i with
    |zero=>simp
    |succ i=>simp at hi⊢;simpa using h2 i hi
   .cases h
  .cases h
theorem GL {k:IntKind}:∀ {es:l_ (l_ J)} {l:l_ Int},Ga k es=some l->l.length=es.length/\∀i,i<es.length->es[i]?=some [.sc<|.int k<|l.getD i 0]
 | [],l,h=>by simp [Ga]at h;subst h;simp
 |e::r,l,h=>by
  unfold Ga at h;split at h
  .rename_i oS;cases oS
  .rename_i k' n r' heq;cases heq;split at h
   .rename_i hk;subst hk;split at h
    .rename_i l' hl;cases h;obtain⟨O,h2⟩:=GL hl;refine⟨by simp [O],λi hi=> ?_⟩;cases i with
     |zero=>simp
     |succ i=>simp at hi⊢;simpa using h2 i hi
    .cases h
   .cases h
  .cases h
def bB0 {t:TypeId} {es:l_ (l_ J)} {i:Nat} {q:J} {X:Prop}(hq:bz3 P t es i=some (q,X))(hX:X):∃e,es[i]?=some e/\pC P t e 0=some q:=by
 unfold bz3 at hq;split at hq
 .rename_i hu;split at hq
  .rename_i l hl;cases hq;refine⟨_,(GK hl).2 i hX,?_⟩;simp [pC,Cn,hu]
  .cases hq
 .rename_i k hu;split at hq
  .rename_i l hl;cases hq;refine⟨_,(GL hl).2 i hX,?_⟩;simp [pC,Cn,hu]
  .cases hq
 .cases hq
def av6 {t:TypeId} {p q:J} {X:Prop}(hq:loadT P h t p=some (q,X))(hX:X):rO P h t p=some q:=by
 unfold loadT at hq;split at hq
 .rename_i id i;split at hq
  .rename_i B hB;split at hq
   .rename_i cy;obtain⟨e,e1,e2⟩:=bB0 hq hX;simp only[rO,hB,if_pos cy,e1];exact e2
   .cases hq
  .cases hq
 .cases hq
def vl {dr:Bool} (hI:Inv w0 Sa h S m w) (hT:∀x∈o.op.operands,∀p,dU T x=some p->cv w S m p (a.eval x)) (hE:an P E) (qg:GI P w0.g) (F:evalOp P E dr T h o s=some (v,h',ob,s')) (cJ:∀X∈ob,X)
  (hn:∀v' w',mv w0 Sa h' S m w v v' w'->next (a.put o.dst v') w'):o.wp P a w next Q:=by
 unfold evalOp at F;split at F
 .
  rename_i x aX;split at F
  .rename_i p hp;cases F;exact bQ (v':=a.eval x) (by simp [execOp,aX])<|hn _ _<|bG hI<|hT x (by rw[aX];simp [Op.operands]) _ hp
  .cases F
 .
  rename_i x aX;split at F
  .rename_i p hp;cases F;exact bQ (v':=a.eval x) (by simp [execOp,aX])<|hn _ _<|bG hI<|hT x (by rw[aX];simp [Op.operands]) _ hp
  .cases F
 .
  rename_i c x y aX;have hin:∀ {q:Operand},q=c\/q=x\/q=y->q∈o.op.operands:=by rintro q (rfl|rfl|rfl)<;>rw[aX]<;>simp [Op.operands]
  split at F
  .rename_i Y;have hcv:=py (hT c (hin<|.inl rfl) _ Y);split at F
   .rename_i p hp;cases F;exact bQ (v':=a.eval x) (by simp [execOp,aX,hcv,asBool])<|hn _ _<|bG hI<|hT x (hin<|.inr<|.inl rfl) _ hp
   .cases F
  .rename_i Y;have hcv:=py (hT c (hin<|.inl rfl) _ Y);split at F
   .rename_i p hp;cases F;exact bQ (v':=a.eval y) (by simp [execOp,aX,hcv,asBool])<|hn _ _<|bG hI<|hT y (hin<|.inr<|.inr rfl) _ hp
   .cases F
  .cases F
 .
  rename_i t aX;split at F
  .cases F
  .split at F
   .rename_i z hz;cases F;exact JW hI (Zy hz aX) sS (AQ z) hn
   .cases F
 .
  rename_i t x aX;split at F
  .cases F
  .split at F
   .rename_i p hp;split at F
    .rename_i cs Aj;cases F;obtain⟨O,h2⟩:=Ct (hT x (by rw[aX];simp [Op.operands]) _ hp) Aj;exact JW (t:=t) (u:=a.eval x) hI (by simp [execOp,aX,Instr.box,newVar,newRow]) O h2 hn
    .cases F
   .cases F
 .
  rename_i t parts aX;split at F
  .rename_i ps wD;split at F
   .rename_i p hp;cases F;exact OR hI aX hT wD hp hn
   .cases F
  .cases F
 .
  rename_i t n parts aX;split at F
  .rename_i e ps hu wD;split at F
   .rename_i z hz;split at F
    .rename_i es kC;split at F
     .rename_i iJ;obtain⟨O,h2,h3,h4⟩:=iJ;split at F
      .rename_i hdr;split at F
       .rename_i cy;cases F;exact ud (dr:=dr) hI aX hT wD hu hz kC O h2 h3 h4 (.inl ⟨hdr,cy,rfl,rfl⟩) hn
       .cases F
      .cases F;exact ud (dr:=dr) hI aX hT wD hu hz kC O h2 h3 h4 (.inr ⟨rfl,rfl⟩) hn
     .cases F
    .cases F
   .cases F
  .cases F
 .
  rename_i t x aX;split at F
  .rename_i p hp;have N:=hT x (by rw[aX];simp [Op.operands]) _ hp;split at F
   .split at F
    .rename_i q X hq;cases F;exact rR hI aX N (av5 hq<|cJ _<|mq.2 rfl) hn
    .cases F
   split at F
   .rename_i e s2;split at F
    .rename_i q X hq;cases F;exact rR hI aX N (O4 hq<|cJ _<|mq.2 rfl) hn
    .cases F
   .split at F
    .rename_i q hq;cases F;exact rR hI aX N hq hn
    .cases F
   .split at F
    .rename_i q X hq;cases F;exact rR hI aX N (av6 hq<|cJ _<|mq.2 rfl) hn
    .cases F
   .split at F
    .rename_i q hq;cases F;exact rR hI aX N hq hn
    .split at F
     .rename_i q X hq;cases F;exact O5 hI qg aX N hq (cJ _<|mq.2 rfl) hn
     .cases F
  .cases F
 .
  rename_i t x y aX;split at F
  .rename_i p q hp hq;split at F
   .cases F
   split at F
   .split at F
    .rename_i h2 OH hs;cases F;exact DF hI aX (hT x (by rw[aX];simp [Op.operands]) _ hp) (hT y (by rw[aX];simp [Op.operands]) _ hq) (Zx hs cJ) hn
    .cases F
   split at F
   .rename_i h2 hs;cases F;exact DF hI aX (hT x (by rw[aX];simp [Op.operands]) _ hp) (hT y (by rw[aX];simp [Op.operands]) _ hq) hs hn
   .cases F
  .cases F
 .
  rename_i x aX;split at F
  .rename_i id i off hp;cases F;have N:=hT x (by rw[aX];simp [Op.operands]) _ hp;obtain⟨b,o',sz,hm,hu⟩:=nR N;exact bQ (v':=a.eval x) (by simp [execOp,aX,hu])<|hn _ _<|bG hI N
  .rename_i cs off hp;cases F;have N:=hT x (by rw[aX];simp [Op.operands]) _ hp;obtain⟨b,o',hu,_⟩:=vh N;exact bQ (v':=a.eval x) (by simp [execOp,aX,hu])<|hn _ _<|bG hI N
  .exact pF hI hT F hn
 .
  rename_i t x f aX;split at F
  .rename_i fs p hu hp;split at F
   .rename_i fd hf;split at F
    .rename_i n id i off hz;cases F;exact Jc hI aX hu hf hz (hT x (by rw[aX];simp [Op.operands]) _ hp) hn
    .rename_i n cs off hz;cases F;exact Jd hI aX hu hf hz (hT x (by rw[aX];simp [Op.operands]) _ hp) hn
    .cases F
   .cases F
  .cases F
 .
  rename_i t x i aX;split at F
  .rename_i p n hp hi;split at F
   .rename_i q AK hq;cases F;obtain⟨k,hy⟩:=GJ hT (y:=i) (by rw[aX];simp [Op.operands]) hi;exact Es hI aX hy (Cu<|hT x (by rw[aX];simp [Op.operands]) _ hp) hq cJ hn
   .cases F
  .cases F
 .
  rename_i t x lo hi mx aX;split at F
  .rename_i p hp;split at F
   .rename_i q AK hq;cases F;refine ON hI aX (Cu<|hT x (by rw[aX];simp [Op.operands]) _ hp) (λy hy p' hp'=>hT y ?_ p' hp') (λy hy p' hp'=>hT y ?_ p' hp') hq cJ hn
    .rw[aX];cases lo<;>simp_all[Op.operands]
    .rw[aX];cases hi<;>simp_all[Op.operands]
   .cases F
  .cases F
 .
  rename_i t x f aX;split at F
  .rename_i fs cs hu hp;split at F
   .rename_i fd hf;split at F
    .rename_i q hq;cases F;exact OO hI aX hu hf (hT x (by rw[aX];simp [Op.operands]) _ hp) hq hn
    .cases F
   .cases F
  .cases F
 .
  rename_i t x i aX;split at F
  .rename_i b n hu hp hi;cases F;obtain⟨k,hy⟩:=GJ hT (y:=i) (by rw[aX];simp [Op.operands]) hi;exact OP hI aX hu (jr<|hT x (by rw[aX];simp [Op.operands]) _ hp) hy (cJ _ sS) (cJ _ sS) hn
  .rename_i len e cs n hu hp hi;split at F
   .rename_i z hz;split at F
    .rename_i q hq;cases F;obtain⟨k,hy⟩:=GJ hT (y:=i) (by rw[aX];simp [Op.operands]) hi;exact Md hI aX hu (hT x (by rw[aX];simp [Op.operands]) _ hp) hy hz hq (cJ _ sS) (cJ _ sS) hn
    .cases F
   .cases F
  .cases F
 .
  rename_i x i aX;split at F
  .rename_i vs hp;split at F
   .rename_i q hq;cases F;exact Jf hI aX (hT x (by rw[aX];simp [Op.operands]) _ hp) hq hn
   .cases F
  .cases F
 .
  rename_i k t x y t' aX;split at F
  .rename_i v1 tX hb;cases F;exact Zm hI aX (λp hp=>hT x (by rw[aX];simp [Op.operands]) p hp) (λp hp=>hT y (by rw[aX];simp [Op.operands]) p hp) hb cJ hn
  .exact pF hI hT F hn
 .
  rename_i t l c aX;split at F
  .cases F
  .split at F
   .rename_i n k hl Y;split at F
    .rename_i r h2 AK hm;cases F;obtain⟨kl,hx⟩:=GJ hT (y:=l) (by rw[aX];simp [Op.operands]) hl;obtain⟨kc,hy⟩:=GJ hT (y:=c) (by rw[aX];simp [Op.operands]) Y;exact SM hI aX hx hy hm cJ hn
    .cases F
   .cases F
 .
  rename_i src dst x aX;split at F
  .rename_i v1 tX hcv;cases F;cases hx:dU T x with
   |none=>
    rw[hx]at hcv;unfold DB at hcv;split at hcv
    .split at hcv
     .rename_i hq;cases hq
     .cases hcv
    .cases hcv
   |some q=>
    rw[hx]at hcv;exact SN hI aX (hT x (by rw[aX];simp [Op.operands]) _ hx) hcv cJ hn
  .exact pF hI hT F hn
 .
  rename_i g cs aX;split at F
  .rename_i ps wD;cases F;obtain⟨p1,p2⟩:=AW wD;refine bQ (v':= .func (.func g) #[] (cs.map a.eval)) ?_ (hn _ _<|bG hI<|.qS _ _ _ (by simp [p1]) λi c v q1 q2=> ?_)
   .simp [execOp,aX,Instr.makeFunc]
   .obtain⟨y,f1,f2⟩:=p2 i c q1;have hy:cs[i]?=some y:=by grind
    have hv:v=a.eval y:=by rw[Array.getElem?_map,hy]at q2;exact(ku q2).symm
    subst hv;exact hT y (by rw[aX];have:y∈cs:=Array.mem_of_getElem? hy;simp [Op.operands,this]) c f2
  .cases F
 .
  rename_i f args Wg aX;split at F
  .rename_i r Y;cases F;exact GB hI aX hT hE qg Y cJ hn
  .split at F
   .cases F
   .exact DL hI aX hT hE qg F cJ hn
 .
  rename_i f name args Wg aX;split at F
  .rename_i r Y;cases F;exact GB hI aX hT hE qg Y cJ hn
  .split at F
   .cases F
   .exact DL hI aX hT hE qg F cJ hn
 .
  rename_i x t aX;split at F
  .rename_i p z hp hz;split at F
   .rename_i n hl;cases F;obtain⟨e,hu,_⟩:=kE hz;exact Zn hI aX hu (hT x (by rw[aX];simp [Op.operands,Call.operands]) _ hp) hl hn
   .cases F
  .exact pF hI hT F hn
 .
  rename_i x y t t2 aX;split at F
  .cases F
  .split at F
   .rename_i p q z2 hp hq ht2;split at F
    .rename_i r h2 AK ov;cases F;exact Mj hI aX (hT x (by rw[aX];simp [Op.operands,Call.operands]) _ hp) (hT y (by rw[aX];simp [Op.operands,Call.operands]) _ hq) ht2 ov cJ hn
    .cases F
   .cases F
 .
  rename_i t aX;split at F
  .cases F
  .split at F
   .cases F;exact Ji hI aX hn
   .cases F
 .
  rename_i t x y aX;split at F
  .rename_i id p hx hy;split at F
   .rename_i B hB;split at F
    .rename_i v1 hl;cases F;exact Mq hI aX (hT x (by rw[aX];simp [Op.operands]) _ hx) (hT y (by rw[aX];simp [Op.operands]) _ hy) hB hl hn
    .cases F
   .cases F
  .cases F
 .
  rename_i t x y u aX;split at F
  .cases F
  .split at F
   .rename_i id p v1 hx hy hu;split at F
    .rename_i B hB;split at F
     .rename_i es hl;cases F;exact Ex hI aX (hT x (by rw[aX];simp [Op.operands]) _ hx) (hT y (by rw[aX];simp [Op.operands]) _ hy) (hT u (by rw[aX];simp [Op.operands]) _ hu) hB hl hn
     .cases F
    .cases F
   .cases F
 .
  rename_i t x aX;split at F
  .cases F
  .rename_i d p hni hu hp;cases F;refine bQ (v':= .iface t (a.eval x)) ?_<|hn _ _<|bG hI<|.Dx _ _ _<|hT x (by rw[aX];simp [Op.operands]) _ hp;cases d<;>first|(simp [execOp,aX,Instr.makeInterface,bU hu];done)|exact absurd rfl<|hni _
  .cases F
 .
  rename_i x t aX;split at F
  .cases F
  .split at F
   .rename_i p hp;split at F
    .rename_i h2 OH Y;cases F;exact O8 hI aX (Cu<|hT x (by rw[aX];simp [Op.operands,Call.operands]) _ hp) Y cJ hn
    .cases F
   .cases F
 .exact pF hI hT F hn
