/- The abstract values, the abstract heap and the scripted evaluator of one operation, one region, one body. Definitions alone: no fact is claimed here. -/
import Derived.WalkKit
namespace Go.PS

/-- Abstract values. sc: just this value. bit: a decided bool. agg: a struct or an array, cell by cell. tup: several results. nul: a slice of length and capacity 0.
ro: a slice whose memory nobody writes any more, as the list of its elements, each a list of cells. own: a slice into a block of the call's own. ptr: the address of a cell of such a block.
cel: the address of a cell among cells that nobody writes. rf: as ro, the elements as a function of their number. any: nothing is said. who: a slice over the whole of a block of the call's own whose contents need not be written out. mux: p, if the bool c of slot t is as wanted; else nothing is said. -/
inductive PV where
  | sc (v : Value)
  | bit (b : Bool)
  | agg (cs : List PV)
  | tup (vs : List PV)
  | nul
  | ro (es : List (List PV))
  | own (id off len : Nat)
  | ptr (id i off : Nat)
  | cel (cs : List PV) (off : Nat)
  | rf (n : Nat) (f : Nat → List PV)
  | any
  | mux (t : Nat) (want c : Bool) (p : PV)
  | who (id len : Nat)

instance : Inhabited PV := ⟨.any⟩

/-- A block of the call's own: its elements; st: 0 it may be written, 1 it may be read, 2 neither; par: older blocks that may lie in the same memory; sz: the cells of an element; sym: the elements, which need not be written out, reach nothing that can be written. -/
structure Blk where
  es : List (List PV)
  st : Nat
  par : List Nat
  sz : Nat
  sym : Bool
  deriving Inhabited

abbrev Hp := List Blk

inductive Out where
  | norm
  | ext (id : Nat)
  | ret
  deriving DecidableEq, Inhabited

/-- A script's items: a decision; a test that is to be computed; the cells of the element that the next load reads (owed); the next load is to be computed; it is one of a table; the next guard, or choice, is not decided (specs: from here to the next decision). -/
inductive It where
  | bit (b : Bool)
  | conc
  | ld (e : List PV)
  | lc
  | tab
  | spec
  | specs

abbrev Scr := List It

/-- What is owed: a decision, or something else; same: that two tests are one. -/
inductive Ob where
  | dec (c b : Bool)
  | owe (X : Prop)
  | same (c b : Bool)

def Ob.holds : Ob → Prop
  | .dec c b => c = b
  | .same c b => c = b
  | .owe X => X

def cellOf : Value → PV
  | .bool b => .bit b
  | .slice none 0 0 => .nul
  | v => .sc v

def ofV : Value → PV
  | .agg cs => .agg (cs.toList.map cellOf)
  | v => cellOf v

/-- A value that was computed: a bool is not decided yet. -/
def cellR : Value → PV
  | .slice none 0 0 => .nul
  | v => .sc v

def ofR : Value → PV
  | .agg cs => .agg (cs.toList.map cellR)
  | v => cellR v

def cellV : PV → Option Value
  | .sc v => some v
  | .bit b => some (.bool b)
  | _ => none

def cellVs : List PV → Option (List Value)
  | [] => some []
  | c :: cs => match cellV c with
    | some v => match cellVs cs with
      | some vs => some (v :: vs)
      | none => none
    | none => none

def toV : PV → Option Value
  | .agg cs => match cellVs cs with
    | some vs => some (.agg ⟨vs⟩)
    | none => none
  | p => cellV p

/-- The cells of a value that is stored or boxed. -/
def cellsP : PV → Option (List PV)
  | .agg cs => some cs
  | .tup _ | .any | .mux _ _ _ _ => none
  | .sc v => if v.oneCell' then some [.sc v] else none
  | p => some [p]

def isCell : PV → Bool
  | .agg _ | .tup _ | .any | .mux _ _ _ _ => false
  | .sc v => v.oneCell'
  | _ => true

def opnd (T : List PV) : Operand → Option PV
  | .tmp t => T[t]?
  | .const v => some (ofV v)
  | .func f => some (.sc (.func (.func f) #[] #[]))
  | .global g => some (.sc (.pointer (some ⟨g, 0, none⟩)))

def put (T : List PV) (d : Option Tmp) (v : PV) : List PV :=
  match d with
  | some t => T.set t v
  | none => T

/-- What a term of the model's own monad gives without memory, draws or the outside. -/
def pureRun {α : Type} (P : Program) : Sem α → Option α
  | .pure a => some a
  | .program k => pureRun P (k P)
  | .mark _ k => pureRun P k
  | _ => none

def skip : Scr → Scr
  | .specs :: s => s
  | s => s

def specS : Scr → Option Scr
  | .spec :: s => some s
  | .specs :: s => some (.specs :: s)
  | _ => none

/-- A decision on a slot that holds a bool. -/
def dec (T : List PV) (t : Nat) (s : Scr) : Option (Bool × List PV × List Ob × Scr) :=
  match T[t]? with
  | some (.bit b) => some (b, T, [], s)
  | some (.sc (.bool c)) =>
    match skip s with
    | .bit b :: s' => some (b, T.set t (.bit b), [.dec c b], s')
    | .conc :: s' => match c with
      | true => some (true, T.set t (.bit true), [], s')
      | false => some (false, T.set t (.bit false), [], s')
    | [] => some (true, T.set t (.bit true), [.dec c true], [])
    | _ => none
  | _ => none

def szP (P : Program) (t : TypeId) : Option Nat := (P.info? t).map (·.size)
def aggP (P : Program) (t : TypeId) : Option Bool := (P.underlying t).map fun
  | .struct _ | .array _ _ => true
  | _ => false

/-- The value of type t in a list of cells. -/
def partP (P : Program) (t : TypeId) (cs : List PV) (off : Nat) : Option PV :=
  match aggP P t with
  | some true => match szP P t with
    | some n => if off + n ≤ cs.length then some (.agg ((cs.drop off).take n)) else none
    | none => none
  | some false => cs[off]?
  | none => none

def loadP (P : Program) (h : Hp) (t : TypeId) : PV → Option PV
  | .ptr id i off => match h[id]? with
    | some B => if B.st ≤ 1 then match B.es[i]? with
      | some e => partP P t e off
      | none => none
      else none
    | none => none
  | .cel cs off => partP P t cs off
  | _ => none

/-- A load whose element is told: that the element is this one is owed. -/
def loadE (P : Program) (h : Hp) (t : TypeId) (e : List PV) : PV → Option (PV × Prop)
  | .ptr id i off => match h[id]? with
    | some B => if B.st ≤ 1 then match partP P t e off with
      | some q => some (q, B.es[i]? = some e)
      | none => none
      else none
    | none => none
  | .cel cs off => match partP P t e off with
    | some q => some (q, cs = e)
    | none => none
  | _ => none

/-- The elements of a table. -/
def strTab : List (List PV) → Option (List ByteArray)
  | [] => some []
  | [.sc (.string b)] :: r => match strTab r with
    | some l => some (b :: l)
    | none => none
  | _ => none

def intTab (k : IntKind) : List (List PV) → Option (List Int)
  | [] => some []
  | [.sc (.int k' n)] :: r => if k' = k then match intTab k r with
    | some l => some (n :: l)
    | none => none
    else none
  | _ => none

def tabP (P : Program) (t : TypeId) (es : List (List PV)) (i : Nat) : Option (PV × Prop) :=
  match P.underlying t with
  | some .string => match strTab es with
    | some l => some (.sc (.string (l.getD i default)), i < es.length)
    | none => none
  | some (.int k) => match intTab k es with
    | some l => some (.sc (.int k (l.getD i 0)), i < es.length)
    | none => none
  | _ => none

/-- A load from a table. -/
def loadT (P : Program) (h : Hp) (t : TypeId) : PV → Option (PV × Prop)
  | .ptr id i 0 => match h[id]? with
    | some B => if B.st ≤ 1 then tabP P t B.es i else none
    | none => none
  | _ => none

def stabCell : PV → Bool
  | .sc _ | .bit _ | .nul | .ro _ | .rf _ _ => true
  | _ => false

/-- Elements that reach nothing that can be written. -/
def Stabs (es : List (List PV)) : Prop := ∀ e ∈ es, e.all stabCell = true

def splice (e : List PV) (off : Nat) (cs : List PV) : List PV := e.take off ++ cs ++ e.drop (off + cs.length)

def kill (h : Hp) (l : List Nat) : Hp := h.zipIdx.map fun (B, i) => if l.contains i then { B with st := 2 } else B

def storeP (P : Program) (h : Hp) (t : TypeId) (p v : PV) : Option Hp :=
  match p, cellsP v, szP P t with
  | .ptr id i off, some cs, some n =>
    match h[id]? with
    | some B => match B.es[i]? with
      | some e => if B.st = 0 ∧ cs.length = n ∧ off + n ≤ e.length ∧ cs.all isCell = true ∧ (!B.sym || cs.all stabCell) = true
          then some (kill (h.set id { B with es := B.es.set i (splice e off cs) }) B.par) else none
      | none => none
    | none => none
  | _, _, _ => none

/-- Nothing older lies in the block's memory. -/
def parNil (h : Hp) : PV → Bool
  | .ptr id _ _ => match h[id]? with
    | some B => B.par.isEmpty
    | none => false
  | _ => false

def boxP (h : Hp) (cs : List PV) : PV × Hp := (.ptr h.length 0 0, h ++ [⟨[cs], 0, [], cs.length, false⟩])

/-- The parts of a literal laid over its zero cells. -/
def fillP (place : Nat → Option (Nat × Nat)) (cells : List PV) : List (Nat × PV) → Option (List PV)
  | [] => some cells
  | (i, v) :: rest =>
    match place i, cellsP v with
    | some (off, size), some cs =>
      if cs.length = size ∧ off + cs.length ≤ cells.length then fillP place (splice cells off cs) rest else none
    | _, _ => none

def zeroP (P : Program) (t : TypeId) : Option Value := ((P.info? t).bind (·.zero))

def partsP (T : List PV) : List (Nat × Operand) → Option (List (Nat × PV))
  | [] => some []
  | (i, x) :: r => match opnd T x with
    | some v => match partsP T r with
      | some vs => some ((i, v) :: vs)
      | none => none
    | none => none

def placesP (P : Program) : List Field → Option (List (Nat × Nat))
  | [] => some []
  | f :: fs => match szP P f.type with
    | some n => match placesP P fs with
      | some l => some ((f.offset, n) :: l)
      | none => none
    | none => none

def buildP (P : Program) (t : TypeId) (parts : List (Nat × PV)) : Option PV :=
  match zeroP P t, P.underlying t with
  | some z, some (.struct fields) => match placesP P fields.toList with
    | some places => (fillP (places[·]?) (z.cells.toList.map cellOf) parts).map .agg
    | none => none
  | some z, some (.array _ elem) => match szP P elem with
    | some n => (fillP (fun i => some (i * n, n)) (z.cells.toList.map cellOf) parts).map .agg
    | none => none
  | _, _ => none

/-- The elements of a slice's literal whose parts stand in order, none left out. -/
def elemsP (sz : Nat) : Nat → List (Nat × PV) → Option (List (List PV))
  | _, [] => some []
  | k, (i, v) :: r => match cellsP v with
    | some cs => if i = k ∧ cs.length = sz then match elemsP sz (k + 1) r with
      | some es => some (cs :: es)
      | none => none
      else none
    | none => none

/-- A slice over a whole block, as any other. -/
def unwho : PV → PV
  | .who id len => .own id 0 len
  | p => p

/-- The elements behind a slice. -/
def elemsOf (h : Hp) : PV → Option (List (List PV))
  | .nul => some []
  | .ro es => some es
  | .rf n f => some ((List.range n).map f)
  | .own id off len => match h[id]? with
    | some B => if B.st ≤ 1 ∧ off + len ≤ B.es.length then some ((B.es.drop off).take len) else none
    | none => none
  | _ => none

/-- The elements behind a slice, and what is owed for it. -/
def elemsW (h : Hp) : PV → Option (List (List PV) × List Prop)
  | .who id len => match h[id]? with
    | some B => if B.st ≤ 1 then some (B.es, [len = B.es.length]) else none
    | none => none
  | .own id off len => match h[id]? with
    | some B => match B.sym with
      | true => if B.st ≤ 1 then some ((B.es.drop off).take len, [off + len ≤ B.es.length]) else none
      | false => match elemsOf h (.own id off len) with
        | some es => some (es, [])
        | none => none
    | none => none
  | p => match elemsOf h p with
    | some es => some (es, [])
    | none => none

def lenP : PV → Option Nat
  | .nul => some 0
  | .ro es => some es.length
  | .rf n _ => some n
  | .own _ _ len | .who _ len => some len
  | _ => none

/-- A value as the callee or the caller sees it: own blocks written out; and which blocks were looked at. -/
def expL (f : PV → Option (PV × List Nat)) : List PV → Option (List PV × List Nat)
  | [] => some ([], [])
  | c :: cs => match f c with
    | some (d, v) => match expL f cs with
      | some (ds, vs) => some (d :: ds, v ++ vs)
      | none => none
    | none => none

def expLL (f : PV → Option (PV × List Nat)) : List (List PV) → Option (List (List PV) × List Nat)
  | [] => some ([], [])
  | c :: cs => match expL f c with
    | some (d, v) => match expLL f cs with
      | some (ds, vs) => some (d :: ds, v ++ vs)
      | none => none
    | none => none

def exp (h : Hp) : Nat → PV → Option (PV × List Nat)
  | 0, _ => none
  | n + 1, p => match p with
    | .sc v => some (.sc v, [])
    | .bit b => some (.sc (.bool b), [])
    | .nul => some (.rf 0 fun _ => [], [])
    | .ro es => some (.rf es.length fun i => es.getD i [], [])
    | .rf k f => some (.rf k f, [])
    | .agg cs => match expL (exp h n) cs with
      | some (l, v) => some (.agg l, v)
      | none => none
    | .tup cs => match expL (exp h n) cs with
      | some (l, v) => some (.tup l, v)
      | none => none
    | .own id off len => match h[id]? with
      | some B => match B.sym with
        | true => if B.st ≤ 1 then some (.rf len (fun i => B.es.getD (off + i) []), [id]) else none
        | false => match elemsOf h (.own id off len) with
          | some es => match expLL (exp h n) es with
            | some (l, v) => some (.rf l.length (fun i => l.getD i []), id :: v)
            | none => none
          | none => none
      | none => none
    | .who id len => match h[id]? with
      | some B => if B.st ≤ 1 ∧ B.sym = true then some (.rf len (fun i => B.es.getD i []), [id]) else none
      | none => none
    | _ => none

/-- What is owed for it. -/
def expO (h : Hp) : Nat → PV → List Prop
  | 0, _ => []
  | n + 1, p => match p with
    | .agg cs | .tup cs => cs.flatMap (expO h n)
    | .own id off len => match h[id]? with
      | some B => match B.sym with
        | true => [off + len ≤ B.es.length]
        | false => match elemsOf h (.own id off len) with
          | some es => es.flatMap fun e => e.flatMap (expO h n)
          | none => []
      | none => []
    | .who id len => match h[id]? with
      | some B => [len = B.es.length]
      | none => []
    | _ => []

def noRo0 : PV → Bool
  | .sc _ | .bit _ | .nul => true
  | _ => false

def noRo1 : PV → Bool
  | .agg ds => ds.all noRo0
  | p => noRo0 p

def noRo : PV → Bool
  | .agg cs | .tup cs => cs.all noRo1
  | p => noRo0 p

def expFuel : Nat := 12

def enters (P : Program) (g : FuncId) : Bool :=
  match P.funcs[g]? with
  | some fn => fn.body.isSome && !(fn.name == "runtime.NumGoroutine")
  | none => false

def argsP (T : List PV) : List Operand → Option (List PV)
  | [] => some []
  | x :: r => match opnd T x with
    | some v => match argsP T r with
      | some vs => some (v :: vs)
      | none => none
    | none => none

/-- What a call comes to, and what is owed for it. -/
abbrev Env := FuncId → List PV → Option (PV × List Prop)

/-- What a loop comes to. -/
inductive LT where
  | out (o : Out) (T : List PV) (h : Hp)
  | ite (c : Bool) (t f : LT)
  | bad

/-- Of each loop, by the number of its first region: the slots that matter; the slots that hold lists which the loop makes longer, with the cells of an element; and what it comes to. -/
abbrev LEnv := Nat → List Nat × List (Nat × Nat) × (List PV → Hp → LT)

def mask (live : List Nat) (T : List PV) : List PV := T.zipIdx.map fun (p, i) => if live.contains i then p else .any

/-! What the slots reach, numbered anew. -/
def idsL (f : PV → List Nat) : List PV → List Nat
  | [] => []
  | p :: r => f p ++ idsL f r

def idsN : Nat → PV → List Nat
  | 0, _ => []
  | n + 1, p => match p with
    | .own id _ _ | .ptr id _ _ | .who id _ => [id]
    | .agg cs | .tup cs => idsL (idsN n) cs
    | _ => []

def addNew (l : List Nat) : List Nat → List Nat
  | [] => l
  | x :: r => if l.contains x then addNew l r else addNew (l ++ [x]) r

def idsB (h : Hp) (id : Nat) : List Nat :=
  match h[id]? with
  | some B => match B.sym with
    | true => []
    | false => B.es.flatMap (idsL (idsN 4))
  | none => []

def reachN (h : Hp) : Nat → List Nat → List Nat
  | 0, l => l
  | n + 1, l => reachN h n (addNew l (l.flatMap (idsB h)))

def pos (x : Nat) : List Nat → Option Nat
  | [] => none
  | y :: r => if x = y then some 0 else match pos x r with
    | some j => some (j + 1)
    | none => none

def mapO {α β : Type} (f : α → Option β) : List α → Option (List β)
  | [] => some []
  | x :: r => match f x with
    | some y => match mapO f r with
      | some l => some (y :: l)
      | none => none
    | none => none

def renN (keep : List Nat) : Nat → PV → Option PV
  | 0, _ => none
  | n + 1, p => match p with
    | .own id off len => match pos id keep with
      | some j => some (.own j off len)
      | none => none
    | .ptr id i off => match pos id keep with
      | some j => some (.ptr j i off)
      | none => none
    | .who id len => match pos id keep with
      | some j => some (.who j len)
      | none => none
    | .agg cs => match mapO (renN keep n) cs with
      | some l => some (.agg l)
      | none => none
    | .tup cs => match mapO (renN keep n) cs with
      | some l => some (.tup l)
      | none => none
    | .mux _ _ _ _ => none
    | p => some p

def renB (h : Hp) (keep : List Nat) (id : Nat) : Option Blk :=
  match h[id]? with
  | some B => if B.st = 1 then none else match B.sym with
    | true => some { B with par := [] }
    | false => match mapO (mapO (renN keep 4)) B.es with
      | some es => some { B with es := es, par := [] }
      | none => none
  | none => none

def gc (T : List PV) (h : Hp) : Option (List PV × Hp) :=
  match h with
  | [] => some (T, [])
  | _ :: _ =>
    match mapO (renN (reachN h 3 (addNew [] (idsL (idsN 4) T))) 4) T, mapO (renB h (reachN h 3 (addNew [] (idsL (idsN 4) T)))) (reachN h 3 (addNew [] (idsL (idsN 4) T))) with
    | some T', some h' => if (reachN h 3 (addNew [] (idsL (idsN 4) T))).Nodup then some (T', h') else none
    | _, _ => none

/-- The slots that matter, and what they reach. -/
def trim (live : List Nat) (T : List PV) (h : Hp) : Option (List PV × Hp) := gc (mask live T) h

/-- A list as the slice over a whole block, though it be nil. -/
def whole (t z : Nat) (T : List PV) (h : Hp) : Option (List PV × Hp) :=
  match T[t]? with
  | some .nul => if 0 < z then some (T.set t (.who h.length 0), h ++ [⟨[], 0, [], z, true⟩]) else none
  | some (.own id 0 len) => match h[id]? with
    | some B => if B.sym || B.es.all (·.all stabCell) then some (T.set t (.who id len), h.set id { B with sym := true }) else none
    | none => none
  | some (.who _ _) => some (T, h)
  | _ => none

def wholes : List (Nat × Nat) → List PV → Hp → Option (List PV × Hp)
  | [], T, h => some (T, h)
  | (t, z) :: r, T, h => match whole t z T h with
    | some (T', h') => wholes r T' h'
    | none => none

/-- The number of a code's first region. -/
def firstReg : Code → Option Nat
  | .region id _ _ => some id
  | .seq a b => match firstReg a with
    | some n => some n
    | none => firstReg b
  | .cond _ a b => match firstReg a with
    | some n => some n
    | none => firstReg b
  | .block _ a => firstReg a
  | .loop a => firstReg a
  | _ => none

abbrev Res := Option (PV × Hp × List Prop × Scr)

/-- Whatever the model computes from plain values alone. -/
def plainP (P : Program) (T : List PV) (h : Hp) (o : Oper) (s : Scr) : Res :=
  match o.op with
  | .select _ _ => none
  | _ =>
    if o.op.operands.toList.all fun x => ((opnd T x).bind toV).isSome then
      match pureRun P (execOp (fun x => ((opnd T x).bind toV).getD Go.undef) o) with
      | some (.value v) => some (ofR v, h, [], s)
      | _ => none
    else none

def callP (P : Program) (E : Env) (T : List PV) (h : Hp) (f : Operand) (args : Array Operand) (s : Scr) : Res :=
  match opnd T f, argsP T args.toList with
  | some (.sc (.func (.func g) ⟨[]⟩ ⟨[]⟩)), some ps =>
    match expL (exp h expFuel) ps with
    | some (as, vis) => match E g as with
      | some (r, ob) => if enters P g && (vis.isEmpty || noRo r) then some (r, h, ps.flatMap (expO h expFuel) ++ ob, s) else none
      | none => none
    | none => none
  | _, _ => none

/-- Each element has z cells. -/
def Elems (z : Nat) (es : List (List PV)) : Prop := ∀ e ∈ es, e.length = z ∧ e.all isCell = true
def elemsB (z : Nat) (es : List (List PV)) : Bool := es.all fun e => e.length == z && e.all isCell
def stabsB (es : List (List PV)) : Bool := es.all (·.all stabCell)

/-- The number of cells of a slice type's elements. -/
def elemSz (P : Program) (t : TypeId) : Option Nat :=
  match P.underlying t with
  | some (.slice e) => szP P e
  | _ => none

def addrP (P : Program) (h : Hp) (t : TypeId) (i : Int) : PV → Option (PV × List Prop)
  | .ro es => match elemSz P t with
    | some z => some (.cel (es.getD i.toNat []) 0, [0 ≤ i, i < es.length, elemsB z es = true])
    | none => none
  | .rf n f => match elemSz P t with
    | some z => if (f i.toNat).length = z then some (.cel (f i.toNat) 0, [0 ≤ i, i < n]) else none
    | none => none
  | .own id off len => match elemSz P t, h[id]? with
    | some z, some B => if B.sz = z then some (.ptr id (off + i.toNat) 0, [0 ≤ i, i < len]) else none
    | _, _ => none
  | .ptr id k off => match P.underlying t with
    | some (.array n e) => match szP P e with
      | some z => some (.ptr id k (off + i.toNat * z), [0 ≤ i, i < n])
      | none => none
    | _ => none
  | .cel cs off => match P.underlying t with
    | some (.array n e) => match szP P e with
      | some z => some (.cel cs (off + i.toNat * z), [0 ≤ i, i < n])
      | none => none
    | _ => none
  | _ => none

/-- A bound of a slice expression. -/
def boundP (T : List PV) (dflt : Nat) : Option Operand → Option Int
  | none => some dflt
  | some x => match opnd T x with
    | some (.sc (.int _ n)) => some n
    | _ => none

def sliceP (P : Program) (T : List PV) (h : Hp) (t : TypeId) (x : PV) (lo hi mx : Option Operand) : Option (PV × List Prop) :=
  match x with
  | .sc (.string b) => match P.underlying t, mx, boundP T 0 lo, boundP T b.size hi with
    | some .string, none, some l, some r => some (.sc (.string (b.extract l.toNat r.toNat)), [0 ≤ l, l ≤ r, r ≤ b.size])
    | _, _, _, _ => none
  | .nul => match elemSz P t, mx, boundP T 0 lo, boundP T 0 hi with
    | some _, none, some l, some r => some (.nul, [l = 0, r = 0])
    | _, _, _, _ => none
  | .ro es => match elemSz P t, mx, boundP T 0 lo, boundP T es.length hi with
    | some z, none, some l, some r => some (.ro ((es.drop l.toNat).take (r.toNat - l.toNat)), [0 ≤ l, l ≤ r, r ≤ es.length, elemsB z es = true])
    | _, _, _, _ => none
  | .rf n f => match elemSz P t, mx, boundP T 0 lo, boundP T n hi with
    | some z, none, some l, some r => if (f l.toNat).length = z then some (.rf (r.toNat - l.toNat) (fun i => f (l.toNat + i)), [0 ≤ l, l ≤ r, r ≤ n]) else none
    | _, _, _, _ => none
  | .own id off len => match elemSz P t, mx, boundP T 0 lo, boundP T len hi with
    | some z, none, some l, some r => match h[id]? with
      | some B => if B.sz = z then some (.own id (off + l.toNat) (r.toNat - l.toNat), [0 ≤ l, l ≤ r, r ≤ len]) else none
      | none => none
    | _, _, _, _ => none
  | _ => none

def roomP : Nat := 140737488355328

/-- A list whose elements need not be written out. -/
def symP : PV → Bool
  | .rf _ _ | .who _ _ => true
  | _ => false

/-- append: base, what is appended. -/
def appendP (P : Program) (h : Hp) (t : TypeId) (x y : PV) : Option (PV × Hp × List Prop) :=
  match P.underlying t with
  | some (.slice e) => match szP P e, (P.info? e).map (·.bytes), elemsW h y with
    | some z, some by8, some (ys, obs) =>
      if 0 < z ∧ 0 < by8 ∧ (zeroP P e).map (·.cells.size) = some z then
      match x with
      | .nul => match symP y with
        | true => some (.who h.length ys.length, h ++ [⟨ys, 0, [], z, true⟩], [ys.length * by8 ≤ roomP, elemsB z ys = true, stabsB ys = true] ++ obs)
        | false => match ys with
          | [] => some (.nul, h, obs)
          | y1 :: yr => some (.own h.length 0 (yr.length + 1), h ++ [⟨y1 :: yr, 0, [], z, false⟩], [(yr.length + 1) * by8 ≤ roomP, elemsB z (y1 :: yr) = true] ++ obs)
      | .who id len => match h[id]? with
        | some B =>
          if B.st = 0 ∧ B.sz = z ∧ B.sym = true then
            some (.who h.length (len + ys.length), h.set id { B with st := 1 } ++ [⟨B.es ++ ys, 0, id :: B.par, z, true⟩], [len = B.es.length, (len + ys.length) * by8 ≤ roomP, elemsB z ys = true, stabsB ys = true] ++ obs)
          else none
        | none => none
      | .own id off len => match h[id]? with
        | some B =>
          if B.sym = false ∧ B.st = 0 ∧ off + len ≤ B.es.length ∧ B.sz = z then
            if off + len = B.es.length then
              some (.own h.length 0 (len + ys.length), h.set id { B with st := 1 } ++ [⟨(B.es.drop off).take len ++ ys, 0, id :: B.par, z, false⟩], [(len + ys.length) * by8 ≤ roomP, elemsB z ys = true] ++ obs)
            else
              some (.own h.length 0 (len + ys.length), kill (h.set id { B with st := 2 }) B.par ++ [⟨(B.es.drop off).take len ++ ys, 0, [], z, false⟩], [(len + ys.length) * by8 ≤ roomP, elemsB z ys = true] ++ obs)
          else none
        | none => none
      | _ => none
      else none
    | _, _, _ => none
  | _ => none

def intP (T : List PV) (x : Operand) : Option Int :=
  match opnd T x with
  | some (.sc (.int _ n)) => some n
  | _ => none

/-- make: n elements, room for k. -/
def makeP (P : Program) (h : Hp) (t : TypeId) (n k : Int) : Option (PV × Hp × List Prop) :=
  match P.underlying t with
  | some (.slice e) => match szP P e, (P.info? e).map (·.bytes), zeroP P e with
    | some z, some by8, some zv =>
      if 0 < z ∧ 0 < by8 ∧ zv.cells.size = z ∧ (zv.cells.toList.map cellOf).all stabCell = true then
        some (.who h.length n.toNat, h ++ [⟨List.replicate n.toNat (zv.cells.toList.map cellOf), 0, [], z, true⟩], [0 ≤ n, n ≤ k, k * by8 ≤ roomP])
      else none
    | _, _, _ => none
  | _ => none

/-- The byte in an element's one cell. -/
def byteP : List PV → UInt8
  | [.sc (.int .u8 n)] => UInt8.ofNat n.toNat
  | _ => 0

def isByte : List PV → Bool
  | [.sc (.int .u8 _)] => true
  | _ => false

def bytesP (es : List (List PV)) : ByteArray := ⟨(es.map byteP).toArray⟩
def bytesB (es : List (List PV)) : Bool := es.all isByte
def Bytes (es : List (List PV)) : Prop := ∀ e ∈ es, isByte e = true

/-- Bytes as a string. -/
def convP (P : Program) (h : Hp) (src dst : TypeId) (p : Option PV) : Option (PV × List Prop) :=
  match P.underlying src, P.underlying dst with
  | some (.slice e), some .string => match P.underlying e, szP P e, p with
    | some (.int .u8), some 1, some q => match elemsW h q with
      | some (es, ob) => some (.sc (.string (bytesP es)), (bytesB es = true) :: ob)
      | none => none
    | _, _, _ => none
  | _, _ => none

/-- Two strings are equal. -/
def eqS (a b : ByteArray) : Bool := decide (a.data.toList = b.data.toList)

def partV (P : Program) (t : TypeId) (vs : Array Value) (off : Nat) : Option Value :=
  match aggP P t with
  | some true => match szP P t with
    | some n => some (.agg (vs.extract off (off + n)))
    | none => none
  | some false => vs[off]?
  | none => none

def eqFs (P : Program) (f : TypeId → Value → Value → Option Bool) (xs ys : Array Value) : List Field → Option Bool
  | [] => some true
  | g :: r => if g.name = "_" then eqFs P f xs ys r else
    match partV P g.type xs g.offset, partV P g.type ys g.offset with
    | some a, some b => match f g.type a b, eqFs P f xs ys r with
      | some p, some q => some (p && q)
      | _, _ => none
    | _, _ => none

def eqIs (P : Program) (f : TypeId → Value → Value → Option Bool) (e : TypeId) (c : Nat) (xs ys : Array Value) : List Nat → Option Bool
  | [] => some true
  | i :: r =>
    match partV P e xs (i * c), partV P e ys (i * c) with
    | some a, some b => match f e a b, eqIs P f e c xs ys r with
      | some p, some q => some (p && q)
      | _, _ => none
    | _, _ => none

/-- Two values of a type that can be compared are equal. -/
def eqV (P : Program) : Nat → TypeId → Value → Value → Option Bool
  | 0, _, _, _ => none
  | n + 1, t, x, y => match P.underlying t with
    | some .bool => match x, y with
      | .bool a, .bool b => some (a == b)
      | _, _ => none
    | some (.int _) => match x, y with
      | .int k a, .int k' b => if k = k' then some (a == b) else none
      | _, _ => none
    | some .string => match x, y with
      | .string a, .string b => some (eqS a b)
      | _, _ => none
    | some (.struct fs) => match x, y with
      | .agg xs, .agg ys => if P.stoodInHeld t then none else eqFs P (eqV P n) xs ys fs.toList
      | _, _ => none
    | some (.array len e) => match x, y with
      | .agg xs, .agg ys => match P.info? e with
        | some i => eqIs P (eqV P n) e i.size xs ys (List.range len)
        | none => none
      | _, _ => none
    | _ => none

def eqAgg (P : Program) (t : TypeId) (xs ys : List PV) : Option Bool :=
  match cellVs xs, cellVs ys with
  | some us, some vs => if P.eqGuardType P.depth t then none else eqV P 12 t (.agg ⟨us⟩) (.agg ⟨vs⟩)
  | _, _ => none

/-- Two operands: strings and what can be compared cell by cell. -/
def binP (P : Program) (k : BinOp) (t : TypeId) (x y : Option PV) : Option (PV × List Prop) :=
  match k with
  | .add => match x, y with
    | some (.sc (.string a)), some (.sc (.string b)) => some (.sc (.string (a ++ b)), [a.size + b.size ≤ 9223372036854775807])
    | _, _ => none
  | .eql => match x, y with
    | some (.sc (.string a)), some (.sc (.string b)) => some (.sc (.bool (eqS a b)), [])
    | some (.agg xs), some (.agg ys) => match eqAgg P t xs ys with
      | some b => some (.sc (.bool b), [])
      | none => none
    | _, _ => none
  | .neq => match x, y with
    | some (.sc (.string a)), some (.sc (.string b)) => some (.sc (.bool (!eqS a b)), [])
    | some (.agg xs), some (.agg ys) => match eqAgg P t xs ys with
      | some b => some (.sc (.bool (!b)), [])
      | none => none
    | _, _ => none
  | _ => none

/-- One operation. dr: its region draws its order. -/
def evalOp (P : Program) (E : Env) (dr : Bool) (T : List PV) (h : Hp) (o : Oper) (s : Scr) : Res :=
  match o.op with
  | .move x | .assign x => match opnd T x with
    | some p => some (p, h, [], s)
    | none => none
  | .pick c a b => match opnd T c with
    | some (.bit true) => match opnd T a with
      | some p => some (p, h, [], s)
      | none => none
    | some (.bit false) => match opnd T b with
      | some p => some (p, h, [], s)
      | none => none
    | _ => none
  | .alloc t => if dr then none else match zeroP P t with
    | some z => some ((boxP h (z.cells.toList.map cellOf)).1, (boxP h (z.cells.toList.map cellOf)).2, [], s)
    | none => none
  | .box _ x => if dr then none else match opnd T x with
    | some p => match cellsP p with
      | some cs => some ((boxP h cs).1, (boxP h cs).2, [], s)
      | none => none
    | none => none
  | .build t parts => match partsP T parts.toList with
    | some ps => match buildP P t ps with
      | some p => some (p, h, [], s)
      | none => none
    | none => none
  | .buildSlice t n parts => match P.underlying t, partsP T parts.toList with
    | some (.slice e), some ps => match szP P e with
      | some z => match elemsP z 0 ps with
        | some es =>
          if es.length = n ∧ 0 < z ∧ n * z ≤ 16777216 ∧ (zeroP P e).isSome = true then
            if dr then (if es.all (·.all stabCell) then some (.ro es, h, [], s) else none)
            else some (.own h.length 0 n, h ++ [⟨es, 0, [], z, false⟩], [], s)
          else none
        | none => none
      | none => none
    | _, _ => none
  | .load t a => match opnd T a with
    | some p => match s with
      | .ld e :: s' => match loadE P h t e p with
        | some (v, X) => some (v, h, [X], s')
        | none => none
      | .lc :: s' => match loadP P h t p with
        | some v => some (v, h, [], s')
        | none => none
      | .tab :: s' => match loadT P h t p with
        | some (v, X) => some (v, h, [X], s')
        | none => none
      | _ => match loadP P h t p with
        | some v => some (v, h, [], s)
        | none => none
    | none => none
  | .store t a x => match opnd T a, opnd T x with
    | some p, some v => if dr && !parNil h p then none else match storeP P h t p v with
      | some h' => some (.sc Go.undef, h', [], s)
      | none => none
    | _, _ => none
  | .nilCheck x => match opnd T x with
    | some (.ptr id i off) => some (.ptr id i off, h, [], s)
    | some (.cel cs off) => some (.cel cs off, h, [], s)
    | _ => plainP P T h o s
  | .fieldAddr t x f => match P.underlying t, opnd T x with
    | some (.struct fs), some p => match fs[f]? with
      | some fd => match szP P fd.type, p with
        | some (_ + 1), .ptr id i off => some (.ptr id i (off + fd.offset), h, [], s)
        | some (_ + 1), .cel cs off => some (.cel cs (off + fd.offset), h, [], s)
        | _, _ => none
      | none => none
    | _, _ => none
  | .indexAddr t x i => match opnd T x, intP T i with
    | some p, some n => match addrP P h t n (unwho p) with
      | some (q, ob) => some (q, h, ob, s)
      | none => none
    | _, _ => none
  | .slice t x lo hi mx => match opnd T x with
    | some p => match sliceP P T h t (unwho p) lo hi mx with
      | some (q, ob) => some (q, h, ob, s)
      | none => none
    | none => none
  | .field t x f => match P.underlying t, opnd T x with
    | some (.struct fs), some (.agg cs) => match fs[f]? with
      | some fd => match partP P fd.type cs fd.offset with
        | some q => some (q, h, [], s)
        | none => none
      | none => none
    | _, _ => none
  | .index t x i => match P.underlying t, opnd T x, intP T i with
    | some .string, some (.sc (.string b)), some n => some (.sc (.int .u8 (b.data.toList.getD n.toNat 0).toNat), h, [0 ≤ n, n < b.size], s)
    | _, _, _ => none
  | .extract x i => match opnd T x with
    | some (.tup vs) => match vs[i]? with
      | some p => some (p, h, [], s)
      | none => none
    | _ => none
  | .binOp k t x y _ => match binP P k t (opnd T x) (opnd T y) with
    | some (v, ob) => some (v, h, ob, s)
    | none => plainP P T h o s
  | .makeSlice t l c => if dr then none else match intP T l, intP T c with
    | some n, some k => match makeP P h t n k with
      | some (r, h', ob) => some (r, h', ob, s)
      | none => none
    | _, _ => none
  | .convert src dst x => match convP P h src dst (opnd T x) with
    | some (v, ob) => some (v, h, ob, s)
    | none => plainP P T h o s
  | .call ⟨.value f, args, _⟩ => callP P E T h f args s
  | .call ⟨.builtin .len, ⟨[x]⟩, ⟨[t]⟩⟩ => match opnd T x, elemSz P t with
    | some p, some _ => match lenP p with
      | some n => some (.sc (.int .i64 n), h, [], s)
      | none => none
    | _, _ => plainP P T h o s
  | .call ⟨.builtin .append, ⟨[x, y]⟩, ⟨[t, t2]⟩⟩ => if dr then none else match opnd T x, opnd T y, elemSz P t2 with
    | some p, some q, some _ => match appendP P h t p q with
      | some (r, h', ob) => some (r, h', ob, s)
      | none => none
    | _, _, _ => none
  | _ => plainP P T h o s

/-- Is the operation wanted? -/
def wantP (ops : Array Oper) (T : List PV) (o : Oper) (s : Scr) : Option (Bool × List PV × List Ob × Scr) :=
  match o.guard with
  | none => some (true, T, [], s)
  | some (j, want) =>
    match (ops[j]?).bind (·.dst) with
    | some t => match T[t]? with
      | some (.sc (.bool _)) | some (.bit _) => match dec T t s with
        | some (b, T', ob, s') => some (b == want, T', ob, s')
        | none => none
      | some (.sc _) => some (false, T, [], s)
      | _ => none
    | none => none

/-- A choice between two values is decided first. -/
def pickP (T : List PV) (o : Oper) (s : Scr) : Option (List PV × List Ob × Scr) :=
  match o.op with
  | .pick (.tmp t) _ _ => match dec T t s with
    | some (_, T', ob, s') => some (T', ob, s')
    | none => none
  | _ => some (T, [], s)

def isStore (o : Oper) : Bool :=
  match o.op with
  | .store _ _ _ => true
  | _ => false

/-- What is held under an assumption on slot t. -/
def unmux (t : Nat) (want : Bool) (T : List PV) : List PV := T.map fun
  | .mux t' w c p => if t' = t ∧ w = want then p else .mux t' w c p
  | p => p

def unOwe (t : Nat) (want c : Bool) : List PV → List (Bool × Bool)
  | [] => []
  | .mux t' w c' _ :: r => if t' = t ∧ w = want then (c', c) :: unOwe t want c r else unOwe t want c r
  | _ :: r => unOwe t want c r

/-- One of two values. -/
def mergeP (c : Bool) : PV → PV → Option PV
  | .sc (.bool x), .sc (.bool y) => some (.sc (.bool (bif c then x else y)))
  | .sc (.bool x), .bit y => some (.sc (.bool (bif c then x else y)))
  | .bit x, .sc (.bool y) => some (.sc (.bool (bif c then x else y)))
  | .bit x, .bit y => some (.sc (.bool (bif c then x else y)))
  | .sc (.int k x), .sc (.int k' y) => if k = k' then some (.sc (.int k (bif c then x else y))) else none
  | .sc (.string x), .sc (.string y) => some (.sc (.string (bif c then x else y)))
  | _, _ => none

/-- An operation whose guard, or a choice whose test, is left undecided. -/
def specP (P : Program) (E : Env) (ops : Array Oper) (T : List PV) (h : Hp) (o : Oper) (s : Scr) : Option (List PV × Hp × List Ob × Scr) :=
  match specS s with
  | some s' => match o.guard with
    | some (j, want) => match (ops[j]?).bind (·.dst) with
      | some t => match T[t]? with
        | some (.sc (.bool c)) => if isStore o = true then none else
          match evalOp P E true (unmux t want T) h o s' with
          | some (v, _, ob, s'') => some (put T o.dst (.mux t want c v), h, ((unOwe t want c T).map fun x => .same x.1 x.2) ++ ob.map (fun X => .owe (c = want → X)), s'')
          | none => none
        | _ => none
      | none => none
    | none => match o.op with
      | .pick (.tmp t) a b => match T[t]? with
        | some (.sc (.bool c)) => match opnd (unmux t true T) a, opnd (unmux t false T) b with
          | some va, some vb => match mergeP c va vb with
            | some v => some (put T o.dst v, h, (unOwe t true c T ++ unOwe t false c T).map (fun x => .same x.1 x.2), s')
            | none => none
          | _, _ => none
        | _ => none
      | _ => none
  | none => none

def stepOp (P : Program) (E : Env) (dr : Bool) (ops : Array Oper) (T : List PV) (h : Hp) (o : Oper) (s : Scr) : Option (List PV × Hp × List Ob × Scr) :=
  match specP P E ops T h o s with
  | some r => some r
  | none =>
  match wantP ops T o s with
  | some (true, T1, ob1, s1) => match pickP T1 o s1 with
    | some (T2, ob2, s2) => match evalOp P E dr T2 h o s2 with
      | some (v, h', ob3, s3) => some (put T2 o.dst v, h', ob1 ++ ob2 ++ ob3.map .owe, s3)
      | none => none
    | none => none
  | some (false, T1, ob1, s1) => some (put T1 o.dst (.sc Go.undef), h, ob1, s1)
  | none => none

def runOps (P : Program) (E : Env) (dr : Bool) (ops : Array Oper) : List Oper → List PV → Hp → Scr → Option (List PV × Hp × List Ob × Scr)
  | [], T, h, s => some (T, h, [], s)
  | o :: os, T, h, s => match stepOp P E dr ops T h o s with
    | some (T', h', ob, s') => match runOps P E dr ops os T' h' s' with
      | some (T'', h'', ob', s'') => some (T'', h'', ob ++ ob', s'')
      | none => none
    | none => none

/-! A region that draws its order. -/
def hasEdge (ops : Array Oper) (i j : Nat) : Bool :=
  match ops[i]? with
  | some o => o.after.any fun e => e.on == j && Region.binds .any e
  | none => false

def edgeB (ops : Array Oper) (i j : Nat) : Bool := if j < i then hasEdge ops i j else hasEdge ops j i

def dstOk (ops : Array Oper) (i j : Nat) (o q : Oper) : Bool :=
  match q.dst with
  | some d => (!(o.looksAt ops).contains d || edgeB ops i j) && o.dst != some d
  | none => true

/-- Two operations of which one writes what the other looks at stand in an order that every draw keeps. -/
def drawOk (ops : Array Oper) : Bool :=
  (List.range ops.size).all fun i => match ops[i]? with
    | none => true
    | some o => (o.after.all fun e => !Region.binds .any e || decide (e.on < i)) &&
      (List.range ops.size).all fun j => match ops[j]? with
        | none => true
        | some q => i == j || dstOk ops i j o q

/-- Of each operation those that stand in front of it in every order, as far as they are reached by edges. -/
def ancO (acc : List (List Nat)) (o : Oper) : List Nat :=
  o.after.toList.foldl (fun l e => if Region.binds .any e then addNew l (e.on :: acc.getD e.on []) else l) []

def ancs : List Oper → List (List Nat) → List (List Nat)
  | [], acc => acc
  | o :: r, acc => ancs r (acc ++ [ancO acc o])

def ordB (ops : Array Oper) (i j : Nat) : Bool := edgeB ops i j || (if j < i then ((ancs ops.toList []).getD i []).contains j else ((ancs ops.toList []).getD j []).contains i)

def stabV : PV → Bool
  | .agg cs => cs.all stabCell
  | p => stabCell p

/-- Which blocks an operation reads (none: all of them), which it writes. -/
def useOp (T : List PV) (o : Oper) : Option (List Nat) × List Nat :=
  match o.op with
  | .load _ x => match opnd T x with
    | some (.ptr id _ _) => (some [id], [])
    | _ => (some [], [])
  | .store _ x _ => match opnd T x with
    | some (.ptr id _ _) => (some [], [id])
    | _ => (some [], [])
  | .indexAddr _ x _ => match (opnd T x).map unwho with
    | some (.own id _ _) => (some [id], [])
    | _ => (some [], [])
  | .slice _ x _ _ _ => match (opnd T x).map unwho with
    | some (.own id _ _) => (some [id], [])
    | _ => (some [], [])
  | .convert _ _ x => match (opnd T x).map unwho with
    | some (.own id _ _) => (some [id], [])
    | _ => (some [], [])
  | .call ⟨.value _, args, _⟩ => if args.toList.all fun x => ((opnd T x).map stabV).getD true then (some [], []) else (none, [])
  | _ => (some [], [])

/-- The blocks that an operation that makes memory makes or turns. -/
def wrOp (T : List PV) (h : Hp) (o : Oper) : List Nat :=
  match o.op with
  | .call ⟨.builtin .append, ⟨[x, _]⟩, _⟩ => match (opnd T x).map unwho with
    | some (.own id _ _) => h.length :: id :: ((h[id]?).map (·.par)).getD []
    | _ => [h.length]
  | _ => [h.length]

def allocs (o : Oper) : Bool :=
  match o.op with
  | .alloc _ | .box _ _ | .buildSlice _ _ _ | .makeSlice _ _ _ | .call ⟨.builtin .append, _, _⟩ => true
  | _ => false

/-- An operation of a region that draws its order, with what it uses of the heap. -/
def evalD (P : Program) (E : Env) (T : List PV) (h : Hp) (o : Oper) (s : Scr) : Option ((PV × Hp × List Prop × Scr) × Option (List Nat) × List Nat) :=
  match evalOp P E true T h o s with
  | some r => some (r, useOp T o)
  | none => match allocs o with
    | true => match evalOp P E false T h o s with
      | some r => some (r, none, wrOp T h o)
      | none => none
    | false => none

/-- The operations in the text's order, with what each uses of the heap. -/
def runD (P : Program) (E : Env) (ops : Array Oper) : List Oper → List PV → Hp → Scr → Option (List PV × Hp × List Ob × Scr × List (Option (List Nat) × List Nat))
  | [], T, h, s => some (T, h, [], s, [])
  | o :: os, T, h, s =>
    match wantP ops T o s with
    | some (true, T1, ob1, s1) => match pickP T1 o s1 with
      | some (T2, ob2, s2) => match evalD P E T2 h o s2 with
        | some ((v, h', ob3, s3), u) => match runD P E ops os (put T2 o.dst v) h' s3 with
          | some (T', h'', ob', s', us) => some (T', h'', ob1 ++ ob2 ++ ob3.map .owe ++ ob', s', u :: us)
          | none => none
        | none => none
      | none => none
    | some (false, T1, ob1, s1) => match runD P E ops os (put T1 o.dst (.sc Go.undef)) h s1 with
      | some (T', h'', ob', s', us) => some (T', h'', ob1 ++ ob', s', (some [], []) :: us)
      | none => none
    | none => none

/-- May operation u, which reads, come before v, which writes, as well as behind it? -/
def freeU (u v : Option (List Nat) × List Nat) : Bool :=
  v.2.isEmpty || (u.2.isEmpty && match u.1 with
    | none => false
    | some l => l.all fun id => !v.2.contains id)

def usesOk (ops : Array Oper) (us : List (Option (List Nat) × List Nat)) : Bool :=
  (us.all fun u => u.2.isEmpty) || (List.range us.length).all fun j => match us[j]? with
    | none => true
    | some v => v.2.isEmpty || (List.range us.length).all fun i => match us[i]? with
      | none => true
      | some u => i == j || freeU u v || ordB ops i j

def runRegion (P : Program) (E : Env) (ops : Array Oper) (draw : Bool) (T : List PV) (h : Hp) (s : Scr) : Option (List PV × Hp × List Ob × Scr) :=
  if draw then
    if P.follows .mixedOrders && drawOk ops then
      match runD P E ops ops.toList T h s with
      | some (T', h', ob, s', us) => if usesOk ops us then some (T', h', ob, s') else none
      | none => none
    else none
  else runOps P E false ops ops.toList T h s

/-! A body. -/
def condP (T : List PV) (c : Operand) (s : Scr) : Option (Bool × List PV × List Ob × Scr) :=
  match c with
  | .tmp t => dec T t s
  | .const (.bool b) => some (b, T, [], s)
  | _ => none

/-- A loop's end, by decisions. -/
def walkLT : LT → Scr → Option (Out × List PV × Hp × List Ob × Scr)
  | .out o T h, s => some (o, T, h, [], s)
  | .ite c t f, s => match s with
    | .bit true :: s' => match walkLT t s' with
      | some (o, T, h, ob, s'') => some (o, T, h, .dec c true :: ob, s'')
      | none => none
    | .bit false :: s' => match walkLT f s' with
      | some (o, T, h, ob, s'') => some (o, T, h, .dec c false :: ob, s'')
      | none => none
    | [] => match walkLT t [] with
      | some (o, T, h, ob, s'') => some (o, T, h, .dec c true :: ob, s'')
      | none => none
    | _ => none
  | .bad, _ => none

def exec (P : Program) (E : Env) (L : LEnv) (Lp : Code → List PV → Hp → Out → List PV → Hp → Prop) : Code → List PV → Hp → Scr → Option (Out × List PV × Hp × List Ob × Scr)
  | .skip, T, h, s => some (.norm, T, h, [], s)
  | .label _, T, h, s => some (.norm, T, h, [], s)
  | .region _ ops draw, T, h, s => match runRegion P E ops draw T h s with
    | some (T', h', ob, s') => some (.norm, T', h', ob, s')
    | none => none
  | .seq x y, T, h, s => match exec P E L Lp x T h s with
    | some (.norm, T', h', ob, s') => match exec P E L Lp y T' h' s' with
      | some (o, T'', h'', ob', s'') => some (o, T'', h'', ob ++ ob', s'')
      | none => none
    | r => r
  | .cond c x y, T, h, s => match condP T c s with
    | some (true, T', ob, s') => match exec P E L Lp x T' h s' with
      | some (o, T'', h'', ob', s'') => some (o, T'', h'', ob ++ ob', s'')
      | none => none
    | some (false, T', ob, s') => match exec P E L Lp y T' h s' with
      | some (o, T'', h'', ob', s'') => some (o, T'', h'', ob ++ ob', s'')
      | none => none
    | none => none
  | .block id x, T, h, s => match exec P E L Lp x T h s with
    | some (.ext id', T', h', ob, s') => if id' = id then some (.norm, T', h', ob, s') else some (.ext id', T', h', ob, s')
    | r => r
  | .loop x, T, h, s => match firstReg x with
    | some k => match wholes (L k).2.1 T h with
      | some (T0, h0) => match trim (L k).1 T0 h0 with
        | some (T1, h1) => match walkLT ((L k).2.2 T1 h1) (skip s) with
          | some (o, T', h', ob, s') => some (o, T', h', ob ++ [.owe (Lp x T1 h1 o T' h')], s')
          | none => none
        | none => none
      | none => none
    | none => none
  | .exit id, T, h, s => some (.ext id, T, h, [], s)
  | .ret, T, h, s => some (.ret, T, h, [], s)
  | _, _, _, _ => none

/-- The results of a body. -/
def resP (P : Program) (T : List PV) (h : Hp) : List ResultVar → Option (List PV)
  | [] => some []
  | .tmp t :: r => match T[t]? with
    | some p => match resP P T h r with
      | some ps => some (p :: ps)
      | none => none
    | none => none
  | .cell x t :: r => match T[x]? with
    | some q => match loadP P h t q with
      | some p => match resP P T h r with
        | some ps => some (p :: ps)
        | none => none
      | none => none
    | none => none

def oneP : List PV → PV
  | [p] => p
  | ps => .tup ps

def runFn (P : Program) (E : Env) (L : LEnv) (Lp : Code → List PV → Hp → Out → List PV → Hp → Prop) (fn : Func) (args : List PV) (s : Scr) : Option (PV × List Ob × Scr) :=
  match fn.body with
  | some c => match exec P E L Lp c (args ++ List.replicate (fn.ntmps - args.length) (.sc Go.undef)) [] s with
    | some (o, T, h, ob, s') =>
      if o = .norm ∨ o = .ret then
        match resP P T h fn.results.toList with
        | some ps => match exp h expFuel (oneP ps) with
          | some (r, _) => some (r, ob ++ (expO h expFuel (oneP ps)).map .owe, s')
          | none => none
        | none => none
      else none
    | none => none
  | none => none
end Go.PS
