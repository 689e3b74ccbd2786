/- What the abstract values stand for in a world, what is kept between an abstract heap and a world, and how both go on when memory is made. -/
import Derived.Test.YtldmgdphelgffaaDoorPS1
namespace Go.PS
open Go.RowKit

theorem elems_of {z : Nat} {es : List (List PV)} (h : elemsB z es = true) : Elems z es := fun e he => by
  have := List.all_eq_true.1 h e he
  simp only [Bool.and_eq_true, beq_iff_eq] at this
  exact this
theorem stabs_of {es : List (List PV)} (h : stabsB es = true) : Stabs es := fun e he => List.all_eq_true.1 h e he
theorem bytes_of {es : List (List PV)} (h : bytesB es = true) : Bytes es := fun e he => List.all_eq_true.1 h e he

/-- A value that reaches memory of the set S alone, which nobody writes. -/
inductive RepS (w : World) (S : Nat → Prop) : PV → Value → Prop where
  | sc (v : Value) : RepS w S (.sc v) v
  | bit (b : Bool) : RepS w S (.bit b) (.bool b)
  | agg (cs : List PV) (vs : Array Value) (hl : cs.length = vs.size) (hc : ∀ (i : Nat) c v, cs[i]? = some c → vs[i]? = some v → RepS w S c v) : RepS w S (.agg cs) (.agg vs)
  | tup (cs : List PV) (vs : Array Value) (hl : cs.length = vs.size) (hc : ∀ (i : Nat) c v, cs[i]? = some c → vs[i]? = some v → RepS w S c v) : RepS w S (.tup cs) (.tuple vs)
  | nul (a : Option Addr) : RepS w S .nul (.slice a 0 0)
  | any (v : Value) : RepS w S .any v
  | rf (n : Nat) (f : Nat → List PV) (v : Value) (h : RepS w S (.ro ((List.range n).map f)) v) : RepS w S (.rf n f) v
  | ro0 (a : Option Addr) (cap : Nat) : RepS w S (.ro []) (.slice a 0 cap)
  | ro (es : List (List PV)) (b o cap sz : Nat) (c : Array Value) (et : TypeId) (fz : Nat × Nat) (hS : S b) (hb : w.heap[b]? = some (.cells c et fz))
      (hz : ∀ e ∈ es, e.length = sz) (hn : o + es.length * sz ≤ c.size) (hcap : es.length ≤ cap)
      (hc : ∀ (i j : Nat) e p v, es[i]? = some e → e[j]? = some p → c[o + i * sz + j]? = some v → RepS w S p v) : RepS w S (.ro es) (.slice (some ⟨b, o, none⟩) es.length cap)

abbrev Mp := List (Nat × Nat × Nat)

inductive Rep (w : World) (S : Nat → Prop) (m : Mp) : PV → Value → Prop where
  | st (p : PV) (v : Value) (h : RepS w S p v) : Rep w S m p v
  | agg (cs : List PV) (vs : Array Value) (hl : cs.length = vs.size) (hc : ∀ (i : Nat) c v, cs[i]? = some c → vs[i]? = some v → Rep w S m c v) : Rep w S m (.agg cs) (.agg vs)
  | tup (cs : List PV) (vs : Array Value) (hl : cs.length = vs.size) (hc : ∀ (i : Nat) c v, cs[i]? = some c → vs[i]? = some v → Rep w S m c v) : Rep w S m (.tup cs) (.tuple vs)
  | own (id off len cap b o sz : Nat) (c : Array Value) (et : TypeId) (hm : m[id]? = some (b, o, sz)) (hz : 0 < sz) (hb : w.heap[b]? = some (.cells c et (0, 0)))
      (hcap : len ≤ cap) (hn : o + (off + cap) * sz ≤ c.size) : Rep w S m (.own id off len) (.slice (some ⟨b, o + off * sz, none⟩) len cap)
  | own0 (id off : Nat) (a : Option Addr) : Rep w S m (.own id off 0) (.slice a 0 0)
  | who (id len : Nat) (v : Value) (h : Rep w S m (.own id 0 len) v) : Rep w S m (.who id len) v
  | ptr (id i off b o sz : Nat) (hm : m[id]? = some (b, o, sz)) : Rep w S m (.ptr id i off) (.pointer (some ⟨b, o + i * sz + off, none⟩))
  | mux (t : Nat) (want c : Bool) (p : PV) (v : Value) (h : c = want → Rep w S m p v) : Rep w S m (.mux t want c p) v
  | cel (cs : List PV) (off b o : Nat) (c : Array Value) (et : TypeId) (fz : Nat × Nat) (hS : S b) (hb : w.heap[b]? = some (.cells c et fz)) (hn : o + cs.length ≤ c.size)
      (hc : ∀ (j : Nat) p v, cs[j]? = some p → c[o + j]? = some v → RepS w S p v) : Rep w S m (.cel cs off) (.pointer (some ⟨b, o + off, none⟩))

/-- What of memory must stay: the blocks of S as they are, the others' size. -/
structure Later (w : World) (S : Nat → Prop) (w' : World) (S' : Nat → Prop) : Prop where
  sub : ∀ b, S b → S' b
  keep : ∀ b : Nat, S b → w'.heap[b]? = w.heap[b]?
  shape : ∀ (b : Nat) (c : Array Value) (et : TypeId), w.heap[b]? = some (.cells c et (0, 0)) → ∃ c' : Array Value, w'.heap[b]? = some (.cells c' et (0, 0)) ∧ c'.size = c.size

theorem Later.refl (w : World) (S : Nat → Prop) : Later w S w S := ⟨fun _ h => h, fun _ _ => rfl, fun _ c _ h => ⟨c, h, rfl⟩⟩

theorem RepS.later {w w' : World} {S S' : Nat → Prop} (hs : ∀ b, S b → S' b) (hk : ∀ b, S b → w'.heap[b]? = w.heap[b]?) {p : PV} {v : Value} (h : RepS w S p v) : RepS w' S' p v := by
  induction h with
  | sc v => exact .sc v
  | bit b => exact .bit b
  | agg cs vs hl _ ih => exact .agg cs vs hl ih
  | tup cs vs hl _ ih => exact .tup cs vs hl ih
  | nul a => exact .nul a
  | any v => exact .any v
  | rf n f v _ ih => exact .rf n f v ih
  | ro0 a cap => exact .ro0 a cap
  | ro es b o cap sz c et fz hS hb hz hn hcap _ ih => exact .ro es b o cap sz c et fz (hs b hS) ((hk b hS).trans hb) hz hn hcap ih

theorem Rep.later {w w' : World} {S S' : Nat → Prop} {m m' : Mp} (hL : Later w S w' S') (hm : ∀ (i : Nat) x, m[i]? = some x → m'[i]? = some x) {p : PV} {v : Value} (h : Rep w S m p v) : Rep w' S' m' p v := by
  induction h with
  | st p v h => exact .st p v (h.later hL.sub hL.keep)
  | agg cs vs hl _ ih => exact .agg cs vs hl ih
  | tup cs vs hl _ ih => exact .tup cs vs hl ih
  | own id off len cap b o sz c et hm1 h0 hb hcap hn =>
    obtain ⟨c', hb', hz⟩ := hL.shape b c et hb
    exact .own id off len cap b o sz c' et (hm _ _ hm1) h0 hb' hcap (by omega)
  | who id len v _ ih => exact .who id len v ih
  | own0 id off a => exact .own0 id off a
  | ptr id i off b o sz hm1 => exact .ptr id i off b o sz (hm _ _ hm1)
  | mux t want c p v _ ih => exact .mux t want c p v ih
  | cel cs off b o c et fz hS hb hn hc => exact .cel cs off b o c et fz (hL.sub b hS) ((hL.keep b hS).trans hb) hn fun j p v h1 h2 => (hc j p v h1 h2).later hL.sub hL.keep

/-- A block that there is. (One without elements whose size is not told need not be: the list is nil.) -/
abbrev Rl (es : List (List PV)) (sz : Nat) : Prop := es ≠ [] ∨ 0 < sz

/-- An abstract heap and a world. w0: the world when the call began; Sa: the memory that its arguments reach. -/
structure Inv (w0 : World) (Sa : Nat → Prop) (h : Hp) (S : Nat → Prop) (m : Mp) (w : World) : Prop where
  bel : Below w0.heap.size w0 w
  sub : ∀ b, S b → Sa b ∨ w0.heap.size ≤ b
  lt : ∀ b, S b → b < w.heap.size
  len : m.length = h.length
  blk : ∀ (id : Nat) B b o sz, h[id]? = some B → B.st ≤ 1 → m[id]? = some (b, o, sz) → Rl B.es sz → ∃ c et, w.heap[b]? = some (.cells c et (0, 0)) ∧ o + B.es.length * sz ≤ c.size ∧ (∀ e ∈ B.es, e.length = sz) ∧
    ∀ (i j : Nat) e p v, B.es[i]? = some e → e[j]? = some p → c[o + i * sz + j]? = some v → Rep w S m p v
  live : ∀ (id : Nat) B b o sz, h[id]? = some B → B.st = 0 → m[id]? = some (b, o, sz) → Rl B.es sz → w0.heap.size ≤ b ∧ ¬ S b
  uniq : ∀ (id id' : Nat) B B' b o sz o' sz', h[id]? = some B → B.st = 0 → m[id]? = some (b, o, sz) → h[id']? = some B' → B'.st = 0 → m[id']? = some (b, o', sz') → Rl B.es sz → Rl B'.es sz' → id = id'
  froz : ∀ (id : Nat) B b o sz, h[id]? = some B → B.st = 1 → m[id]? = some (b, o, sz) → Rl B.es sz → S b ∨ ∃ (id' : Nat) (B' : Blk) (o' sz' : Nat), h[id']? = some B' ∧ B'.st = 0 ∧ m[id']? = some (b, o', sz') ∧ Rl B'.es sz' ∧ id ∈ B'.par ∧ o + B.es.length * sz ≤ o' + B'.es.length * sz'
  pars : ∀ (id q : Nat) B Bq, h[id]? = some B → q ∈ B.par → h[q]? = some Bq → Bq.st ≠ 0
  parl : ∀ (id q : Nat) B, h[id]? = some B → q ∈ B.par → q < h.length
  msz : ∀ (id : Nat) B b o sz, h[id]? = some B → m[id]? = some (b, o, sz) → Rl B.es sz → B.sz = sz
  syms : ∀ (id : Nat) B, h[id]? = some B → B.sym = true → Stabs B.es

/-- The values of one world stand for the same in another. -/
def Go1 (w : World) (S : Nat → Prop) (m : Mp) (w' : World) (S' : Nat → Prop) (m' : Mp) : Prop := ∀ p v, Rep w S m p v → Rep w' S' m' p v

theorem heap_alloc_lt {w : World} {o : Obj} {b : Nat} (h : b < w.heap.size) : (w.alloc o).heap[b]? = w.heap[b]? := by
  show (w.heap.push o)[b]? = _
  rw [Array.getElem?_push, if_neg (by omega)]
theorem heap_alloc_new' (w : World) (o : Obj) : (w.alloc o).heap[w.heap.size]? = some o := by
  show (w.heap.push o)[w.heap.size]? = _
  simp
theorem lt_of_block {w : World} {b : Nat} {x : Obj} (h : w.heap[b]? = some x) : b < w.heap.size := by
  rcases Nat.lt_or_ge b w.heap.size with h' | h'
  · exact h'
  · rw [Array.getElem?_eq_none h'] at h; cases h

theorem Later.alloc (w : World) (S : Nat → Prop) (hlt : ∀ b, S b → b < w.heap.size) (o : Obj) : Later w S (w.alloc o) S :=
  ⟨fun _ h => h, fun b h => heap_alloc_lt (hlt b h), fun b c et h => ⟨c, by rw [heap_alloc_lt (lt_of_block h)]; exact h, rfl⟩⟩

/-- The world has grown: every block that was there is as it was. -/
theorem Later.grown {w w' : World} (S : Nat → Prop) (hlt : ∀ b, S b → b < w.heap.size) (hb : Below w.heap.size w w') : Later w S w' S :=
  ⟨fun _ h => h, fun b h => hb.block b (hlt b h), fun b c et h => ⟨c, by rw [hb.block b (lt_of_block h)]; exact h, rfl⟩⟩

/-- Nothing of the call's own has turned while the world grew. -/
theorem Inv.grown {w0 w w' : World} {Sa S : Nat → Prop} {h : Hp} {m : Mp} (hI : Inv w0 Sa h S m w) (hb : Below w.heap.size w w') : Inv w0 Sa h S m w' := by
  have hL := Later.grown S hI.lt hb
  refine ⟨hI.bel.trans (hb.mono hI.bel.size), hI.sub, fun b h => Nat.lt_of_lt_of_le (hI.lt b h) hb.size, hI.len, ?_, hI.live, hI.uniq, hI.froz, hI.pars, hI.parl, hI.msz, hI.syms⟩
  intro id B b o sz h1 h2 h3 h4
  obtain ⟨c, et, e1, e2, e3, e4⟩ := hI.blk id B b o sz h1 h2 h3 h4
  exact ⟨c, et, by rw [hb.block b (lt_of_block e1)]; exact e1, e2, e3, fun i j e p v q1 q2 q3 => (e4 i j e p v q1 q2 q3).later hL fun _ _ h => h⟩

/-- A new set of memory that nobody writes: what was made since is let in. -/
theorem Inv.widen {w0 w : World} {Sa S S' : Nat → Prop} {h : Hp} {m : Mp} (hI : Inv w0 Sa h S m w) (hs : ∀ b, S b → S' b) (hlt : ∀ b, S' b → b < w.heap.size) (hsub : ∀ b, S' b → Sa b ∨ w0.heap.size ≤ b)
    (hlive : ∀ (id : Nat) B b o sz, h[id]? = some B → B.st = 0 → m[id]? = some (b, o, sz) → Rl B.es sz → ¬ S' b) : Inv w0 Sa h S' m w := by
  have hL : Later w S w S' := ⟨hs, fun _ _ => rfl, fun _ c _ h => ⟨c, h, rfl⟩⟩
  refine ⟨hI.bel, hsub, hlt, hI.len, ?_, fun id B b o sz h1 h2 h3 h4 => ⟨(hI.live id B b o sz h1 h2 h3 h4).1, hlive id B b o sz h1 h2 h3 h4⟩, hI.uniq, ?_, hI.pars, hI.parl, hI.msz, hI.syms⟩
  · intro id B b o sz h1 h2 h3 h4
    obtain ⟨c, et, e1, e2, e3, e4⟩ := hI.blk id B b o sz h1 h2 h3 h4
    exact ⟨c, et, e1, e2, e3, fun i j e p v q1 q2 q3 => (e4 i j e p v q1 q2 q3).later hL fun _ _ h => h⟩
  · intro id B b o sz h1 h2 h3 h4
    rcases hI.froz id B b o sz h1 h2 h3 h4 with q | q
    · exact .inl (hs b q)
    · exact .inr q

theorem getElem?_snoc {α : Type} (l : List α) (x : α) (i : Nat) (y : α) (h : (l ++ [x])[i]? = some y) : l[i]? = some y ∨ (i = l.length ∧ y = x) := by
  rcases Nat.lt_trichotomy i l.length with hl | hl | hl
  · rw [List.getElem?_append_left hl] at h; exact .inl h
  · subst hl; rw [List.getElem?_append_right (Nat.le_refl _)] at h; simp at h; exact .inr ⟨rfl, h.symm⟩
  · rw [List.getElem?_append_right (by omega), List.getElem?_eq_none (by simp; omega)] at h; cases h

theorem snoc_old {α : Type} {l : List α} (x : α) {i : Nat} {y : α} (h : l[i]? = some y) : (l ++ [x])[i]? = some y := by
  rw [List.getElem?_append_left (List.getElem?_eq_some_iff.1 h).1]; exact h

theorem snoc_new {α : Type} (l : List α) (x : α) : (l ++ [x])[l.length]? = some x := by simp

/-- A new block of the call's own. -/
theorem Inv.alloc' {sm : Bool} {w0 w : World} {Sa S : Nat → Prop} {h : Hp} {m : Mp} (hI : Inv w0 Sa h S m w) (c : Array Value) (et : TypeId) (es : List (List PV)) (sz : Nat) (pr : List Nat) (hp1 : ∀ q ∈ pr, q < h.length) (hp2 : ∀ q ∈ pr, ∀ Y, h[q]? = some Y → Y.st ≠ 0) (hz : ∀ e ∈ es, e.length = sz) (hn : es.length * sz ≤ c.size)
    (hc : ∀ (i j : Nat) e p v, es[i]? = some e → e[j]? = some p → c[i * sz + j]? = some v → Rep w S m p v) (hsm : sm = true → Stabs es) :
    Inv w0 Sa (h ++ [⟨es, 0, pr, sz, sm⟩]) S (m ++ [(w.heap.size, 0, sz)]) (w.alloc (.cells c et)) ∧ Go1 w S m (w.alloc (.cells c et)) S (m ++ [(w.heap.size, 0, sz)]) := by
  have hL := Later.alloc w S hI.lt (.cells c et)
  have hG : Go1 w S m (w.alloc (.cells c et)) S (m ++ [(w.heap.size, 0, sz)]) := fun p v hp => hp.later hL fun i x hx => snoc_old _ hx
  have hlen := hI.len
  have oldm : ∀ {id : Nat} {B : Blk} {x : Nat × Nat × Nat}, h[id]? = some B → (m ++ [(w.heap.size, 0, sz)])[id]? = some x → m[id]? = some x := by
    intro id B x h1 h2
    have : id < m.length := by rw [hlen]; exact (List.getElem?_eq_some_iff.1 h1).1
    rw [List.getElem?_append_left this] at h2; exact h2
  have newm : ∀ {x : Nat × Nat × Nat}, (m ++ [(w.heap.size, 0, sz)])[h.length]? = some x → x = (w.heap.size, 0, sz) := by
    intro x h2
    rw [← hlen, snoc_new] at h2
    exact (Option.some.inj h2).symm
  refine ⟨⟨hI.bel.alloc hI.bel.size _, hI.sub, fun b hb => by have := hI.lt b hb; simp; omega, by simp [hlen], ?_, ?_, ?_, ?_, ?_, ?_, ?_, ?_⟩, hG⟩
  · intro id B b o sz' h1 h2 h3 hr
    rcases getElem?_snoc _ _ _ _ h1 with h1 | ⟨rfl, rfl⟩
    · obtain ⟨c', et', e1, e2, e3, e4⟩ := hI.blk id B b o sz' h1 h2 (oldm h1 h3) hr
      exact ⟨c', et', by rw [heap_alloc_lt (lt_of_block e1)]; exact e1, e2, e3, fun i j e p v q1 q2 q3 => hG _ _ (e4 i j e p v q1 q2 q3)⟩
    · cases newm h3
      exact ⟨c, et, heap_alloc_new' _ _, by simpa using hn, hz, fun i j e p v q1 q2 q3 => hG _ _ (hc i j e p v q1 q2 (by simpa using q3))⟩
  · intro id B b o sz' h1 h2 h3 hr
    rcases getElem?_snoc _ _ _ _ h1 with h1 | ⟨rfl, rfl⟩
    · exact hI.live id B b o sz' h1 h2 (oldm h1 h3) hr
    · cases newm h3
      exact ⟨hI.bel.size, fun hS => absurd (hI.lt _ hS) (Nat.lt_irrefl _)⟩
  · intro id id' B B' b o sz1 o' sz1' h1 h2 h3 h4 h5 h6 hr hr'
    have ltm : ∀ {id : Nat} {B : Blk} {b o z : Nat}, h[id]? = some B → B.st = 0 → m[id]? = some (b, o, z) → Rl B.es z → b < w.heap.size := by
      intro id B b o z q1 q2 q3 q4
      obtain ⟨c', et', e1, _⟩ := hI.blk id B b o z q1 (by omega) q3 q4
      exact lt_of_block e1
    rcases getElem?_snoc _ _ _ _ h1 with h1 | ⟨rfl, rfl⟩ <;> rcases getElem?_snoc _ _ _ _ h4 with h4 | ⟨rfl, rfl⟩
    · exact hI.uniq id id' B B' b o sz1 o' sz1' h1 h2 (oldm h1 h3) h4 h5 (oldm h4 h6) hr hr'
    · cases newm h6
      have := ltm h1 h2 (oldm h1 h3) hr
      omega
    · cases newm h3
      have := ltm h4 h5 (oldm h4 h6) hr'
      omega
    · rfl
  · intro id B b o sz' h1 h2 h3 hr
    rcases getElem?_snoc _ _ _ _ h1 with h1 | ⟨rfl, rfl⟩
    · rcases hI.froz id B b o sz' h1 h2 (oldm h1 h3) hr with hS | ⟨id', B', o', z', q1, q2, q3, q4⟩
      · exact .inl hS
      · exact .inr ⟨id', B', o', z', snoc_old _ q1, q2, snoc_old _ q3, q4⟩
    · cases h2
  · intro id q B Bq h1 h2 h3
    rcases getElem?_snoc _ _ _ _ h1 with h1 | ⟨rfl, rfl⟩
    · rcases getElem?_snoc _ _ _ _ h3 with h3 | ⟨rfl, rfl⟩
      · exact hI.pars id q B Bq h1 h2 h3
      · exact absurd (hI.parl id _ B h1 h2) (Nat.lt_irrefl _)
    · rcases getElem?_snoc _ _ _ _ h3 with h3 | ⟨rfl, rfl⟩
      · exact hp2 q h2 Bq h3
      · exact absurd (hp1 _ h2) (Nat.lt_irrefl _)
  · intro id q B h1 h2
    rcases getElem?_snoc _ _ _ _ h1 with h1 | ⟨rfl, rfl⟩
    · have := hI.parl id q B h1 h2
      simp; omega
    · have := hp1 q h2
      simp; omega
  · intro id B b o sz' h1 h3 hr
    rcases getElem?_snoc _ _ _ _ h1 with h1 | ⟨rfl, rfl⟩
    · exact hI.msz id B b o sz' h1 (oldm h1 h3) hr
    · cases newm h3; rfl
  · intro id B h1 h2
    rcases getElem?_snoc _ _ _ _ h1 with h1 | ⟨rfl, rfl⟩
    · exact hI.syms id B h1 h2
    · exact hsm h2
/-- A block that is not there yet. -/
theorem Inv.virt {sm : Bool} {w0 w : World} {Sa S : Nat → Prop} {h : Hp} {m : Mp} (hI : Inv w0 Sa h S m w) (sz : Nat) (pr : List Nat) (hp1 : ∀ q ∈ pr, q < h.length) (hp2 : ∀ q ∈ pr, ∀ Y, h[q]? = some Y → Y.st ≠ 0) :
    Inv w0 Sa (h ++ [⟨[], 0, pr, sz, sm⟩]) S (m ++ [(0, 0, 0)]) w ∧ Go1 w S m w S (m ++ [(0, 0, 0)]) := by
  have hG : Go1 w S m w S (m ++ [(0, 0, 0)]) := fun p v hp => hp.later (Later.refl w S) fun i x hx => snoc_old _ hx
  have hlen := hI.len
  have oldm : ∀ {id : Nat} {B : Blk} {x : Nat × Nat × Nat}, h[id]? = some B → (m ++ [(0, 0, 0)])[id]? = some x → m[id]? = some x := by
    intro id B x h1 h2
    have : id < m.length := by rw [hlen]; exact (List.getElem?_eq_some_iff.1 h1).1
    rw [List.getElem?_append_left this] at h2; exact h2
  have newm : ∀ {b o z : Nat} {Q : Prop}, (m ++ [(0, 0, 0)])[h.length]? = some (b, o, z) → Rl ([] : List (List PV)) z → Q := by
    intro b o z Q h2 hr
    rw [← hlen, snoc_new] at h2
    cases h2
    rcases hr with h | h
    · exact absurd rfl h
    · omega
  refine ⟨⟨hI.bel, hI.sub, hI.lt, by simp [hlen], ?_, ?_, ?_, ?_, ?_, ?_, ?_, ?_⟩, hG⟩
  · intro id B b o sz' h1 h2 h3 hr
    rcases getElem?_snoc _ _ _ _ h1 with h1 | ⟨rfl, rfl⟩
    · obtain ⟨c', et', e1, e2, e3, e4⟩ := hI.blk id B b o sz' h1 h2 (oldm h1 h3) hr
      exact ⟨c', et', e1, e2, e3, fun i j e p v q1 q2 q3 => hG _ _ (e4 i j e p v q1 q2 q3)⟩
    · exact newm h3 hr
  · intro id B b o sz' h1 h2 h3 hr
    rcases getElem?_snoc _ _ _ _ h1 with h1 | ⟨rfl, rfl⟩
    · exact hI.live id B b o sz' h1 h2 (oldm h1 h3) hr
    · exact newm h3 hr
  · intro id id' B B' b o sz1 o' sz1' h1 h2 h3 h4 h5 h6 hr hr'
    rcases getElem?_snoc _ _ _ _ h1 with h1 | ⟨rfl, rfl⟩ <;> rcases getElem?_snoc _ _ _ _ h4 with h4 | ⟨rfl, rfl⟩
    · exact hI.uniq id id' B B' b o sz1 o' sz1' h1 h2 (oldm h1 h3) h4 h5 (oldm h4 h6) hr hr'
    · exact newm h6 hr'
    · exact newm h3 hr
    · rfl
  · intro id B b o sz' h1 h2 h3 hr
    rcases getElem?_snoc _ _ _ _ h1 with h1 | ⟨rfl, rfl⟩
    · rcases hI.froz id B b o sz' h1 h2 (oldm h1 h3) hr with hS | ⟨id', B', o', z', q1, q2, q3, q4⟩
      · exact .inl hS
      · exact .inr ⟨id', B', o', z', snoc_old _ q1, q2, snoc_old _ q3, q4⟩
    · cases h2
  · intro id q B Bq h1 h2 h3
    rcases getElem?_snoc _ _ _ _ h1 with h1 | ⟨rfl, rfl⟩
    · rcases getElem?_snoc _ _ _ _ h3 with h3 | ⟨rfl, rfl⟩
      · exact hI.pars id q B Bq h1 h2 h3
      · exact absurd (hI.parl id _ B h1 h2) (Nat.lt_irrefl _)
    · rcases getElem?_snoc _ _ _ _ h3 with h3 | ⟨rfl, rfl⟩
      · exact hp2 q h2 Bq h3
      · exact absurd (hp1 _ h2) (Nat.lt_irrefl _)
  · intro id q B h1 h2
    rcases getElem?_snoc _ _ _ _ h1 with h1 | ⟨rfl, rfl⟩
    · have := hI.parl id q B h1 h2
      simp; omega
    · have := hp1 q h2
      simp; omega
  · intro id B b o sz' h1 h3 hr
    rcases getElem?_snoc _ _ _ _ h1 with h1 | ⟨rfl, rfl⟩
    · exact hI.msz id B b o sz' h1 (oldm h1 h3) hr
    · exact newm h3 hr
  · intro id B h1 h2
    rcases getElem?_snoc _ _ _ _ h1 with h1 | ⟨rfl, rfl⟩
    · exact hI.syms id B h1 h2
    · intro e he; cases he
/-- A new block of the call's own, with nothing older in its memory. -/
theorem Inv.alloc {sm : Bool} {w0 w : World} {Sa S : Nat → Prop} {h : Hp} {m : Mp} (hI : Inv w0 Sa h S m w) (c : Array Value) (et : TypeId) (es : List (List PV)) (sz : Nat) (hz : ∀ e ∈ es, e.length = sz) (hn : es.length * sz ≤ c.size)
    (hc : ∀ (i j : Nat) e p v, es[i]? = some e → e[j]? = some p → c[i * sz + j]? = some v → Rep w S m p v) (hsm : sm = true → Stabs es) :
    Inv w0 Sa (h ++ [⟨es, 0, [], sz, sm⟩]) S (m ++ [(w.heap.size, 0, sz)]) (w.alloc (.cells c et)) ∧ Go1 w S m (w.alloc (.cells c et)) S (m ++ [(w.heap.size, 0, sz)]) :=
  hI.alloc' c et es sz [] (fun _ h => by cases h) (fun _ h => by cases h) hz hn hc hsm
end Go.PS
