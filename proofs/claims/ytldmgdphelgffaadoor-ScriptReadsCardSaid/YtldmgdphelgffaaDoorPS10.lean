/- append and calls; then every operation. -/
import Derived.Test.YtldmgdphelgffaaDoorPS9
namespace Go.PS
open Go.RowKit

theorem grown_ge (w : World) (need old : Nat) (e : TypeId) : need ≤ Go.Question.cut (.appendCap need old e) (w.tape w.drawn (.appendCap need old e)) := by
  simp [Question.cut]

section
variable {P : Program} {w0 w : World} {Sa S : Nat → Prop} {h h' : Hp} {m : Mp} {a : Act} {o : Oper} {T : List PV} {s s' : Scr} {ob : List Prop} {v : PV} {next : Act → World → Prop} {Q : Exit → Act → World → Prop}

structure AppTy (P : Program) (t t2 e : TypeId) (z by8 : Nat) (zv : Value) : Prop where
  ut : P.underlying t = some (.slice e)
  ut2 : ∃ e2, P.underlying t2 = some (.slice e2)
  sz : szP P e = some z
  bytes : (P.info? e).map (·.bytes) = some by8
  zero : zeroP P e = some zv
  zsz : zv.cells.size = z

theorem run_info {e : TypeId} {by8 : Nat} (hb : (P.info? e).map (·.bytes) = some by8) : ∃ i, (typeInfo e).run P w = .ok i w ∧ i.bytes = by8 := by
  cases hi : P.info? e with
  | none => rw [hi] at hb; cases hb
  | some i => rw [hi] at hb; simp at hb; exact ⟨i, by simp [typeInfo, hi], hb⟩

theorem run_append_in {t t2 e ty : TypeId} {z by8 sLen sCap n cx : Nat} {zv : Value} {base ad : Option Addr} {news : List Value} {w' : World} (hA : AppTy P t t2 e z by8 zv)
    (hf : ∀ W : World, W.heap = w.heap → (Builtin.firstCells z n (.slice ad n cx)).run P W = .ok news.toArray W) (hroom : sLen + n ≤ sCap)
    (hst : (match base with | some x => storeCells (x.add (sLen * z)) news | none => pure ()).run P w = .ok () w') :
    (Builtin.append_ #[t, t2] ty #[.slice base sLen sCap, .slice ad n cx]).run P w = .ok (.slice base (sLen + n) sCap) w' := by
  obtain ⟨e2, hu2⟩ := hA.ut2
  have hf0 := hf w rfl
  cases base with
  | none =>
    simp at hst
    subst hst
    simp [Builtin.append_, run_und hA.ut, run_und hu2, run_size hA.sz, Builtin.lenOf, hroom, hf0]
  | some x =>
    simp at hst
    simp [Builtin.append_, run_und hA.ut, run_und hu2, run_size hA.sz, Builtin.lenOf, hroom, hf0, hst]

theorem run_append_new {t t2 e ty : TypeId} {z by8 sLen sCap n cx : Nat} {zv : Value} {base ad : Option Addr} {olds news : List Value} (hA : AppTy P t t2 e z by8 zv) (hb8 : 0 < by8)
    (hf : ∀ W : World, W.heap = w.heap → (Builtin.firstCells z n (.slice ad n cx)).run P W = .ok news.toArray W)
    (ho : ∀ W : World, W.heap = w.heap → (Builtin.firstCells z sLen (.slice base sLen sCap)).run P W = .ok olds.toArray W) (hroom : ¬ sLen + n ≤ sCap) (hfit : (sLen + n) * by8 ≤ roomP) :
    ∃ (cap : Nat) (rest : List Value), sLen + n ≤ cap ∧ rest.length = (cap - (sLen + n)) * z ∧
    (Builtin.append_ #[t, t2] ty #[.slice base sLen sCap, .slice ad n cx]).run P w = .ok (.slice (some ⟨w.heap.size, 0, none⟩) (sLen + n) cap) (w.drew.alloc (.cells (olds ++ news ++ rest).toArray e)) := by
  obtain ⟨e2, hu2⟩ := hA.ut2
  have hf0 := hf w.drew rfl
  have ho0 := ho w.drew rfl
  have hcap := growslice_fits (need := sLen + n) (old := sCap) (bytes := by8) (by omega) hfit
  refine ⟨_, (Builtin.zeroCells zv.cells (Go.Question.cut (.appendCap (sLen + n) sCap e) (w.tape w.drawn (.appendCap (sLen + n) sCap e)) - (sLen + n))).toList, grown_ge w (sLen + n) sCap e, by simp [Builtin.zeroCells, hA.zsz], ?_⟩
  cases hi : P.info? e with
  | none => have := hA.bytes; rw [hi] at this; cases this
  | some i =>
    have hb : i.bytes = by8 := by have := hA.bytes; rw [hi] at this; simpa using this
    have hz : i.zero = some zv := by have := hA.zero; unfold zeroP at this; rw [hi] at this; simpa using this
    have h48' : ¬ (281474976710656 < Builtin.nextslicecap (sLen + n) sCap * i.bytes) := by rw [hb]; omega
    have hb0 : ¬ i.bytes = 0 := by omega
    simp [Builtin.append_, run_und hA.ut, run_und hu2, run_size hA.sz, Builtin.lenOf, hroom, typeInfo, zeroValue, hi, hz, hb0, h48', Question.forced, hf0, ho0, newRow]
    congr 2
    apply Array.ext'
    simp

/-- The rows of what was there and of what is appended, in new memory. -/
theorem new_rows {xs ys : List (List PV)} {olds news rest : List Value} {z : Nat} (hxs : ∀ e ∈ xs, e.length = z) (hol : olds.length = xs.length * z) (hnl : news.length = ys.length * z) (hys : ∀ e ∈ ys, e.length = z)
    (ho : ∀ (i j : Nat) e p v, xs[i]? = some e → e[j]? = some p → olds[i * z + j]? = some v → Rep w S m p v) (hn : ∀ (i j : Nat) e p v, ys[i]? = some e → e[j]? = some p → news[i * z + j]? = some v → Rep w S m p v) :
    (∀ e ∈ xs ++ ys, e.length = z) ∧ (xs ++ ys).length * z ≤ (olds ++ news ++ rest).toArray.size ∧
    ∀ (i j : Nat) e p v, (xs ++ ys)[i]? = some e → e[j]? = some p → (olds ++ news ++ rest).toArray[i * z + j]? = some v → Rep w S m p v := by
  refine ⟨fun e he => (List.mem_append.1 he).elim (hxs e) (hys e), by simp [Nat.add_mul, hol, hnl], fun i j e p v q1 q2 q3 => ?_⟩
  rw [List.getElem?_toArray] at q3
  have hjz : j < z := by
    have h1 := (List.getElem?_eq_some_iff.1 q2).1
    have : e.length = z := (List.mem_append.1 (List.mem_of_getElem? q1)).elim (hxs e) (hys e)
    omega
  by_cases hi : i < xs.length
  · rw [List.getElem?_append_left hi] at q1
    have := row_le (sz := z) hi
    rw [List.append_assoc, List.getElem?_append_left (by omega)] at q3
    exact ho i j e p v q1 q2 q3
  · rw [List.getElem?_append_right (by omega)] at q1
    have hiy : i - xs.length < ys.length := (List.getElem?_eq_some_iff.1 q1).1
    have hsp : i * z = xs.length * z + (i - xs.length) * z := mul_split (by omega)
    have := row_le (sz := z) hiy
    rw [List.append_assoc, List.getElem?_append_right (by omega), hol, List.getElem?_append_left (by omega), show i * z + j - xs.length * z = (i - xs.length) * z + j by omega] at q3
    exact hn (i - xs.length) j e p v q1 q2 q3

theorem stabs_append {xs ys : List (List PV)} (h1 : Stabs xs) (h2 : Stabs ys) : Stabs (xs ++ ys) := fun e he => (List.mem_append.1 he).elim (h1 e) (h2 e)

theorem app_exec {t t2 : TypeId} {x y : Operand} (hop : o.op = .call ⟨.builtin .append, #[x, y], #[t, t2]⟩) {r : Value} {w' : World}
    (hrun : (Builtin.append_ #[t, t2] o.type #[a.eval x, a.eval y]).run P w = .ok r w') : (execOp a.eval o).run P w = .ok (.value r) w' := by
  simp [execOp, hop, resolve, invoke, builtin, hrun]

theorem drew_inv (hI : Inv w0 Sa h S m w) : Inv w0 Sa h S m w.drew ∧ Go1 w S m w.drew S m := by
  have hL : Later w S w.drew S := ⟨fun _ h => h, fun _ _ => rfl, fun _ c _ h => ⟨c, h, rfl⟩⟩
  exact ⟨hI.grown ⟨rfl, rfl, rfl, Nat.le_refl _, fun _ _ => rfl⟩, fun p v hp => hp.later hL fun _ _ h => h⟩

theorem inv_map (hI : Inv w0 Sa h S m w) {id : Nat} {B : Blk} (hB : h[id]? = some B) : ∃ b o' sz, m[id]? = some (b, o', sz) := by
  have : id < m.length := by rw [hI.len]; exact (List.getElem?_eq_some_iff.1 hB).1
  exact ⟨m[id].1, m[id].2.1, m[id].2.2, by simp [this]⟩

theorem own_app (hI : Inv w0 Sa h S m w) {t t2 e : TypeId} {x y : Operand} {q : PV} {z by8 id off len : Nat} {zv : Value} {B : Blk} {hA : Hp} {pr : List Nat} {ys : List (List PV)} {sm : Bool}
    (hop : o.op = .call ⟨.builtin .append, #[x, y], #[t, t2]⟩) (hAT : AppTy P t t2 e z by8 zv) (hb0 : 0 < by8) (hp : Rep w S m (.own id off len) (a.eval x)) (hq : Rep w S m q (a.eval y)) {obs : List Prop} (hel : elemsW h q = some (ys, obs)) (hobs : ∀ X ∈ obs, X) (hz0 : 0 < z)
    (hB : h[id]? = some B) (hst : B.st = 0) (hlen : off + len ≤ B.es.length) (hBz : B.sz = z) (hGv : Gave h id B (off + len = B.es.length) hA) (hpr1 : off + len = B.es.length → pr = id :: B.par) (hpr2 : ∀ q ∈ pr, q = id ∨ q ∈ B.par)
    (hroom : (len + ys.length) * by8 ≤ roomP) (hE : Elems z ys) (hsm : sm = true → Stabs ((B.es.drop off).take len ++ ys))
    (hn : ∀ v' w', Post w0 Sa (hA ++ [⟨(B.es.drop off).take len ++ ys, 0, pr, z, sm⟩]) S m w (.own h.length 0 (len + ys.length)) v' w' → next (a.put o.dst v') w') : o.wp P a w next Q := by
  obtain ⟨b, o', sz, hm⟩ := inv_map hI hB
  by_cases hRl : Rl B.es sz
  case neg =>
    have hnil : B.es = [] := Classical.byContradiction fun h => hRl (.inl h)
    have hs0 : sz = 0 := by
      rcases Nat.eq_zero_or_pos sz with h | h
      · exact h
      · exact absurd (.inr h) hRl
    have hl0 : len = 0 ∧ off = 0 := by rw [hnil] at hlen; simp at hlen; omega
    obtain ⟨rfl, rfl⟩ := hl0
    obtain ⟨ad, hx⟩ : ∃ ad, a.eval x = .slice ad 0 0 := by
      rcases own_inv hp with ⟨_, h⟩ | ⟨b1, o1, sz1, cap, c1, et1, _, hm1, h0, _⟩
      · exact h
      · rw [hm] at hm1; cases hm1; omega
    have hI1 := hI.giveV hB hst hm hRl hGv
    obtain ⟨ad2, cx, news, hy, hnl, hf, hrep⟩ := src_ofW (P := P) (z := z) hI hq hel hobs (fun e he => (hE e he).1)
    rw [hy] at hf
    have hprs1 : ∀ q ∈ pr, q < hA.length := fun q hq => by
      rw [hGv.len]
      rcases hpr2 q hq with rfl | hp
      · exact (List.getElem?_eq_some_iff.1 hB).1
      · exact hI.parl id q B hB hp
    have hprs2 : ∀ q ∈ pr, ∀ Y, hA[q]? = some Y → Y.st ≠ 0 := fun q hq Y hY h0 => by
      obtain ⟨Z, z1, _, _, _, z5, _⟩ := hGv.old q Y hY
      rcases hpr2 q hq with rfl | hp
      · exact (z5 h0).2 rfl
      · exact hI.pars id q B Z hB hp z1 (z5 h0).1
    have e0 : (B.es.drop 0).take 0 ++ ys = ys := by simp
    rw [e0] at hn hsm
    by_cases hn0 : ys = []
    · subst hn0
      have hnews : news = [] := List.eq_nil_of_length_eq_zero (by rw [hnl]; simp)
      subst hnews
      have hrun := run_append_in (P := P) (w := w) (ty := o.type) (base := ad) (sLen := 0) (sCap := 0) (w' := w) hAT hf (by simp) (by cases ad <;> simp [storeCells])
      rw [← hx, ← hy] at hrun
      obtain ⟨hI2, hG2⟩ := hI1.virt z pr hprs1 hprs2
      refine wp_value' (app_exec hop hrun) (hn _ _ ⟨S, _, hI2, hG2, ?_⟩)
      exact Rep.own0 _ _ _
    · have hn1 : 0 < ys.length := List.length_pos_iff.2 hn0
      have ho : ∀ W : World, W.heap = w.heap → (Builtin.firstCells z 0 (.slice ad 0 0)).run P W = .ok ([] : List Value).toArray W := by
        intro W _; cases ad <;> simp [Builtin.firstCells, loadCells, loadCellsFrom]
      obtain ⟨cap, rest, hcap, hrl, hrun⟩ := run_append_new (P := P) (w := w) (ty := o.type) (base := ad) (sLen := 0) (sCap := 0) (olds := []) hAT hb0 hf ho (by omega) hroom
      rw [← hx, ← hy] at hrun
      obtain ⟨hI2, hG2⟩ := drew_inv hI1
      obtain ⟨f1, f2, f3⟩ := new_rows (w := w.drew) (S := S) (m := m) (xs := []) (ys := ys) (olds := []) (news := news) (rest := rest) (z := z) (by simp) (by simp) hnl (fun e he => (hE e he).1)
        (by simp) (fun i j e p v q1 q2 q3 => hG2 _ _ (hrep i j e p v q1 q2 q3))
      rw [List.nil_append] at f1 f2 f3
      obtain ⟨hI3, hG3⟩ := hI2.alloc' ([] ++ news ++ rest).toArray e ys z pr hprs1 hprs2 f1 f2 f3 hsm
      refine wp_value' (app_exec hop hrun) (hn _ _ ⟨_, _, hI3, fun p v hp => hG3 _ _ (hG2 _ _ hp), ?_⟩)
      have := Rep.own (w := w.drew.alloc (.cells ([] ++ news ++ rest).toArray e)) (S := S) (m := m ++ [(w.drew.heap.size, 0, z)]) h.length 0 (0 + ys.length) cap w.drew.heap.size 0 z ([] ++ news ++ rest).toArray e
        (by rw [← hI.len]; simp) hz0 (heap_alloc_new' _ _) hcap (by
          have : cap * z = ys.length * z + (cap - (0 + ys.length)) * z := mul_split (by omega)
          have hz0 : (0 + cap) * z = cap * z := by rw [Nat.zero_add]
          simp only [List.nil_append, List.size_toArray, List.length_append, hnl, hrl]
          omega)
      simpa using this
  have hsz : sz = z := by rw [← hI.msz id B b o' sz hB hm hRl, hBz]
  subst hsz
  obtain ⟨c, et, e1, e2, e3, e4⟩ := hI.blk id B b o' sz hB (by omega) hm hRl
  obtain ⟨ad2, cx, news, hy, hnl, hf, hrep⟩ := src_ofW (P := P) (z := sz) hI hq hel hobs (fun e he => (hE e he).1)
  rw [hy] at hf
  have hmul : (off + len) * sz = off * sz + len * sz := Nat.add_mul _ _ _
  have hle : (off + len) * sz ≤ B.es.length * sz := Nat.mul_le_mul_right _ hlen
  have htl : ((B.es.drop off).take len).length = len := by simp; omega
  have hone : ∀ v ∈ news, v.oneCell' = true := by
    intro v hv
    obtain ⟨k, hk⟩ := List.getElem?_of_mem hv
    have hkl : k < ys.length * sz := by have := (List.getElem?_eq_some_iff.1 hk).1; omega
    have hsp : 0 < sz := by
      rcases Nat.eq_zero_or_pos sz with h0 | h0
      · rw [h0] at hkl; omega
      · exact h0
    have hi : k / sz < ys.length := (Nat.div_lt_iff_lt_mul hsp).2 hkl
    have hj : k % sz < sz := Nat.mod_lt _ hsp
    have hg : ys[k / sz]? = some ys[k / sz] := by simp [hi]
    obtain ⟨l1, l2⟩ := hE ys[k / sz] (List.getElem_mem hi)
    have hg2 : ys[k / sz][k % sz]? = some (ys[k / sz][k % sz]'(by omega)) := by
      rw [List.getElem?_eq_getElem]
    refine rep_oneCell (hrep (k / sz) (k % sz) _ _ v hg hg2 ?_) (List.all_eq_true.1 l2 _ (List.mem_of_getElem? hg2))
    rw [Nat.mul_comm, Nat.div_add_mod]; exact hk
  -- the two forms of what stands in front
  rcases own_inv hp with ⟨rfl, ad, hx⟩ | ⟨b1, o1, sz1, cap, c1, et1, hx, hm1, _, hb1, hcap, hl1⟩
  · -- nothing in front, no room
    by_cases hn0 : ys.length = 0
    · have hnews : news = [] := List.eq_nil_of_length_eq_zero (by rw [hnl, hn0]; simp)
      subst hnews
      rw [hn0] at hf hy
      have hrun := run_append_in (P := P) (w := w) (ty := o.type) (base := ad) (sLen := 0) (sCap := 0) (w' := w) hAT hf (by omega) (by cases ad <;> simp [storeCells])
      rw [← hx, ← hy] at hrun
      obtain ⟨hI', hG⟩ := hI.appendIn (news := []) hB hst hm hRl hz0 hlen hGv hpr1 hpr2 (fun e he => (hE e he).1) hnl (fun i j e p v q1 q2 q3 => by simp at q3) e1 (by simp; omega) hsm
      have hself : w.setRow b (c.toList.take (o' + (off + 0) * sz) ++ [] ++ c.toList.drop (o' + (off + 0) * sz + ([] : List Value).length)).toArray = w := by
        simp only [List.append_nil, List.length_nil, Nat.add_zero, List.take_append_drop, Array.toArray_toList]
        exact setRow_self w b c et (0, 0) e1
      rw [hself] at hI' hG
      refine wp_value' (app_exec hop hrun) (hn _ _ ⟨S, _, hI', hG, ?_⟩)
      rw [hn0]
      rw [hx]
      exact Rep.own0 _ _ _
    · have ho : ∀ W : World, W.heap = w.heap → (Builtin.firstCells sz 0 (.slice ad 0 0)).run P W = .ok ([] : List Value).toArray W := by
        intro W _; cases ad <;> simp [Builtin.firstCells, loadCells, loadCellsFrom]
      obtain ⟨cap, rest, hcap, hrl, hrun⟩ := run_append_new (P := P) (w := w) (ty := o.type) (base := ad) (sLen := 0) (sCap := 0) (olds := []) hAT hb0 hf ho (by omega) hroom
      rw [← hx, ← hy] at hrun
      obtain ⟨hI1, hG1⟩ := hI.give hB hst hm hRl hGv
      obtain ⟨hI2, hG2⟩ := drew_inv hI1
      obtain ⟨f1, f2, f3⟩ := new_rows (w := w.drew) (S := fun x => S x ∨ x = b) (m := m) (xs := (B.es.drop off).take 0) (ys := ys) (olds := []) (news := news) (rest := rest) (z := sz) (by simp) (by simp) hnl (fun e he => (hE e he).1)
        (by simp) (fun i j e p v q1 q2 q3 => hG2 _ _ (hG1 _ _ (hrep i j e p v q1 q2 q3)))
      obtain ⟨hI3, hG3⟩ := hI2.alloc' ([] ++ news ++ rest).toArray e _ sz pr (fun q hq => by
          rw [hGv.len]
          rcases hpr2 q hq with rfl | hp
          · exact (List.getElem?_eq_some_iff.1 hB).1
          · exact hI.parl id q B hB hp) (fun q hq Y hY h0 => by
          obtain ⟨Z, z1, _, _, _, z5, _⟩ := hGv.old q Y hY
          rcases hpr2 q hq with rfl | hp
          · exact (z5 h0).2 rfl
          · exact hI.pars id q B Z hB hp z1 (z5 h0).1) f1 f2 f3 hsm
      refine wp_value' (app_exec hop hrun) (hn _ _ ⟨_, _, hI3, fun p v hp => hG3 _ _ (hG2 _ _ (hG1 _ _ hp)), ?_⟩)
      have := Rep.own (w := w.drew.alloc (.cells ([] ++ news ++ rest).toArray e)) (S := fun x => S x ∨ x = b) (m := m ++ [(w.drew.heap.size, 0, sz)]) h.length 0 (0 + ys.length) cap w.drew.heap.size 0 sz ([] ++ news ++ rest).toArray e
        (by rw [← hI.len]; simp) hz0 (heap_alloc_new' _ _) hcap (by
          have : cap * sz = ys.length * sz + (cap - (0 + ys.length)) * sz := mul_split (by omega)
          have hz0 : (0 + cap) * sz = cap * sz := by rw [Nat.zero_add]
          simp only [List.nil_append, List.size_toArray, List.length_append, hnl, hrl]
          omega)
      simpa using this
  · rw [hm] at hm1
    cases hm1
    rw [e1] at hb1
    cases hb1
    by_cases hin : len + ys.length ≤ cap
    · have hfit : o' + (off + len) * sz + news.length ≤ c.size := by
        have : (off + cap) * sz = (off + len) * sz + ys.length * sz + (cap - (len + ys.length)) * sz := by rw [← Nat.add_mul, ← Nat.add_mul]; congr 1; omega
        omega
      have hstore := run_storeCells_at (P := P) b (o' + (off + len) * sz) et news 0 c w e1 (by simpa using hfit) hone
      simp only [Nat.add_zero] at hstore
      have hrun := run_append_in (P := P) (w := w) (ty := o.type) (base := some ⟨b, o' + off * sz, none⟩) (sLen := len) (sCap := cap) hAT hf hin (by
        simp only [addr_add]
        rw [show o' + off * sz + len * sz = o' + (off + len) * sz by omega]
        exact hstore)
      rw [← hx, ← hy] at hrun
      obtain ⟨hI', hG⟩ := hI.appendIn hB hst hm hRl hz0 hlen hGv hpr1 hpr2 (fun e he => (hE e he).1) hnl hrep e1 hfit hsm
      refine wp_value' (app_exec hop hrun) (hn _ _ ⟨S, _, hI', hG, ?_⟩)
      have := Rep.own (w := w.setRow b (c.toList.take (o' + (off + len) * sz) ++ news ++ c.toList.drop (o' + (off + len) * sz + news.length)).toArray) (S := S) (m := m ++ [(b, o' + off * sz, sz)]) h.length 0 (len + ys.length) cap b (o' + off * sz) sz _ et
        (by rw [← hI.len]; simp) hz0 (setRow_heap w b c _ et (0, 0) e1) hin (by
          have : (off + cap) * sz = off * sz + cap * sz := Nat.add_mul _ _ _
          simp; omega)
      simpa using this
    · obtain ⟨ad3, cx3, olds, hy3, hol, ho, horep⟩ := src_of (P := P) (z := sz) (q := .own id off len) (ys := (B.es.drop off).take len) hI hp (by
          simp only [elemsOf, hB]
          rw [if_pos ⟨by omega, hlen⟩]) (fun e he => e3 e (List.mem_of_mem_drop (List.mem_of_mem_take he)))
      rw [htl] at ho hol
      rw [hx] at ho
      obtain ⟨cap2, rest, hcap2, hrl, hrun⟩ := run_append_new (P := P) (w := w) (ty := o.type) (base := some ⟨b, o' + off * sz, none⟩) (sLen := len) (sCap := cap) (olds := olds) hAT hb0 hf ho hin hroom
      rw [← hx, ← hy] at hrun
      obtain ⟨hI1, hG1⟩ := hI.give hB hst hm hRl hGv
      obtain ⟨hI2, hG2⟩ := drew_inv hI1
      obtain ⟨f1, f2, f3⟩ := new_rows (w := w.drew) (S := fun x => S x ∨ x = b) (m := m) (xs := (B.es.drop off).take len) (ys := ys) (olds := olds) (news := news) (rest := rest) (z := sz)
        (fun e he => e3 e (List.mem_of_mem_drop (List.mem_of_mem_take he))) (by rw [htl]; exact hol) hnl (fun e he => (hE e he).1)
        (fun i j e p v q1 q2 q3 => hG2 _ _ (hG1 _ _ (horep i j e p v q1 q2 q3))) (fun i j e p v q1 q2 q3 => hG2 _ _ (hG1 _ _ (hrep i j e p v q1 q2 q3)))
      obtain ⟨hI3, hG3⟩ := hI2.alloc' (olds ++ news ++ rest).toArray e _ sz pr (fun q hq => by
          rw [hGv.len]
          rcases hpr2 q hq with rfl | hp
          · exact (List.getElem?_eq_some_iff.1 hB).1
          · exact hI.parl id q B hB hp) (fun q hq Y hY h0 => by
          obtain ⟨Z, z1, _, _, _, z5, _⟩ := hGv.old q Y hY
          rcases hpr2 q hq with rfl | hp
          · exact (z5 h0).2 rfl
          · exact hI.pars id q B Z hB hp z1 (z5 h0).1) f1 f2 f3 hsm
      refine wp_value' (app_exec hop hrun) (hn _ _ ⟨_, _, hI3, fun p v hp => hG3 _ _ (hG2 _ _ (hG1 _ _ hp)), ?_⟩)
      have := Rep.own (w := w.drew.alloc (.cells (olds ++ news ++ rest).toArray e)) (S := fun x => S x ∨ x = b) (m := m ++ [(w.drew.heap.size, 0, sz)]) h.length 0 (len + ys.length) cap2 w.drew.heap.size 0 sz (olds ++ news ++ rest).toArray e
        (by rw [← hI.len]; simp) hz0 (heap_alloc_new' _ _) hcap2 (by
          have : cap2 * sz = (len + ys.length) * sz + (cap2 - (len + ys.length)) * sz := mul_split (by omega)
          have hz0 : (0 + cap2) * sz = cap2 * sz := by rw [Nat.zero_add]
          have h2 : (len + ys.length) * sz = len * sz + ys.length * sz := Nat.add_mul _ _ _
          simp only [List.size_toArray, List.length_append, hol, hnl, hrl]
          omega)
      simpa using this

theorem append_sound (hI : Inv w0 Sa h S m w) {t t2 : TypeId} {x y : Operand} {p q r : PV} {z2 : Nat} (hop : o.op = .call ⟨.builtin .append, #[x, y], #[t, t2]⟩) (hp : Rep w S m p (a.eval x)) (hq : Rep w S m q (a.eval y)) (ht2 : elemSz P t2 = some z2)
    (happ : appendP P h t p q = some (r, h', ob)) (hob : ∀ X ∈ ob, X) (hn : ∀ v' w', Post w0 Sa h' S m w r v' w' → next (a.put o.dst v') w') : o.wp P a w next Q := by
  obtain ⟨e2, hu2, _⟩ := elemSz_inv ht2
  unfold appendP at happ
  split at happ
  · rename_i e hu
    split at happ
    · rename_i z by8 ys obs hz hby hel
      split at happ
      · rename_i hpos
        obtain ⟨hz0, hb0, hzs⟩ := hpos
        obtain ⟨zv, hzv, hzc⟩ : ∃ zv, zeroP P e = some zv ∧ zv.cells.size = z := by
          cases hzz : zeroP P e with
          | none => rw [hzz] at hzs; cases hzs
          | some zv => rw [hzz] at hzs; exact ⟨zv, rfl, by simpa using hzs⟩
        have hA : AppTy P t t2 e z by8 zv := ⟨hu, ⟨e2, hu2⟩, hz, hby, hzv, hzc⟩
        split at happ
        · -- onto nothing
          obtain ⟨ad, hx⟩ := nul_inv hp
          split at happ
          · -- of a list that is not written out
            cases happ
            have hroom : ys.length * by8 ≤ roomP := hob _ (by simp)
            have hE : Elems z ys := elems_of (hob _ (by simp))
            have hobs : ∀ X ∈ obs, X := fun X hX => hob X (by simp [hX])
            obtain ⟨ad2, cx, news, hy, hnl, hf, hrep⟩ := src_ofW (P := P) (z := z) hI hq hel hobs (fun e he => (hE e he).1)
            rw [hy] at hf
            by_cases hn0 : ys = []
            · subst hn0
              have hnews : news = [] := List.eq_nil_of_length_eq_zero (by rw [hnl]; simp)
              subst hnews
              have hrun := run_append_in (P := P) (w := w) (ty := o.type) (base := ad) (sLen := 0) (sCap := 0) (w' := w) hA hf (by simp) (by cases ad <;> simp [storeCells])
              rw [← hx, ← hy] at hrun
              obtain ⟨hI2, hG2⟩ := hI.virt z [] (fun _ h => by cases h) (fun _ h => by cases h)
              refine wp_value' (app_exec hop hrun) (hn _ _ ⟨S, _, hI2, hG2, ?_⟩)
              exact .who _ _ _ (Rep.own0 _ _ _)
            · have hn1 : 0 < ys.length := List.length_pos_iff.2 hn0
              have ho : ∀ W : World, W.heap = w.heap → (Builtin.firstCells z 0 (.slice ad 0 0)).run P W = .ok ([] : List Value).toArray W := by
                intro W _; cases ad <;> simp [Builtin.firstCells, loadCells, loadCellsFrom]
              obtain ⟨cap, rest, hcap, hrl, hrun⟩ := run_append_new (P := P) (w := w) (ty := o.type) (base := ad) (sLen := 0) (sCap := 0) (olds := []) hA hb0 hf ho (by omega) (by simpa using hroom)
              rw [← hx, ← hy] at hrun
              obtain ⟨hI1, hG1⟩ := drew_inv hI
              obtain ⟨f1, f2, f3⟩ := new_rows (w := w.drew) (S := S) (m := m) (xs := []) (ys := ys) (olds := []) (news := news) (rest := rest) (z := z) (by simp) (by simp) hnl (fun e he => (hE e he).1)
                (by simp) (fun i j e p v q1 q2 q3 => hG1 _ _ (hrep i j e p v q1 q2 q3))
              rw [List.nil_append] at f1 f2 f3
              obtain ⟨hI2, hG2⟩ := hI1.alloc ([] ++ news ++ rest).toArray e ys z f1 f2 f3 (sm := true) (fun _ => stabs_of (hob _ (by simp)))
              refine wp_value' (app_exec hop hrun) (hn _ _ ⟨S, _, hI2, fun p v hp => hG2 _ _ (hG1 _ _ hp), .who _ _ _ ?_⟩)
              have := Rep.own (w := w.drew.alloc (.cells ([] ++ news ++ rest).toArray e)) (S := S) (m := m ++ [(w.drew.heap.size, 0, z)]) h.length 0 (0 + ys.length) cap w.drew.heap.size 0 z ([] ++ news ++ rest).toArray e
                (by rw [← hI.len]; simp) hz0 (heap_alloc_new' _ _) hcap (by
                  have : cap * z = ys.length * z + (cap - (0 + ys.length)) * z := mul_split (by omega)
                  have hz0 : (0 + cap) * z = cap * z := by rw [Nat.zero_add]
                  simp only [List.nil_append, List.size_toArray, List.length_append, hnl, hrl]
                  omega)
              simpa using this
          split at happ
          · cases happ
            have hobs := hob
            obtain ⟨ad2, cx, news, hy, hnl, hf, _⟩ := src_ofW (P := P) (z := z) hI hq hel hobs (by simp)
            have hne : news = [] := List.eq_nil_of_length_eq_zero (by simpa using hnl)
            subst hne
            rw [hy] at hf
            simp only [List.length_nil] at hf hy
            have hrun := run_append_in (P := P) (w := w) (ty := o.type) (base := ad) (sLen := 0) (sCap := 0) (w' := w) hA hf (by omega) (by cases ad <;> simp [storeCells])
            rw [← hx, ← hy] at hrun
            exact wp_value' (app_exec hop hrun) (hn _ _ (post_same hI (by simpa [hx] using hp)))
          · rename_i y1 yr
            cases happ
            have hroom : (yr.length + 1) * by8 ≤ roomP := hob _ (by simp)
            have hE : Elems z (y1 :: yr) := elems_of (hob _ (by simp))
            have hobs : ∀ X ∈ obs, X := fun X hX => hob X (by simp [hX])
            obtain ⟨ad2, cx, news, hy, hnl, hf, hrep⟩ := src_ofW (P := P) (z := z) hI hq hel hobs (fun e he => (hE e he).1)
            rw [hy] at hf
            have ho : ∀ W : World, W.heap = w.heap → (Builtin.firstCells z 0 (.slice ad 0 0)).run P W = .ok ([] : List Value).toArray W := by
              intro W _; cases ad <;> simp [Builtin.firstCells, loadCells, loadCellsFrom]
            obtain ⟨cap, rest, hcap, hrl, hrun⟩ := run_append_new (P := P) (w := w) (ty := o.type) (base := ad) (sLen := 0) (sCap := 0) (olds := []) hA hb0 hf ho (by simp) (by simpa using hroom)
            rw [← hx, ← hy] at hrun
            obtain ⟨hI1, hG1⟩ := drew_inv hI
            obtain ⟨f1, f2, f3⟩ := new_rows (w := w.drew) (S := S) (m := m) (xs := []) (ys := y1 :: yr) (olds := []) (news := news) (rest := rest) (z := z) (by simp) (by simp) hnl (fun e he => (hE e he).1)
              (by simp) (fun i j e p v q1 q2 q3 => hG1 _ _ (hrep i j e p v q1 q2 q3))
            rw [List.nil_append] at f1 f2 f3
            obtain ⟨hI2, hG2⟩ := hI1.alloc ([] ++ news ++ rest).toArray e (y1 :: yr) z f1 f2 f3 (sm := false) (fun h => by cases h)
            refine wp_value' (app_exec hop hrun) (hn _ _ ⟨S, _, hI2, fun p v hp => hG2 _ _ (hG1 _ _ hp), ?_⟩)
            have := Rep.own (w := w.drew.alloc (.cells ([] ++ news ++ rest).toArray e)) (S := S) (m := m ++ [(w.drew.heap.size, 0, z)]) h.length 0 (0 + (y1 :: yr).length) cap w.drew.heap.size 0 z ([] ++ news ++ rest).toArray e
              (by rw [← hI.len]; simp) hz0 (heap_alloc_new' _ _) hcap (by
                have : cap * z = (y1 :: yr).length * z + (cap - (0 + (y1 :: yr).length)) * z := mul_split (by omega)
                have hz0 : (0 + cap) * z = cap * z := by rw [Nat.zero_add]
                simp only [List.nil_append, List.size_toArray, List.length_append, hnl, hrl]
                omega)
            simpa using this
        · rename_i id len
          split at happ
          · rename_i B hB
            split at happ
            · rename_i hcond
              obtain ⟨hst, hBz, hBs⟩ := hcond
              cases happ
              have hle : len = B.es.length := hob _ (by simp)
              have e0 : (B.es.drop 0).take len ++ ys = B.es ++ ys := by rw [hle, List.drop_zero, List.take_length]
              refine own_app (off := 0) (pr := id :: B.par) hI hop hA hb0 (who_inv hp) hq hel (fun X hX => hob X (by simp [hX])) hz0 hB hst (by omega) hBz (gave_tip hB (by omega)) (fun _ => rfl) (fun q hq => by simpa using hq) (hob _ (by simp)) (elems_of (hob _ (by simp))) (sm := true) (fun _ => by rw [e0]; exact stabs_append (hI.syms id B hB hBs) (stabs_of (hob _ (by simp)))) ?_
              rw [e0]
              rintro v' w' ⟨S', m', q1, q2, q3⟩
              exact hn v' w' ⟨S', m', q1, q2, .who _ _ _ q3⟩
            · cases happ
          · cases happ
        · rename_i id off len
          split at happ
          · rename_i B hB
            split at happ
            · rename_i hcond
              obtain ⟨hBs, hst, hlen, hBz⟩ := hcond
              split at happ
              · rename_i htip
                cases happ
                exact own_app hI hop hA hb0 hp hq hel (fun X hX => hob X (by simp [hX])) hz0 hB hst hlen hBz (gave_tip hB htip) (fun _ => rfl) (fun q hq => by simpa using hq) (hob _ (by simp)) (elems_of (hob _ (by simp))) (sm := false) (fun h => by cases h) hn
              · rename_i htip
                cases happ
                exact own_app hI hop hA hb0 hp hq hel (fun X hX => hob X (by simp [hX])) hz0 hB hst hlen hBz (gave_mid hB fun q hq Y hY => hI.pars id q B Y hB hq hY) (fun h => absurd h htip) (fun q hq => by cases hq) (hob _ (by simp)) (elems_of (hob _ (by simp))) (sm := false) (fun h => by cases h) hn
            · cases happ
          · cases happ
        · cases happ
      · cases happ
    · cases happ
  · cases happ
end
end Go.PS
