/- append. -/
import Derived.Test.YtldmgdphelgffaaDoorPS8
namespace Go.PS
open Go.RowKit

/-- What becomes of the old blocks when block id is appended to: nothing new may be written; where the slice did not end the block, nothing that lay with it may be read. -/
structure Gave (h : Hp) (id : Nat) (B : Blk) (tip : Prop) (hA : Hp) : Prop where
  len : hA.length = h.length
  old : ∀ (q : Nat) X, hA[q]? = some X → ∃ Y, h[q]? = some Y ∧ X.es = Y.es ∧ X.par = Y.par ∧ X.sz = Y.sz ∧ (X.st = 0 → Y.st = 0 ∧ q ≠ id) ∧ (X.st = 1 → (Y.st = 1 ∨ q = id) ∧ (tip ∨ (q ≠ id ∧ q ∉ B.par)))
  keep : ∀ (q : Nat) Y, h[q]? = some Y → Y.st = 0 → q ≠ id → hA[q]? = some Y
  syms : ∀ (q : Nat) X Y, hA[q]? = some X → h[q]? = some Y → X.sym = Y.sym

theorem gave_tip {h : Hp} {id : Nat} {B : Blk} {tip : Prop} (hB : h[id]? = some B) (ht : tip) : Gave h id B tip (h.set id { B with st := 1 }) := by
  refine ⟨by simp, fun q X hq => ?_, fun q Y hq _ hne => ?_, fun q X Y hq hY => ?_⟩
  · rw [List.getElem?_set] at hq
    by_cases hqi : id = q
    · subst hqi
      have : id < h.length := (List.getElem?_eq_some_iff.1 hB).1
      simp [this] at hq
      subst hq
      exact ⟨B, hB, rfl, rfl, rfl, (fun h => by cases h), fun _ => ⟨.inr rfl, .inl ht⟩⟩
    · rw [if_neg hqi] at hq
      exact ⟨X, hq, rfl, rfl, rfl, fun h => ⟨h, fun e => hqi e.symm⟩, fun h => ⟨.inl h, .inl ht⟩⟩
  · rw [List.getElem?_set, if_neg (fun e => hne e.symm)]; exact hq
  · rw [List.getElem?_set] at hq
    by_cases hqi : id = q
    · subst hqi
      have : id < h.length := (List.getElem?_eq_some_iff.1 hB).1
      simp [this] at hq
      subst hq
      rw [hB] at hY
      cases hY
      rfl
    · rw [if_neg hqi, hY] at hq
      cases hq
      rfl

theorem gave_mid {h : Hp} {id : Nat} {B : Blk} {tip : Prop} (hB : h[id]? = some B) (hpar : ∀ q ∈ B.par, ∀ Y, h[q]? = some Y → Y.st ≠ 0) : Gave h id B tip (kill (h.set id { B with st := 2 }) B.par) := by
  refine ⟨by rw [kill_length]; simp, fun q X hq => ?_, fun q Y hq hy hne => ?_, fun q X Y hq hY => ?_⟩
  · obtain ⟨X0, h0, hs, hp, hd⟩ := kill_some hq
    have hes : X.es = X0.es := by
      rw [kill_get, h0] at hq
      simp at hq
      subst hq
      split <;> rfl
    rw [List.getElem?_set] at h0
    by_cases hqi : id = q
    · subst hqi
      have : id < h.length := (List.getElem?_eq_some_iff.1 hB).1
      simp [this] at h0
      subst h0
      have hx : X.st = 2 := by
        rcases hd with ⟨_, h2⟩ | ⟨_, rfl⟩
        · exact h2
        · rfl
      exact ⟨B, hB, hes, hp, hs, fun h => by omega, fun h => by omega⟩
    · rw [if_neg hqi] at h0
      refine ⟨X0, h0, hes, hp, hs, fun hx => ?_, fun hx => ?_⟩
      · rcases hd with ⟨_, h2⟩ | ⟨_, rfl⟩
        · omega
        · exact ⟨hx, fun e => hqi e.symm⟩
      · rcases hd with ⟨_, h2⟩ | ⟨hd, rfl⟩
        · omega
        · exact ⟨.inl hx, .inr ⟨fun e => hqi e.symm, hd⟩⟩
  · rw [kill_get, List.getElem?_set, if_neg (fun e => hne e.symm), hq]
    have : q ∉ B.par := fun hp => hpar q hp Y hq hy
    simp [this]
  · obtain ⟨X0, h0, _⟩ := kill_es hq
    rw [kill_sym hq h0]
    rw [List.getElem?_set] at h0
    by_cases hqi : id = q
    · subst hqi
      have : id < h.length := (List.getElem?_eq_some_iff.1 hB).1
      simp [this] at h0
      subst h0
      rw [hB] at hY
      cases hY
      rfl
    · rw [if_neg hqi, hY] at h0
      cases h0
      rfl

section
variable {P : Program} {w0 w : World} {Sa S : Nat → Prop} {h h' : Hp} {m : Mp} {a : Act} {o : Oper} {T : List PV} {s s' : Scr} {ob : List Prop} {v : PV} {next : Act → World → Prop} {Q : Exit → Act → World → Prop}

theorem mul_split {x y z k : Nat} (h : x = y + k) : x * z = y * z + k * z := by rw [h, Nat.add_mul]

/-- The new elements are written behind the old ones, in the same memory. -/
theorem Inv.appendIn (hI : Inv w0 Sa h S m w) {id off len b o' sz : Nat} {B : Blk} {hA : Hp} {pr : List Nat} {ys : List (List PV)} {news : List Value} {c : Array Value} {et : TypeId} {sm : Bool}
    (hB : h[id]? = some B) (hst : B.st = 0) (hm : m[id]? = some (b, o', sz)) (hRl : Rl B.es sz) (hz0 : 0 < sz) (hlen : off + len ≤ B.es.length) (hGv : Gave h id B (off + len = B.es.length) hA)
    (hpr1 : off + len = B.es.length → pr = id :: B.par) (hpr2 : ∀ q ∈ pr, q = id ∨ q ∈ B.par) (hys : ∀ e ∈ ys, e.length = sz) (hnl : news.length = ys.length * sz)
    (hrep : ∀ (i j : Nat) e p v, ys[i]? = some e → e[j]? = some p → news[i * sz + j]? = some v → Rep w S m p v) (hb : w.heap[b]? = some (.cells c et (0, 0))) (hroom : o' + (off + len) * sz + news.length ≤ c.size) (hsm : sm = true → Stabs ((B.es.drop off).take len ++ ys)) :
    let w' := w.setRow b (c.toList.take (o' + (off + len) * sz) ++ news ++ c.toList.drop (o' + (off + len) * sz + news.length)).toArray
    Inv w0 Sa (hA ++ [⟨(B.es.drop off).take len ++ ys, 0, pr, sz, sm⟩]) S (m ++ [(b, o' + off * sz, sz)]) w' ∧ Go1 w S m w' S (m ++ [(b, o' + off * sz, sz)]) := by
  intro w'
  obtain ⟨c1, et1, e1, e2, e3, e4⟩ := hI.blk id B b o' sz hB (by omega) hm hRl
  rw [hb] at e1
  cases e1
  have hclen : c.toList.length = c.size := by simp
  have hc' : ∀ x, (c.toList.take (o' + (off + len) * sz) ++ news ++ c.toList.drop (o' + (off + len) * sz + news.length)).toArray[x]? =
      if x < o' + (off + len) * sz then c[x]? else if x < o' + (off + len) * sz + news.length then news[x - (o' + (off + len) * sz)]? else c[x]? := by
    intro x
    rw [List.getElem?_toArray, splice_get _ _ _ _ (by omega)]
    simp
  have hnew : w'.heap[b]? = some (.cells _ et (0, 0)) := setRow_heap w b c _ et (0, 0) hb
  have hsame : (c.toList.take (o' + (off + len) * sz) ++ news ++ c.toList.drop (o' + (off + len) * sz + news.length)).toArray.size = c.size := by simp; omega
  have hother : ∀ k, k ≠ b → w'.heap[k]? = w.heap[k]? := fun k hk => setRow_other w b k _ hk
  obtain ⟨hB0, hnS⟩ := hI.live id B b o' sz hB hst hm hRl
  have hL : Later w S w' S := by
    refine ⟨fun _ h => h, fun k hk => hother k (fun he => hnS (he ▸ hk)), fun k ck etk hk => ?_⟩
    by_cases hkb : k = b
    · subst hkb
      rw [hb] at hk
      cases hk
      exact ⟨_, hnew, hsame⟩
    · exact ⟨ck, (hother k hkb).trans hk, rfl⟩
  have hG : Go1 w S m w' S (m ++ [(b, o' + off * sz, sz)]) := fun p v hp => hp.later hL fun i x hx => snoc_old _ hx
  have hml := hI.len
  have oldm : ∀ {q : Nat} {X : Blk} {x : Nat × Nat × Nat}, hA[q]? = some X → (m ++ [(b, o' + off * sz, sz)])[q]? = some x → m[q]? = some x := by
    intro q X x h1 h2
    have : q < m.length := by rw [hml, ← hGv.len]; exact (List.getElem?_eq_some_iff.1 h1).1
    rw [List.getElem?_append_left this] at h2; exact h2
  have newm : ∀ {x : Nat × Nat × Nat}, (m ++ [(b, o' + off * sz, sz)])[hA.length]? = some x → x = (b, o' + off * sz, sz) := by
    intro x h2
    rw [hGv.len, ← hml, snoc_new] at h2
    exact (Option.some.inj h2).symm
  have hmul : (off + len) * sz = off * sz + len * sz := Nat.add_mul _ _ _
  have htl : ((B.es.drop off).take len).length = len := by simp; omega
  have hnewRl : off + len = B.es.length → Rl ((B.es.drop off).take len ++ ys) sz := fun _ => .inr hz0
  refine ⟨⟨below_setRow hI.bel hB0 _, hI.sub, fun k hk => by have := hI.lt k hk; show k < (w.setRow _ _).heap.size; simpa using this, by simp [hml, hGv.len], ?_, ?_, ?_, ?_, ?_, ?_, ?_, ?_⟩, hG⟩
  · intro q X b' o2 z2 hq hx hmq hr
    rcases getElem?_snoc _ _ _ _ hq with hq | ⟨rfl, rfl⟩
    · have hmq' := oldm hq hmq
      obtain ⟨Y, y1, y2, y3, y4, y5, y6⟩ := hGv.old q X hq
      rw [y2] at hr
      have hY : Y.st ≤ 1 := by
        by_cases h0 : X.st = 0
        · have := (y5 h0).1; omega
        · rcases (y6 (by omega)).1 with h1 | rfl
          · omega
          · rw [hB] at y1; cases y1; omega
      obtain ⟨c2, et2, f1, f2, f3, f4⟩ := hI.blk q Y b' o2 z2 y1 hY hmq' hr
      by_cases hbb : b' = b
      · -- the memory that is appended to: all that is still read of it lies in front
        subst hbb
        rw [hb] at f1
        cases f1
        have hend : o2 + Y.es.length * z2 ≤ o' + (off + len) * sz := by
          by_cases h0 : X.st = 0
          · exact absurd (hI.uniq q id Y B b' o2 z2 o' sz y1 (y5 h0).1 hmq' hB hst hm hr hRl) (y5 h0).2
          · obtain ⟨hh, htip⟩ := y6 (by omega)
            rcases hh with h1 | rfl
            · rcases hI.froz q Y b' o2 z2 y1 h1 hmq' hr with hS | ⟨id', B', o3, z3, q1, q2, q3, qr, q4, q5⟩
              · exact absurd hS hnS
              · have := hI.uniq id' id B' B b' o3 z3 o' sz q1 q2 q3 hB hst hm qr hRl
                subst this
                rw [hB] at q1
                cases q1
                rw [hm] at q3
                cases q3
                rcases htip with ht | ⟨_, hp⟩
                · rw [ht]; exact q5
                · exact absurd q4 hp
            · rw [hB] at y1
              cases y1
              rw [hm] at hmq'
              cases hmq'
              rcases htip with ht | ⟨hp, _⟩
              · rw [ht]; exact Nat.le_refl _
              · exact absurd rfl hp
        refine ⟨_, et, hnew, by rw [hsame, y2]; omega, by rw [y2]; exact f3, ?_⟩
        intro i j e p v q1 q2 q3
        rw [y2] at q1
        have hil : i < Y.es.length := (List.getElem?_eq_some_iff.1 q1).1
        have hjl : j < z2 := by have := (List.getElem?_eq_some_iff.1 q2).1; rw [f3 e (List.mem_of_getElem? q1)] at this; exact this
        have := row_le (sz := z2) hil
        rw [hc', if_pos (by omega)] at q3
        exact hG _ _ (f4 i j e p v q1 q2 q3)
      · exact ⟨c2, et2, (hother b' hbb).trans f1, by rw [y2]; exact f2, by rw [y2]; exact f3, fun i j e p v q1 q2 q3 => hG _ _ (f4 i j e p v (by rw [← y2]; exact q1) q2 q3)⟩
    · cases newm hmq
      refine ⟨_, et, hnew, ?_, ?_, ?_⟩
      · rw [hsame, List.length_append, htl, Nat.add_mul]; omega
      · intro e he
        rcases List.mem_append.1 he with he | he
        · exact e3 e (List.mem_of_mem_drop (List.mem_of_mem_take he))
        · exact hys e he
      · intro i j e p v q1 q2 q3
        have hjl : j < sz := by
          have h1 := (List.getElem?_eq_some_iff.1 q2).1
          have : e.length = sz := by
            rcases List.mem_append.1 (List.mem_of_getElem? q1) with he | he
            · exact e3 e (List.mem_of_mem_drop (List.mem_of_mem_take he))
            · exact hys e he
          omega
        rw [hc'] at q3
        by_cases hi : i < len
        · rw [List.getElem?_append_left (by omega), List.getElem?_take_of_lt hi, List.getElem?_drop] at q1
          have := row_le (sz := sz) hi
          rw [if_pos (by omega)] at q3
          refine hG _ _ (e4 (off + i) j e p v q1 q2 ?_)
          rw [← q3]; congr 1; rw [Nat.add_mul]; omega
        · rw [List.getElem?_append_right (by omega), htl] at q1
          have hiy : i - len < ys.length := (List.getElem?_eq_some_iff.1 q1).1
          have hsp : i * sz = len * sz + (i - len) * sz := mul_split (by omega)
          have := row_le (sz := sz) hiy
          rw [if_neg (by omega), if_pos (by omega), show o' + off * sz + i * sz + j - (o' + (off + len) * sz) = (i - len) * sz + j by omega] at q3
          exact hG _ _ (hrep (i - len) j e p v q1 q2 q3)
  · intro q X b' o2 z2 hq hx hmq hr
    rcases getElem?_snoc _ _ _ _ hq with hq | ⟨rfl, rfl⟩
    · obtain ⟨Y, y1, y2, _, _, y5, _⟩ := hGv.old q X hq
      exact hI.live q Y b' o2 z2 y1 (y5 hx).1 (oldm hq hmq) (y2 ▸ hr)
    · cases newm hmq
      exact ⟨hB0, hnS⟩
  · intro q q' X X' b' o1 z1 o2 z2 hq hx hmq hq' hx' hmq' hr hr'
    rcases getElem?_snoc _ _ _ _ hq with hq | ⟨rfl, rfl⟩ <;> rcases getElem?_snoc _ _ _ _ hq' with hq' | ⟨rfl, rfl⟩
    · obtain ⟨Y, y1, y2, _, _, y5, _⟩ := hGv.old q X hq
      obtain ⟨Y', y1', y2', _, _, y5', _⟩ := hGv.old q' X' hq'
      exact hI.uniq q q' Y Y' b' o1 z1 o2 z2 y1 (y5 hx).1 (oldm hq hmq) y1' (y5' hx').1 (oldm hq' hmq') (y2 ▸ hr) (y2' ▸ hr')
    · obtain ⟨Y, y1, y2, _, _, y5, _⟩ := hGv.old q X hq
      cases newm hmq'
      exact absurd (hI.uniq q id Y B b o1 z1 o' sz y1 (y5 hx).1 (oldm hq hmq) hB hst hm (y2 ▸ hr) hRl) (y5 hx).2
    · obtain ⟨Y', y1', y2', _, _, y5', _⟩ := hGv.old q' X' hq'
      cases newm hmq
      exact absurd (hI.uniq q' id Y' B b o2 z2 o' sz y1' (y5' hx').1 (oldm hq' hmq') hB hst hm (y2' ▸ hr') hRl) (y5' hx').2
    · rfl
  · intro q X b' o2 z2 hq hx hmq hr
    rcases getElem?_snoc _ _ _ _ hq with hq | ⟨rfl, rfl⟩
    · have hmq' := oldm hq hmq
      obtain ⟨Y, y1, y2, _, _, _, y6⟩ := hGv.old q X hq
      rw [y2] at hr
      obtain ⟨hh, htip⟩ := y6 hx
      have hlast : ∀ (ht : off + len = B.es.length), q ∈ pr → o2 + Y.es.length * z2 ≤ o' + (off + len) * sz → b' = b → S b' ∨ ∃ (id' : Nat) (B' : Blk) (o4 z4 : Nat), (hA ++ [⟨(B.es.drop off).take len ++ ys, 0, pr, sz, sm⟩])[id']? = some B' ∧ B'.st = 0 ∧
          (m ++ [(b, o' + off * sz, sz)])[id']? = some (b', o4, z4) ∧ Rl B'.es z4 ∧ q ∈ B'.par ∧ o2 + X.es.length * z2 ≤ o4 + B'.es.length * z4 := by
        intro ht hqp hend hbb
        refine .inr ⟨hA.length, _, o' + off * sz, sz, snoc_new _ _, rfl, ?_, hnewRl ht, hqp, ?_⟩
        · rw [hGv.len, ← hml, hbb]; exact snoc_new _ _
        · show o2 + X.es.length * z2 ≤ o' + off * sz + ((B.es.drop off).take len ++ ys).length * sz
          rw [y2, List.length_append, htl, Nat.add_mul]; omega
      rcases hh with h1 | rfl
      · rcases hI.froz q Y b' o2 z2 y1 h1 hmq' hr with hS | ⟨id', B', o3, z3, q1, q2, q3, qr, q4, q5⟩
        · exact .inl hS
        · by_cases hid : id' = id
          · subst hid
            rw [hB] at q1
            cases q1
            rw [hm] at q3
            cases q3
            rcases htip with ht | ⟨_, hp⟩
            · exact hlast ht (by rw [hpr1 ht]; exact List.mem_cons_of_mem _ q4) (by rw [ht]; exact q5) rfl
            · exact absurd q4 hp
          · exact .inr ⟨id', B', o3, z3, snoc_old _ (hGv.keep id' B' q1 q2 hid), q2, snoc_old _ q3, qr, q4, by rw [y2]; exact q5⟩
      · rw [hB] at y1
        cases y1
        rw [hm] at hmq'
        cases hmq'
        rcases htip with ht | ⟨hp, _⟩
        · exact hlast ht (by rw [hpr1 ht]; exact List.mem_cons_self) (by rw [ht]; exact Nat.le_refl _) rfl
        · exact absurd rfl hp
    · cases hx
  · intro q r X Xr hq hr hXr
    have hXr' : ∀ hr' : r < h.length, ∃ Y, h[r]? = some Y ∧ (Y.st ≠ 0 ∨ r = id → Xr.st ≠ 0) := by
      intro hr'
      rcases getElem?_snoc _ _ _ _ hXr with hXr | ⟨rfl, rfl⟩
      · obtain ⟨Y, y1, _, _, _, y5, _⟩ := hGv.old r Xr hXr
        exact ⟨Y, y1, fun hn h0 => hn.elim (fun h => h (y5 h0).1) fun h => (y5 h0).2 h⟩
      · rw [hGv.len] at hr'; exact absurd hr' (Nat.lt_irrefl _)
    rcases getElem?_snoc _ _ _ _ hq with hq | ⟨rfl, rfl⟩
    · obtain ⟨Y, y1, _, y3, _⟩ := hGv.old q X hq
      rw [y3] at hr
      obtain ⟨Z, z1, z2⟩ := hXr' (hI.parl q r Y y1 hr)
      exact z2 (.inl (hI.pars q r Y Z y1 hr z1))
    · have hlt : r < h.length := by
        rcases hpr2 r hr with rfl | hp
        · exact (List.getElem?_eq_some_iff.1 hB).1
        · exact hI.parl id r B hB hp
      obtain ⟨Z, z1, z2⟩ := hXr' hlt
      rcases hpr2 r hr with rfl | hp
      · exact z2 (.inr rfl)
      · exact z2 (.inl (hI.pars id r B Z hB hp z1))
  · intro q r X hq hr
    rw [List.length_append, hGv.len]
    rcases getElem?_snoc _ _ _ _ hq with hq | ⟨rfl, rfl⟩
    · obtain ⟨Y, y1, _, y3, _⟩ := hGv.old q X hq
      rw [y3] at hr
      have := hI.parl q r Y y1 hr
      omega
    · rcases hpr2 r hr with rfl | hp
      · have := (List.getElem?_eq_some_iff.1 hB).1; omega
      · have := hI.parl id r B hB hp; omega
  · intro q X b' o2 z2 hq hmq hr
    rcases getElem?_snoc _ _ _ _ hq with hq | ⟨rfl, rfl⟩
    · obtain ⟨Y, y1, y2, _, y4, _⟩ := hGv.old q X hq
      rw [y4]
      exact hI.msz q Y b' o2 z2 y1 (oldm hq hmq) (y2 ▸ hr)
    · cases newm hmq; rfl
  · intro q X hq hx
    rcases getElem?_snoc _ _ _ _ hq with hq | ⟨rfl, rfl⟩
    · obtain ⟨Y, y1, y2, _⟩ := hGv.old q X hq
      rw [y2]
      exact hI.syms q Y y1 (by rw [← hGv.syms q X Y hq y1]; exact hx)
    · exact hsm hx

/-- The old memory is given up. -/
theorem Inv.give (hI : Inv w0 Sa h S m w) {id b o' sz : Nat} {B : Blk} {tip : Prop} {hA : Hp} (hB : h[id]? = some B) (hst : B.st = 0) (hm : m[id]? = some (b, o', sz)) (hRl : Rl B.es sz) (hGv : Gave h id B tip hA) :
    Inv w0 Sa hA (fun x => S x ∨ x = b) m w ∧ Go1 w S m w (fun x => S x ∨ x = b) m := by
  have hL : Later w S w (fun x => S x ∨ x = b) := ⟨fun _ h => .inl h, fun _ _ => rfl, fun _ c _ h => ⟨c, h, rfl⟩⟩
  have hG : Go1 w S m w (fun x => S x ∨ x = b) m := fun p v hp => hp.later hL fun _ _ h => h
  obtain ⟨hB0, hnS⟩ := hI.live id B b o' sz hB hst hm hRl
  obtain ⟨c, et, e1, _⟩ := hI.blk id B b o' sz hB (by omega) hm hRl
  have hst1 : ∀ {q : Nat} {X : Blk}, hA[q]? = some X → X.st ≤ 1 → ∃ Y, h[q]? = some Y ∧ X.es = Y.es ∧ Y.st ≤ 1 ∧ (X.st = 0 → Y.st = 0 ∧ q ≠ id) ∧ (X.st = 1 → Y.st = 1 ∨ q = id) := by
    intro q X hq hx
    obtain ⟨Y, y1, y2, _, _, y5, y6⟩ := hGv.old q X hq
    refine ⟨Y, y1, y2, ?_, y5, fun h => (y6 h).1⟩
    by_cases h0 : X.st = 0
    · have := (y5 h0).1; omega
    · rcases (y6 (by omega)).1 with h1 | rfl
      · omega
      · rw [hB] at y1; cases y1; omega
  refine ⟨⟨hI.bel, ?_, ?_, by rw [hI.len, hGv.len], ?_, ?_, ?_, ?_, ?_, ?_, ?_, ?_⟩, hG⟩
  · rintro x (hx | rfl)
    · exact hI.sub x hx
    · exact .inr hB0
  · rintro x (hx | rfl)
    · exact hI.lt x hx
    · exact lt_of_block e1
  · intro q X b' o2 z2 hq hx hmq hr
    obtain ⟨Y, y1, y2, y3, _⟩ := hst1 hq hx
    obtain ⟨c2, et2, f1, f2, f3, f4⟩ := hI.blk q Y b' o2 z2 y1 y3 hmq (y2 ▸ hr)
    exact ⟨c2, et2, f1, by rw [y2]; exact f2, by rw [y2]; exact f3, fun i j e p v q1 q2 q3 => hG _ _ (f4 i j e p v (by rw [← y2]; exact q1) q2 q3)⟩
  · intro q X b' o2 z2 hq hx hmq hr
    obtain ⟨Y, y1, y2, _, y5, _⟩ := hst1 hq (by omega)
    rw [y2] at hr
    obtain ⟨l1, l2⟩ := hI.live q Y b' o2 z2 y1 (y5 hx).1 hmq hr
    refine ⟨l1, ?_⟩
    rintro (hS | rfl)
    · exact l2 hS
    · exact (y5 hx).2 (hI.uniq q id Y B b' o2 z2 o' sz y1 (y5 hx).1 hmq hB hst hm hr hRl)
  · intro q q' X X' b' o1 z1 o2 z2 hq hx hmq hq' hx' hmq' hr hr'
    obtain ⟨Y, y1, y2, _, y5, _⟩ := hst1 hq (by omega)
    obtain ⟨Y', y1', y2', _, y5', _⟩ := hst1 hq' (by omega)
    exact hI.uniq q q' Y Y' b' o1 z1 o2 z2 y1 (y5 hx).1 hmq y1' (y5' hx').1 hmq' (y2 ▸ hr) (y2' ▸ hr')
  · intro q X b' o2 z2 hq hx hmq hr
    obtain ⟨Y, y1, y2, _, _, y6⟩ := hst1 hq (by omega)
    rw [y2] at hr
    rcases y6 hx with h1 | rfl
    · rcases hI.froz q Y b' o2 z2 y1 h1 hmq hr with hS | ⟨id', B', o3, z3, q1, q2, q3, qr, q4, q5⟩
      · exact .inl (.inl hS)
      · by_cases hid : id' = id
        · subst hid
          rw [hm] at q3
          cases q3
          exact .inl (.inr rfl)
        · exact .inr ⟨id', B', o3, z3, hGv.keep id' B' q1 q2 hid, q2, q3, qr, q4, by rw [y2]; exact q5⟩
    · rw [hm] at hmq
      cases hmq
      exact .inl (.inr rfl)
  · intro q r X Xr hq hr hXr h0
    obtain ⟨Y, y1, _, y3, _⟩ := hGv.old q X hq
    obtain ⟨Z, z1, _, _, _, z5, _⟩ := hGv.old r Xr hXr
    exact hI.pars q r Y Z y1 (y3 ▸ hr) z1 (z5 h0).1
  · intro q r X hq hr
    obtain ⟨Y, y1, _, y3, _⟩ := hGv.old q X hq
    rw [hGv.len]
    exact hI.parl q r Y y1 (y3 ▸ hr)
  · intro q X b' o2 z2 hq hmq hr
    obtain ⟨Y, y1, y2, _, y4, _⟩ := hGv.old q X hq
    rw [y4]
    exact hI.msz q Y b' o2 z2 y1 hmq (y2 ▸ hr)
  · intro q X hq hx
    obtain ⟨Y, y1, y2, _⟩ := hGv.old q X hq
    rw [y2]
    exact hI.syms q Y y1 (by rw [← hGv.syms q X Y hq y1]; exact hx)

/-- A block that is not there is given up. -/
theorem Inv.giveV (hI : Inv w0 Sa h S m w) {id b o' sz : Nat} {B : Blk} {tip : Prop} {hA : Hp} (hB : h[id]? = some B) (hst : B.st = 0) (hm : m[id]? = some (b, o', sz)) (hnr : ¬ Rl B.es sz) (hGv : Gave h id B tip hA) :
    Inv w0 Sa hA S m w := by
  have hst1 : ∀ {q : Nat} {X : Blk}, hA[q]? = some X → X.st ≤ 1 → ∃ Y, h[q]? = some Y ∧ X.es = Y.es ∧ Y.st ≤ 1 ∧ (X.st = 0 → Y.st = 0 ∧ q ≠ id) ∧ (X.st = 1 → Y.st = 1 ∨ q = id) := by
    intro q X hq hx
    obtain ⟨Y, y1, y2, _, _, y5, y6⟩ := hGv.old q X hq
    refine ⟨Y, y1, y2, ?_, y5, fun h => (y6 h).1⟩
    by_cases h0 : X.st = 0
    · have := (y5 h0).1; omega
    · rcases (y6 (by omega)).1 with h1 | rfl
      · omega
      · rw [hB] at y1; cases y1; omega
  refine ⟨hI.bel, hI.sub, hI.lt, by rw [hI.len, hGv.len], ?_, ?_, ?_, ?_, ?_, ?_, ?_, ?_⟩
  · intro q X b' o2 z2 hq hx hmq hr
    obtain ⟨Y, y1, y2, y3, _⟩ := hst1 hq hx
    obtain ⟨c2, et2, f1, f2, f3, f4⟩ := hI.blk q Y b' o2 z2 y1 y3 hmq (y2 ▸ hr)
    exact ⟨c2, et2, f1, by rw [y2]; exact f2, by rw [y2]; exact f3, fun i j e p v q1 q2 q3 => f4 i j e p v (by rw [← y2]; exact q1) q2 q3⟩
  · intro q X b' o2 z2 hq hx hmq hr
    obtain ⟨Y, y1, y2, _, y5, _⟩ := hst1 hq (by omega)
    exact hI.live q Y b' o2 z2 y1 (y5 hx).1 hmq (y2 ▸ hr)
  · intro q q' X X' b' o1 z1 o2 z2 hq hx hmq hq' hx' hmq' hr hr'
    obtain ⟨Y, y1, y2, _, y5, _⟩ := hst1 hq (by omega)
    obtain ⟨Y', y1', y2', _, y5', _⟩ := hst1 hq' (by omega)
    exact hI.uniq q q' Y Y' b' o1 z1 o2 z2 y1 (y5 hx).1 hmq y1' (y5' hx').1 hmq' (y2 ▸ hr) (y2' ▸ hr')
  · intro q X b' o2 z2 hq hx hmq hr
    obtain ⟨Y, y1, y2, _, _, y6⟩ := hst1 hq (by omega)
    rw [y2] at hr
    rcases y6 hx with h1 | rfl
    · rcases hI.froz q Y b' o2 z2 y1 h1 hmq hr with hS | ⟨id', B', o3, z3, q1, q2, q3, qr, q4, q5⟩
      · exact .inl hS
      · by_cases hid : id' = id
        · subst hid
          rw [hm] at q3
          cases q3
          rw [hB] at q1
          cases q1
          exact absurd qr hnr
        · exact .inr ⟨id', B', o3, z3, hGv.keep id' B' q1 q2 hid, q2, q3, qr, q4, by rw [y2]; exact q5⟩
    · rw [hm] at hmq
      cases hmq
      rw [hB] at y1
      cases y1
      exact absurd hr hnr
  · intro q r X Xr hq hr hXr h0
    obtain ⟨Y, y1, _, y3, _⟩ := hGv.old q X hq
    obtain ⟨Z, z1, _, _, _, z5, _⟩ := hGv.old r Xr hXr
    exact hI.pars q r Y Z y1 (y3 ▸ hr) z1 (z5 h0).1
  · intro q r X hq hr
    obtain ⟨Y, y1, _, y3, _⟩ := hGv.old q X hq
    rw [hGv.len]
    exact hI.parl q r Y y1 (y3 ▸ hr)
  · intro q X b' o2 z2 hq hmq hr
    obtain ⟨Y, y1, y2, _, y4, _⟩ := hGv.old q X hq
    rw [y4]
    exact hI.msz q Y b' o2 z2 y1 hmq (y2 ▸ hr)
  · intro q X hq hx
    obtain ⟨Y, y1, y2, _⟩ := hGv.old q X hq
    rw [y2]
    exact hI.syms q Y y1 (by rw [← hGv.syms q X Y hq y1]; exact hx)

/-- What lies behind a slice that is appended. -/
def Src (P : Program) (w : World) (S : Nat → Prop) (m : Mp) (z : Nat) (ys : List (List PV)) (u : Value) : Prop :=
  ∃ (ad : Option Addr) (cap : Nat) (news : List Value), u = .slice ad ys.length cap ∧ news.length = ys.length * z ∧ (∀ W : World, W.heap = w.heap → (Builtin.firstCells z ys.length u).run P W = .ok news.toArray W) ∧
    ∀ (i j : Nat) e p v, ys[i]? = some e → e[j]? = some p → news[i * z + j]? = some v → Rep w S m p v

theorem src_of (hI : Inv w0 Sa h S m w) {q : PV} {u : Value} {ys : List (List PV)} {z : Nat} (hr : Rep w S m q u) (hq : elemsOf h q = some ys) (hys : ∀ e ∈ ys, e.length = z) : Src P w S m z ys u := by
  have zero : ∀ (ad : Option Addr) (cap : Nat), ys = [] → Src P w S m z ys (.slice ad 0 cap) := by
    intro ad cap h0
    subst h0
    refine ⟨ad, cap, [], rfl, by simp, fun W _ => ?_, fun i j e p v q1 => by simp at q1⟩
    cases ad <;> simp [Builtin.firstCells, loadCells, loadCellsFrom]
  -- a row of a block
  have row : ∀ (b o' cap : Nat) (c : Array Value) (et : TypeId) (fz : Nat × Nat), u = .slice (some ⟨b, o', none⟩) ys.length cap → w.heap[b]? = some (.cells c et fz) → o' + ys.length * z ≤ c.size →
      (∀ (i j : Nat) e p v, ys[i]? = some e → e[j]? = some p → c[o' + i * z + j]? = some v → Rep w S m p v) → Src P w S m z ys u := by
    intro b o' cap c et fz hu hb hfit hc
    have hl : ((c.toList.drop o').take (ys.length * z)).length = ys.length * z := by simp; omega
    refine ⟨_, cap, (c.toList.drop o').take (ys.length * z), hu, hl, fun W hW => ?_, fun i j e p v q1 q2 q3 => ?_⟩
    · rw [hu]
      refine run_firstCells_some W z ys.length ⟨b, o', none⟩ _ _ _ hl fun j v hj => ?_
      have hj' : j < ys.length * z := by have := (List.getElem?_eq_some_iff.1 hj).1; omega
      rw [List.getElem?_take_of_lt hj', List.getElem?_drop] at hj
      rw [addr_add, cell_of (by rw [hW]; exact hb)]
      simpa using hj
    · have hlt := (List.getElem?_eq_some_iff.1 q3).1
      rw [List.getElem?_take_of_lt (by omega), List.getElem?_drop] at q3
      exact hc i j e p v q1 q2 (by rw [Nat.add_assoc]; simpa using q3)
  have roc : Rep w S m (.ro ys) u → Src P w S m z ys u := by
    intro hr
    rcases ro_inv hr with ⟨h0, ad, cap, hu⟩ | ⟨b, o', cap, sz, c, et, fz, hu, hS, hb, hzz, hl, hcap, hc⟩
    · rw [hu]; exact zero ad cap h0
    · by_cases h0 : ys = []
      · rw [hu]
        have := zero (some ⟨b, o', none⟩) cap h0
        have e : ys.length = 0 := by rw [h0]; rfl
        rw [e]
        exact this
      · obtain ⟨y1, hy1⟩ := List.exists_mem_of_ne_nil _ h0
        have hsz : sz = z := by rw [← hzz y1 hy1, hys y1 hy1]
        subst hsz
        exact row b o' cap c et fz hu hb hl fun i j e p v q1 q2 q3 => .st _ _ (hc i j e p v q1 q2 q3)
  cases q with
  | nul =>
    cases hq
    obtain ⟨ad, rfl⟩ := nul_inv hr
    exact zero ad 0 rfl
  | ro es =>
    cases hq
    exact roc hr
  | rf n f =>
    cases hq
    exact roc (rf_inv hr)
  | own id off len =>
    simp only [elemsOf] at hq
    split at hq
    · rename_i B hB
      split at hq
      · rename_i hcond
        cases hq
        have htl : ((B.es.drop off).take len).length = len := by simp; omega
        rcases own_inv hr with ⟨rfl, ad, rfl⟩ | ⟨b, o', sz, cap, c, et, hu, hm, hz0, hb, hcap, hl⟩
        · exact zero ad 0 (by simp)
        · obtain ⟨c1, et1, e1, e2, e3, e4⟩ := hI.blk id B b o' sz hB hcond.1 hm (.inr hz0)
          rw [hb] at e1
          cases e1
          by_cases h0 : len = 0
          · subst h0
            rw [hu]
            have := zero (some ⟨b, o' + off * sz, none⟩) cap (by simp)
            exact this
          · have hex : ∃ y1, y1 ∈ (B.es.drop off).take len := List.exists_mem_of_ne_nil _ (fun e => by rw [e] at htl; simp at htl; omega)
            obtain ⟨y1, hy1⟩ := hex
            have hsz : sz = z := by rw [← e3 y1 (List.mem_of_mem_drop (List.mem_of_mem_take hy1)), hys y1 hy1]
            subst hsz
            have hmul : (off + len) * sz = off * sz + len * sz := Nat.add_mul _ _ _
            have hle : (off + len) * sz ≤ B.es.length * sz := Nat.mul_le_mul_right _ hcond.2
            refine row b (o' + off * sz) cap c et (0, 0) (by rw [htl]; exact hu) hb (by rw [htl]; omega) fun i j e p v q1 q2 q3 => ?_
            have hi : i < len := by have := (List.getElem?_eq_some_iff.1 q1).1; omega
            rw [List.getElem?_take_of_lt hi, List.getElem?_drop] at q1
            refine e4 (off + i) j e p v q1 q2 ?_
            rw [← q3]; congr 1; rw [Nat.add_mul]; omega
      · cases hq
    · cases hq
  | _ => cases hq

/-- As the slice over the whole block. -/
theorem who_own (h : Hp) {id len : Nat} {B : Blk} (hB : h[id]? = some B) (hst : B.st ≤ 1) (hl : len = B.es.length) : elemsOf h (.own id 0 len) = some B.es := by
  simp only [elemsOf, hB]
  rw [if_pos ⟨hst, by omega⟩, hl, List.drop_zero, List.take_length]

theorem src_ofW (hI : Inv w0 Sa h S m w) {q : PV} {u : Value} {ys : List (List PV)} {ob : List Prop} {z : Nat} (hr : Rep w S m q u) (hq : elemsW h q = some (ys, ob)) (hob : ∀ X ∈ ob, X) (hys : ∀ e ∈ ys, e.length = z) : Src P w S m z ys u := by
  unfold elemsW at hq
  split at hq
  · split at hq
    · rename_i B hB
      split at hq
      · rename_i hst
        cases hq
        exact src_of hI (who_inv hr) (who_own h hB hst (hob _ List.mem_cons_self)) hys
      · cases hq
    · cases hq
  · split at hq
    · rename_i B hB
      split at hq
      · split at hq
        · rename_i hst
          cases hq
          exact src_of hI hr (by simp only [elemsOf, hB]; rw [if_pos ⟨hst, hob _ List.mem_cons_self⟩]) hys
        · cases hq
      · split at hq
        · rename_i es hes
          cases hq
          exact src_of hI hr hes hys
        · cases hq
    · cases hq
  · split at hq
    · rename_i es hes
      cases hq
      exact src_of hI hr hes hys
    · cases hq
end
end Go.PS
