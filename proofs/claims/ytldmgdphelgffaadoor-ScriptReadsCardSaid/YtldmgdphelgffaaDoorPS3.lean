/- Memory of the call's own is written. -/
import Derived.Test.YtldmgdphelgffaaDoorPS2
import Derived.Laws.CopyOwn
namespace Go.PS
open Go.RowKit

theorem kill_get (h : Hp) (l : List Nat) (i : Nat) : (kill h l)[i]? = (h[i]?).map fun B => if l.contains i then { B with st := 2 } else B := by
  unfold kill
  rw [List.getElem?_map, List.getElem?_zipIdx]
  cases h[i]? <;> simp

theorem kill_length (h : Hp) (l : List Nat) : (kill h l).length = h.length := by simp [kill]

/-- What is in a heap some of whose blocks were given up. -/
theorem kill_some {h : Hp} {l : List Nat} {i : Nat} {B : Blk} (hk : (kill h l)[i]? = some B) : ∃ B0, h[i]? = some B0 ∧ B.sz = B0.sz ∧ B.par = B0.par ∧ ((i ∈ l ∧ B.st = 2) ∨ (i ∉ l ∧ B = B0)) := by
  rw [kill_get] at hk
  cases h0 : h[i]? with
  | none => rw [h0] at hk; cases hk
  | some B0 =>
    rw [h0] at hk
    simp only [Option.map_some, Option.some.injEq] at hk
    by_cases hl : i ∈ l
    · rw [if_pos (by simpa using hl)] at hk
      subst hk
      exact ⟨B0, rfl, rfl, rfl, .inl ⟨hl, rfl⟩⟩
    · rw [if_neg (by simpa using hl)] at hk
      subst hk
      exact ⟨B0, rfl, rfl, rfl, .inr ⟨hl, rfl⟩⟩

theorem kill_es {h : Hp} {l : List Nat} {i : Nat} {B : Blk} (hk : (kill h l)[i]? = some B) : ∃ B0, h[i]? = some B0 ∧ B.es = B0.es := by
  rw [kill_get] at hk
  cases h0 : h[i]? with
  | none => rw [h0] at hk; cases hk
  | some B0 =>
    rw [h0] at hk
    simp only [Option.map_some, Option.some.injEq] at hk
    subst hk
    refine ⟨B0, rfl, ?_⟩
    split <;> rfl

theorem kill_sym {h : Hp} {l : List Nat} {i : Nat} {B B0 : Blk} (hk : (kill h l)[i]? = some B) (h0 : h[i]? = some B0) : B.sym = B0.sym := by
  rw [kill_get, h0] at hk
  simp only [Option.map_some, Option.some.injEq] at hk
  subst hk
  split <;> rfl

theorem splice_length {e cs : List PV} {off : Nat} (h : off + cs.length ≤ e.length) : (splice e off cs).length = e.length := by
  simp [splice]; omega

theorem splice_get {α : Type} (e cs : List α) (off j : Nat) (h : off + cs.length ≤ e.length) :
    (e.take off ++ cs ++ e.drop (off + cs.length))[j]? = if j < off then e[j]? else if j < off + cs.length then cs[j - off]? else e[j]? := by
  have h1 : (e.take off).length = off := by simp; omega
  by_cases hj : j < off
  · rw [if_pos hj, List.append_assoc, List.getElem?_append_left (by omega), List.getElem?_take_of_lt hj]
  · rw [if_neg hj]
    by_cases hk : j < off + cs.length
    · rw [if_pos hk, List.getElem?_append_left (by simp; omega), List.getElem?_append_right (by omega), h1]
    · rw [if_neg hk, List.getElem?_append_right (by simp; omega), List.getElem?_drop]
      congr 1
      simp
      omega

theorem row_apart {sz i i' j off n : Nat} (hne : i' ≠ i) (hj : j < sz) (hn : off + n ≤ sz) (h1 : i * sz + off ≤ i' * sz + j) (h2 : i' * sz + j < i * sz + off + n) : False := by
  rcases Nat.lt_or_gt_of_ne hne with h | h
  · have := Nat.mul_le_mul_right sz (show i' + 1 ≤ i by omega)
    rw [Nat.add_mul] at this
    omega
  · have := Nat.mul_le_mul_right sz (show i + 1 ≤ i' by omega)
    rw [Nat.add_mul] at this
    omega

/-- A store into a block of the call's own. -/
theorem Inv.store {w0 w : World} {Sa S : Nat → Prop} {h : Hp} {m : Mp} (hI : Inv w0 Sa h S m w) {id i off b o sz : Nat} {B : Blk} {e cs : List PV} {vs : List Value} {c : Array Value} {et : TypeId}
    (hB : h[id]? = some B) (hst : B.st = 0) (hm : m[id]? = some (b, o, sz)) (he : B.es[i]? = some e) (hfit : off + cs.length ≤ e.length) (hvs : vs.length = cs.length)
    (hrep : ∀ (j : Nat) p v, cs[j]? = some p → vs[j]? = some v → Rep w S m p v) (hb : w.heap[b]? = some (.cells c et (0, 0))) (hsy : (!B.sym || cs.all stabCell) = true) :
    let w' := w.setRow b (c.toList.take (o + i * sz + off) ++ vs ++ c.toList.drop (o + i * sz + off + vs.length)).toArray
    o + i * sz + off + vs.length ≤ c.size ∧ Inv w0 Sa (kill (h.set id { B with es := B.es.set i (splice e off cs) }) B.par) S m w' ∧ Go1 w S m w' S m := by
  intro w'
  have hRl : Rl B.es sz := .inl (fun h0 => by rw [h0] at he; cases he)
  obtain ⟨c1, et1, e1, e2, e3, e4⟩ := hI.blk id B b o sz hB (by omega) hm hRl
  rw [hb] at e1
  cases e1
  have hil : i < B.es.length := (List.getElem?_eq_some_iff.1 he).1
  have hez : e.length = sz := e3 e (List.mem_of_getElem? he)
  have hrow : i * sz + sz ≤ B.es.length * sz := by
    have := Nat.mul_le_mul_right sz (show i + 1 ≤ B.es.length by omega)
    rw [Nat.add_mul] at this; omega
  have hsz : o + i * sz + off + vs.length ≤ c.size := by omega
  have hclen : c.toList.length = c.size := by simp
  have hc' : ∀ x, (c.toList.take (o + i * sz + off) ++ vs ++ c.toList.drop (o + i * sz + off + vs.length)).toArray[x]? =
      if x < o + i * sz + off then c[x]? else if x < o + i * sz + off + vs.length then vs[x - (o + i * sz + off)]? else c[x]? := by
    intro x
    rw [List.getElem?_toArray, splice_get _ _ _ _ (by omega)]
    simp
  have hnew : w'.heap[b]? = some (.cells _ et (0, 0)) := setRow_heap w b c _ et (0, 0) hb
  have hother : ∀ k, k ≠ b → w'.heap[k]? = w.heap[k]? := fun k hk => setRow_other w b k _ hk
  have hset0 : ∀ {z : Nat}, Rl (B.es.set i (splice e off cs)) z → Rl B.es z := fun _ => .inl (fun h0 => by rw [h0] at he; cases he)
  obtain ⟨hB0, hnS⟩ := hI.live id B b o sz hB hst hm hRl
  have hidp : id ∉ B.par := fun hp => hI.pars id id B B hB hp hB hst
  have hL : Later w S w' S := by
    refine ⟨fun _ h => h, fun k hk => hother k (fun he => hnS (he ▸ hk)), fun k ck etk hk => ?_⟩
    by_cases hkb : k = b
    · subst hkb
      rw [hb] at hk
      cases hk
      exact ⟨_, hnew, by simp; omega⟩
    · exact ⟨ck, (hother k hkb).trans hk, rfl⟩
  have hG : Go1 w S m w' S m := fun p v hp => hp.later hL fun _ _ h => h
  have hset : ∀ {q : Nat} {X : Blk}, (h.set id { B with es := B.es.set i (splice e off cs) })[q]? = some X → (q = id ∧ X = { B with es := B.es.set i (splice e off cs) }) ∨ (q ≠ id ∧ h[q]? = some X) := by
    intro q X hq
    rw [List.getElem?_set] at hq
    by_cases hqi : id = q
    · subst hqi
      have : id < h.length := (List.getElem?_eq_some_iff.1 hB).1
      simp [this] at hq
      exact .inl ⟨rfl, hq.symm⟩
    · rw [if_neg hqi] at hq; exact .inr ⟨fun e => hqi e.symm, hq⟩
  -- a block of the new heap that is not given up
  have hnk : ∀ {q : Nat} {X : Blk}, (kill (h.set id { B with es := B.es.set i (splice e off cs) }) B.par)[q]? = some X → X.st ≤ 1 → q ∉ B.par ∧ ((q = id ∧ X = { B with es := B.es.set i (splice e off cs) }) ∨ (q ≠ id ∧ h[q]? = some X)) := by
    intro q X hq hx
    obtain ⟨X0, h0, _, _, hd | ⟨hd, rfl⟩⟩ := kill_some hq
    · omega
    · exact ⟨hd, hset h0⟩
  refine ⟨hsz, ⟨below_setRow hI.bel hB0 _, hI.sub, fun k hk => by have := hI.lt k hk; show k < (w.setRow _ _).heap.size; simpa using this, by rw [kill_length]; simpa using hI.len, ?_, ?_, ?_, ?_, ?_, ?_, ?_, ?_⟩, hG⟩
  · intro q X b' o' z' hq hx hmq hr
    obtain ⟨hqp, hqq⟩ := hnk hq hx
    rcases hqq with ⟨rfl, rfl⟩ | ⟨hqi, hq0⟩
    · rw [hm] at hmq
      cases hmq
      refine ⟨_, et, hnew, by simp; omega, ?_, ?_⟩
      · intro e' he'
        rcases List.mem_or_eq_of_mem_set he' with h1 | rfl
        · exact e3 _ h1
        · rw [splice_length hfit]; exact hez
      · intro i' j e' p v h1 h2 h3
        rw [hc'] at h3
        simp only [List.getElem?_set] at h1
        by_cases hii : i = i'
        · subst hii
          simp [hil] at h1
          subst h1
          rw [splice, splice_get _ _ _ _ hfit] at h2
          by_cases hj1 : j < off
          · rw [if_pos hj1] at h2
            rw [if_pos (by omega)] at h3
            exact hG _ _ (e4 i j e p v he h2 h3)
          · rw [if_neg hj1] at h2
            rw [if_neg (by omega)] at h3
            by_cases hj2 : j < off + cs.length
            · rw [if_pos hj2] at h2
              rw [if_pos (by omega), show o + i * sz + j - (o + i * sz + off) = j - off by omega] at h3
              exact hG _ _ (hrep (j - off) p v h2 h3)
            · rw [if_neg hj2] at h2
              rw [if_neg (by omega)] at h3
              exact hG _ _ (e4 i j e p v he h2 h3)
        · rw [if_neg hii] at h1
          have hjz : j < sz := by
            have := (List.getElem?_eq_some_iff.1 h2).1
            rw [e3 e' (List.mem_of_getElem? h1)] at this
            exact this
          have h3' : c[o + i' * sz + j]? = some v := by
            by_cases ha : o + i' * sz + j < o + i * sz + off
            · rw [if_pos ha] at h3; exact h3
            · rw [if_neg ha] at h3
              by_cases hb2 : o + i' * sz + j < o + i * sz + off + vs.length
              · exact (row_apart (off := off) (n := vs.length) (fun e => hii e.symm) hjz (by omega) (by omega) (by omega)).elim
              · rw [if_neg hb2] at h3; exact h3
          exact hG _ _ (e4 i' j e' p v h1 h2 h3')
    · have hbb : b' ≠ b := by
        intro hbb
        subst hbb
        by_cases hx0 : X.st = 0
        · exact hqi (hI.uniq q id X B b' o' z' o sz hq0 hx0 hmq hB hst hm hr hRl)
        · rcases hI.froz q X b' o' z' hq0 (by omega) hmq hr with hS | ⟨id', B', o2, z2, q1, q2, q3, qr, q4⟩
          · exact hnS hS
          · have := hI.uniq id' id B' B b' o2 z2 o sz q1 q2 q3 hB hst hm qr hRl
            subst this
            rw [hB] at q1
            cases q1
            exact hqp q4.1
      obtain ⟨c2, et2, f1, f2, f3, f4⟩ := hI.blk q X b' o' z' hq0 hx hmq hr
      exact ⟨c2, et2, (hother b' hbb).trans f1, f2, f3, fun i' j e' p v q1 q2 q3 => hG _ _ (f4 i' j e' p v q1 q2 q3)⟩
  · intro q X b' o' z' hq hx hmq hr
    rcases (hnk hq (by omega)).2 with ⟨rfl, rfl⟩ | ⟨_, hq0⟩
    · exact hI.live q B b' o' z' hB hst hmq (hset0 hr)
    · exact hI.live q X b' o' z' hq0 hx hmq hr
  · intro q q' X X' b' o1 z1 o2 z2 hq hx hmq hq' hx' hmq' hr hr'
    have lv : ∀ {q : Nat} {X : Blk} {z : Nat}, (kill (h.set id { B with es := B.es.set i (splice e off cs) }) B.par)[q]? = some X → X.st = 0 → Rl X.es z → ∃ Y, h[q]? = some Y ∧ Y.st = 0 ∧ Rl Y.es z := by
      intro q X z hq hx hr
      rcases (hnk hq (by omega)).2 with ⟨rfl, rfl⟩ | ⟨_, hq0⟩
      · exact ⟨B, hB, hst, hset0 hr⟩
      · exact ⟨X, hq0, hx, hr⟩
    obtain ⟨Y, y1, y2, y3⟩ := lv hq hx hr
    obtain ⟨Y', y1', y2', y3'⟩ := lv hq' hx' hr'
    exact hI.uniq q q' Y Y' b' o1 z1 o2 z2 y1 y2 hmq y1' y2' hmq' y3 y3'
  · intro q X b' o' z' hq hx hmq hr
    obtain ⟨hqp, hqq⟩ := hnk hq (by omega)
    rcases hqq with ⟨rfl, rfl⟩ | ⟨hqi, hq0⟩
    · change B.st = 1 at hx; omega
    · rcases hI.froz q X b' o' z' hq0 hx hmq hr with hS | ⟨id', B', o2, z2, q1, q2, q3, qr, q4⟩
      · exact .inl hS
      · by_cases hid : id' = id
        · subst hid
          rw [hB] at q1
          cases q1
          exact absurd q4.1 hqp
        · refine .inr ⟨id', B', o2, z2, ?_, q2, q3, qr, q4⟩
          rw [kill_get, List.getElem?_set, if_neg (fun e => hid e.symm), q1]
          have : id' ∉ B.par := fun hp => hI.pars id id' B B' hB hp q1 q2
          simp [this]
  · intro q r X Xr hq hr hXr
    obtain ⟨X0, h0, _, hp, hd⟩ := kill_some hq
    obtain ⟨R0, r0, _, _, hdr⟩ := kill_some hXr
    have hX : ∃ Y, h[q]? = some Y ∧ Y.par = X.par := by
      rcases hset h0 with ⟨rfl, rfl⟩ | ⟨_, h1⟩
      · exact ⟨B, hB, hp.symm⟩
      · exact ⟨X0, h1, hp.symm⟩
    obtain ⟨Y, y1, y2⟩ := hX
    rcases hdr with ⟨_, h2⟩ | ⟨_, rfl⟩
    · omega
    · rcases hset r0 with ⟨rfl, rfl⟩ | ⟨_, h1⟩
      · exact hI.pars q r Y B y1 (y2 ▸ hr) hB
      · exact hI.pars q r Y Xr y1 (y2 ▸ hr) h1
  · intro q r X hq hr
    obtain ⟨X0, h0, _, hp, _⟩ := kill_some hq
    rw [kill_length, List.length_set]
    rcases hset h0 with ⟨rfl, rfl⟩ | ⟨_, h1⟩
    · exact hI.parl q r B hB (hp ▸ hr)
    · exact hI.parl q r X0 h1 (hp ▸ hr)
  · intro q X b' o' z' hq hmq hr
    have hes := kill_es hq
    obtain ⟨X0, h0, hs, _, _⟩ := kill_some hq
    obtain ⟨X1, h1, hes⟩ := hes
    rw [h0] at h1
    cases h1
    rw [hes] at hr
    rw [hs]
    rcases hset h0 with ⟨rfl, rfl⟩ | ⟨_, h1⟩
    · exact hI.msz q B b' o' z' hB hmq (hset0 hr)
    · exact hI.msz q X0 b' o' z' h1 hmq hr
  · intro q X hq hx
    obtain ⟨X0, h0, hes⟩ := kill_es hq
    have hsm := kill_sym hq h0
    rw [hes]
    rcases hset h0 with ⟨rfl, rfl⟩ | ⟨_, h1⟩
    · have hBs : B.sym = true := by rw [← hsm]; exact hx
      have hcs : cs.all stabCell = true := by rw [hBs] at hsy; simpa using hsy
      have hold := hI.syms q B hB hBs
      intro e' he'
      rcases List.mem_or_eq_of_mem_set he' with h1 | rfl
      · exact hold _ h1
      · have he1 := hold e (List.mem_of_getElem? he)
        rw [List.all_eq_true] at he1 hcs ⊢
        intro x hx
        unfold splice at hx
        rcases List.mem_append.1 hx with hx | hx
        · rcases List.mem_append.1 hx with hx | hx
          · exact he1 x (List.mem_of_mem_take hx)
          · exact hcs x hx
        · exact he1 x (List.mem_of_mem_drop hx)
    · exact hI.syms q X0 h1 (by rw [← hsm]; exact hx)
end Go.PS
