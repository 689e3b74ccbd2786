/- The library's functions that chapter 53 calls, as contracts of the evaluator; and what they compute, over lists. -/
import Derived.Test.YtldmgdphelgffaaDoorU3
import Derived.Test.YtldmgdphelgffaaDoorShelf
import Derived.Test.YtldmgdphelgffaaDoorRows
import Derived.Deep.Draws
import Derived.Sort.Grow
namespace Go.Proofs.YtldmgdphelgffaaDoor
open Go.PS Go.RowKit

noncomputable abbrev P : Program := Tryd.prog

/-- Bytes as a string. -/
def B (l : List UInt8) : ByteArray := ⟨l.toArray⟩
@[simp] theorem B_list (l : List UInt8) : (B l).data.toList = l := rfl
theorem B_of (s : ByteArray) : B s.data.toList = s := rfl
@[simp] theorem B_size (l : List UInt8) : (B l).size = l.length := by show l.toArray.size = _; simp
theorem B_inj {l m : List UInt8} : B l = B m ↔ l = m := ⟨fun h => by have := congrArg (fun s : ByteArray => s.data.toList) h; exact this, fun h => h ▸ rfl⟩
theorem B_append (l m : List UInt8) : B l ++ B m = B (l ++ m) := by
  apply ByteArray.ext
  rw [ByteArray.data_append]
  simp [B]

/-- Cut at the first c. -/
def cutL (c : UInt8) : List UInt8 → List UInt8 × List UInt8 × Bool
  | [] => ([], [], false)
  | b :: l => if b = c then ([], l, true) else (b :: (cutL c l).1, (cutL c l).2)

/-- Cut at every c. -/
def splitL (c : UInt8) : List UInt8 → List (List UInt8)
  | [] => [[]]
  | b :: l => if b = c then [] :: splitL c l else match splitL c l with
    | x :: r => (b :: x) :: r
    | [] => [[b]]

theorem splitL_cons (c b : UInt8) (l : List UInt8) : splitL c (b :: l) = if b = c then [] :: splitL c l else match splitL c l with
    | x :: r => (b :: x) :: r
    | [] => [[b]] := rfl
theorem cutL_cons (c b : UInt8) (l : List UInt8) : cutL c (b :: l) = if b = c then ([], l, true) else (b :: (cutL c l).1, (cutL c l).2) := rfl

theorem splitL_ne (c : UInt8) (l : List UInt8) : splitL c l ≠ [] := by
  cases l with
  | nil => simp [splitL]
  | cons b l =>
    unfold splitL
    split
    · simp
    · split <;> simp

theorem indexByte_cons (b c : UInt8) (l : List UInt8) : Lib.indexByte (b :: l) c = if b == c then 0 else if Lib.indexByte l c == -1 then -1 else Lib.indexByte l c + 1 := rfl

theorem index_one (c : UInt8) : ∀ l : List UInt8, Lib.index l [c] = Lib.indexByte l c
  | [] => rfl
  | b :: l => by
    unfold Lib.index Lib.indexByte
    rw [index_one c l]
    by_cases h : b = c
    · subst h; simp [List.isPrefixOf]
    · have h1 : (c == b) = false := by simpa using fun e => h e.symm
      have h2 : (b == c) = false := by simpa using h
      simp [List.isPrefixOf, h1, h2]

theorem indexByte_pos (c : UInt8) : ∀ l : List UInt8, (0 ≤ Lib.indexByte l c ↔ c ∈ l)
  | [] => by simp [Lib.indexByte]
  | b :: l => by
    have ih := indexByte_pos c l
    have hg := Lib.indexByte_ge l c
    unfold Lib.indexByte
    by_cases h : b = c
    · subst h; simp
    · have h2 : (b == c) = false := by simpa using h
      rw [h2]
      simp only [Bool.false_eq_true, if_false, List.mem_cons]
      by_cases hm : Lib.indexByte l c = -1
      · have hn : ¬ c ∈ l := fun h => by have := ih.2 h; omega
        rw [hm]
        have hcb : ¬ c = b := fun e => h e.symm
        simp [hn, hcb]
      · have h0 : 0 ≤ Lib.indexByte l c := by omega
        have : (Lib.indexByte l c == -1) = false := by simpa using hm
        rw [this]
        simp [ih.1 h0]; omega

theorem cut_one (c : UInt8) : ∀ l : List UInt8, Lib.cut l [c] = cutL c l
  | [] => by unfold Lib.cut; rw [index_one]; simp [Lib.indexByte, cutL]
  | b :: l => by
    have ih := cut_one c l
    have hg := Lib.indexByte_ge l c
    unfold Lib.cut at ih ⊢
    rw [index_one] at ih ⊢
    unfold cutL
    rw [← ih, indexByte_cons]
    by_cases h : b = c
    · subst h; simp
    · have h2 : (b == c) = false := by simpa using h
      rw [h2, if_neg h]
      simp only [Bool.false_eq_true, if_false]
      by_cases hm : Lib.indexByte l c = -1
      · rw [hm]; simp
      · have : (Lib.indexByte l c == -1) = false := by simpa using hm
        have h0 : 0 ≤ Lib.indexByte l c := by omega
        rw [this]
        simp only [Bool.false_eq_true, if_false]
        rw [if_pos (by omega), if_pos h0]
        have e : (Lib.indexByte l c + 1).toNat = (Lib.indexByte l c).toNat + 1 := by omega
        rw [e, List.take_succ_cons]
        have e2 : (Lib.indexByte l c).toNat + 1 + [c].length = (Lib.indexByte l c).toNat + [c].length + 1 := by omega
        rw [e2, List.drop_succ_cons]

theorem cutL_split (c : UInt8) : ∀ l : List UInt8, splitL c l = if (cutL c l).2.2 then (cutL c l).1 :: splitL c (cutL c l).2.1 else [l]
  | [] => rfl
  | b :: l => by
    have ih := cutL_split c l
    rw [splitL_cons, cutL_cons]
    by_cases h : b = c
    · simp [h]
    · rw [if_neg h, if_neg h]
      cases hb : (cutL c l).2.2 with
      | true => rw [hb] at ih; rw [ih]; simp
      | false => rw [hb] at ih; rw [ih]; simp

theorem cutL_len (c : UInt8) : ∀ l : List UInt8, (cutL c l).2.2 = true → (cutL c l).2.1.length < l.length
  | [] => by simp [cutL]
  | b :: l => by
    unfold cutL
    by_cases h : b = c
    · simp [h]
    · rw [if_neg h]
      intro hb
      have := cutL_len c l hb
      simp only [List.length_cons]
      omega

theorem countFrom_one (c : UInt8) : ∀ (fuel : Nat) (l : List UInt8), l.length < fuel → Lib.countFrom [c] fuel l + 1 = (splitL c l).length
  | 0, l, h => absurd h (Nat.not_lt_zero _)
  | fuel + 1, l, h => by
    rw [cutL_split]
    have hc := cut_one c l
    unfold Lib.cut at hc
    unfold Lib.countFrom
    have hg := Lib.index_ge l [c]
    by_cases hi : Lib.index l [c] = -1
    · rw [if_neg (by omega)] at hc
      rw [← hc, hi]; simp
    · rw [if_pos (by omega)] at hc
      have hl := cutL_len c l (by rw [← hc])
      rw [← hc] at hl
      have : (Lib.index l [c] == -1) = false := by simpa using hi
      rw [← hc, this]
      simp only [Bool.false_eq_true, if_false, if_true, List.length_cons]
      have := countFrom_one c fuel (l.drop ((Lib.index l [c]).toNat + [c].length)) (by simp only at hl; omega)
      simp only [List.length_cons, List.length_nil] at this ⊢
      omega

theorem splitK_one (c : UInt8) : ∀ (k : Nat) (l : List UInt8), (splitL c l).length = k + 1 → Lib.splitK [c] 0 k l = splitL c l
  | 0, l, h => by
    rw [cutL_split] at h ⊢
    cases hb : (cutL c l).2.2 with
    | true => rw [hb] at h; simp at h; exact absurd h (splitL_ne _ _)
    | false => rfl
  | k + 1, l, h => by
    rw [cutL_split] at h ⊢
    have hc := cut_one c l
    unfold Lib.cut at hc
    unfold Lib.splitK
    have hg := Lib.index_ge l [c]
    by_cases hi : Lib.index l [c] = -1
    · rw [if_neg (by omega)] at hc
      rw [← hc] at h; simp at h
    · rw [if_pos (by omega)] at hc
      have : (Lib.index l [c] == -1) = false := by simpa using hi
      rw [this]
      rw [← hc] at h ⊢
      simp only [Bool.false_eq_true, if_false, if_true, List.length_cons] at h ⊢
      rw [← splitK_one c k _ (by omega)]
      simp

theorem countB_one (c : UInt8) (s : ByteArray) : Lib.countB s ⟨#[c]⟩ + 1 = (splitL c s.data.toList).length := by
  have := countFrom_one c (s.data.toList.length + 1) s.data.toList (by omega)
  exact this

theorem splitB_one (c : UInt8) (s : ByteArray) : Lib.splitB ⟨#[c]⟩ 0 (Lib.countB s ⟨#[c]⟩) s = (splitL c s.data.toList).map B := by
  have h := Lib.splitB_data ⟨#[c]⟩ 0 (Lib.countB s ⟨#[c]⟩) s
  have h2 := splitK_one c (Lib.countB s ⟨#[c]⟩) s.data.toList (countB_one c s).symm
  have h3 : (⟨#[c]⟩ : ByteArray).data.toList = [c] := rfl
  rw [h3, h2] at h
  rw [← h, List.map_map]
  have : B ∘ (fun x : ByteArray => x.data.toList) = id := by funext x; rfl
  rw [this, List.map_id]

theorem below_drewN' (w : World) (n : Nat) : Below w.heap.size w (w.drewN n) := ⟨rfl, rfl, rfl, Nat.le_refl _, fun _ _ => rfl⟩
theorem below_grow (w : World) (n : Nat) (os : Array Obj) : Below w.heap.size w (Go.Sort.grow (w.drewN n) os) := by
  refine ⟨rfl, rfl, rfl, by show w.heap.size ≤ (w.heap ++ os).size; simp, fun b hb => ?_⟩
  show (w.heap ++ os)[b]? = w.heap[b]?
  rw [Array.getElem?_append_left hb]

theorem two_args {w : World} {Sa : Nat → Prop} {vs : List Value} {p q : Value} (hl : vs.length = 2) (h : ∀ (i : Nat) x v, [PV.sc p, PV.sc q][i]? = some x → vs[i]? = some v → RepS w Sa x v) : vs = [p, q] := by
  match vs, hl with
  | [a, b], _ =>
    have h1 := h 0 _ a rfl rfl
    have h2 := h 1 _ b rfl rfl
    cases h1; cases h2; rfl

theorem tup3 {w : World} {Sa : Nat → Prop} (a b c : Value) : RepS w Sa (.tup [.sc a, .sc b, .sc c]) (.tuple #[a, b, c]) :=
  .tup _ _ rfl fun i c v h1 h2 => by
    match i with
    | 0 => simp at h1 h2; subst h1; subst h2; exact .sc _
    | 1 => simp at h1 h2; subst h1; subst h2; exact .sc _
    | 2 => simp at h1 h2; subst h1; subst h2; exact .sc _
    | i + 3 => simp at h1

def cutV (s : ByteArray) (c : UInt8) : PV := .tup [S (B (cutL c s.data.toList).1), S (B (cutL c s.data.toList).2.1), Bo (cutL c s.data.toList).2.2]

theorem cut_ok (s : ByteArray) (c : UInt8) (hs : s.size < 4294967281) : Ok P 38 [S s, S ⟨#[c]⟩] (cutV s c) := by
  intro w Sa vs hG _ hl ha
  obtain rfl := two_args hl ha
  obtain ⟨n, hn⟩ := hG.max
  refine (Tryd.strings_Cut s ⟨#[c]⟩ n w hs hn).mono ?_
  rintro e w' ⟨rfl, k, rfl⟩
  refine ⟨_, rfl, below_drewN' w k, ?_⟩
  rw [show (⟨#[c]⟩ : ByteArray).data.toList = [c] from rfl, cut_one]
  exact tup3 _ _ _

theorem contains_ok (s : ByteArray) (c : UInt8) : Ok P 17 [S s, S ⟨#[c]⟩] (Bo (s.data.toList.contains c)) := by
  intro w Sa vs hG _ hl ha
  obtain rfl := two_args hl ha
  refine (Tryd.strings_Contains_one s c w).mono ?_
  rintro e w' ⟨rfl, rfl⟩
  refine ⟨_, rfl, Below.refl _ _, ?_⟩
  have : decide (0 ≤ Lib.indexByte s.data.toList c) = s.data.toList.contains c := by
    rw [Bool.eq_iff_iff, decide_eq_true_eq, indexByte_pos, List.contains_iff_mem]
  rw [this]
  exact .sc _

def trimS (s : ByteArray) (c : UInt8) : ByteArray := B (Lib.trimSuffix s.data.toList [c])
theorem trim_ok (s : ByteArray) (c : UInt8) (hs : s.size ≤ 9223372036854775807) : Ok P 47 [S s, S ⟨#[c]⟩] (S (trimS s c)) := by
  intro w Sa vs hG _ hl ha
  obtain rfl := two_args hl ha
  refine (Tryd.strings_TrimSuffix s ⟨#[c]⟩ w hs).mono ?_
  rintro e w' ⟨rfl, rfl⟩
  exact ⟨_, rfl, Below.refl _ _, .sc _⟩

theorem formatInt_ok (n : Int) (h0 : -9223372036854775808 ≤ n) (h1 : n ≤ 9223372036854775807) : Ok P 32 [.sc (.int .i64 n), .sc (.int .i64 10)] (S (B (Lib.itoa n))) := by
  intro w Sa vs hG _ hl ha
  obtain rfl := two_args hl ha
  refine (Tryd.strconv_FormatInt_10 n h0 h1 w ?_).mono ?_
  · obtain ⟨et, fz, h⟩ := hG.pow
    unfold Lib.TabIs World.var?
    rw [show Tryd.prog.globalNamed _ = some 1 by kernel_rfl]
    simp only [Option.bind_some, h]
  · rintro e w' ⟨rfl, k, os, rfl⟩
    exact ⟨_, rfl, below_grow w k os, .sc _⟩

/-- A list of texts. -/
def strL (l : List (List UInt8)) : PV := .rf l.length fun i => [S (B (l.getD i []))]

theorem split_ok (s : ByteArray) (c : UInt8) (hs : s.size < 4294967281) : Ok P 46 [S s, S ⟨#[c]⟩] (strL (splitL c s.data.toList)) := by
  intro w Sa vs hG _ hl ha
  obtain rfl := two_args hl ha
  obtain ⟨n, hn⟩ := hG.max
  refine (Tryd.strings_Split s ⟨#[c]⟩ n w hs hn (Nat.le_refl _)).mono ?_
  rintro e w' ⟨rfl, rfl⟩
  refine ⟨_, rfl, (Below.refl _ _).alloc (Nat.le_refl _) _, ?_⟩
  rw [splitB_one, countB_one]
  generalize hL : splitL c s.data.toList = L
  refine .rf _ _ _ ?_
  have hlen : ((List.range L.length).map fun i => [S (B (L.getD i []))]).length = L.length := by simp
  have := RepS.ro (w := w.alloc (.cells ((L.map B).map Value.string).toArray 9)) (S := fun b => Sa b ∨ w.heap.size ≤ b ∧ b < (w.alloc (.cells ((L.map B).map Value.string).toArray 9)).heap.size) ((List.range L.length).map fun i => [S (B (L.getD i []))]) w.heap.size 0 L.length 1
    ((L.map B).map Value.string).toArray 9 (0, 0) (.inr ⟨Nat.le_refl _, by simp⟩) (heap_alloc_new' _ _) (by simp) (by simp) (by simp) (by
      intro i j e p v q1 q2 q3
      rw [List.getElem?_map] at q1
      cases hi : (List.range L.length)[i]? with
      | none => rw [hi] at q1; cases q1
      | some k =>
        rw [hi] at q1
        simp only [Option.map_some, Option.some.injEq] at q1
        have hil : i < L.length := by have := (List.getElem?_eq_some_iff.1 hi).1; simpa using this
        have hk : k = i := by simp [hil] at hi; exact hi.symm
        subst hk
        subst q1
        cases j with
        | succ j => simp at q2
        | zero =>
          simp at q2
          subst q2
          simp [hil] at q3
          subst q3
          rw [List.getElem?_eq_getElem hil]
          exact .sc _)
  rw [hlen] at this
  exact this
end Go.Proofs.YtldmgdphelgffaaDoor
