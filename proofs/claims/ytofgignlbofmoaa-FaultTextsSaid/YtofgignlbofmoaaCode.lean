/- Contract of the reference's Code. -/
import Derived.Test.YtofgignlbofmoaaAt
import Derived.Lib.LastIndexLaws
namespace Go.Proofs.Ytofgignlbofmoaa
open Go.RowKit

def fnd (t : ByteArray) : Nat := ((List.range 60).find? fun i => decide (1 ≤ i) && ((tx i).data.toList == t.data.toList)).getD 0

theorem fnd_zero {t : ByteArray} (h : fnd t = 0) : ∀ i, 1 ≤ i → i ≤ 59 → tx i ≠ t := by
  intro i h1 h2 e
  unfold fnd at h
  cases hf : (List.range 60).find? fun i => decide (1 ≤ i) && ((tx i).data.toList == t.data.toList) with
  | none =>
    have := List.find?_eq_none.1 hf i (by simp; omega)
    simp [h1, e] at this
  | some j =>
    rw [hf] at h
    have := List.find?_some hf
    simp at this h
    omega

theorem fnd_pos {t : ByteArray} (h : fnd t ≠ 0) : 1 ≤ fnd t ∧ fnd t ≤ 59 ∧ tx (fnd t) = t := by
  unfold fnd at h ⊢
  cases hf : (List.range 60).find? fun i => decide (1 ≤ i) && ((tx i).data.toList == t.data.toList) with
  | none => rw [hf] at h; simp at h
  | some j =>
    have h1 := List.find?_some hf
    have h2 := List.mem_of_find?_eq_some hf
    simp at h1 h2 ⊢
    exact ⟨h1.1, by omega, Go.WideShapes.bytes_inj (by simpa using congrArg Array.toList h1.2)⟩

theorem fnd_tx {i : Nat} (h1 : 1 ≤ i) (h2 : i ≤ 59) : fnd (tx i) = i := by
  by_cases h : fnd (tx i) = 0
  · exact absurd rfl (fnd_zero h i h1 h2)
  · obtain ⟨a, b, c⟩ := fnd_pos h
    exact tx_inj a b h1 h2 c

theorem fnd_nil {t : ByteArray} (h : t.toList.isEmpty = true) : fnd t = 0 := by
  by_cases h0 : fnd t = 0
  · exact h0
  · obtain ⟨a, b, c⟩ := fnd_pos h0
    have := tx_ne a b
    rw [c, h] at this
    cases this

def found (n : Nat) : Value := .tuple #[.int .i64 n, .bool (n != 0)]

theorem found_zero : Ending.returned (.tuple #[.int .i64 0, .bool false]) = .returned (found 0) := rfl
theorem found_pos {n : Nat} (h : n ≠ 0) : Ending.returned (.tuple #[.int .i64 n, .bool true]) = .returned (found n) := by
  unfold found
  have : (n != 0) = true := by simpa using h
  rw [this]

theorem find_any (t : ByteArray) (w : World) :
    Calls Try.prog 9 #[.string t] w fun r w' => r = .returned (found (fnd t)) ∧ w = w' := by
  by_cases h0 : fnd t = 0
  · rw [h0, ← found_zero]
    cases he : t.toList.isEmpty
    · exact find_no t w he (fnd_zero h0)
    · rw [empty_of he]; exact find_nil w
  · obtain ⟨a, b, c⟩ := fnd_pos h0
    rw [← found_pos h0]
    have := find_yes (fnd t) w a b
    rw [c] at this
    exact this

theorem refFind_any (t : ByteArray) (w : World) :
    Calls Try.prog 11 #[.string t] w fun r w' => r = .returned (found (fnd t)) ∧ Grown w w' := by
  by_cases h0 : fnd t = 0
  · rw [h0, ← found_zero]
    exact refFind_no t w (fnd_zero h0)
  · obtain ⟨a, b, c⟩ := fnd_pos h0
    rw [← found_pos h0]
    have := refFind_yes (fnd t) w a b
    rw [c] at this
    exact this

def whatOf (s : ByteArray) (j : Int) : ByteArray := if j < 0 then ⟨#[]⟩ else s.extract 0 j.toNat
def textOf (s : ByteArray) (j : Int) : ByteArray := if j < 0 then s else s.extract (j.toNat + 2) s.size
def lastAt (s : ByteArray) (k : Nat) : Int := Lib.lastOcc s.data.toList [58, 32] k

theorem whatOf_nat (s : ByteArray) (k : Nat) : whatOf s k = s.extract 0 k := by simp [whatOf]; omega
theorem textOf_nat (s : ByteArray) (k : Nat) : textOf s k = s.extract (k + 2) s.size := by simp [textOf]; omega

def coded (s : ByteArray) (j : Int) : Value :=
  if fnd (textOf s j) = 0 then .tuple #[.string ⟨#[]⟩, .int .i64 0, .bool false] else .tuple #[.string (whatOf s j), .int .i64 (fnd (textOf s j)), .bool true]

theorem occ_iff (s : ByteArray) (k : Nat) (h : k + 1 < s.size) : Lib.occAt s.data.toList [58, 32] k = (s[k] == 58 && s[k + 1] == 32) := by
  unfold Lib.occAt
  have h1 : k < s.data.toList.length := by simp; omega
  have h2 : k + 1 < s.data.toList.length := by simp; omega
  rw [List.drop_eq_getElem_cons h1, List.drop_eq_getElem_cons h2]
  simp only [List.isPrefixOf, Bool.and_true]
  have e1 : s.data.toList[k] = s[k] := rfl
  have e2 : s.data.toList[k + 1] = s[k + 1] := rfl
  rw [e1, e2, Bool.beq_comm (a := 58), Bool.beq_comm (a := 32)]

theorem lastAt_hit {s : ByteArray} {k : Nat} (h : k + 1 < s.size) (h1 : s[k] = 58) (h2 : s[k + 1] = 32) : lastAt s (k + 1) = k := by
  unfold lastAt
  rw [Lib.lastOcc_hit]
  rw [occ_iff s k h, h1, h2]; rfl
theorem lastAt_miss {s : ByteArray} {k : Nat} (h : k + 1 < s.size) (h1 : ¬ (s[k] = 58 ∧ s[k + 1] = 32)) : lastAt s (k + 1) = lastAt s k := by
  unfold lastAt
  rw [Lib.lastOcc_miss]
  rw [occ_iff s k h]
  simpa using h1

theorem byte_beq {b : UInt8} {n : Nat} (hn : n < 256) (h : b = UInt8.ofNat n) : ((b.toNat : Int) == (n : Int)) = true := by
  subst h; simp; omega
theorem byte_bne {b : UInt8} {n : Nat} (h : ¬ b = UInt8.ofNat n) : ((b.toNat : Int) == (n : Int)) = false := by
  rw [beq_eq_false_iff_ne]
  intro e
  apply h
  have : b.toNat = n := by omega
  rw [← this]; simp

def lastSep (s : ByteArray) : Int := lastAt s (s.size - 1)

theorem coded_zero {s : ByteArray} {j k : Int} (h : fnd (textOf s j) = 0) (e : j = k) : Ending.returned (.tuple #[.string ⟨#[]⟩, .int .i64 0, .bool false]) = .returned (coded s k) := by
  subst e; simp [coded, h]
theorem coded_pos {s : ByteArray} {j k : Int} (h : ¬ fnd (textOf s j) = 0) (e : j = k) : Ending.returned (.tuple #[.string (whatOf s j), .int .i64 (fnd (textOf s j)), .bool true]) = .returned (coded s k) := by
  subst e; simp [coded, h]
theorem found_at_zero {t : ByteArray} (h : fnd t = 0) : found (fnd t) = .tuple #[.int .i64 0, .bool false] := by rw [h]; rfl
theorem found_at_pos {t : ByteArray} (h : ¬ fnd t = 0) : found (fnd t) = .tuple #[.int .i64 (fnd t), .bool true] := by
  unfold found
  have : (fnd t != 0) = true := by simpa using h
  rw [this]

theorem grown_trans {a b c : World} (h : Grown a b) (k : Grown b c) : Grown a c :=
  ⟨World.keptBut_trans h.1 k.1, fun x => (k.2.1 x).trans (h.2.1 x), Nat.le_trans h.2.2 k.2.2⟩

def CodeRel (s : ByteArray) (w : World) (v t i : Value) (wr : World) : Prop :=
  ∃ k : Nat, k + 1 ≤ s.size ∧ i = .int .i64 k ∧ v = .string (whatOf s (lastAt s k)) ∧ t = .string (textOf s (lastAt s k)) ∧ Grown w wr

set_option maxHeartbeats 400000 in
theorem refCode_any (s : ByteArray) (w : World) (hs : s.size ≤ 20000) (h0 : 0 < s.size) :
    Calls Try.prog 15 #[.string s] w fun r w' => r = .returned (coded s (lastSep s)) ∧ Grown w w' := by
  go_enter Try.func15, Try.ntmps15
  go_wp2
  go_loopw [5, 6, 7] (CodeRel s w) (fun _ _ i _ => s.size - (intOf i).toNat)
  case atStart => exact ⟨0, by omega, rfl, rfl, rfl, Grown.refl _⟩
  case round =>
    obtain ⟨k, hk, rfl, rfl, rfl, hg⟩ := hrel
    by_cases hlt : k + 1 < s.size
    · have hi1 : (k : Int) + 1 < s.size := by omega
      by_cases hb : s[k] = 58
      · have hb1 : ((s[k].toNat : Int) == 58) = true := byte_beq (n := 58) (by omega) hb
        by_cases hc : s[k + 1] = 32
        · have hc1 : ((s[k + 1].toNat : Int) == 32) = true := byte_beq (n := 32) (by omega) hc
          have HB := Lib.hid hb; clear hb
          have HC := Lib.hid hc; clear hc
          go_wp2
          go_region
          go_wp2
          have HL := Lib.hid (lastAt_hit hlt HB.out HC.out)
          go_roundw
          case rel => exact ⟨k + 1, by omega, by go_num, by rw [HL.out, whatOf_nat], by rw [HL.out, textOf_nat], hg.drew⟩
          case measure => simp [intOf]; omega
        · have hc1 : ((s[k + 1].toNat : Int) == 32) = false := byte_bne (n := 32) hc
          have HC := Lib.hid hc; clear hc
          have HL := Lib.hid (lastAt_miss hlt (fun h => HC.out h.2))
          have HB := Lib.hid hb; clear hb
          go_wp2
          go_roundw
          case rel => exact ⟨k + 1, by omega, by go_num, by rw [HL.out], by rw [HL.out], hg⟩
          case measure => simp [intOf]; omega
      · have hb1 : ((s[k].toNat : Int) == 58) = false := byte_bne (n := 58) hb
        have HB := Lib.hid hb; clear hb
        have HL := Lib.hid (lastAt_miss hlt (fun h => HB.out h.1))
        go_wp2
        go_roundw
        case rel => exact ⟨k + 1, by omega, by go_num, by rw [HL.out], by rw [HL.out], hg⟩
        case measure => simp [intOf]; omega
    · have hk1 : k = s.size - 1 := by omega
      have HK : Hid (lastAt s k = lastSep s) := by rw [hk1]; rfl
      clear hk1
      generalize lastAt s k = j at *
      by_cases hf : fnd (textOf s j) = 0
      · have hv := Lib.hid (coded_zero hf HK.out)
        have hfv := found_at_zero hf
        clear hf
        go_wp2_with (go_at_call 11; refine (refFind_any _ _).mono ?_; rintro r w1 ⟨rfl, hg1⟩)
        go_ret3
        exact ⟨hv.out, grown_trans hg hg1⟩
      · have hv := Lib.hid (coded_pos hf HK.out)
        have hfv := found_at_pos hf
        clear hf
        go_wp2_with (go_at_call 11; refine (refFind_any _ _).mono ?_; rintro r w1 ⟨rfl, hg1⟩)
        go_ret3
        exact ⟨hv.out, grown_trans hg hg1⟩

theorem refCode_nil (w : World) :
    Calls Try.prog 15 #[.string ⟨#[]⟩] w fun r w' => r = .returned (.tuple #[.string ⟨#[]⟩, .int .i64 0, .bool false]) ∧ Grown w w' := by
  have hfv := found_at_zero (t := ⟨#[]⟩) (fnd_nil (by rw [ByteArray.toList_eq]; rfl))
  go_enter Try.func15, Try.ntmps15
  go_wp2
  refine wp_loop_rounds 1 ?_; rw [rounds_succ]
  go_wp2_with (go_at_call 11; refine (refFind_any _ _).mono ?_; rintro r w1 ⟨rfl, hg1⟩)
  go_ret3
  exact ⟨rfl, hg1⟩
end Go.Proofs.Ytofgignlbofmoaa
