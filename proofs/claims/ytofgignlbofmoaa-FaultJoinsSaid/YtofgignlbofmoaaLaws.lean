/- The walks of the four laws of package filespacelaw04. -/
import Derived.Test.YtofgignlbofmoaaAwake
namespace Go.Proofs.Ytofgignlbofmoaa
open Go.RowKit

/-! Plain facts on joined texts. -/
theorem occ_mem {l : List UInt8} {i : Nat} (h : Lib.occAt l [58, 32] i = true) : (58 : UInt8) ∈ l.drop i := by
  unfold Lib.occAt at h
  cases hd : l.drop i with
  | nil => rw [hd] at h; cases h
  | cons x xs =>
    rw [hd] at h
    simp only [List.isPrefixOf, Bool.and_eq_true, beq_iff_eq] at h
    rw [h.1]; exact List.mem_cons_self

theorem lastOcc_none {l : List UInt8} (h : (58 : UInt8) ∉ l) (k : Nat) : Lib.lastOcc l [58, 32] k = -1 := by
  rcases Lib.lastOcc_spec l [58, 32] k with ⟨e, _⟩ | ⟨i, _, _, hc, _⟩
  · exact e
  · exact absurd (List.mem_of_mem_drop (occ_mem hc)) h

theorem lastOcc_join (a b : List UInt8) (h : (58 : UInt8) ∉ b) : Lib.lastOcc (a ++ [58, 32] ++ b) [58, 32] (a.length + 1 + b.length) = a.length := by
  have h0 : Lib.occAt (a ++ [58, 32] ++ b) [58, 32] a.length = true := by
    unfold Lib.occAt
    simp
  have h1 : ∀ i, a.length < i → Lib.occAt (a ++ [58, 32] ++ b) [58, 32] i = false := by
    intro i hi
    cases hc : Lib.occAt (a ++ [58, 32] ++ b) [58, 32] i
    · rfl
    · have hm := occ_mem hc
      obtain ⟨j, rfl⟩ : ∃ j, i = a.length + (j + 1) := ⟨i - a.length - 1, by omega⟩
      rw [List.append_assoc, List.drop_append] at hm
      simp at hm
      rcases hm with hm | hm
      · rw [List.drop_eq_nil_of_le (by omega)] at hm
        exact absurd hm List.not_mem_nil
      · have := List.mem_of_mem_drop hm
        simp at this
        exact absurd this h
  rcases Lib.lastOcc_spec (a ++ [58, 32] ++ b) [58, 32] (a.length + 1 + b.length) with ⟨_, hn⟩ | ⟨i, hi, e, hc, hn⟩
  · have := hn a.length (by omega)
    rw [h0] at this; cases this
  · have : ¬ a.length < i := fun hlt => by have := h1 i hlt; rw [hc] at this; cases this
    have : ¬ i < a.length := fun hlt => by have := hn a.length hlt (by omega); rw [h0] at this; cases this
    rw [e]; congr 1; omega

theorem tx_colon_dec : ∀ i : Fin 60, ((tx i.val).data.toList.contains 58) = false := by decide +kernel
theorem tx_colon (n : Nat) : (58 : UInt8) ∉ (tx n).data.toList := by
  by_cases h : n < 60
  · have := tx_colon_dec ⟨n, h⟩
    simpa using this
  · rw [tx_none n (by omega)]; simp

theorem data_app (a b : ByteArray) : (a ++ b).data.toList = a.data.toList ++ b.data.toList := by simp
theorem size_list (a : ByteArray) : a.data.toList.length = a.size := rfl

theorem coded_at (s : ByteArray) (n : Nat) (h1 : 1 ≤ n) (h2 : n ≤ 59) :
    coded (atT s (tx n)) (lastSep (atT s (tx n))) = .tuple #[.string s, .int .i64 n, .bool true] := by
  have hne := tx_ne h1 h2
  have hf := fnd_tx h1 h2
  cases he : s.toList.isEmpty
  · have e1 : atT s (tx n) = s ++ ⟨#[58, 32]⟩ ++ tx n := by simp [atT, he, hne]
    rw [e1]
    have hl : lastSep (s ++ ⟨#[58, 32]⟩ ++ tx n) = s.size := by
      unfold lastSep lastAt
      have e2 : (s ++ ⟨#[58, 32]⟩ ++ tx n).data.toList = s.data.toList ++ [58, 32] ++ (tx n).data.toList := by rw [data_app, data_app]
      have e3 : (s ++ ⟨#[58, 32]⟩ ++ tx n).size - 1 = s.data.toList.length + 1 + (tx n).data.toList.length := by
        rw [← size_list, e2]; simp; omega
      rw [e2, e3, lastOcc_join _ _ (tx_colon n), size_list]
    have ht : textOf (s ++ ⟨#[58, 32]⟩ ++ tx n) s.size = tx n := by
      rw [textOf_nat]
      apply Go.WideShapes.bytes_inj
      rw [Lib.extract_data, data_app, data_app]
      have h3 : (s ++ ⟨#[58, 32]⟩ ++ tx n).size = s.size + 2 + (tx n).size := by
        rw [← size_list, data_app, data_app]; simp; omega
      rw [h3, List.drop_append, List.drop_eq_nil_of_le (by simp)]
      simp
      exact List.take_of_length_le (by simp)
    have hw : whatOf (s ++ ⟨#[58, 32]⟩ ++ tx n) s.size = s := by
      rw [whatOf_nat]
      apply Go.WideShapes.bytes_inj
      rw [Lib.extract_data, data_app, data_app]
      simp
    rw [hl]
    unfold coded
    rw [ht, hw, hf, if_neg (by omega)]
  · have e1 : atT s (tx n) = tx n := by simp [atT, he]
    rw [e1]
    have hl : lastSep (tx n) = -1 := lastOcc_none (tx_colon n) _
    rw [hl]
    unfold coded
    have ht : textOf (tx n) (-1) = tx n := rfl
    have hw : whatOf (tx n) (-1) = s := by rw [empty_of he]; rfl
    rw [ht, hw, hf, if_neg (by omega)]

theorem atT_size (s : ByteArray) (n : Nat) (hs : s.size ≤ 10000) : (atT s (tx n)).size ≤ 10042 := by
  have := tx_size n
  unfold atT
  split
  · omega
  · split
    · omega
    · rw [← size_list, data_app, data_app]
      simp
      omega

/-! The walks. -/
theorem text_none (e : Int) (w : World) (h : e < 1 ∨ 59 < e) : Calls Try.prog 7 #[.int .i64 e] w fun r w' => r = .returned (.string ⟨#[]⟩) ∧ w = w' := by
  rw [← tx_none e.toNat (by omega)]; exact text_any e w
theorem refText_none (e : Int) (w : World) (h : e < 1 ∨ 59 < e) : Calls Try.prog 8 #[.int .i64 e] w fun r w' => r = .returned (.string ⟨#[]⟩) ∧ Grown w w' := by
  rw [← tx_none e.toNat (by omega)]; exact refText_any e w

theorem walkTexts (e : Int) (w : World) : Calls Try.prog 3 #[.int .i64 e] w fun r w' => r = .returned (.bool true) ∧ Grown w w' := by
  by_cases h : e < 1 ∨ 59 < e
  · have H := Lib.hid h; clear h
    go_enter Try.func3, Try.ntmps3
    go_wp2_with fail
    refine (text_none _ _ H.out).mono ?_; rintro r w1 ⟨rfl, rfl⟩
    go_wp2_with fail
    refine (refText_none _ _ H.out).mono ?_; rintro r w1 ⟨rfl, hg⟩
    go_wp2_with fail
    refine (find_nil _).mono ?_; rintro r w2 ⟨rfl, rfl⟩
    go_wp2_with fail
    refine (awake_any _).mono ?_; rintro r w2 ⟨rfl, hg2⟩
    go_wp2_with fail
    go_ret
    exact ⟨rfl, grown_trans hg hg2⟩
  · obtain ⟨n, rfl⟩ := Int.eq_ofNat_of_zero_le (by omega : 0 ≤ e)
    have h1 : 1 ≤ n := by omega
    have h2 : n ≤ 59 := by omega
    have hne := tx_ne h1 h2
    clear h
    go_enter Try.func3, Try.ntmps3
    go_wp2_with fail
    refine (text_any _ _).mono ?_; rintro r w1 ⟨rfl, rfl⟩
    go_wp2_with fail
    refine (refText_any _ _).mono ?_; rintro r w1 ⟨rfl, hg⟩
    rw [Int.toNat_natCast]
    go_wp2_with fail
    refine (find_yes _ _ h1 h2).mono ?_; rintro r w2 ⟨rfl, rfl⟩
    go_wp2_with fail
    refine (awake_any _).mono ?_; rintro r w2 ⟨rfl, hg2⟩
    go_wp2_with fail
    go_ret
    exact ⟨rfl, grown_trans hg hg2⟩

theorem walkFinds (s : ByteArray) (w0 : s.size ≤ maxLen) (w : World) : Calls Try.prog 4 #[.string s] w fun r w' => r = .returned (.bool true) ∧ Grown w w' := by
  unfold maxLen at w0
  by_cases h : 10000 < s.size
  · go_enter Try.func4, Try.ntmps4
    go_wp2_with fail
    refine (awake_any _).mono ?_; rintro r w2 ⟨rfl, hg2⟩
    go_wp2_with fail
    go_ret
    exact ⟨rfl, hg2⟩
  · generalize hn : fnd s = n
    have H := Lib.hid hn; clear hn
    go_enter Try.func4, Try.ntmps4
    go_wp2_with fail
    refine (find_any _ _).mono ?_; rintro r w1 ⟨rfl, rfl⟩
    rw [H.out, found]
    go_wp2_with fail
    refine (refFind_any _ _).mono ?_; rintro r w1 ⟨rfl, hg⟩
    rw [H.out, found]
    go_wp2_with fail
    refine (awake_any _).mono ?_; rintro r w2 ⟨rfl, hg2⟩
    go_wp2_with fail
    go_ret
    exact ⟨rfl, grown_trans hg hg2⟩

theorem walkCodes (s : ByteArray) (w0 : s.size ≤ maxLen) (w : World) : Calls Try.prog 6 #[.string s] w fun r w' => r = .returned (.bool true) ∧ Grown w w' := by
  unfold maxLen at w0
  by_cases h : 10000 < s.size
  · go_enter Try.func6, Try.ntmps6
    go_wp2_with fail
    refine (awake_any _).mono ?_; rintro r w2 ⟨rfl, hg2⟩
    go_wp2_with fail
    go_ret
    exact ⟨rfl, hg2⟩
  · obtain ⟨v, n, b, hv⟩ : ∃ v n b, coded s (lastSep s) = .tuple #[.string v, .int .i64 n, .bool b] := by
      unfold coded; split <;> exact ⟨_, _, _, rfl⟩
    have H := Lib.hid hv; clear hv
    go_enter Try.func6, Try.ntmps6
    go_wp2_with fail
    refine (code_any _ _ (by omega)).mono ?_; rintro r w1 ⟨rfl, hg⟩
    rw [H.out]
    go_wp2_with fail
    refine (refCode_all _ _ (by omega)).mono ?_; rintro r w2 ⟨rfl, hg1⟩
    rw [H.out]
    go_wp2_with fail
    refine (awake_any _).mono ?_; rintro r w2 ⟨rfl, hg2⟩
    go_wp2_with fail
    go_ret
    exact ⟨rfl, grown_trans (grown_trans hg hg1) hg2⟩

theorem walkJoins (s : ByteArray) (e : Int) (w0 : s.size ≤ maxLen) (w : World) : Calls Try.prog 5 #[.string s, .int .i64 e] w fun r w' => r = .returned (.bool true) ∧ Grown w w' := by
  unfold maxLen at w0
  by_cases h : 10000 < s.size
  · go_enter Try.func5, Try.ntmps5
    go_wp2_with fail
    refine (awake_any _).mono ?_; rintro r w2 ⟨rfl, hg2⟩
    go_wp2_with fail
    go_ret
    exact ⟨rfl, hg2⟩
  · by_cases h0 : e < 1 ∨ 59 < e
    · have H := Lib.hid h0; clear h0
      go_enter Try.func5, Try.ntmps5
      go_wp2_with fail
      refine (at_any _ _ _ (by omega)).mono ?_; rintro r w1 ⟨rfl, rfl⟩
      go_wp2_with fail
      refine (refAt_any _ _ _ (by omega)).mono ?_; rintro r w1 ⟨rfl, hg⟩
      go_wp2_with fail
      refine (refText_none _ _ H.out).mono ?_; rintro r w2 ⟨rfl, hg1⟩
      go_wp2_with fail
      refine (awake_any _).mono ?_; rintro r w3 ⟨rfl, hg2⟩
      go_wp2_with fail
      go_ret
      exact ⟨rfl, grown_trans (grown_trans hg hg1) hg2⟩
    · obtain ⟨n, rfl⟩ := Int.eq_ofNat_of_zero_le (by omega : 0 ≤ e)
      have h1 : 1 ≤ n := by omega
      have h2 : n ≤ 59 := by omega
      have hne := tx_ne h1 h2
      have hz := atT_size s n (by omega)
      have H := Lib.hid (coded_at s n h1 h2)
      clear h0
      go_enter Try.func5, Try.ntmps5
      go_wp2_with fail
      refine (at_any _ _ _ (by omega)).mono ?_; rintro r w1 ⟨rfl, rfl⟩
      rw [Int.toNat_natCast]
      go_wp2_with fail
      refine (refAt_any _ _ _ (by omega)).mono ?_; rintro r w1 ⟨rfl, hg⟩
      rw [Int.toNat_natCast]
      go_wp2_with fail
      refine (refText_any _ _).mono ?_; rintro r w2 ⟨rfl, hg1⟩
      rw [Int.toNat_natCast]
      go_wp2_with fail
      refine (code_any _ _ (by omega)).mono ?_; rintro r w3 ⟨rfl, hg2⟩
      rw [H.out]
      go_wp2_with fail
      refine (awake_any _).mono ?_; rintro r w4 ⟨rfl, hg3⟩
      go_wp2_with fail
      go_ret
      exact ⟨rfl, grown_trans (grown_trans (grown_trans hg hg1) hg2) hg3⟩
end Go.Proofs.Ytofgignlbofmoaa
