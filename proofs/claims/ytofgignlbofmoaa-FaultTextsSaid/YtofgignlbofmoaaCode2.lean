/- Contract of the program's Code, and of awake. -/
import Derived.Test.YtofgignlbofmoaaCode
import Derived.Test.YtofgignlbofmoaaShelf
namespace Go.Proofs.Ytofgignlbofmoaa
open Go.RowKit

theorem lastIndex_eq (s : ByteArray) : Lib.lastIndex s.data.toList [58, 32] = lastSep s := by
  unfold Lib.lastIndex lastSep lastAt
  have hl : s.data.toList.length = s.size := by simp
  simp only [hl, List.length_cons, List.length_nil]
  by_cases h : 2 ≤ s.size
  · rw [if_pos (by omega)]; congr 1; omega
  · rw [if_neg (by omega)]
    have : s.size - 1 = 0 := by omega
    rw [this]; rfl

theorem lastSep_cases (s : ByteArray) : lastSep s = -1 ∨ ∃ i : Nat, i + 2 ≤ s.size ∧ lastSep s = i := by
  rcases Lib.lastOcc_spec s.data.toList [58, 32] (s.size - 1) with ⟨h, _⟩ | ⟨i, hi, h, _⟩
  · exact .inl h
  · exact .inr ⟨i, by omega, h⟩

theorem sep_call (s : ByteArray) (w : World) (hs : s.size ≤ 20000) :
    Calls Try.prog 19 #[.string s, .string ⟨#[58, 32]⟩] w fun e w' => e = .returned (.int .i64 (lastSep s)) ∧ w = w' := by
  refine (Try.strings_LastIndex s ⟨#[58, 32]⟩ (by omega) w).mono ?_
  rintro e w' ⟨rfl, rfl⟩
  exact ⟨by rw [← lastIndex_eq], rfl⟩

theorem sep_call_no (s : ByteArray) (w : World) (hs : s.size ≤ 20000) (h : lastSep s = -1) :
    Calls Try.prog 19 #[.string s, .string ⟨#[58, 32]⟩] w fun e w' => e = .returned (.int .i64 (-1)) ∧ w = w' := by
  have := sep_call s w hs
  rw [h] at this; exact this
theorem sep_call_yes (s : ByteArray) (i : Nat) (w : World) (hs : s.size ≤ 20000) (h : lastSep s = i) :
    Calls Try.prog 19 #[.string s, .string ⟨#[58, 32]⟩] w fun e w' => e = .returned (.int .i64 i) ∧ w = w' := by
  have := sep_call s w hs
  rw [h] at this; exact this

theorem code_any (s : ByteArray) (w : World) (hs : s.size ≤ 20000) :
    Calls Try.prog 14 #[.string s] w fun r w' => r = .returned (coded s (lastSep s)) ∧ Grown w w' := by
  rcases lastSep_cases s with h | ⟨i, hi, h⟩
  · have H := Lib.hid h
    by_cases hf : fnd (textOf s (-1)) = 0
    · have hv := Lib.hid (coded_zero hf h.symm)
      have hfv : found (fnd s) = .tuple #[.int .i64 0, .bool false] := found_at_zero hf
      clear hf h
      go_enter Try.func14, Try.ntmps14
      go_wp2_with (first | (go_at_call 19; refine (sep_call_no _ _ hs H.out).mono ?_; rintro r w1 ⟨rfl, rfl⟩) | (go_at_call 9; refine (find_any _ _).mono ?_; rintro r w1 ⟨rfl, rfl⟩))
      go_ret3
      exact ⟨hv.out, Grown.refl _⟩
    · have hv := Lib.hid (coded_pos hf h.symm)
      have hfv : found (fnd s) = .tuple #[.int .i64 (fnd s), .bool true] := found_at_pos hf
      clear hf h
      go_enter Try.func14, Try.ntmps14
      go_wp2_with (first | (go_at_call 19; refine (sep_call_no _ _ hs H.out).mono ?_; rintro r w1 ⟨rfl, rfl⟩) | (go_at_call 9; refine (find_any _ _).mono ?_; rintro r w1 ⟨rfl, rfl⟩))
      go_ret3
      exact ⟨hv.out, Grown.refl _⟩
  · have H := Lib.hid h
    by_cases hf : fnd (textOf s i) = 0
    · have hv := Lib.hid (coded_zero hf h.symm)
      have hfv := found_at_zero hf
      rw [textOf_nat] at hfv
      clear hf h
      go_enter Try.func14, Try.ntmps14
      go_wp2_with (go_at_call 19; refine (sep_call_yes _ _ _ hs H.out).mono ?_; rintro r w1 ⟨rfl, rfl⟩)
      go_region
      go_wp2_with (go_at_call 9; refine (find_any _ _).mono ?_; rintro r w1 ⟨rfl, rfl⟩)
      go_ret3
      exact ⟨hv.out, (Grown.refl _).drew⟩
    · have hv := Lib.hid (coded_pos hf h.symm)
      have hfv := found_at_pos hf
      rw [textOf_nat] at hfv hv
      rw [whatOf_nat] at hv
      clear hf h
      go_enter Try.func14, Try.ntmps14
      go_wp2_with (go_at_call 19; refine (sep_call_yes _ _ _ hs H.out).mono ?_; rintro r w1 ⟨rfl, rfl⟩)
      go_region
      go_wp2_with (go_at_call 9; refine (find_any _ _).mono ?_; rintro r w1 ⟨rfl, rfl⟩)
      go_ret3
      exact ⟨hv.out, (Grown.refl _).drew⟩

theorem refCode_all (s : ByteArray) (w : World) (hs : s.size ≤ 20000) :
    Calls Try.prog 15 #[.string s] w fun r w' => r = .returned (coded s (lastSep s)) ∧ Grown w w' := by
  by_cases h : 0 < s.size
  · exact refCode_any s w hs h
  · have e : s = ⟨#[]⟩ := by
      apply Go.WideShapes.bytes_inj
      have : s.data.toList.length = 0 := by show s.size = 0; omega
      exact List.eq_nil_of_length_eq_zero this
    subst e
    have ht : textOf ⟨#[]⟩ (-1) = ⟨#[]⟩ := rfl
    have hv : Ending.returned (.tuple #[.string ⟨#[]⟩, .int .i64 0, .bool false]) = .returned (coded ⟨#[]⟩ (lastSep ⟨#[]⟩)) :=
      coded_zero (s := ⟨#[]⟩) (j := -1) (by rw [ht]; exact fnd_nil (by rw [ByteArray.toList_eq]; rfl)) rfl
    rw [← hv]
    exact refCode_nil w
end Go.Proofs.Ytofgignlbofmoaa
