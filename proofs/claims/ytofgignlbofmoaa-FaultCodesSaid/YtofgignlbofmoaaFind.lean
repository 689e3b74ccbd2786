/- Contracts of both Find. -/
import Derived.Test.YtofgignlbofmoaaRefs
namespace Go.Proofs.Ytofgignlbofmoaa
open Go.RowKit

theorem str_ne {a b : ByteArray} (h : a ≠ b) : (a.toList == b.toList) = false := by
  rw [beq_eq_false_iff_ne, ByteArray.toList_eq, ByteArray.toList_eq]
  exact fun e => h (Go.WideShapes.bytes_inj e)

theorem str_eq {a b : ByteArray} (h : (a.toList == b.toList) = true) : a = b := by
  rw [beq_iff_eq, ByteArray.toList_eq, ByteArray.toList_eq] at h
  exact Go.WideShapes.bytes_inj h

theorem tx_inj_dec : ∀ i : Fin 60, ∀ j : Fin 60, 1 ≤ i.val → 1 ≤ j.val → (tx i.val).data.toList = (tx j.val).data.toList → i = j := by decide +kernel

theorem tx_inj {i j : Nat} (hi : 1 ≤ i) (hi' : i ≤ 59) (hj : 1 ≤ j) (hj' : j ≤ 59) (h : tx i = tx j) : i = j := by
  have := tx_inj_dec ⟨i, by omega⟩ ⟨j, by omega⟩ hi hj (by simp only [h])
  simpa using this

theorem tx_ne_dec : ∀ i : Fin 60, 1 ≤ i.val → (tx i.val).data.toList ≠ [] := by decide +kernel

theorem tx_ne {i : Nat} (hi : 1 ≤ i) (hi' : i ≤ 59) : (tx i).toList.isEmpty = false := by
  have := tx_ne_dec ⟨i, by omega⟩ hi
  rw [ByteArray.toList_eq]
  simpa using this

theorem find_nil (w : World) :
    Calls Try.prog 9 #[.string ⟨#[]⟩] w fun r w' => r = .returned (.tuple #[.int .i64 0, .bool false]) ∧ w = w' := by
  go_enter Try.func9, Try.ntmps9
  go_wp2
  go_ret2
  exact ⟨rfl, rfl⟩

theorem find_no (s : ByteArray) (w : World) (h0 : s.toList.isEmpty = false) (h : Hid (∀ i, 1 ≤ i → i ≤ 59 → tx i ≠ s)) :
    Calls Try.prog 9 #[.string s] w fun r w' => r = .returned (.tuple #[.int .i64 0, .bool false]) ∧ w = w' := by
  go_enter Try.func9, Try.ntmps9
  go_wp2
  go_loop [4] (fun e => ∃ k : Nat, 1 ≤ k ∧ k ≤ 60 ∧ e = .int .i64 k) (fun e => 60 - (intOf e).toNat)
  case atStart => exact ⟨1, by omega, by omega, rfl⟩
  case round =>
    obtain ⟨k, hk1, hk2, rfl⟩ := hrel
    by_cases hlt : k ≤ 59
    · have hne : ((tx k).toList == s.toList) = false := str_ne (h.out k hk1 hlt)
      go_wp2_with (go_at_call 7; refine (text_any _ _).mono ?_; rintro r w' ⟨rfl, rfl⟩)
      go_round
      case rel => exact ⟨k + 1, by omega, by omega, by go_num⟩
      case measure => simp [intOf]; omega
    · go_wp2
      go_ret2
      exact ⟨rfl, rfl⟩

theorem find_yes (i : Nat) (w : World) (h1 : 1 ≤ i) (h2 : i ≤ 59) :
    Calls Try.prog 9 #[.string (tx i)] w fun r w' => r = .returned (.tuple #[.int .i64 i, .bool true]) ∧ w = w' := by
  have h0 := tx_ne h1 h2
  go_enter Try.func9, Try.ntmps9
  go_wp2
  go_loop [4] (fun e => ∃ k : Nat, 1 ≤ k ∧ k ≤ i ∧ e = .int .i64 k) (fun e => 60 - (intOf e).toNat)
  case atStart => exact ⟨1, by omega, by omega, rfl⟩
  case round =>
    obtain ⟨k, hk1, hk2, rfl⟩ := hrel
    by_cases hlt : k = i
    · subst hlt
      go_wp2_with (go_at_call 7; refine (text_any _ _).mono ?_; rintro r w' ⟨rfl, rfl⟩)
      go_ret2
      exact ⟨rfl, rfl⟩
    · have hne : ((tx k).toList == (tx i).toList) = false := str_ne fun e => hlt (tx_inj hk1 (by omega) h1 h2 e)
      have hle : (k : Int) ≤ 59 := by omega
      go_wp2_with (go_at_call 7; refine (text_any _ _).mono ?_; rintro r w' ⟨rfl, rfl⟩)
      go_round
      case rel => exact ⟨k + 1, by omega, by omega, by go_num⟩
      case measure => simp [intOf]; omega

theorem refFind_no (s : ByteArray) (w : World) (h : Hid (∀ i, 1 ≤ i → i ≤ 59 → tx i ≠ s)) :
    Calls Try.prog 11 #[.string s] w fun r w' => r = .returned (.tuple #[.int .i64 0, .bool false]) ∧ Grown w w' := by
  go_enter Try.func11, Try.ntmps11
  go_wp2_with (go_at_call 18; refine (texts_any _).mono ?_; rintro r w' ⟨rfl, rfl⟩)
  go_loop [5] (fun e => ∃ k : Nat, 1 ≤ k ∧ k ≤ 60 ∧ e = .int .i64 k) (fun e => 60 - (intOf e).toNat)
  case atStart => exact ⟨1, by omega, by omega, rfl⟩
  case round =>
    obtain ⟨k, hk1, hk2, rfl⟩ := hrel
    by_cases hlt : k < 60
    · have hne : ((tx k).toList == s.toList) = false := str_ne (h.out k hk1 (by omega))
      have hc := cell_rowB w k (by omega)
      go_wp2
      go_round
      case rel => exact ⟨k + 1, by omega, by omega, by go_num⟩
      case measure => simp [intOf]; omega
    · go_wp2
      go_ret2
      exact ⟨rfl, (Grown.refl _).alloc _ _⟩

theorem refFind_yes (i : Nat) (w : World) (h1 : 1 ≤ i) (h2 : i ≤ 59) :
    Calls Try.prog 11 #[.string (tx i)] w fun r w' => r = .returned (.tuple #[.int .i64 i, .bool true]) ∧ Grown w w' := by
  go_enter Try.func11, Try.ntmps11
  go_wp2_with (go_at_call 18; refine (texts_any _).mono ?_; rintro r w' ⟨rfl, rfl⟩)
  go_loop [5] (fun e => ∃ k : Nat, 1 ≤ k ∧ k ≤ i ∧ e = .int .i64 k) (fun e => 60 - (intOf e).toNat)
  case atStart => exact ⟨1, by omega, by omega, rfl⟩
  case round =>
    obtain ⟨k, hk1, hk2, rfl⟩ := hrel
    have hc := cell_rowB w k (by omega)
    have hlt' : (k : Int) < 60 := by omega
    by_cases hlt : k = i
    · subst hlt
      go_wp2
      go_ret2
      exact ⟨rfl, (Grown.refl _).alloc _ _⟩
    · have hne : ((tx k).toList == (tx i).toList) = false := str_ne fun e => hlt (tx_inj hk1 (by omega) h1 h2 e)
      go_wp2
      go_round
      case rel => exact ⟨k + 1, by omega, by omega, by go_num⟩
      case measure => simp [intOf]; omega
end Go.Proofs.Ytofgignlbofmoaa
