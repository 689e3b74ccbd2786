/- Contracts of both At. -/
import Derived.Test.YtofgignlbofmoaaFind
namespace Go.Proofs.Ytofgignlbofmoaa
open Go.RowKit

def atT (what t : ByteArray) : ByteArray := if what.toList.isEmpty then t else if t.toList.isEmpty then what else what ++ ⟨#[58, 32]⟩ ++ t

theorem tx_size_dec : ∀ i : Fin 60, (tx i.val).size ≤ 40 := by decide +kernel
theorem tx_size (n : Nat) : (tx n).size ≤ 40 := by
  by_cases h : n < 60
  · exact tx_size_dec ⟨n, h⟩
  · rw [tx_none n (by omega)]; decide

theorem empty_of {s : ByteArray} (h : s.toList.isEmpty = true) : s = ⟨#[]⟩ := by
  apply Go.WideShapes.bytes_inj
  rw [ByteArray.toList_eq] at h
  simpa using h

theorem atT_yy {s t : ByteArray} (h : s.toList.isEmpty = true) : Ending.returned (.string t) = .returned (.string (atT s t)) := by
  simp [atT, h]
theorem atT_ny {s t : ByteArray} (h : s.toList.isEmpty = false) (h' : t.toList.isEmpty = true) : Ending.returned (.string s) = .returned (.string (atT s t)) := by
  simp [atT, h, h']
theorem atT_nn {s t : ByteArray} (h : s.toList.isEmpty = false) (h' : t.toList.isEmpty = false) : Ending.returned (.string (s ++ ⟨#[58, 32]⟩ ++ t)) = .returned (.string (atT s t)) := by
  simp [atT, h, h']
theorem app_y {s t : ByteArray} (h : s.toList.isEmpty = true) : Ending.returned (.string (s ++ t)) = .returned (.string (atT s t)) := by
  rw [← atT_yy h, empty_of h]
  have : (⟨#[]⟩ : ByteArray) ++ t = t := by apply Go.WideShapes.bytes_inj; simp
  rw [this]
theorem app_ny {s t : ByteArray} (h : s.toList.isEmpty = false) (h' : t.toList.isEmpty = true) : Ending.returned (.string (s ++ t)) = .returned (.string (atT s t)) := by
  rw [← atT_ny h h', empty_of h']
  have : s ++ (⟨#[]⟩ : ByteArray) = s := by apply Go.WideShapes.bytes_inj; simp
  rw [this]

theorem at_any (s : ByteArray) (e : Int) (w : World) (hs : s.size ≤ 10000) :
    Calls Try.prog 12 #[.string s, .int .i64 e] w fun r w' => r = .returned (.string (atT s (tx e.toNat))) ∧ w = w' := by
  have ht := tx_size e.toNat
  cases h0 : s.toList.isEmpty
  · cases h1 : (tx e.toNat).toList.isEmpty
    · go_enter Try.func12, Try.ntmps12
      go_wp2_with (go_at_call 7; refine (text_any _ _).mono ?_; rintro r w' ⟨rfl, rfl⟩)
      go_ret
      exact ⟨atT_nn h0 h1, rfl⟩
    · go_enter Try.func12, Try.ntmps12
      go_wp2_with (go_at_call 7; refine (text_any _ _).mono ?_; rintro r w' ⟨rfl, rfl⟩)
      go_ret
      exact ⟨atT_ny h0 h1, rfl⟩
  · go_enter Try.func12, Try.ntmps12
    go_wp2_with (go_at_call 7; refine (text_any _ _).mono ?_; rintro r w' ⟨rfl, rfl⟩)
    go_ret
    exact ⟨atT_yy h0, rfl⟩

theorem refAt_any (s : ByteArray) (e : Int) (w : World) (hs : s.size ≤ 10000) :
    Calls Try.prog 13 #[.string s, .int .i64 e] w fun r w' => r = .returned (.string (atT s (tx e.toNat))) ∧ Grown w w' := by
  have ht := tx_size e.toNat
  cases h0 : s.toList.isEmpty
  · cases h1 : (tx e.toNat).toList.isEmpty
    · go_enter Try.func13, Try.ntmps13
      go_wp2_with (go_at_call 8; refine (refText_any _ _).mono ?_; rintro r w' ⟨rfl, hg⟩)
      go_ret
      exact ⟨atT_nn h0 h1, hg⟩
    · go_enter Try.func13, Try.ntmps13
      go_wp2_with (go_at_call 8; refine (refText_any _ _).mono ?_; rintro r w' ⟨rfl, hg⟩)
      go_ret
      exact ⟨app_ny h0 h1, hg⟩
  · go_enter Try.func13, Try.ntmps13
    go_wp2_with (go_at_call 8; refine (refText_any _ _).mono ?_; rintro r w' ⟨rfl, hg⟩)
    go_ret
    exact ⟨app_y h0, hg⟩
end Go.Proofs.Ytofgignlbofmoaa
