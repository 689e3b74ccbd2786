/- Contract of awake: the fixed examples hold. -/
import Derived.Test.YtofgignlbofmoaaCode2
namespace Go.Proofs.Ytofgignlbofmoaa
open Go.RowKit

theorem ex_code : coded ⟨#[97, 58, 32, 98, 58, 32, 113, 117, 111, 116, 97, 32, 101, 120, 99, 101, 101, 100, 101, 100]⟩ (lastSep ⟨#[97, 58, 32, 98, 58, 32, 113, 117, 111, 116, 97, 32, 101, 120, 99, 101, 101, 100, 101, 100]⟩) = .tuple #[.string ⟨#[97, 58, 32, 98]⟩, .int .i64 21, .bool true] := by kernel_rfl
theorem ex_find : found (fnd ⟨#[112, 101, 114, 109, 105, 115, 115, 105, 111, 110, 32, 100, 101, 110, 105, 101, 100]⟩) = .tuple #[.int .i64 11, .bool true] := by kernel_rfl
theorem ex_none : found (fnd ⟨#[]⟩) = .tuple #[.int .i64 0, .bool false] := by kernel_rfl
theorem ex_at : atT ⟨#[47, 97]⟩ (tx 8) = ⟨#[47, 97, 58, 32, 102, 105, 108, 101, 32, 100, 111, 101, 115, 32, 110, 111, 116, 32, 101, 120, 105, 115, 116]⟩ := by kernel_rfl

theorem ex_code_call (w : World) : Calls Try.prog 14 #[.string ⟨#[97, 58, 32, 98, 58, 32, 113, 117, 111, 116, 97, 32, 101, 120, 99, 101, 101, 100, 101, 100]⟩] w fun r w' => r = .returned (.tuple #[.string ⟨#[97, 58, 32, 98]⟩, .int .i64 21, .bool true]) ∧ Grown w w' := by
  rw [← ex_code]; exact code_any _ w (by decide)
theorem ex_find_call (w : World) : Calls Try.prog 9 #[.string ⟨#[112, 101, 114, 109, 105, 115, 115, 105, 111, 110, 32, 100, 101, 110, 105, 101, 100]⟩] w fun r w' => r = .returned (.tuple #[.int .i64 11, .bool true]) ∧ w = w' := by
  rw [← ex_find]; exact find_any _ w
theorem ex_at_call (w : World) : Calls Try.prog 12 #[.string ⟨#[47, 97]⟩, .int .i64 8] w fun r w' => r = .returned (.string ⟨#[47, 97, 58, 32, 102, 105, 108, 101, 32, 100, 111, 101, 115, 32, 110, 111, 116, 32, 101, 120, 105, 115, 116]⟩) ∧ w = w' := by
  rw [← ex_at]; exact at_any _ 8 w (by decide)
theorem ex_text_call (w : World) : Calls Try.prog 7 #[.int .i64 13] w fun r w' => r = .returned (.string ⟨#[117, 110, 107, 110, 111, 119, 110, 32, 102, 105, 100]⟩) ∧ w = w' := text_any 13 w

theorem awake_any (w : World) : Calls Try.prog 10 #[] w fun r w' => r = .returned (.bool true) ∧ Grown w w' := by
  go_enter Try.func10, Try.ntmps10
  go_wp2_with fail
  refine (ex_code_call _).mono ?_; rintro r w1 ⟨rfl, hg⟩
  go_wp2_with fail
  refine (ex_find_call _).mono ?_; rintro r w2 ⟨rfl, rfl⟩
  go_wp2_with fail
  refine (find_nil _).mono ?_; rintro r w2 ⟨rfl, rfl⟩
  go_wp2_with fail
  refine (ex_at_call _).mono ?_; rintro r w2 ⟨rfl, rfl⟩
  go_wp2_with fail
  refine (ex_text_call _).mono ?_; rintro r w2 ⟨rfl, rfl⟩
  go_wp2_with fail
  go_ret
  exact ⟨rfl, hg⟩
end Go.Proofs.Ytofgignlbofmoaa
