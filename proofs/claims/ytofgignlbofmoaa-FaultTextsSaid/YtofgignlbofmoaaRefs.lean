/- The reference's table of texts, and contracts of the reference's Text and of both Find. -/
import Derived.Test.YtofgignlbofmoaaTexts
namespace Go.Proofs.Ytofgignlbofmoaa
open Go.RowKit

def rowB : Array Value := Array.ofFn (n := 60) fun i => .string (tx i.val)

theorem texts_any (w : World) :
    Calls Try.prog 18 #[] w fun r w' => r = .returned (.slice (some ⟨w.heap.size, 0, none⟩) 60 60) ∧ w.alloc (.cells rowB 9) = w' := by
  go_enter Try.func18, Try.ntmps18
  go_wp2
  go_ret
  exact ⟨rfl, rfl⟩

theorem rowB_at (i : Nat) (h : i < 60) : rowB[i]? = some (.string (tx i)) := by
  unfold rowB
  rw [Array.getElem?_ofFn, dif_pos h]

theorem cell_rowB (w : World) (i : Nat) (h : i < 60) : (w.alloc (.cells rowB 9)).cell? ⟨w.heap.size, i, none⟩ = some (.string (tx i)) := by
  have e1 : (w.alloc (.cells rowB 9)).heap[w.heap.size]? = some (.cells rowB 9) := by
    show (w.heap.push _)[w.heap.size]? = _
    simp
  simp only [World.cell?, e1]
  simpa using rowB_at i h

theorem refText_any (e : Int) (w : World) :
    Calls Try.prog 8 #[.int .i64 e] w fun r w' => r = .returned (.string (tx e.toNat)) ∧ Grown w w' := by
  by_cases h1 : e < 1
  · go_enter Try.func8, Try.ntmps8
    go_wp2
    go_ret
    exact ⟨ret_none (by omega), Grown.refl _⟩
  · by_cases h2 : 59 < e
    · go_enter Try.func8, Try.ntmps8
      go_wp2
      go_ret
      exact ⟨ret_none (by omega), Grown.refl _⟩
    · obtain ⟨k, rfl⟩ := Int.eq_ofNat_of_zero_le (by omega : 0 ≤ e)
      have hc := cell_rowB w k (by omega)
      have hk0 : (0:Int) ≤ (k:Int) := by omega
      have hk1 : (k:Int) < 60 := by omega
      go_enter Try.func8, Try.ntmps8
      go_wp2_with (go_at_call 18; refine (texts_any _).mono ?_; rintro r w' ⟨rfl, rfl⟩)
      go_ret
      exact ⟨rfl, (Grown.refl _).alloc _ _⟩
end Go.Proofs.Ytofgignlbofmoaa
