/- What is known of the package-level variables wherever a call is: variable 0 holds some int, variable 1 the powers of ten. -/
import Derived.WalkKit
import Derived.Lib.LaidTab
import Derived.Lib.ItoaNum
namespace Go.PS
open Go.RowKit

structure GI (_ : Program) (w : World) : Prop where
  max : ∃ n, w.cell? ⟨0, 0, none⟩ = some (.int .i64 n)
  pow : ∃ et fz, w.heap[1]? = some (.cells (Lib.pow10Tab.map fun z => Value.int .u64 z).toArray et fz)

theorem GI.below {P : Program} {w w' : World} (h : GI P w) (hb : Below w.heap.size w w') : GI P w' := by
  obtain ⟨⟨n, h1⟩, et, fz, h2⟩ := h
  have l2 : 1 < w.heap.size := by
    rcases Nat.lt_or_ge 1 w.heap.size with q | q
    · exact q
    · rw [Array.getElem?_eq_none q] at h2; cases h2
  refine ⟨⟨n, ?_⟩, et, fz, by rw [hb.block 1 l2]; exact h2⟩
  rw [← h1]
  unfold World.cell?
  simp only [hb.block 0 (by omega)]
end Go.PS
