/- The arguments of a law, by their types. -/
import Derived.Test.YtldmgdphelgffaaDoorU1
namespace Go.PS
open Go.RowKit

theorem sh_int {P : Program} {n : Nat} {t : TypeId} {k : IntKind} {ps : List PV} (hu : P.underlying t = some (.int k)) (h : Sh P (n + 1) t ps) : ∃ i, ps = [.sc (.int k i)] ∧ (Lit.int k i).wf = true := by
  simpa only [Sh, hu] using h
theorem sh_string {P : Program} {n : Nat} {t : TypeId} {ps : List PV} (hu : P.underlying t = some .string) (h : Sh P (n + 1) t ps) : ∃ s, ps = [.sc (.string s)] ∧ s.size ≤ maxLen := by
  simpa only [Sh, hu] using h
theorem sh_bool {P : Program} {n : Nat} {t : TypeId} {ps : List PV} (hu : P.underlying t = some .bool) (h : Sh P (n + 1) t ps) : ∃ b, ps = [.sc (.bool b)] := by
  simpa only [Sh, hu] using h
theorem sh_slice {P : Program} {n : Nat} {t e : TypeId} {ps : List PV} (hu : P.underlying t = some (.slice e)) (h : Sh P (n + 1) t ps) : ∃ es : List (List PV), ps = [.ro es] ∧ es.length ≤ maxLen ∧ ∀ x ∈ es, Sh P n e x := by
  simpa only [Sh, hu] using h
theorem sh_struct {P : Program} {n : Nat} {t : TypeId} {fs : Array Field} {ps : List PV} (hu : P.underlying t = some (.struct fs)) (h : Sh P (n + 1) t ps) : ps.length = P.cellsOf t ∧ ∀ f ∈ fs.toList, Sh P n f.type ((ps.drop f.offset).take (P.cellsOf f.type)) := by
  simpa only [Sh, hu] using h

theorem arg_one {P : Program} {t : TypeId} {p : PV} (h : ∀ fs, P.underlying t ≠ some (.struct fs)) : argPV P t [p] = p := by
  unfold argPV
  split
  · rename_i fs hu; exact absurd hu (h fs)
  · rfl
theorem arg_agg {P : Program} {t : TypeId} {ps : List PV} {fs : Array Field} (h : P.underlying t = some (.struct fs)) : argPV P t ps = .agg ps := by
  unfold argPV
  rw [h]

/-- The call of a law whose contract is known. -/
theorem law_calls {P : Program} {f : FuncId} {ps : List PV} {vs : List Value} {W : World} (h : Ok P f ps (Bo true)) (hGI : GI P W) (hl : vs.length = ps.length) (hr : ∀ (i : Nat) p v, ps[i]? = some p → vs[i]? = some v → RepS W (fun b => b < W.heap.size) p v) :
    Calls P f vs.toArray W fun e W' => e = .returned (.bool true) ∧ Below W.heap.size W W' := by
  refine (h W (fun b => b < W.heap.size) vs hGI (fun _ h => h) hl hr).mono ?_
  rintro e W' ⟨v, rfl, bel, hrep⟩
  cases hrep
  exact ⟨rfl, bel⟩

theorem reps1 {W : World} {Sx : Nat → Prop} {p0 : PV} {v0 : Value} (h0 : RepS W Sx p0 v0) : ∀ (i : Nat) p v, [p0][i]? = some p → [v0][i]? = some v → RepS W Sx p v := by
  intro i p v q1 q2
  match i with
  | 0 => simp at q1 q2; subst q1; subst q2; exact h0
  | i + 1 => simp at q1
theorem reps2 {W : World} {Sx : Nat → Prop} {p0 p1 : PV} {v0 v1 : Value} (h0 : RepS W Sx p0 v0) (h1 : RepS W Sx p1 v1) : ∀ (i : Nat) p v, [p0, p1][i]? = some p → [v0, v1][i]? = some v → RepS W Sx p v := by
  intro i p v q1 q2
  match i with
  | 0 => simp at q1 q2; subst q1; subst q2; exact h0
  | 1 => simp at q1 q2; subst q1; subst q2; exact h1
  | i + 2 => simp at q1

theorem wf_i64 {i : Int} (h : (Lit.int .i64 i).wf = true) : -9223372036854775808 ≤ i ∧ i ≤ 9223372036854775807 := by
  simp only [Lit.wf, Bool.and_eq_true, decide_eq_true_eq] at h
  have e1 : IntKind.i64.min = -9223372036854775808 := by decide
  have e2 : IntKind.i64.max = 9223372036854775807 := by decide
  rw [e1, e2] at h
  exact h
end Go.PS
