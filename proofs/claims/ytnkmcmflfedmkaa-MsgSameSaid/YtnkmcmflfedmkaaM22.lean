/- A message as a law's argument; small; put. -/
import Derived.Test.YtnkmcmflfedmkaaM20
import Derived.Test.YtnkmcmflfedmkaaU3
namespace Go.Proofs.Ytnkmcmflfedmkaa
open Go.PS Go.RowKit

theorem str_el {n : Nat} {x : List PV} (h : Sh P n 9 x) : isStr x = true ∧ (strOf x).size ≤ maxLen := by
  cases n with
  | zero => exact h.elim
  | succ n =>
    obtain ⟨s, rfl, hs⟩ := sh_string Try.underlying9 h
    exact ⟨rfl, hs⟩

theorem qid_el {n : Nat} {x : List PV} (h : Sh P n 30 x) : isQid x = true ∧ InR (qidOf x).ty := by
  have g0 := sh_cells h.succ.succ (show cellTys P (n + 1 + 1) 30 = some [.int .i64, .int .i64, .int .i64] by kernel_rfl)
  obtain ⟨_, _, rfl, ⟨a, rfl, wa⟩, g1⟩ := g0.inv
  obtain ⟨_, _, rfl, ⟨b, rfl, _⟩, g2⟩ := g1.inv
  obtain ⟨_, _, rfl, ⟨c, rfl, _⟩, g3⟩ := g2.inv
  obtain rfl := g3.nil
  exact ⟨rfl, wf_i64 wa⟩

theorem ro_qidF {w : World} {Sx : Nat → Prop} {es : List (List PV)} {v : Value} (h : ∀ x ∈ es, isQid x = true) (hr : RepS w Sx (.ro es) v) : RepS w Sx (qidF ⟨es.length, fun i => qidOf (es.getD i [])⟩) v :=
  ro_rf (fun i hi => by
    have : es.getD i [] = es[i] := by simp [List.getD, hi]
    show es.getD i [] = (qidOf (es.getD i [])).cells
    rw [this]
    exact qidOf_is (h _ (List.getElem_mem hi))) hr

theorem getD_all {es : List (List PV)} {q : List PV → Prop} (h : ∀ x ∈ es, q x) (i : Nat) (hi : i < es.length) : q (es.getD i []) := by
  have : es.getD i [] = es[i] := by simp [List.getD, hi]
  rw [this]
  exact h _ (List.getElem_mem hi)

theorem maxLen_le : maxLen ≤ 9223372036854775807 := by decide


/-- Whatever is read as a message is one. -/
theorem msg_of_sh {ps : List PV} (h : Sh P 6 35 ps) : ∃ m : Msg, MsgW m ∧ RLe (argPV P 35 ps) (.agg m.cells) := by
  have g0 := sh_cells h (show cellTys P 6 35 = some (.int .i64 :: .int .i64 :: .int .i64 :: .int .i64 :: .int .i64 :: .int .i64 :: .int .i64 :: .str :: .str :: .str :: .sl 9 :: .sl 30 :: .int .i64 :: .int .i64 :: .int .i64 :: .int .i64 :: .int .i64 :: .int .i64 :: .str :: .int .i64 :: .int .i64 :: .str :: .int .i64 :: .int .i64 :: .int .i64 :: .int .i64 :: .int .i64 :: .int .i64 :: .int .i64 :: .int .i64 :: .int .i64 :: .str :: .str :: .str :: .str :: .int .i64 :: .int .i64 :: .int .i64 :: .str :: []) by kernel_rfl)
  rw [arg_st (by kernel_rfl)]
  obtain ⟨_, _, rfl, ⟨x0, rfl, w0⟩, g1⟩ := g0.inv
  obtain ⟨_, _, rfl, ⟨x1, rfl, w1⟩, g2⟩ := g1.inv
  obtain ⟨_, _, rfl, ⟨x2, rfl, w2⟩, g3⟩ := g2.inv
  obtain ⟨_, _, rfl, ⟨x3, rfl, w3⟩, g4⟩ := g3.inv
  obtain ⟨_, _, rfl, ⟨x4, rfl, w4⟩, g5⟩ := g4.inv
  obtain ⟨_, _, rfl, ⟨x5, rfl, w5⟩, g6⟩ := g5.inv
  obtain ⟨_, _, rfl, ⟨x6, rfl, w6⟩, g7⟩ := g6.inv
  obtain ⟨_, _, rfl, ⟨x7, rfl, w7⟩, g8⟩ := g7.inv
  obtain ⟨_, _, rfl, ⟨x8, rfl, w8⟩, g9⟩ := g8.inv
  obtain ⟨_, _, rfl, ⟨x9, rfl, w9⟩, g10⟩ := g9.inv
  obtain ⟨_, _, rfl, ⟨x10, rfl, l10, k10, w10⟩, g11⟩ := g10.inv
  obtain ⟨_, _, rfl, ⟨x11, rfl, l11, k11, w11⟩, g12⟩ := g11.inv
  obtain ⟨_, _, rfl, ⟨x12, rfl, w12⟩, g13⟩ := g12.inv
  obtain ⟨_, _, rfl, ⟨x13, rfl, w13⟩, g14⟩ := g13.inv
  obtain ⟨_, _, rfl, ⟨x14, rfl, w14⟩, g15⟩ := g14.inv
  obtain ⟨_, _, rfl, ⟨x15, rfl, w15⟩, g16⟩ := g15.inv
  obtain ⟨_, _, rfl, ⟨x16, rfl, w16⟩, g17⟩ := g16.inv
  obtain ⟨_, _, rfl, ⟨x17, rfl, w17⟩, g18⟩ := g17.inv
  obtain ⟨_, _, rfl, ⟨x18, rfl, w18⟩, g19⟩ := g18.inv
  obtain ⟨_, _, rfl, ⟨x19, rfl, w19⟩, g20⟩ := g19.inv
  obtain ⟨_, _, rfl, ⟨x20, rfl, w20⟩, g21⟩ := g20.inv
  obtain ⟨_, _, rfl, ⟨x21, rfl, w21⟩, g22⟩ := g21.inv
  obtain ⟨_, _, rfl, ⟨x22, rfl, w22⟩, g23⟩ := g22.inv
  obtain ⟨_, _, rfl, ⟨x23, rfl, w23⟩, g24⟩ := g23.inv
  obtain ⟨_, _, rfl, ⟨x24, rfl, w24⟩, g25⟩ := g24.inv
  obtain ⟨_, _, rfl, ⟨x25, rfl, w25⟩, g26⟩ := g25.inv
  obtain ⟨_, _, rfl, ⟨x26, rfl, w26⟩, g27⟩ := g26.inv
  obtain ⟨_, _, rfl, ⟨x27, rfl, w27⟩, g28⟩ := g27.inv
  obtain ⟨_, _, rfl, ⟨x28, rfl, w28⟩, g29⟩ := g28.inv
  obtain ⟨_, _, rfl, ⟨x29, rfl, w29⟩, g30⟩ := g29.inv
  obtain ⟨_, _, rfl, ⟨x30, rfl, w30⟩, g31⟩ := g30.inv
  obtain ⟨_, _, rfl, ⟨x31, rfl, w31⟩, g32⟩ := g31.inv
  obtain ⟨_, _, rfl, ⟨x32, rfl, w32⟩, g33⟩ := g32.inv
  obtain ⟨_, _, rfl, ⟨x33, rfl, w33⟩, g34⟩ := g33.inv
  obtain ⟨_, _, rfl, ⟨x34, rfl, w34⟩, g35⟩ := g34.inv
  obtain ⟨_, _, rfl, ⟨x35, rfl, w35⟩, g36⟩ := g35.inv
  obtain ⟨_, _, rfl, ⟨x36, rfl, w36⟩, g37⟩ := g36.inv
  obtain ⟨_, _, rfl, ⟨x37, rfl, w37⟩, g38⟩ := g37.inv
  obtain ⟨_, _, rfl, ⟨x38, rfl, w38⟩, g39⟩ := g38.inv
  obtain rfl := g39.nil
  have ml := maxLen_le
  refine ⟨⟨x0, x1, x2, x3, x4, x5, x6, x7, x8, x9, ⟨x10.length, fun i => strOf (x10.getD i [])⟩, ⟨x11.length, fun i => qidOf (x11.getD i [])⟩, ⟨x12, x13, x14⟩, x15, x16, x17, x18, x19, x20, x21, ⟨x22, x23, ⟨x24, x25, x26⟩, x27, x28, x29, x30, x31, x32, x33, x34⟩, x35, x36, x37, x38⟩, ⟨wf_i64 w12, wf_i64 w24, wf_i64 w27, fun i hi => getD_all (fun x hx => (qid_el (w11 x hx)).2) i hi, Nat.le_trans l10 ml, Nat.le_trans l11 ml, fun i hi => Nat.le_trans (getD_all (q := fun x => (strOf x).size ≤ maxLen) (fun x hx => (str_el (w10 x hx)).2) i hi) ml, Nat.le_trans w18 ml, Nat.le_trans w31 ml⟩, fun w Sx v hr => ?_⟩
  exact agg_set (k := 11) rfl (fun v hv => ro_qidF (fun x hx => (qid_el (w11 x hx)).1) hv) (agg_set (k := 10) rfl (fun v hv => ro_strF (fun x hx => (str_el (w10 x hx)).1) hv) hr)
end Go.Proofs.Ytnkmcmflfedmkaa
