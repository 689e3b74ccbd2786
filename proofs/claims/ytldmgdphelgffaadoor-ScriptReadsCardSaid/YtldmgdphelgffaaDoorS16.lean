/- Contracts of chapter 53: the laws on lines. -/
import Derived.Test.YtldmgdphelgffaaDoorS15
import Derived.Test.YtldmgdphelgffaaDoorU3
namespace Go.Proofs.YtldmgdphelgffaaDoor
open Go.PS

theorem awake53_ok : Ok P 7 [] (Bo true) := by
  refine fn_tr Eh_ok L0 Tryd.func7 ((.say .conc (
    .say .conc (
    .say .conc (
    .say .conc (
    .say .conc (
    .leaf (Bo true) [6 ≤ 70000, InR 2, InR 0, 11 ≤ 9223372036854775807, 7 ≤ 9223372036854775807, 3 ≤ 70000, 0 ≤ 70000, InR 0]))))))) (by kernel_rfl) ?_
  simp only [Tr.All, AllP]
  repeat' with_reducible first | intro _ | refine And.intro ?_ ?_
  all_goals first | trivial | omega | rfl | (first | decide | exact ⟨by decide, by decide⟩ | (show _ ≤ _; decide))
def d7 : List PV → Option (PV × List Prop)
  | [] => some (Bo true, [])
  | _ => none
def Ei : Env := addE 7 d7 Eh
theorem Ei_ok : EnvOk P Ei := addE_ok Eh_ok (fun l r ob h ho => by unfold d7 at h; split at h <;> cases h; exact awake53_ok)

theorem maxLen_le : maxLen ≤ 9223372036854775807 := by decide
theorem line_size {e : Ev} (h : lineOk e = true) : (lineT e).length ≤ 65536 := by
  unfold lineOk at h
  rw [Bool.and_eq_true, decide_eq_true_eq] at h
  exact h.2
theorem lineB_size (e : Ev) : (if lineOk e = true then B (lineT e) else (⟨#[]⟩ : ByteArray)).size ≤ 65536 := by
  split
  · rename_i h; rw [B_size]; exact line_size h
  · exact Nat.zero_le _
theorem parse_line {e : Ev} (h : lineOk e = true) : parseS (B (lineT e)) = (e, 0) := by
  unfold parseS isLine
  rw [(read_line e h).1, h, if_neg (by rw [B_size]; have := line_size h; omega), decide_eq_true rfl, Bool.and_true, if_pos rfl]

theorem lines3_ok (e : Ev) (ht : e.text.size ≤ 9223372036854775807) (ha : InR e.a) (hb : InR e.b) : Ok P 3 [.agg e.cells] (Bo true) := by
  refine fn_tr Ei_ok L0 Tryd.func3 ((.node (decide ((↑e.text.size : Int) > 70000)) (
     .leaf (Bo true) []) (
     .node (!eqS (if lineOk e = true then B (lineT e) else (⟨#[]⟩ : ByteArray)) (if lineOk e = true then B (lineT e) else (⟨#[]⟩ : ByteArray))) (
      .leaf (Bo false) [e.text.size ≤ 70000, InR e.a, InR e.b, e.text.size ≤ 70000, InR e.a, InR e.b]) (
      .node ((if lineOk e = true then 0 else 1 : Int) != if lineOk e = true then 0 else 1) (
       .leaf (Bo false) [e.text.size ≤ 70000, InR e.a, InR e.b, e.text.size ≤ 70000, InR e.a, InR e.b]) (
       .node ((if lineOk e = true then 0 else 1 : Int) != 0) (
        .leaf (Bo true) [e.text.size ≤ 70000, InR e.a, InR e.b, e.text.size ≤ 70000, InR e.a, InR e.b]) (
        .node ((parseS (if lineOk e = true then B (lineT e) else (⟨#[]⟩ : ByteArray))).fst.kind == e.kind && ((parseS (if lineOk e = true then B (lineT e) else (⟨#[]⟩ : ByteArray))).fst.a == e.a && ((parseS (if lineOk e = true then B (lineT e) else (⟨#[]⟩ : ByteArray))).fst.b == e.b && (eqS (parseS (if lineOk e = true then B (lineT e) else (⟨#[]⟩ : ByteArray))).fst.text e.text && true)))) (
         .node (((parseS (if lineOk e = true then B (lineT e) else (⟨#[]⟩ : ByteArray))).snd : Int) == 0) (
          .leaf (Bo true) [e.text.size ≤ 70000, InR e.a, InR e.b, e.text.size ≤ 70000, InR e.a, InR e.b, (if lineOk e = true then B (lineT e) else (⟨#[]⟩ : ByteArray)).size ≤ 9223372036854775807]) (
          .leaf (Bo false) [e.text.size ≤ 70000, InR e.a, InR e.b, e.text.size ≤ 70000, InR e.a, InR e.b, (if lineOk e = true then B (lineT e) else (⟨#[]⟩ : ByteArray)).size ≤ 9223372036854775807])) (
         .leaf (Bo false) [e.text.size ≤ 70000, InR e.a, InR e.b, e.text.size ≤ 70000, InR e.a, InR e.b, (if lineOk e = true then B (lineT e) else (⟨#[]⟩ : ByteArray)).size ≤ 9223372036854775807]))))))) (by kernel_rfl) ?_
  have hs := lineB_size e
  have hp : lineOk e = true → parseS (B (lineT e)) = (e, 0) := parse_line
  cases hl : lineOk e with
  | false =>
    simp only [hl, if_false, Bool.false_eq_true] at *
    simp only [Tr.All, AllP, decide_eq_true_eq, decide_eq_false_iff_not, beq_iff_eq, beq_eq_false_iff_ne, bne_iff_ne, bne_eq_false_iff_eq, Bool.not_eq_true', Bool.not_eq_false', eqS_decide]
    repeat' with_reducible first | intro _ | refine And.intro ?_ ?_
    all_goals first | trivial | omega | rfl | (first | assumption | omega | simp_all)
  | true =>
    have hp := parse_line hl
    simp only [hl, if_true, hp] at *
    simp only [Tr.All, AllP, decide_eq_true_eq, decide_eq_false_iff_not, beq_iff_eq, beq_eq_false_iff_ne, bne_iff_ne, bne_eq_false_iff_eq, Bool.not_eq_true', Bool.not_eq_false', eqS_decide]
    repeat' with_reducible first | intro _ | refine And.intro ?_ ?_
    all_goals first | trivial | omega | rfl | (first | assumption | omega | simp_all)

theorem parses4_ok (s : ByteArray) (hs : s.size ≤ 9223372036854775807) : Ok P 4 [S s] (Bo true) := by
  refine fn_tr Ei_ok L0 Tryd.func4 ((.node (decide ((↑s.size : Int) > 70000)) (
     .leaf (Bo true) []) (
     .node ((parseS s).fst.kind == (parseS s).fst.kind && ((parseS s).fst.a == (parseS s).fst.a && ((parseS s).fst.b == (parseS s).fst.b && (eqS (parseS s).fst.text (parseS s).fst.text && true)))) (
      .node (((parseS s).snd : Int) == (parseS s).snd) (
       .leaf (Bo true) [s.size ≤ 9223372036854775807, s.size ≤ 9223372036854775807]) (
       .leaf (Bo false) [s.size ≤ 9223372036854775807, s.size ≤ 9223372036854775807])) (
      .leaf (Bo false) [s.size ≤ 9223372036854775807, s.size ≤ 9223372036854775807])))) (by kernel_rfl) ?_
  simp only [Tr.All, AllP, decide_eq_true_eq, decide_eq_false_iff_not, beq_iff_eq, beq_eq_false_iff_ne, eqS_decide]
  repeat' with_reducible first | intro _ | refine And.intro ?_ ?_
  all_goals first | trivial | omega | rfl | assumption | simp_all
theorem tells5_ok (t : Told) (hr : InR t.err) : Ok P 5 [.agg t.cells] (Bo true) := by
  refine fn_tr Ei_ok L0 Tryd.func5 ((.node (decide ((↑t.out.size : Int) > 70000)) (
     .leaf (Bo true) []) (
     .node (decide ((↑t.status.size : Int) > 70000)) (
      .leaf (Bo true) []) (
      .node (eqS (B (tellT t)) (B (tellT t))) (
       .leaf (Bo true) [t.out.size ≤ 70000, t.status.size ≤ 70000, InR t.err, t.out.size ≤ 70000, t.status.size ≤ 70000, InR t.err]) (
       .leaf (Bo false) [t.out.size ≤ 70000, t.status.size ≤ 70000, InR t.err, t.out.size ≤ 70000, t.status.size ≤ 70000, InR t.err]))))) (by kernel_rfl) ?_
  simp only [Tr.All, AllP, decide_eq_true_eq, decide_eq_false_iff_not, eqS_decide]
  repeat' with_reducible first | intro _ | refine And.intro ?_ ?_
  all_goals first | trivial | omega | rfl | (first | assumption | omega | simp_all)

theorem ev_of_sh {ps : List PV} (h : Sh P 6 23 ps) : ∃ e : Ev, (e.text.size ≤ 9223372036854775807 ∧ InR e.a ∧ InR e.b) ∧ argPV P 23 ps = .agg e.cells := by
  have g0 := sh_cells h (show cellTys P 6 23 = some [.int .i64, .int .i64, .int .i64, .str] by kernel_rfl)
  rw [arg_st (by kernel_rfl)]
  obtain ⟨_, _, rfl, ⟨x0, rfl, w0⟩, g1⟩ := g0.inv
  obtain ⟨_, _, rfl, ⟨x1, rfl, w1⟩, g2⟩ := g1.inv
  obtain ⟨_, _, rfl, ⟨x2, rfl, w2⟩, g3⟩ := g2.inv
  obtain ⟨_, _, rfl, ⟨x3, rfl, w3⟩, g4⟩ := g3.inv
  obtain rfl := g4.nil
  exact ⟨⟨x0, x1, x2, x3⟩, ⟨Nat.le_trans w3 maxLen_le, wf_i64 w1, wf_i64 w2⟩, rfl⟩
theorem told_of_sh {ps : List PV} (h : Sh P 6 33 ps) : ∃ t : Told, InR t.err ∧ argPV P 33 ps = .agg t.cells := by
  have g0 := sh_cells h (show cellTys P 6 33 = some [.str, .str, .int .i64] by kernel_rfl)
  rw [arg_st (by kernel_rfl)]
  obtain ⟨_, _, rfl, ⟨x0, rfl, w0⟩, g1⟩ := g0.inv
  obtain ⟨_, _, rfl, ⟨x1, rfl, w1⟩, g2⟩ := g1.inv
  obtain ⟨_, _, rfl, ⟨x2, rfl, w2⟩, g3⟩ := g2.inv
  obtain rfl := g3.nil
  exact ⟨⟨x0, x1, x2⟩, wf_i64 w2, rfl⟩

theorem law_ScriptLines (ps0 : List PV) (s0 : Sh P 6 23 ps0) : Ok P 3 [argPV P 23 ps0] (Bo true) := by
  obtain ⟨e, ⟨h1, h2, h3⟩, hr⟩ := ev_of_sh s0
  rw [hr]
  exact lines3_ok e h1 h2 h3
theorem law_ScriptParses (ps0 : List PV) (s0 : Sh P 6 9 ps0) : Ok P 4 [argPV P 9 ps0] (Bo true) := by
  obtain ⟨s, rfl, hs⟩ := sh_string (show P.underlying 9 = some .string from Tryd.underlying9) s0
  rw [arg_one (t := 9) (by rw [show P.underlying 9 = some .string from Tryd.underlying9]; intro fs h; cases h)]
  exact parses4_ok s (Nat.le_trans hs maxLen_le)
theorem law_ScriptTells (ps0 : List PV) (s0 : Sh P 6 33 ps0) : Ok P 5 [argPV P 33 ps0] (Bo true) := by
  obtain ⟨t, h1, hr⟩ := told_of_sh s0
  rw [hr]
  exact tells5_ok t h1
end Go.Proofs.YtldmgdphelgffaaDoor
