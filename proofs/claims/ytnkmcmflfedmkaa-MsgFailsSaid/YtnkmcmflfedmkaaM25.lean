/- The laws MsgFails and MsgSame. -/
import Derived.Test.YtnkmcmflfedmkaaM23
import Derived.Test.YtnkmcmflfedmkaaM14
namespace Go.Proofs.Ytnkmcmflfedmkaa
open Go.PS

def Eu : Env := addE 25 d27 Eq1
theorem Eu_ok : EnvOk P Eu :=
  addE_ok Eq1_ok
    (fun l r ob h ho => by
      unfold d27 at h
      split at h
      · split at h
        · cases h
          exact (rsame_ok _ _ (ho _ List.mem_cons_self)).conv2 (msgOf_rep (by assumption) fun X hX => ho X (by simp [hX])) (msgOf_rep (by assumption) fun X hX => ho X (by simp [hX]))
        · cases h
      · cases h)

theorem sameS_comm (a b : Msg) : sameS a b = sameS b a := by
  unfold sameS
  rw [decide_eq_decide]
  unfold sameP
  constructor <;> (rintro ⟨⟨h1, h2, h3, h4, h5, h6, h7, h8, h9, h10, h11, h12, h13⟩, ⟨g1, g2, g3, g4, g5, g6⟩, i1, i2, i3, i4, i5, i6⟩; simp [*])
theorem sameS_refl (a : Msg) : sameS a a = true := by simp [sameS, sameP]

theorem same9_ok (a b : Msg) (ha : MsgW a) (hb : MsgW b) : Ok P 9 [.agg a.cells, .agg b.cells] (Bo true) := by
  refine fn_tr Eu_ok L0 Try.func9 ((.node (!smallS a) (
     .leaf (Bo true) [MsgW a, allN a.names.n fun i => isStr [S (a.names.f i)], allN a.qids.n fun i => isQid (a.qids.f i).cells]) (
     .node (!smallS b) (
      .leaf (Bo true) [MsgW a, allN a.names.n fun i => isStr [S (a.names.f i)], allN a.qids.n fun i => isQid (a.qids.f i).cells, MsgW b, allN b.names.n fun i => isStr [S (b.names.f i)], allN b.qids.n fun i => isQid (b.qids.f i).cells]) (
      .node (sameS a b == sameS a b) (
       .node (sameS b a == sameS a b) (
        .node (sameS a a) (
         .leaf (Bo true) [MsgW a, allN a.names.n fun i => isStr [S (a.names.f i)], allN a.qids.n fun i => isQid (a.qids.f i).cells, MsgW b, allN b.names.n fun i => isStr [S (b.names.f i)], allN b.qids.n fun i => isQid (b.qids.f i).cells, MsgW a, allN a.names.n fun i => isStr [S (a.names.f i)], allN a.qids.n fun i => isQid (a.qids.f i).cells, allN b.names.n fun i => isStr [S (b.names.f i)], allN b.qids.n fun i => isQid (b.qids.f i).cells, MsgW a, allN a.names.n fun i => isStr [S (a.names.f i)], allN a.qids.n fun i => isQid (a.qids.f i).cells, allN b.names.n fun i => isStr [S (b.names.f i)], allN b.qids.n fun i => isQid (b.qids.f i).cells, MsgW b, allN b.names.n fun i => isStr [S (b.names.f i)], allN b.qids.n fun i => isQid (b.qids.f i).cells, allN a.names.n fun i => isStr [S (a.names.f i)], allN a.qids.n fun i => isQid (a.qids.f i).cells, MsgW a, allN a.names.n fun i => isStr [S (a.names.f i)], allN a.qids.n fun i => isQid (a.qids.f i).cells, allN b.names.n fun i => isStr [S (b.names.f i)], allN b.qids.n fun i => isQid (b.qids.f i).cells, MsgW a, allN a.names.n fun i => isStr [S (a.names.f i)], allN a.qids.n fun i => isQid (a.qids.f i).cells, allN a.names.n fun i => isStr [S (a.names.f i)], allN a.qids.n fun i => isQid (a.qids.f i).cells]) (
         .leaf (Bo false) [MsgW a, allN a.names.n fun i => isStr [S (a.names.f i)], allN a.qids.n fun i => isQid (a.qids.f i).cells, MsgW b, allN b.names.n fun i => isStr [S (b.names.f i)], allN b.qids.n fun i => isQid (b.qids.f i).cells, MsgW a, allN a.names.n fun i => isStr [S (a.names.f i)], allN a.qids.n fun i => isQid (a.qids.f i).cells, allN b.names.n fun i => isStr [S (b.names.f i)], allN b.qids.n fun i => isQid (b.qids.f i).cells, MsgW a, allN a.names.n fun i => isStr [S (a.names.f i)], allN a.qids.n fun i => isQid (a.qids.f i).cells, allN b.names.n fun i => isStr [S (b.names.f i)], allN b.qids.n fun i => isQid (b.qids.f i).cells, MsgW b, allN b.names.n fun i => isStr [S (b.names.f i)], allN b.qids.n fun i => isQid (b.qids.f i).cells, allN a.names.n fun i => isStr [S (a.names.f i)], allN a.qids.n fun i => isQid (a.qids.f i).cells, MsgW a, allN a.names.n fun i => isStr [S (a.names.f i)], allN a.qids.n fun i => isQid (a.qids.f i).cells, allN b.names.n fun i => isStr [S (b.names.f i)], allN b.qids.n fun i => isQid (b.qids.f i).cells, MsgW a, allN a.names.n fun i => isStr [S (a.names.f i)], allN a.qids.n fun i => isQid (a.qids.f i).cells, allN a.names.n fun i => isStr [S (a.names.f i)], allN a.qids.n fun i => isQid (a.qids.f i).cells])) (
        .leaf (Bo false) [MsgW a, allN a.names.n fun i => isStr [S (a.names.f i)], allN a.qids.n fun i => isQid (a.qids.f i).cells, MsgW b, allN b.names.n fun i => isStr [S (b.names.f i)], allN b.qids.n fun i => isQid (b.qids.f i).cells, MsgW a, allN a.names.n fun i => isStr [S (a.names.f i)], allN a.qids.n fun i => isQid (a.qids.f i).cells, allN b.names.n fun i => isStr [S (b.names.f i)], allN b.qids.n fun i => isQid (b.qids.f i).cells, MsgW a, allN a.names.n fun i => isStr [S (a.names.f i)], allN a.qids.n fun i => isQid (a.qids.f i).cells, allN b.names.n fun i => isStr [S (b.names.f i)], allN b.qids.n fun i => isQid (b.qids.f i).cells, MsgW b, allN b.names.n fun i => isStr [S (b.names.f i)], allN b.qids.n fun i => isQid (b.qids.f i).cells, allN a.names.n fun i => isStr [S (a.names.f i)], allN a.qids.n fun i => isQid (a.qids.f i).cells, MsgW a, allN a.names.n fun i => isStr [S (a.names.f i)], allN a.qids.n fun i => isQid (a.qids.f i).cells, allN b.names.n fun i => isStr [S (b.names.f i)], allN b.qids.n fun i => isQid (b.qids.f i).cells])) (
       .leaf (Bo false) [MsgW a, allN a.names.n fun i => isStr [S (a.names.f i)], allN a.qids.n fun i => isQid (a.qids.f i).cells, MsgW b, allN b.names.n fun i => isStr [S (b.names.f i)], allN b.qids.n fun i => isQid (b.qids.f i).cells, MsgW a, allN a.names.n fun i => isStr [S (a.names.f i)], allN a.qids.n fun i => isQid (a.qids.f i).cells, allN b.names.n fun i => isStr [S (b.names.f i)], allN b.qids.n fun i => isQid (b.qids.f i).cells, MsgW a, allN a.names.n fun i => isStr [S (a.names.f i)], allN a.qids.n fun i => isQid (a.qids.f i).cells, allN b.names.n fun i => isStr [S (b.names.f i)], allN b.qids.n fun i => isQid (b.qids.f i).cells]))))) (by kernel_rfl) ?_
  have h1 := sameS_comm a b
  have h2 := sameS_refl a
  simp only [Tr.All, AllP, beq_iff_eq, beq_eq_false_iff_ne, Bool.not_eq_true', Bool.not_eq_false']
  repeat' with_reducible first | intro _ | refine And.intro ?_ ?_
  all_goals first | trivial | omega | exact allN_iff.2 fun _ _ => rfl | assumption | exact congrArg Bo (by grind)

theorem law_MsgSame (ps0 : List PV) (s0 : Sh P 6 35 ps0) (ps1 : List PV) (s1 : Sh P 6 35 ps1) : Ok P 9 [argPV P 35 ps0, argPV P 35 ps1] (Bo true) := by
  obtain ⟨a, ha, hra⟩ := msg_of_sh s0
  obtain ⟨b, hb, hrb⟩ := msg_of_sh s1
  exact (same9_ok a b ha hb).conv2 hra hrb

theorem fail_w {m : Msg} (e : Int) : MsgW (failS m e) := by
  refine ⟨?_, ?_, ?_, ?_, ?_, ?_, ?_, ?_, ?_⟩ <;> first | exact inr0 | exact fun i hi => absurd hi (Nat.not_lt_zero i) | exact Nat.zero_le _

theorem fail_check {m : Msg} {e : Int} (h0 : checkE m = 0) (h1 : 1 ≤ e) (h2 : e ≤ 59) : checkE (failS m e) = 0 := by
  have ht : tagOk m = true := by
    unfold checkE at h0
    split at h0
    · cases h0
    · split at h0
      · cases h0
      · rename_i h; simpa using h
  have hb : 0 ≤ m.tag ∧ m.tag ≤ 65535 := by
    unfold tagOk at ht
    split at ht
    · have := eq_of_beq ht; omega
    · split at ht <;> (have := of_decide_eq_true ht; omega)
  have hn : nameS 107 ≠ ⟨#[]⟩ := by decide +kernel
  have hk : tagOk (failS m e) = true := by
    have : tagOk (failS m e) = decide (0 ≤ m.tag ∧ m.tag ≤ 65535) := rfl
    rw [this]; exact decide_eq_true hb
  have ho : onlyS (failS m e) = failS m e := rfl
  have hf : fieldsE (failS m e) = inE e 1 59 := rfl
  unfold checkE
  rw [if_neg (show ¬ nameS (failS m e).kind = ⟨#[]⟩ from hn), hk, ho, sameS_refl, if_neg (by decide), if_neg (by decide), hf, inE, if_neg (by omega)]

theorem fail_answers {m : Msg} (e : Int) (h : reqS m.kind = true) : answersS m (failS m e) = true := by
  have : answersS m (failS m e) = (reqS m.kind && decide (m.tag = m.tag) && (true || (decide ((107 : Int) = replyS m.kind) && (if (107 : Int) = 111 then decide ((failS m e).qids.n ≤ m.names.n ∧ (0 < (failS m e).qids.n ∨ m.names.n = 0)) else if (107 : Int) = 117 then decide (((failS m e).data.size : Int) ≤ m.count) else if (107 : Int) = 119 then decide ((failS m e).count ≤ m.data.size) else true)))) := rfl
  rw [this, h]; simp

theorem fails8_ok (m : Msg) (k : Int) (hm : MsgW m) : Ok P 8 [.agg m.cells, I k] (Bo true) := by
  refine fn_tr Eu_ok L0 Try.func8 ((.node (!smallS m) (
     .leaf (Bo true) [MsgW m, allN m.names.n fun i => isStr [S (m.names.f i)], allN m.qids.n fun i => isQid (m.qids.f i).cells]) (
     .node (!sameS (failS m k) (failS m k)) (
      .leaf (Bo false) [MsgW m, allN m.names.n fun i => isStr [S (m.names.f i)], allN m.qids.n fun i => isQid (m.qids.f i).cells, allN m.names.n fun i => isStr [S (m.names.f i)], allN m.qids.n fun i => isQid (m.qids.f i).cells, allN m.names.n fun i => isStr [S (m.names.f i)], allN m.qids.n fun i => isQid (m.qids.f i).cells, MsgW (failS m k), true = true, true = true, true = true, true = true]) (
      .node ((checkE m : Int) != 0) (
       .leaf (Bo true) [MsgW m, allN m.names.n fun i => isStr [S (m.names.f i)], allN m.qids.n fun i => isQid (m.qids.f i).cells, allN m.names.n fun i => isStr [S (m.names.f i)], allN m.qids.n fun i => isQid (m.qids.f i).cells, allN m.names.n fun i => isStr [S (m.names.f i)], allN m.qids.n fun i => isQid (m.qids.f i).cells, MsgW (failS m k), true = true, true = true, true = true, true = true, MsgW m, allN m.names.n fun i => isStr [S (m.names.f i)], allN m.qids.n fun i => isQid (m.qids.f i).cells]) (
       .node (!reqS m.kind) (
        .leaf (Bo true) [MsgW m, allN m.names.n fun i => isStr [S (m.names.f i)], allN m.qids.n fun i => isQid (m.qids.f i).cells, allN m.names.n fun i => isStr [S (m.names.f i)], allN m.qids.n fun i => isQid (m.qids.f i).cells, allN m.names.n fun i => isStr [S (m.names.f i)], allN m.qids.n fun i => isQid (m.qids.f i).cells, MsgW (failS m k), true = true, true = true, true = true, true = true, MsgW m, allN m.names.n fun i => isStr [S (m.names.f i)], allN m.qids.n fun i => isQid (m.qids.f i).cells]) (
        .node (decide (k < 1)) (
         .leaf (Bo true) [MsgW m, allN m.names.n fun i => isStr [S (m.names.f i)], allN m.qids.n fun i => isQid (m.qids.f i).cells, allN m.names.n fun i => isStr [S (m.names.f i)], allN m.qids.n fun i => isQid (m.qids.f i).cells, allN m.names.n fun i => isStr [S (m.names.f i)], allN m.qids.n fun i => isQid (m.qids.f i).cells, MsgW (failS m k), true = true, true = true, true = true, true = true, MsgW m, allN m.names.n fun i => isStr [S (m.names.f i)], allN m.qids.n fun i => isQid (m.qids.f i).cells]) (
         .node (decide (k > 59)) (
          .leaf (Bo true) [MsgW m, allN m.names.n fun i => isStr [S (m.names.f i)], allN m.qids.n fun i => isQid (m.qids.f i).cells, allN m.names.n fun i => isStr [S (m.names.f i)], allN m.qids.n fun i => isQid (m.qids.f i).cells, allN m.names.n fun i => isStr [S (m.names.f i)], allN m.qids.n fun i => isQid (m.qids.f i).cells, MsgW (failS m k), true = true, true = true, true = true, true = true, MsgW m, allN m.names.n fun i => isStr [S (m.names.f i)], allN m.qids.n fun i => isQid (m.qids.f i).cells]) (
          .node ((checkE (failS m k) : Int) == 0) (
           .node (answersS m (failS m k)) (
            .leaf (Bo true) [MsgW m, allN m.names.n fun i => isStr [S (m.names.f i)], allN m.qids.n fun i => isQid (m.qids.f i).cells, allN m.names.n fun i => isStr [S (m.names.f i)], allN m.qids.n fun i => isQid (m.qids.f i).cells, allN m.names.n fun i => isStr [S (m.names.f i)], allN m.qids.n fun i => isQid (m.qids.f i).cells, MsgW (failS m k), true = true, true = true, true = true, true = true, MsgW m, allN m.names.n fun i => isStr [S (m.names.f i)], allN m.qids.n fun i => isQid (m.qids.f i).cells, MsgW (failS m k), true = true, true = true, allN m.names.n fun i => isStr [S (m.names.f i)], allN m.qids.n fun i => isQid (m.qids.f i).cells, true = true, true = true]) (
            .leaf (Bo false) [MsgW m, allN m.names.n fun i => isStr [S (m.names.f i)], allN m.qids.n fun i => isQid (m.qids.f i).cells, allN m.names.n fun i => isStr [S (m.names.f i)], allN m.qids.n fun i => isQid (m.qids.f i).cells, allN m.names.n fun i => isStr [S (m.names.f i)], allN m.qids.n fun i => isQid (m.qids.f i).cells, MsgW (failS m k), true = true, true = true, true = true, true = true, MsgW m, allN m.names.n fun i => isStr [S (m.names.f i)], allN m.qids.n fun i => isQid (m.qids.f i).cells, MsgW (failS m k), true = true, true = true, allN m.names.n fun i => isStr [S (m.names.f i)], allN m.qids.n fun i => isQid (m.qids.f i).cells, true = true, true = true])) (
           .leaf (Bo false) [MsgW m, allN m.names.n fun i => isStr [S (m.names.f i)], allN m.qids.n fun i => isQid (m.qids.f i).cells, allN m.names.n fun i => isStr [S (m.names.f i)], allN m.qids.n fun i => isQid (m.qids.f i).cells, allN m.names.n fun i => isStr [S (m.names.f i)], allN m.qids.n fun i => isQid (m.qids.f i).cells, MsgW (failS m k), true = true, true = true, true = true, true = true, MsgW m, allN m.names.n fun i => isStr [S (m.names.f i)], allN m.qids.n fun i => isQid (m.qids.f i).cells, MsgW (failS m k), true = true, true = true]))))))))) (by kernel_rfl) ?_
  have hw := fail_w (m := m) k
  have hr := sameS_refl (failS m k)
  have hc : checkE m = 0 → 1 ≤ k → k ≤ 59 → checkE (failS m k) = 0 := fail_check
  have ha : reqS m.kind = true → answersS m (failS m k) = true := fail_answers k
  simp only [Tr.All, AllP, decide_eq_true_eq, decide_eq_false_iff_not, beq_iff_eq, beq_eq_false_iff_ne, bne_iff_ne, bne_eq_false_iff_eq, Bool.not_eq_true', Bool.not_eq_false']
  repeat' with_reducible first | intro _ | refine And.intro ?_ ?_
  all_goals first | trivial | omega | exact allN_iff.2 fun _ _ => rfl | assumption | exact congrArg Bo (by grind)

theorem law_MsgFails (ps0 : List PV) (s0 : Sh P 6 35 ps0) (ps1 : List PV) (s1 : Sh P 6 3 ps1) : Ok P 8 [argPV P 35 ps0, argPV P 3 ps1] (Bo true) := by
  obtain ⟨m, hm, hr⟩ := msg_of_sh s0
  obtain ⟨i, rfl, _⟩ := sh_int Try.underlying3 s1
  rw [arg_one (t := 3) (by rw [show P.underlying 3 = some (.int .i64) from Try.underlying3]; intro fs h; cases h)]
  exact (fails8_ok m i hm).conv2 hr (fun _ _ _ h => h)
end Go.Proofs.Ytnkmcmflfedmkaa
