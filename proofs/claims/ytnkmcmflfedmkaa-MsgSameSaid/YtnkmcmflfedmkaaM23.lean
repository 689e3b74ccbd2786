/- Contracts of chapter 8: small; the laws of Check and Answers. -/
import Derived.Test.YtnkmcmflfedmkaaM21
import Derived.Test.YtnkmcmflfedmkaaM22
namespace Go.Proofs.Ytnkmcmflfedmkaa
open Go.PS

def longN (m : Msg) (i : Nat) : Bool := decide (5000 < (m.names.f i).size)

theorem anyI_step {p : Nat → Bool} {n : Nat} {i : Int} (h0 : 0 ≤ i) (h1 : i < n) : anyFrom p (List.range n) i = (p i.toNat || anyFrom p (List.range n) (i + 1)) := by
  rw [anyFrom_step 0 h0 (by simpa using h1)]
  congr 2
  have : i.toNat < n := by omega
  simp [List.getD, this]

def st17 (m : Msg) (i : Int) : List PV := [Z, .ptr 0 0 0, Z, Z, Z, Z, Z, Z, Z, Z, Z, Z, Z, Z, Z, Z, Z, Z, Z, Z, Z, Z, Z, Z, Z, Z, Z, Z, Z, Z, Z, Z, Z, Z, Z, Z, Z, Z, Z, Z, Z, Z, Z, Z, Z, Z, Z, Z, Z, Z, Z, Z, Z, Z, Z, Z, Z, Z, Z, Z, Z, Z, Z, Z, Z, Z, Z, Z, Z, Z, Z, Z, Z, Z, Z, Z, I m.names.n, I i, Z, Z, Z, Z, Z, Z, Z, Z, Z, Z]
def lt17 (m : Msg) (i : Int) : LT := .ite (anyFrom (longN m) (List.range m.names.n) i) (.out .ret (([Z, Z, .bit false] ++ List.replicate 85 Z)) []) (.out (.ext 0) (([] ++ List.replicate 88 Z)) [])

theorem lp17 (m : Msg) (hs : m.names.n ≤ 9223372036854775807) : ∀ i : Int, 0 ≤ i → i ≤ m.names.n → LoopT P (loopAt Try.f17 4) (st17 m i) (h19 m) (lt17 m i) := by
  apply upto
  intro i h0 h1 ih
  refine loop_tr Ep_ok L0 [1, 76, 77] [2] ((.node (decide (i < (↑m.names.n : Int))) (
     .node (decide ((↑(m.names.f i.toNat).size : Int) > 5000)) (
      .leaf ((Out.ret, ([Z, Z, PV.bit false] ++ List.replicate 85 Z), [])) [0 ≤ i, i < (↑m.names.n : Int)]) (
      .leaf ((Out.norm, [Z, PV.ptr 0 0 0, Z, Z, Z, Z, Z, Z, Z, Z, Z, Z, Z, Z, Z, Z, Z, Z, Z, Z, Z, Z, Z, Z, Z, Z, Z, Z, Z, Z, Z, Z, Z, Z, Z, Z, Z, Z, Z, Z, Z, Z, Z, Z, Z, Z, Z, Z, Z, Z, Z, Z, Z, Z, Z, Z, Z, Z, Z, Z, Z, Z, Z, Z, Z, Z, Z, Z, Z, Z, Z, Z, Z, Z, Z, Z, I (↑m.names.n : Int), I (IntKind.i64.wrap (i + 1)), Z, Z, Z, Z, Z, Z, Z, Z, Z, Z], [{ es := [m.cells], st := 0, par := [], sz := 39 }])) [0 ≤ i, i < (↑m.names.n : Int)])) (
     .leaf ((Out.ext 0, ([Z] ++ List.replicate 87 Z), [])) []))) (by kernel_rfl) ?_
  have hst : i < m.names.n → anyFrom (longN m) (List.range m.names.n) i = (longN m i.toNat || anyFrom (longN m) (List.range m.names.n) (i + 1)) := fun hi => anyI_step h0 hi
  have hgo : i < m.names.n ∧ longN m i.toNat = false → LoopT P (loopAt Try.f17 4) (st17 m (IntKind.i64.wrap (i + 1))) (h19 m) (lt17 m i) := by
    rintro ⟨hi, hb⟩
    rw [wrap64 (by omega) (by omega), show lt17 m i = lt17 m (i + 1) by simp only [lt17, hst hi, hb, Bool.false_or]]
    exact ih hi
  have hhit : i < m.names.n ∧ longN m i.toNat = true → anyFrom (longN m) (List.range m.names.n) i = true := by
    rintro ⟨hi, hb⟩
    rw [hst hi, hb]; rfl
  have hend : ¬ i < m.names.n → anyFrom (longN m) (List.range m.names.n) i = false := fun hi => anyFrom_end (by simp; omega)
  simp only [Tr.All, AllP, Rnd, decide_eq_true_eq, decide_eq_false_iff_not]
  repeat' with_reducible first | intro _ | refine And.intro ?_ ?_
  all_goals first | trivial | omega | exact hgo (by grind [longN]) | exact ends_t (hhit (by grind [longN])) rfl | exact ends_f (hend (by grind)) rfl

def L17 (m : Msg) : LEnv := fun _ => ([1, 76, 77], fun _ _ => lt17 m 0)

/-- What small reports. -/
def smallS (m : Msg) : Bool := !(decide (m.names.n > 100) || decide (m.qids.n > 100) || decide (m.version.size > 5000) || decide (m.user.size > 5000) || decide (m.attach.size > 5000) || decide (m.name.size > 5000) || decide (m.session.size > 5000) || decide (m.data.size > 20000) ||
  decide (IntKind.i64.wrap ((m.stat.name.size : Int) + m.stat.uid.size) > 5000) || decide (IntKind.i64.wrap ((m.stat.gid.size : Int) + m.stat.muid.size) > 5000) || anyFrom (longN m) (List.range m.names.n) 0)

theorem small_ok (m : Msg) (hm : MsgW m) : Ok P 17 [.agg m.cells] (Bo (smallS m)) := by
  refine fn_tr Ep_ok (L17 m) Try.func17 ((.node (decide ((↑m.names.n : Int) > 100)) (
     .leaf (Bo false) []) (
     .node (decide ((↑m.qids.n : Int) > 100)) (
      .leaf (Bo false) []) (
      .node (decide ((↑m.version.size : Int) > 5000)) (
       .leaf (Bo false) []) (
       .node (decide ((↑m.user.size : Int) > 5000)) (
        .leaf (Bo false) []) (
        .node (decide ((↑m.attach.size : Int) > 5000)) (
         .leaf (Bo false) []) (
         .node (decide ((↑m.name.size : Int) > 5000)) (
          .leaf (Bo false) []) (
          .node (decide ((↑m.session.size : Int) > 5000)) (
           .leaf (Bo false) []) (
           .node (decide ((↑m.data.size : Int) > 20000)) (
            .leaf (Bo false) []) (
            .node (decide (IntKind.i64.wrap ((↑m.stat.name.size : Int) + (↑m.stat.uid.size : Int)) > 5000)) (
             .leaf (Bo false) []) (
             .node (decide (IntKind.i64.wrap ((↑m.stat.gid.size : Int) + (↑m.stat.muid.size : Int)) > 5000)) (
              .leaf (Bo false) []) (
              .node (anyFrom (longN m) (List.range m.names.n) 0) (
               .leaf (Bo false) [LoopSem P (loopAt Try.f17 4) ([Z, PV.ptr 0 0 0, Z, Z, Z, Z, Z, Z, Z, Z, Z, Z, Z, Z, Z, Z, Z, Z, Z, Z, Z, Z, Z, Z, Z, Z, Z, Z, Z, Z, Z, Z, Z, Z, Z, Z, Z, Z, Z, Z, Z, Z, Z, Z, Z, Z, Z, Z, Z, Z, Z, Z, Z, Z, Z, Z, Z, Z, Z, Z, Z, Z, Z, Z, Z, Z, Z, Z, Z, Z, Z, Z, Z, Z, Z, Z, I (↑m.names.n : Int), I 0, Z, Z, Z, Z, Z, Z, Z, Z, Z, Z]) ([{ es := [m.cells], st := 0, par := [], sz := 39 }]) (Out.ret) (([Z, Z, PV.bit false] ++ List.replicate 85 Z)) ([])]) (
               .leaf (Bo true) [LoopSem P (loopAt Try.f17 4) ([Z, PV.ptr 0 0 0, Z, Z, Z, Z, Z, Z, Z, Z, Z, Z, Z, Z, Z, Z, Z, Z, Z, Z, Z, Z, Z, Z, Z, Z, Z, Z, Z, Z, Z, Z, Z, Z, Z, Z, Z, Z, Z, Z, Z, Z, Z, Z, Z, Z, Z, Z, Z, Z, Z, Z, Z, Z, Z, Z, Z, Z, Z, Z, Z, Z, Z, Z, Z, Z, Z, Z, Z, Z, Z, Z, Z, Z, Z, Z, I (↑m.names.n : Int), I 0, Z, Z, Z, Z, Z, Z, Z, Z, Z, Z]) ([{ es := [m.cells], st := 0, par := [], sz := 39 }]) (Out.ext 0) (([Z] ++ List.replicate 87 Z)) ([])]))))))))))))) (by kernel_rfl) ?_
  have c := lp17 m hm.nn 0 (by omega) (by omega)
  simp only [Tr.All, AllP, decide_eq_true_eq, decide_eq_false_iff_not]
  repeat' with_reducible first | intro _ | refine And.intro ?_ ?_
  all_goals first | trivial | omega | exact (c.t (by assumption)).one | exact (c.f (by assumption)).one | exact congrArg Bo (by grind [smallS])

def d17 : List PV → Option (PV × List Prop)
  | [.agg a] => match msgOf a with
    | some (m, ob) => some (Bo (smallS m), MsgW m :: ob)
    | none => none
  | _ => none
def d19 : List PV → Option (PV × List Prop)
  | [.agg a] => match msgOf a with
    | some (m, ob) => some (I (checkE m), MsgW m :: ob)
    | none => none
  | _ => none
def Eq1 : Env := addE 17 d17 (addE 19 d19 Ep)
theorem Eq1_ok : EnvOk P Eq1 :=
  addE_ok (addE_ok Ep_ok
    (fun l r ob h ho => by
      unfold d19 at h
      split at h
      · split at h
        · cases h; exact msg1 (r := fun m => I (checkE m)) (by assumption) (fun X hX => ho X (List.mem_cons_of_mem _ hX)) (by rw [check_eq]; exact rcheck19_ok _ (ho _ List.mem_cons_self))
        · cases h
      · cases h))
    (fun l r ob h ho => by
      unfold d17 at h
      split at h
      · split at h
        · cases h; exact msg1 (r := fun m => Bo (smallS m)) (by assumption) (fun X hX => ho X (List.mem_cons_of_mem _ hX)) (small_ok _ (ho _ List.mem_cons_self))
        · cases h
      · cases h)

theorem checks_ok (m : Msg) (hm : MsgW m) : Ok P 5 [.agg m.cells] (Bo true) := by
  refine fn_tr Eq1_ok L0 Try.func5 ((.node (!smallS m) (
     .leaf (Bo true) [MsgW m, allN m.names.n fun i => isStr [S (m.names.f i)], allN m.qids.n fun i => isQid (m.qids.f i).cells]) (
     .node ((checkE m : Int) == checkE m) (
      .leaf (Bo true) [MsgW m, allN m.names.n fun i => isStr [S (m.names.f i)], allN m.qids.n fun i => isQid (m.qids.f i).cells, MsgW m, allN m.names.n fun i => isStr [S (m.names.f i)], allN m.qids.n fun i => isQid (m.qids.f i).cells, MsgW m, allN m.names.n fun i => isStr [S (m.names.f i)], allN m.qids.n fun i => isQid (m.qids.f i).cells]) (
      .leaf (Bo false) [MsgW m, allN m.names.n fun i => isStr [S (m.names.f i)], allN m.qids.n fun i => isQid (m.qids.f i).cells, MsgW m, allN m.names.n fun i => isStr [S (m.names.f i)], allN m.qids.n fun i => isQid (m.qids.f i).cells, MsgW m, allN m.names.n fun i => isStr [S (m.names.f i)], allN m.qids.n fun i => isQid (m.qids.f i).cells])))) (by kernel_rfl) ?_
  simp only [Tr.All, AllP, beq_iff_eq, beq_eq_false_iff_ne, Bool.not_eq_true', Bool.not_eq_false']
  repeat' with_reducible first | intro _ | refine And.intro ?_ ?_
  all_goals first | trivial | omega | exact allN_iff.2 fun _ _ => rfl | assumption | exact congrArg Bo (by grind)

theorem law_MsgChecks (ps0 : List PV) (s0 : Sh P 6 35 ps0) : Ok P 5 [argPV P 35 ps0] (Bo true) := by
  obtain ⟨m, hm, hr⟩ := msg_of_sh s0
  exact (checks_ok m hm).conv1 hr

theorem reply_not {k : Int} (h : reqS k = true) : reqS (replyS k) = false := (reply_req h).2

theorem answers7_ok (a b : Msg) (ha : MsgW a) (hb : MsgW b) : Ok P 7 [.agg a.cells, .agg b.cells] (Bo true) := by
  refine fn_tr Eq1_ok L0 Try.func7 ((.node (!smallS a) (
     .leaf (Bo true) [MsgW a, allN a.names.n fun i => isStr [S (a.names.f i)], allN a.qids.n fun i => isQid (a.qids.f i).cells]) (
     .node (!smallS b) (
      .leaf (Bo true) [MsgW a, allN a.names.n fun i => isStr [S (a.names.f i)], allN a.qids.n fun i => isQid (a.qids.f i).cells, MsgW b, allN b.names.n fun i => isStr [S (b.names.f i)], allN b.qids.n fun i => isQid (b.qids.f i).cells]) (
      .node (answersS a b == answersS a b) (
       .node (!answersS a b) (
        .leaf (Bo true) [MsgW a, allN a.names.n fun i => isStr [S (a.names.f i)], allN a.qids.n fun i => isQid (a.qids.f i).cells, MsgW b, allN b.names.n fun i => isStr [S (b.names.f i)], allN b.qids.n fun i => isQid (b.qids.f i).cells, allN a.names.n fun i => isStr [S (a.names.f i)], allN a.qids.n fun i => isQid (a.qids.f i).cells, allN b.names.n fun i => isStr [S (b.names.f i)], allN b.qids.n fun i => isQid (b.qids.f i).cells, allN a.names.n fun i => isStr [S (a.names.f i)], allN a.qids.n fun i => isQid (a.qids.f i).cells, allN b.names.n fun i => isStr [S (b.names.f i)], allN b.qids.n fun i => isQid (b.qids.f i).cells]) (
        .node (reqS a.kind) (
         .node (!reqS b.kind) (
          .leaf (Bo true) [MsgW a, allN a.names.n fun i => isStr [S (a.names.f i)], allN a.qids.n fun i => isQid (a.qids.f i).cells, MsgW b, allN b.names.n fun i => isStr [S (b.names.f i)], allN b.qids.n fun i => isQid (b.qids.f i).cells, allN a.names.n fun i => isStr [S (a.names.f i)], allN a.qids.n fun i => isQid (a.qids.f i).cells, allN b.names.n fun i => isStr [S (b.names.f i)], allN b.qids.n fun i => isQid (b.qids.f i).cells, allN a.names.n fun i => isStr [S (a.names.f i)], allN a.qids.n fun i => isQid (a.qids.f i).cells, allN b.names.n fun i => isStr [S (b.names.f i)], allN b.qids.n fun i => isQid (b.qids.f i).cells]) (
          .leaf (Bo false) [MsgW a, allN a.names.n fun i => isStr [S (a.names.f i)], allN a.qids.n fun i => isQid (a.qids.f i).cells, MsgW b, allN b.names.n fun i => isStr [S (b.names.f i)], allN b.qids.n fun i => isQid (b.qids.f i).cells, allN a.names.n fun i => isStr [S (a.names.f i)], allN a.qids.n fun i => isQid (a.qids.f i).cells, allN b.names.n fun i => isStr [S (b.names.f i)], allN b.qids.n fun i => isQid (b.qids.f i).cells, allN a.names.n fun i => isStr [S (a.names.f i)], allN a.qids.n fun i => isQid (a.qids.f i).cells, allN b.names.n fun i => isStr [S (b.names.f i)], allN b.qids.n fun i => isQid (b.qids.f i).cells])) (
         .leaf (Bo false) [MsgW a, allN a.names.n fun i => isStr [S (a.names.f i)], allN a.qids.n fun i => isQid (a.qids.f i).cells, MsgW b, allN b.names.n fun i => isStr [S (b.names.f i)], allN b.qids.n fun i => isQid (b.qids.f i).cells, allN a.names.n fun i => isStr [S (a.names.f i)], allN a.qids.n fun i => isQid (a.qids.f i).cells, allN b.names.n fun i => isStr [S (b.names.f i)], allN b.qids.n fun i => isQid (b.qids.f i).cells, allN a.names.n fun i => isStr [S (a.names.f i)], allN a.qids.n fun i => isQid (a.qids.f i).cells, allN b.names.n fun i => isStr [S (b.names.f i)], allN b.qids.n fun i => isQid (b.qids.f i).cells]))) (
       .leaf (Bo false) [MsgW a, allN a.names.n fun i => isStr [S (a.names.f i)], allN a.qids.n fun i => isQid (a.qids.f i).cells, MsgW b, allN b.names.n fun i => isStr [S (b.names.f i)], allN b.qids.n fun i => isQid (b.qids.f i).cells, allN a.names.n fun i => isStr [S (a.names.f i)], allN a.qids.n fun i => isQid (a.qids.f i).cells, allN b.names.n fun i => isStr [S (b.names.f i)], allN b.qids.n fun i => isQid (b.qids.f i).cells, allN a.names.n fun i => isStr [S (a.names.f i)], allN a.qids.n fun i => isQid (a.qids.f i).cells, allN b.names.n fun i => isStr [S (b.names.f i)], allN b.qids.n fun i => isQid (b.qids.f i).cells]))))) (by kernel_rfl) ?_
  have h107 : reqS 107 = false := by decide +kernel
  have h1 : answersS a b = true → reqS a.kind = true ∧ reqS b.kind = false := by
    intro h
    simp only [answersS, Bool.and_eq_true, Bool.or_eq_true, decide_eq_true_eq] at h
    refine ⟨h.1.1, ?_⟩
    rcases h.2 with h2 | h2
    · rw [h2]; exact h107
    · rw [h2.1]; exact reply_not h.1.1
  simp only [Tr.All, AllP, beq_iff_eq, beq_eq_false_iff_ne, Bool.not_eq_true', Bool.not_eq_false']
  repeat' with_reducible first | intro _ | refine And.intro ?_ ?_
  all_goals first | trivial | omega | exact allN_iff.2 fun _ _ => rfl | assumption | exact congrArg Bo (by grind)

theorem law_MsgAnswers (ps0 : List PV) (s0 : Sh P 6 35 ps0) (ps1 : List PV) (s1 : Sh P 6 35 ps1) : Ok P 7 [argPV P 35 ps0, argPV P 35 ps1] (Bo true) := by
  obtain ⟨a, ha, hra⟩ := msg_of_sh s0
  obtain ⟨b, hb, hrb⟩ := msg_of_sh s1
  exact (answers7_ok a b ha hb).conv2 hra hrb
end Go.Proofs.Ytnkmcmflfedmkaa
