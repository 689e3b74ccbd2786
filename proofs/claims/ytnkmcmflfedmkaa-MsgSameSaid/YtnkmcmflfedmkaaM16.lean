/- Contracts of chapter 8: Answers. -/
import Derived.Test.YtnkmcmflfedmkaaM15
namespace Go.Proofs.Ytnkmcmflfedmkaa
open Go.PS

def d18 : List PV → Option (PV × List Prop)
  | [.agg a] => match msgOf a with
    | some (m, ob) => some (I (checkE m), MsgW m :: ob)
    | none => none
  | _ => none

def Ek : Env := addE 18 d18 Ej
theorem Ek_ok : EnvOk P Ek :=
  addE_ok Ej_ok
    (fun l r ob h ho => by
      unfold d18 at h
      split at h
      · split at h
        · cases h; exact msg1 (r := fun m => I (checkE m)) (by assumption) (fun X hX => ho X (List.mem_cons_of_mem _ hX)) (check18_ok _ (ho _ List.mem_cons_self))
        · cases h
      · cases h)

def answersS (q r : Msg) : Bool :=
  reqS q.kind && decide (q.tag = r.tag) && (decide (r.kind = 107) || (decide (r.kind = replyS q.kind) &&
    (if r.kind = 111 then decide (r.qids.n ≤ q.names.n ∧ (0 < r.qids.n ∨ q.names.n = 0)) else if r.kind = 117 then decide ((r.data.size : Int) ≤ q.count) else if r.kind = 119 then decide (r.count ≤ q.data.size) else true)))

theorem answers_ok (q r : Msg) : Ok P 22 [.agg q.cells, .agg r.cells] (Bo (answersS q r)) := by
  refine fn_tr Ek_ok L0 Try.func22 ((.node (!reqS q.kind) (
     .leaf (Bo false) []) (
     .node (q.tag != r.tag) (
      .leaf (Bo false) []) (
      .node (r.kind == 107) (
       .leaf (Bo true) []) (
       .node (r.kind != replyS q.kind) (
        .leaf (Bo false) []) (
        .node (r.kind == 111) (
         .node (decide ((↑r.qids.n : Int) ≤ (↑q.names.n : Int))) (
          .node (decide ((↑r.qids.n : Int) > 0)) (
           .leaf (Bo true) []) (
           .leaf (Bo ((↑q.names.n : Int) == 0)) [])) (
          .leaf (Bo false) [])) (
         .node (r.kind == 117) (
          .leaf (Bo (decide ((↑r.data.size : Int) ≤ q.count))) []) (
          .node (r.kind == 119) (
           .leaf (Bo (decide (r.count ≤ (↑q.data.size : Int)))) []) (
           .leaf (Bo true) []))))))))) (by kernel_rfl) ?_
  simp only [Tr.All, AllP, decide_eq_true_eq, decide_eq_false_iff_not, beq_iff_eq, beq_eq_false_iff_ne, bne_iff_ne, bne_eq_false_iff_eq, Bool.not_eq_true', Bool.not_eq_false']
  repeat' with_reducible first | intro _ | refine And.intro ?_ ?_
  all_goals first | trivial | omega | exact congrArg Bo (by grind [answersS])
theorem ranswers_ok (q r : Msg) : Ok P 23 [.agg q.cells, .agg r.cells] (Bo (answersS q r)) := by
  refine fn_tr Ek_ok L0 Try.func23 ((.node (!reqS q.kind) (
     .leaf (Bo false) []) (
     .node (q.tag != r.tag) (
      .leaf (Bo false) []) (
      .node (r.kind == 107) (
       .leaf (Bo true) []) (
       .node (r.kind != replyS q.kind) (
        .leaf (Bo false) []) (
        .node (r.kind == 111) (
         .node (decide ((↑r.qids.n : Int) ≤ (↑q.names.n : Int))) (
          .node (decide ((↑r.qids.n : Int) > 0)) (
           .leaf (Bo true) []) (
           .leaf (Bo ((↑q.names.n : Int) == 0)) [])) (
          .leaf (Bo false) [])) (
         .node (r.kind == 117) (
          .leaf (Bo (decide ((↑r.data.size : Int) ≤ q.count))) []) (
          .node (r.kind == 119) (
           .leaf (Bo (decide (r.count ≤ (↑q.data.size : Int)))) []) (
           .leaf (Bo true) []))))))))) (by kernel_rfl) ?_
  simp only [Tr.All, AllP, decide_eq_true_eq, decide_eq_false_iff_not, beq_iff_eq, beq_eq_false_iff_ne, bne_iff_ne, bne_eq_false_iff_eq, Bool.not_eq_true', Bool.not_eq_false']
  repeat' with_reducible first | intro _ | refine And.intro ?_ ?_
  all_goals first | trivial | omega | exact congrArg Bo (by grind [answersS])

def d22 : List PV → Option (PV × List Prop)
  | [.agg a, .agg b] => match msgOf a, msgOf b with
    | some (m, ob), some (o, ob') => some (Bo (answersS m o), ob ++ ob')
    | _, _ => none
  | _ => none

def El : Env := addE 22 d22 (addE 23 d22 Ek)
theorem El_ok : EnvOk P El :=
  addE_ok (addE_ok Ek_ok
    (fun l r ob h ho => by
      unfold d22 at h
      split at h
      · split at h
        · cases h
          exact (ranswers_ok _ _).conv2 (msgOf_rep (by assumption) fun X hX => ho X (by simp [hX])) (msgOf_rep (by assumption) fun X hX => ho X (by simp [hX]))
        · cases h
      · cases h))
    (fun l r ob h ho => by
      unfold d22 at h
      split at h
      · split at h
        · cases h
          exact (answers_ok _ _).conv2 (msgOf_rep (by assumption) fun X hX => ho X (by simp [hX])) (msgOf_rep (by assumption) fun X hX => ho X (by simp [hX]))
        · cases h
      · cases h)
end Go.Proofs.Ytnkmcmflfedmkaa
