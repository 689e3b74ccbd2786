/- Contracts of chapter 8: stat.Check. -/
import Derived.Test.YtnkmcmflfedmkaaM7
namespace Go.Proofs.Ytnkmcmflfedmkaa
open Go.PS

theorem subB_le {n b : Int} (h0 : 0 ≤ n) (hn : InR n) (hb0 : 0 ≤ b) (hb : b ≤ 9223372036854775807) (h : subB n b = true) : n ≤ b := by
  unfold subB at h
  rw [beq_iff_eq] at h
  unfold InR at hn
  have h2 := congrArg BitVec.toNat h
  rw [BitVec.toNat_and, BitVec.toNat_ofInt, BitVec.toNat_ofInt] at h2
  have e1 : (n % (2 ^ 64 : Nat)).toNat = n.toNat := by omega
  have e2 : (b % (2 ^ 64 : Nat)).toNat = b.toNat := by omega
  rw [e1, e2] at h2
  have h3 : n.toNat &&& b.toNat ≤ b.toNat := Nat.and_le_right
  omega

def badNum (x : Num) : Bool := decide (x.n < -1 ∨ x.most < x.n)

def st49 (_d : Dir) (l : List Num) (i : Int) : List PV := [Z, .ptr 0 0 0, Z, Z, Z, Z, numsP l, I 9, I i, Z, Z, Z, Z, Z, Z, Z, Z, Z, Z, Z, Z, Z, Z, Z, Z, Z, Z, Z, Z, Z, Z, Z, Z, Z, Z, Z, Z, Z, Z, Z, Z, Z, Z, Z, Z, Z, Z, Z, Z, Z, Z, Z, Z, Z, Z, Z, Z, Z, Z, Z, Z]
def h49 (d : Dir) : Hp := [⟨[d.cells], 0, [], 13⟩]
def lt49 (d : Dir) (l : List Num) (i : Int) : LT := .ite (anyFrom badNum l i) (.out .ret ([Z, .ptr 0 0 0, I 5, Z, Z, Z, Z, Z, Z, Z, Z, Z, Z, Z, Z, Z, Z, Z, Z, Z, Z, Z, Z, Z, Z, Z, Z, Z, Z, Z, Z, Z, Z, Z, Z, Z, Z, Z, Z, Z, Z, Z, Z, Z, Z, Z, Z, Z, Z, Z, Z, Z, Z, Z, Z, Z, Z, Z, Z, Z, Z]) (h49 d)) (.out (.ext 0) ([Z, .ptr 0 0 0, Z, Z, Z, Z, Z, Z, Z, Z, Z, Z, Z, Z, Z, Z, Z, Z, Z, Z, Z, Z, Z, Z, Z, Z, Z, Z, Z, Z, Z, Z, Z, Z, Z, Z, Z, Z, Z, Z, Z, Z, Z, Z, Z, Z, Z, Z, Z, Z, Z, Z, Z, Z, Z, Z, Z, Z, Z, Z, Z]) (h49 d))

theorem lp49 (d : Dir) (l : List Num) (hl : l.length = 9) : ∀ i : Int, 0 ≤ i → i ≤ 9 → LoopT P (loopAt Try.f49 2) (st49 d l i) (h49 d) (lt49 d l i) := by
  apply upto
  intro i h0 h1 ih
  refine loop_tr Ef_ok L0 [1, 6, 7, 8] [1, 2] ((.node (decide (i < 9)) (
     .node (decide ((l.getD i.toNat default).n < -1)) (
      .leaf ((Out.ret, [Z, PV.ptr 0 0 0, I 5, Z, Z, Z, Z, Z, Z, Z, Z, Z, Z, Z, Z, Z, Z, Z, Z, Z, Z, Z, Z, Z, Z, Z, Z, Z, Z, Z, Z, Z, Z, Z, Z, Z, Z, Z, Z, Z, Z, Z, Z, Z, Z, Z, Z, Z, Z, Z, Z, Z, Z, Z, Z, Z, Z, Z, Z, Z, Z], [{ es := [d.cells], st := 0, par := [], sz := 13 }])) [0 ≤ i, i < 9]) (
      .node (decide ((l.getD i.toNat default).n > (l.getD i.toNat default).most)) (
       .leaf ((Out.ret, [Z, PV.ptr 0 0 0, I 5, Z, Z, Z, Z, Z, Z, Z, Z, Z, Z, Z, Z, Z, Z, Z, Z, Z, Z, Z, Z, Z, Z, Z, Z, Z, Z, Z, Z, Z, Z, Z, Z, Z, Z, Z, Z, Z, Z, Z, Z, Z, Z, Z, Z, Z, Z, Z, Z, Z, Z, Z, Z, Z, Z, Z, Z, Z, Z], [{ es := [d.cells], st := 0, par := [], sz := 13 }])) [0 ≤ i, i < 9]) (
       .leaf ((Out.norm, [Z, PV.ptr 0 0 0, Z, Z, Z, Z, numsP l, I 9, I (IntKind.i64.wrap (i + 1)), Z, Z, Z, Z, Z, Z, Z, Z, Z, Z, Z, Z, Z, Z, Z, Z, Z, Z, Z, Z, Z, Z, Z, Z, Z, Z, Z, Z, Z, Z, Z, Z, Z, Z, Z, Z, Z, Z, Z, Z, Z, Z, Z, Z, Z, Z, Z, Z, Z, Z, Z, Z], [{ es := [d.cells], st := 0, par := [], sz := 13 }])) [0 ≤ i, i < 9]))) (
     .leaf ((Out.ext 0, [Z, PV.ptr 0 0 0, Z, Z, Z, Z, Z, Z, Z, Z, Z, Z, Z, Z, Z, Z, Z, Z, Z, Z, Z, Z, Z, Z, Z, Z, Z, Z, Z, Z, Z, Z, Z, Z, Z, Z, Z, Z, Z, Z, Z, Z, Z, Z, Z, Z, Z, Z, Z, Z, Z, Z, Z, Z, Z, Z, Z, Z, Z, Z, Z], [{ es := [d.cells], st := 0, par := [], sz := 13 }])) []))) (by kernel_rfl) ?_
  have hst : i < 9 → anyFrom badNum l i = (badNum (l.getD i.toNat default) || anyFrom badNum l (i + 1)) := fun hi => anyFrom_step default h0 (by omega)
  have hgo : i < 9 ∧ badNum (l.getD i.toNat default) = false → LoopT P (loopAt Try.f49 2) (st49 d l (IntKind.i64.wrap (i + 1))) (h49 d) (lt49 d l i) := by
    rintro ⟨hi, hb⟩
    rw [wrap64 (by omega) (by omega), show lt49 d l i = lt49 d l (i + 1) by simp only [lt49, hst hi, hb, Bool.false_or]]
    exact ih hi
  have hhit : i < 9 ∧ badNum (l.getD i.toNat default) = true → anyFrom badNum l i = true := by
    rintro ⟨hi, hb⟩
    rw [hst hi, hb]; rfl
  have hend : ¬ i < 9 → anyFrom badNum l i = false := fun hi => anyFrom_end (by omega)
  generalize l.getD i.toNat default = b at *
  simp only [Tr.All, AllP, Rnd, decide_eq_true_eq, decide_eq_false_iff_not]
  repeat' with_reducible first | intro _ | refine And.intro ?_ ?_
  all_goals first | trivial | omega | exact hgo (by grind [badNum]) | exact ends_t (hhit (by grind [badNum])) rfl | exact ends_f (hend (by grind)) rfl

def L49 (d : Dir) : LEnv := fun _ => ([1, 6, 7, 8], fun _ _ => lt49 d (numT d) 0)

theorem nums_iff (d : Dir) (h1 : InR d.qid.ty) (h2 : InR d.mode) : numsOk d = (!(numT d).any badNum && qS d.qid.ty 232 && qS d.mode 3892314623) := by
  have a1 : qS d.qid.ty 232 = true → -1 ≤ d.qid.ty ∧ d.qid.ty ≤ 232 := by
    intro h
    simp only [qS, Bool.or_eq_true, Bool.and_eq_true, beq_iff_eq, decide_eq_true_eq] at h
    rcases h with h | ⟨h0, h⟩
    · omega
    · have := subB_le h0 h1 (by omega) (by omega) h; omega
  have a2 : qS d.mode 3892314623 = true → -1 ≤ d.mode ∧ d.mode ≤ 3892314623 := by
    intro h
    simp only [qS, Bool.or_eq_true, Bool.and_eq_true, beq_iff_eq, decide_eq_true_eq] at h
    rcases h with h | ⟨h0, h⟩
    · omega
    · have := subB_le h0 h2 (by omega) (by omega) h; omega
  have r : ∀ n b : Int, -1 ≤ b → rS n b = decide (-1 ≤ n ∧ n ≤ b) := by
    intro n b hb
    unfold rS
    rw [Bool.eq_iff_iff]
    simp
    omega
  simp only [numsOk, numT, List.any_cons, List.any_nil, badNum, r _ 65534 (by omega), r _ 4294967294 (by omega), r _ 2147483647 (by omega), r _ 1099511627776 (by omega), r _ 9007199254740991 (by omega)]
  cases hq : qS d.qid.ty 232 <;> cases hm : qS d.mode 3892314623 <;> simp
  have b1 := a1 hq
  have b2 := a2 hm
  rw [Bool.eq_iff_iff]
  simp
  omega

theorem check_ok (d : Dir) (h1 : InR d.qid.ty) (h2 : InR d.mode) : Ok P 49 [.agg d.cells] (I (dirE d)) := by
  refine fn_tr Ef_ok (L49 d) Try.func49 ((.node (anyFrom badNum (numT d) 0) (
     .leaf (I 5) [LoopSem P (loopAt Try.f49 2) ([Z, PV.ptr 0 0 0, Z, Z, Z, Z, numsP (numT d), I 9, I 0, Z, Z, Z, Z, Z, Z, Z, Z, Z, Z, Z, Z, Z, Z, Z, Z, Z, Z, Z, Z, Z, Z, Z, Z, Z, Z, Z, Z, Z, Z, Z, Z, Z, Z, Z, Z, Z, Z, Z, Z, Z, Z, Z, Z, Z, Z, Z, Z, Z, Z, Z, Z]) ([{ es := [d.cells], st := 0, par := [], sz := 13 }]) (Out.ret) ([Z, PV.ptr 0 0 0, I 5, Z, Z, Z, Z, Z, Z, Z, Z, Z, Z, Z, Z, Z, Z, Z, Z, Z, Z, Z, Z, Z, Z, Z, Z, Z, Z, Z, Z, Z, Z, Z, Z, Z, Z, Z, Z, Z, Z, Z, Z, Z, Z, Z, Z, Z, Z, Z, Z, Z, Z, Z, Z, Z, Z, Z, Z, Z, Z]) ([{ es := [d.cells], st := 0, par := [], sz := 13 }])]) (
     .node (!qS d.qid.ty 232) (
      .leaf (I 5) [LoopSem P (loopAt Try.f49 2) ([Z, PV.ptr 0 0 0, Z, Z, Z, Z, numsP (numT d), I 9, I 0, Z, Z, Z, Z, Z, Z, Z, Z, Z, Z, Z, Z, Z, Z, Z, Z, Z, Z, Z, Z, Z, Z, Z, Z, Z, Z, Z, Z, Z, Z, Z, Z, Z, Z, Z, Z, Z, Z, Z, Z, Z, Z, Z, Z, Z, Z, Z, Z, Z, Z, Z, Z]) ([{ es := [d.cells], st := 0, par := [], sz := 13 }]) (Out.ext 0) ([Z, PV.ptr 0 0 0, Z, Z, Z, Z, Z, Z, Z, Z, Z, Z, Z, Z, Z, Z, Z, Z, Z, Z, Z, Z, Z, Z, Z, Z, Z, Z, Z, Z, Z, Z, Z, Z, Z, Z, Z, Z, Z, Z, Z, Z, Z, Z, Z, Z, Z, Z, Z, Z, Z, Z, Z, Z, Z, Z, Z, Z, Z, Z, Z]) ([{ es := [d.cells], st := 0, par := [], sz := 13 }])]) (
      .node (!qS d.mode 3892314623) (
       .leaf (I 5) [LoopSem P (loopAt Try.f49 2) ([Z, PV.ptr 0 0 0, Z, Z, Z, Z, numsP (numT d), I 9, I 0, Z, Z, Z, Z, Z, Z, Z, Z, Z, Z, Z, Z, Z, Z, Z, Z, Z, Z, Z, Z, Z, Z, Z, Z, Z, Z, Z, Z, Z, Z, Z, Z, Z, Z, Z, Z, Z, Z, Z, Z, Z, Z, Z, Z, Z, Z, Z, Z, Z, Z, Z, Z]) ([{ es := [d.cells], st := 0, par := [], sz := 13 }]) (Out.ext 0) ([Z, PV.ptr 0 0 0, Z, Z, Z, Z, Z, Z, Z, Z, Z, Z, Z, Z, Z, Z, Z, Z, Z, Z, Z, Z, Z, Z, Z, Z, Z, Z, Z, Z, Z, Z, Z, Z, Z, Z, Z, Z, Z, Z, Z, Z, Z, Z, Z, Z, Z, Z, Z, Z, Z, Z, Z, Z, Z, Z, Z, Z, Z, Z, Z]) ([{ es := [d.cells], st := 0, par := [], sz := 13 }])]) (
       .node (!eqS d.name (⟨#[]⟩ : ByteArray)) (
        .node (!eqS d.name (⟨#[47]⟩ : ByteArray)) (
         .node (!validS d.name) (
          .leaf (I 6) [LoopSem P (loopAt Try.f49 2) ([Z, PV.ptr 0 0 0, Z, Z, Z, Z, numsP (numT d), I 9, I 0, Z, Z, Z, Z, Z, Z, Z, Z, Z, Z, Z, Z, Z, Z, Z, Z, Z, Z, Z, Z, Z, Z, Z, Z, Z, Z, Z, Z, Z, Z, Z, Z, Z, Z, Z, Z, Z, Z, Z, Z, Z, Z, Z, Z, Z, Z, Z, Z, Z, Z, Z, Z]) ([{ es := [d.cells], st := 0, par := [], sz := 13 }]) (Out.ext 0) ([Z, PV.ptr 0 0 0, Z, Z, Z, Z, Z, Z, Z, Z, Z, Z, Z, Z, Z, Z, Z, Z, Z, Z, Z, Z, Z, Z, Z, Z, Z, Z, Z, Z, Z, Z, Z, Z, Z, Z, Z, Z, Z, Z, Z, Z, Z, Z, Z, Z, Z, Z, Z, Z, Z, Z, Z, Z, Z, Z, Z, Z, Z, Z, Z]) ([{ es := [d.cells], st := 0, par := [], sz := 13 }])]) (
          .node (decide ((if (↑d.muid.size : Int) > if (↑d.gid.size : Int) > (↑d.uid.size : Int) then (↑d.gid.size : Int) else (↑d.uid.size : Int) then (↑d.muid.size : Int) else if (↑d.gid.size : Int) > (↑d.uid.size : Int) then (↑d.gid.size : Int) else (↑d.uid.size : Int)) > 64)) (
           .leaf (I 6) [LoopSem P (loopAt Try.f49 2) ([Z, PV.ptr 0 0 0, Z, Z, Z, Z, numsP (numT d), I 9, I 0, Z, Z, Z, Z, Z, Z, Z, Z, Z, Z, Z, Z, Z, Z, Z, Z, Z, Z, Z, Z, Z, Z, Z, Z, Z, Z, Z, Z, Z, Z, Z, Z, Z, Z, Z, Z, Z, Z, Z, Z, Z, Z, Z, Z, Z, Z, Z, Z, Z, Z, Z, Z]) ([{ es := [d.cells], st := 0, par := [], sz := 13 }]) (Out.ext 0) ([Z, PV.ptr 0 0 0, Z, Z, Z, Z, Z, Z, Z, Z, Z, Z, Z, Z, Z, Z, Z, Z, Z, Z, Z, Z, Z, Z, Z, Z, Z, Z, Z, Z, Z, Z, Z, Z, Z, Z, Z, Z, Z, Z, Z, Z, Z, Z, Z, Z, Z, Z, Z, Z, Z, Z, Z, Z, Z, Z, Z, Z, Z, Z, Z]) ([{ es := [d.cells], st := 0, par := [], sz := 13 }])]) (
           .leaf (I 0) [LoopSem P (loopAt Try.f49 2) ([Z, PV.ptr 0 0 0, Z, Z, Z, Z, numsP (numT d), I 9, I 0, Z, Z, Z, Z, Z, Z, Z, Z, Z, Z, Z, Z, Z, Z, Z, Z, Z, Z, Z, Z, Z, Z, Z, Z, Z, Z, Z, Z, Z, Z, Z, Z, Z, Z, Z, Z, Z, Z, Z, Z, Z, Z, Z, Z, Z, Z, Z, Z, Z, Z, Z, Z]) ([{ es := [d.cells], st := 0, par := [], sz := 13 }]) (Out.ext 0) ([Z, PV.ptr 0 0 0, Z, Z, Z, Z, Z, Z, Z, Z, Z, Z, Z, Z, Z, Z, Z, Z, Z, Z, Z, Z, Z, Z, Z, Z, Z, Z, Z, Z, Z, Z, Z, Z, Z, Z, Z, Z, Z, Z, Z, Z, Z, Z, Z, Z, Z, Z, Z, Z, Z, Z, Z, Z, Z, Z, Z, Z, Z, Z, Z]) ([{ es := [d.cells], st := 0, par := [], sz := 13 }])]))) (
         .node (decide ((if (↑d.muid.size : Int) > if (↑d.gid.size : Int) > (↑d.uid.size : Int) then (↑d.gid.size : Int) else (↑d.uid.size : Int) then (↑d.muid.size : Int) else if (↑d.gid.size : Int) > (↑d.uid.size : Int) then (↑d.gid.size : Int) else (↑d.uid.size : Int)) > 64)) (
          .leaf (I 6) [LoopSem P (loopAt Try.f49 2) ([Z, PV.ptr 0 0 0, Z, Z, Z, Z, numsP (numT d), I 9, I 0, Z, Z, Z, Z, Z, Z, Z, Z, Z, Z, Z, Z, Z, Z, Z, Z, Z, Z, Z, Z, Z, Z, Z, Z, Z, Z, Z, Z, Z, Z, Z, Z, Z, Z, Z, Z, Z, Z, Z, Z, Z, Z, Z, Z, Z, Z, Z, Z, Z, Z, Z, Z]) ([{ es := [d.cells], st := 0, par := [], sz := 13 }]) (Out.ext 0) ([Z, PV.ptr 0 0 0, Z, Z, Z, Z, Z, Z, Z, Z, Z, Z, Z, Z, Z, Z, Z, Z, Z, Z, Z, Z, Z, Z, Z, Z, Z, Z, Z, Z, Z, Z, Z, Z, Z, Z, Z, Z, Z, Z, Z, Z, Z, Z, Z, Z, Z, Z, Z, Z, Z, Z, Z, Z, Z, Z, Z, Z, Z, Z, Z]) ([{ es := [d.cells], st := 0, par := [], sz := 13 }])]) (
          .leaf (I 0) [LoopSem P (loopAt Try.f49 2) ([Z, PV.ptr 0 0 0, Z, Z, Z, Z, numsP (numT d), I 9, I 0, Z, Z, Z, Z, Z, Z, Z, Z, Z, Z, Z, Z, Z, Z, Z, Z, Z, Z, Z, Z, Z, Z, Z, Z, Z, Z, Z, Z, Z, Z, Z, Z, Z, Z, Z, Z, Z, Z, Z, Z, Z, Z, Z, Z, Z, Z, Z, Z, Z, Z, Z, Z]) ([{ es := [d.cells], st := 0, par := [], sz := 13 }]) (Out.ext 0) ([Z, PV.ptr 0 0 0, Z, Z, Z, Z, Z, Z, Z, Z, Z, Z, Z, Z, Z, Z, Z, Z, Z, Z, Z, Z, Z, Z, Z, Z, Z, Z, Z, Z, Z, Z, Z, Z, Z, Z, Z, Z, Z, Z, Z, Z, Z, Z, Z, Z, Z, Z, Z, Z, Z, Z, Z, Z, Z, Z, Z, Z, Z, Z, Z]) ([{ es := [d.cells], st := 0, par := [], sz := 13 }])]))) (
        .node (decide ((if (↑d.muid.size : Int) > if (↑d.gid.size : Int) > (↑d.uid.size : Int) then (↑d.gid.size : Int) else (↑d.uid.size : Int) then (↑d.muid.size : Int) else if (↑d.gid.size : Int) > (↑d.uid.size : Int) then (↑d.gid.size : Int) else (↑d.uid.size : Int)) > 64)) (
         .leaf (I 6) [LoopSem P (loopAt Try.f49 2) ([Z, PV.ptr 0 0 0, Z, Z, Z, Z, numsP (numT d), I 9, I 0, Z, Z, Z, Z, Z, Z, Z, Z, Z, Z, Z, Z, Z, Z, Z, Z, Z, Z, Z, Z, Z, Z, Z, Z, Z, Z, Z, Z, Z, Z, Z, Z, Z, Z, Z, Z, Z, Z, Z, Z, Z, Z, Z, Z, Z, Z, Z, Z, Z, Z, Z, Z]) ([{ es := [d.cells], st := 0, par := [], sz := 13 }]) (Out.ext 0) ([Z, PV.ptr 0 0 0, Z, Z, Z, Z, Z, Z, Z, Z, Z, Z, Z, Z, Z, Z, Z, Z, Z, Z, Z, Z, Z, Z, Z, Z, Z, Z, Z, Z, Z, Z, Z, Z, Z, Z, Z, Z, Z, Z, Z, Z, Z, Z, Z, Z, Z, Z, Z, Z, Z, Z, Z, Z, Z, Z, Z, Z, Z, Z, Z]) ([{ es := [d.cells], st := 0, par := [], sz := 13 }])]) (
         .leaf (I 0) [LoopSem P (loopAt Try.f49 2) ([Z, PV.ptr 0 0 0, Z, Z, Z, Z, numsP (numT d), I 9, I 0, Z, Z, Z, Z, Z, Z, Z, Z, Z, Z, Z, Z, Z, Z, Z, Z, Z, Z, Z, Z, Z, Z, Z, Z, Z, Z, Z, Z, Z, Z, Z, Z, Z, Z, Z, Z, Z, Z, Z, Z, Z, Z, Z, Z, Z, Z, Z, Z, Z, Z, Z, Z]) ([{ es := [d.cells], st := 0, par := [], sz := 13 }]) (Out.ext 0) ([Z, PV.ptr 0 0 0, Z, Z, Z, Z, Z, Z, Z, Z, Z, Z, Z, Z, Z, Z, Z, Z, Z, Z, Z, Z, Z, Z, Z, Z, Z, Z, Z, Z, Z, Z, Z, Z, Z, Z, Z, Z, Z, Z, Z, Z, Z, Z, Z, Z, Z, Z, Z, Z, Z, Z, Z, Z, Z, Z, Z, Z, Z, Z, Z]) ([{ es := [d.cells], st := 0, par := [], sz := 13 }])]))))))) (by kernel_rfl) ?_
  have hn : numsOk d = (!anyFrom badNum (numT d) 0 && qS d.qid.ty 232 && qS d.mode 3892314623) := nums_iff d h1 h2
  have hd : dirE d = if numsOk d then (if textsBad d then 6 else 0) else 5 := rfl
  simp only [Tr.All, AllP, decide_eq_true_eq, decide_eq_false_iff_not, Bool.not_eq_true', Bool.not_eq_false', eqS_decide]
  repeat' with_reducible first | intro _ | refine And.intro ?_ ?_
  all_goals first | trivial | omega | exact ((lp49 d (numT d) rfl 0 (by omega) (by omega)).t (by assumption)).one | exact ((lp49 d (numT d) rfl 0 (by omega) (by omega)).f (by assumption)).one | exact congrArg I (by grind [textsBad])
end Go.Proofs.Ytnkmcmflfedmkaa
