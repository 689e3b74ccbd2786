/- Contracts of chapter 8: lists of qids, equal lists, the use of a field, descriptions. -/
import Derived.Test.YtnkmcmflfedmkaaM5
namespace Go.Proofs.Ytnkmcmflfedmkaa
open Go.PS

def d45 : List PV → Option (PV × List Prop)
  | [.agg [.sc (.int .i64 a), .sc (.int .i64 b), .sc (.int .i64 c)]] => some (I (qidE ⟨a, b, c⟩), [InR a])
  | _ => none
def d55 : List PV → Option (PV × List Prop)
  | [.agg [.sc (.int .i64 a), .sc (.int .i64 b), .sc (.int .i64 c)]] => some (I (qidE ⟨a, b, c⟩), [])
  | _ => none
def Ee : Env := addE 45 d45 (addE 55 d55 Ed)
theorem Ee_ok : EnvOk P Ee :=
  addE_ok (addE_ok Ed_ok
    (fun l r ob h ho => by unfold d55 at h; split at h <;> cases h; exact rqid_ok ⟨_, _, _⟩))
    (fun l r ob h ho => by unfold d45 at h; split at h <;> cases h; exact qid_ok ⟨_, _, _⟩ (ho _ (by simp)))

def badQ (q : Qid) : Bool := !qidOk q
def qidsE (l : List Qid) : Int := if 16 < l.length then 4 else if l.any badQ then 5 else 0

def st47 (l : List Qid) (i : Int) : List PV := [Z, Z, Z, Z, Z, Z, Z, Z, Z, qidL l, I l.length, I i, Z, Z, Z, Z, Z, Z, Z, Z, Z]
def lt47 (l : List Qid) (i : Int) : LT := .ite (anyFrom badQ l i) (.out .ret ([Z, Z, I 5, Z, Z, Z, Z, Z, Z, Z, Z, Z, Z, Z, Z, Z, Z, Z, Z, Z, Z]) []) (.out (.ext 0) ([Z, Z, Z, Z, Z, Z, Z, Z, Z, Z, Z, Z, Z, Z, Z, Z, Z, Z, Z, Z, Z]) [])

theorem lp47 (l : List Qid) (hs : l.length ≤ 9223372036854775807) (hl : ∀ q ∈ l, InR q.ty) : ∀ i : Int, 0 ≤ i → i ≤ l.length → LoopT P (loopAt Try.f47 4) (st47 l i) [] (lt47 l i) := by
  apply upto
  intro i h0 h1 ih
  refine loop_tr Ee_ok L0 [9, 10, 11] [2] ((.node (decide (i < (↑l.length : Int))) (
     .node (qidE (l.getD i.toNat default) != 0) (
      .leaf ((Out.ret, [Z, Z, I (qidE (l.getD i.toNat default)), Z, Z, Z, Z, Z, Z, Z, Z, Z, Z, Z, Z, Z, Z, Z, Z, Z, Z], [])) [0 ≤ i, i < (↑l.length : Int), InR (l.getD i.toNat default).ty]) (
      .leaf ((Out.norm, [Z, Z, Z, Z, Z, Z, Z, Z, Z, qidL l, I (↑l.length : Int), I (IntKind.i64.wrap (i + 1)), Z, Z, Z, Z, Z, Z, Z, Z, Z], [])) [0 ≤ i, i < (↑l.length : Int), InR (l.getD i.toNat default).ty])) (
     .leaf ((Out.ext 0, [Z, Z, Z, Z, Z, Z, Z, Z, Z, Z, Z, Z, Z, Z, Z, Z, Z, Z, Z, Z, Z], [])) []))) (by kernel_rfl) ?_
  have hst : i < l.length → anyFrom badQ l i = (badQ (l.getD i.toNat default) || anyFrom badQ l (i + 1)) := fun hi => anyFrom_step default h0 (by omega)
  have hgo : i < l.length ∧ badQ (l.getD i.toNat default) = false → LoopT P (loopAt Try.f47 4) (st47 l (IntKind.i64.wrap (i + 1))) [] (lt47 l i) := by
    rintro ⟨hi, hb⟩
    rw [wrap64 (by omega) (by omega), show lt47 l i = lt47 l (i + 1) by simp only [lt47, hst hi, hb, Bool.false_or]]
    exact ih hi
  have hhit : i < l.length ∧ badQ (l.getD i.toNat default) = true → (lt47 l i).ends (.ret, [Z, Z, I (qidE (l.getD i.toNat default)), Z, Z, Z, Z, Z, Z, Z, Z, Z, Z, Z, Z, Z, Z, Z, Z, Z, Z], []) := by
    rintro ⟨hi, hb⟩
    refine ends_t (by rw [hst hi, hb]; rfl) ?_
    rw [show qidE (l.getD i.toNat default) = 5 by simp only [badQ, Bool.not_eq_true'] at hb; rw [qidE, hb]; rfl]; rfl
  have hend : ¬ i < l.length → anyFrom badQ l i = false := fun hi => anyFrom_end (by omega)
  have hsz : i < l.length → InR (l.getD i.toNat default).ty := fun hi => by
    have hk : i.toNat < l.length := by omega
    rw [List.getD_eq_getElem?_getD, List.getElem?_eq_getElem hk]
    exact hl _ (List.getElem_mem hk)
  generalize l.getD i.toNat default = b at *
  simp only [Tr.All, AllP, Rnd, decide_eq_true_eq, decide_eq_false_iff_not, bne_iff_ne, bne_eq_false_iff_eq]
  repeat' with_reducible first | intro _ | refine And.intro ?_ ?_
  all_goals first | trivial | omega | exact hgo (by grind [badQ, qidE]) | exact hhit (by grind [badQ, qidE]) | exact ends_f (hend (by grind)) rfl | exact hsz (by grind)

def L47 (l : List Qid) : LEnv := fun _ => ([9, 10, 11], fun _ _ => lt47 l 0)

theorem qids_ok (l : List Qid) (hl : ∀ q ∈ l, InR q.ty) : Ok P 47 [qidL l] (I (qidsE l)) := by
  refine fn_tr Ee_ok (L47 l) Try.func47 ((.node (decide ((↑l.length : Int) > 16)) (
     .leaf (I 4) []) (
     .node (anyFrom badQ l 0) (
      .leaf (I 5) [LoopSem P (loopAt Try.f47 4) ([Z, Z, Z, Z, Z, Z, Z, Z, Z, qidL l, I (↑l.length : Int), I 0, Z, Z, Z, Z, Z, Z, Z, Z, Z]) ([]) (Out.ret) ([Z, Z, I 5, Z, Z, Z, Z, Z, Z, Z, Z, Z, Z, Z, Z, Z, Z, Z, Z, Z, Z]) ([])]) (
      .leaf (I 0) [LoopSem P (loopAt Try.f47 4) ([Z, Z, Z, Z, Z, Z, Z, Z, Z, qidL l, I (↑l.length : Int), I 0, Z, Z, Z, Z, Z, Z, Z, Z, Z]) ([]) (Out.ext 0) ([Z, Z, Z, Z, Z, Z, Z, Z, Z, Z, Z, Z, Z, Z, Z, Z, Z, Z, Z, Z, Z]) ([])])))) (by kernel_rfl) ?_
  have hv : qidsE l = if 16 < l.length then 4 else if anyFrom badQ l 0 then 5 else 0 := rfl
  simp only [Tr.All, AllP, decide_eq_true_eq, decide_eq_false_iff_not]
  repeat' with_reducible first | intro _ | refine And.intro ?_ ?_
  all_goals first | trivial | omega | exact ((lp47 l (by omega) hl 0 (by omega) (by omega)).t (by assumption)).one | exact ((lp47 l (by omega) hl 0 (by omega) (by omega)).f (by assumption)).one | exact congrArg I (by grind)

/-! R.qids -/
def st54 (l : List Qid) (i : Int) : List PV := [qidL l, Z, Z, Z, Z, Z, Z, Z, Z, I l.length, I i, Z, Z, Z, Z, Z, Z, Z, Z, Z, Z, Z]
def lt54 (l : List Qid) (i : Int) : LT := .ite (anyFrom badQ l i) (.out .ret ([Z, Z, I 5, Z, Z, Z, Z, Z, Z, Z, Z, Z, Z, Z, Z, Z, Z, Z, Z, Z, Z, Z]) []) (.out (.ext 0) ([Z, Z, Z, Z, Z, Z, Z, Z, Z, Z, Z, Z, Z, Z, Z, Z, Z, Z, Z, Z, Z, Z]) [])

theorem lp54 (l : List Qid) (hs : l.length ≤ 9223372036854775807) : ∀ i : Int, 0 ≤ i → i ≤ l.length → LoopT P (loopAt Try.f54 4) (st54 l i) [] (lt54 l i) := by
  apply upto
  intro i h0 h1 ih
  refine loop_tr Ee_ok L0 [0, 9, 10] [2] ((.node (decide (i < (↑l.length : Int))) (
     .node (qidE (l.getD i.toNat default) != 0) (
      .leaf ((Out.ret, [Z, Z, I (qidE (l.getD i.toNat default)), Z, Z, Z, Z, Z, Z, Z, Z, Z, Z, Z, Z, Z, Z, Z, Z, Z, Z, Z], [])) [0 ≤ i, i < (↑l.length : Int)]) (
      .leaf ((Out.norm, [qidL l, Z, Z, Z, Z, Z, Z, Z, Z, I (↑l.length : Int), I (IntKind.i64.wrap (i + 1)), Z, Z, Z, Z, Z, Z, Z, Z, Z, Z, Z], [])) [0 ≤ i, i < (↑l.length : Int)])) (
     .leaf ((Out.ext 0, [Z, Z, Z, Z, Z, Z, Z, Z, Z, Z, Z, Z, Z, Z, Z, Z, Z, Z, Z, Z, Z, Z], [])) []))) (by kernel_rfl) ?_
  have hst : i < l.length → anyFrom badQ l i = (badQ (l.getD i.toNat default) || anyFrom badQ l (i + 1)) := fun hi => anyFrom_step default h0 (by omega)
  have hgo : i < l.length ∧ badQ (l.getD i.toNat default) = false → LoopT P (loopAt Try.f54 4) (st54 l (IntKind.i64.wrap (i + 1))) [] (lt54 l i) := by
    rintro ⟨hi, hb⟩
    rw [wrap64 (by omega) (by omega), show lt54 l i = lt54 l (i + 1) by simp only [lt54, hst hi, hb, Bool.false_or]]
    exact ih hi
  have hhit : i < l.length ∧ badQ (l.getD i.toNat default) = true → (lt54 l i).ends (.ret, [Z, Z, I (qidE (l.getD i.toNat default)), Z, Z, Z, Z, Z, Z, Z, Z, Z, Z, Z, Z, Z, Z, Z, Z, Z, Z, Z], []) := by
    rintro ⟨hi, hb⟩
    refine ends_t (by rw [hst hi, hb]; rfl) ?_
    rw [show qidE (l.getD i.toNat default) = 5 by simp only [badQ, Bool.not_eq_true'] at hb; rw [qidE, hb]; rfl]; rfl
  have hend : ¬ i < l.length → anyFrom badQ l i = false := fun hi => anyFrom_end (by omega)
  generalize l.getD i.toNat default = b at *
  simp only [Tr.All, AllP, Rnd, decide_eq_true_eq, decide_eq_false_iff_not, bne_iff_ne, bne_eq_false_iff_eq]
  repeat' with_reducible first | intro _ | refine And.intro ?_ ?_
  all_goals first | trivial | omega | exact hgo (by grind [badQ, qidE]) | exact hhit (by grind [badQ, qidE]) | exact ends_f (hend (by grind)) rfl

def L54 (l : List Qid) : LEnv := fun _ => ([0, 9, 10], fun _ _ => lt54 l 0)

theorem rqids_ok (l : List Qid) : Ok P 54 [qidL l] (I (qidsE l)) := by
  refine fn_tr Ee_ok (L54 l) Try.func54 ((.node (decide ((↑l.length : Int) > 16)) (
     .leaf (I 4) []) (
     .node (anyFrom badQ l 0) (
      .leaf (I 5) [LoopSem P (loopAt Try.f54 4) ([qidL l, Z, Z, Z, Z, Z, Z, Z, Z, I (↑l.length : Int), I 0, Z, Z, Z, Z, Z, Z, Z, Z, Z, Z, Z]) ([]) (Out.ret) ([Z, Z, I 5, Z, Z, Z, Z, Z, Z, Z, Z, Z, Z, Z, Z, Z, Z, Z, Z, Z, Z, Z]) ([])]) (
      .leaf (I 0) [LoopSem P (loopAt Try.f54 4) ([qidL l, Z, Z, Z, Z, Z, Z, Z, Z, I (↑l.length : Int), I 0, Z, Z, Z, Z, Z, Z, Z, Z, Z, Z, Z]) ([]) (Out.ext 0) ([Z, Z, Z, Z, Z, Z, Z, Z, Z, Z, Z, Z, Z, Z, Z, Z, Z, Z, Z, Z, Z, Z]) ([])])))) (by kernel_rfl) ?_
  have hv : qidsE l = if 16 < l.length then 4 else if anyFrom badQ l 0 then 5 else 0 := rfl
  simp only [Tr.All, AllP, decide_eq_true_eq, decide_eq_false_iff_not]
  repeat' with_reducible first | intro _ | refine And.intro ?_ ?_
  all_goals first | trivial | omega | exact ((lp54 l (by omega) 0 (by omega) (by omega)).t (by assumption)).one | exact ((lp54 l (by omega) 0 (by omega) (by omega)).f (by assumption)).one | exact congrArg I (by grind)

/-! Equal lists. -/
def diff {α : Type} [DecidableEq α] (p : α × α) : Bool := !decide (p.1 = p.2)

theorem zip_getD {α : Type} [Inhabited α] (l m : List α) (k : Nat) (h : l.length = m.length) (hk : k < l.length) : (l.zip m).getD k default = (l.getD k default, m.getD k default) := by
  have h2 : k < m.length := by omega
  have h3 : k < (l.zip m).length := by simp; omega
  rw [List.getD_eq_getElem?_getD, List.getElem?_eq_getElem h3, List.getElem_zip]
  simp [List.getD, hk, h2]

theorem any_diff {α : Type} [DecidableEq α] : ∀ (l m : List α), l.length = m.length → (l.zip m).any diff = !decide (l = m)
  | [], [], _ => by simp
  | [], _ :: _, h => by simp at h
  | _ :: _, [], h => by simp at h
  | x :: l, y :: m, h => by
    simp only [List.zip_cons_cons, List.any_cons, any_diff l m (by simpa using h), diff]
    by_cases h1 : x = y <;> by_cases h2 : l = m <;> simp [h1, h2]

def st38 (l m : List ByteArray) (i : Int) : List PV := [strs l, strs m, Z, Z, Z, Z, Z, Z, Z, Z, Z, Z, I l.length, I i, Z, Z, Z, Z, Z, Z, Z, Z, Z, Z, Z, Z]
def lt38 (l m : List ByteArray) (i : Int) : LT := .ite (anyFrom diff (l.zip m) i) (.out .ret ([Z, Z, Z, Z, .bit false, Z, Z, Z, Z, Z, Z, Z, Z, Z, Z, Z, Z, Z, Z, Z, Z, Z, Z, Z, Z, Z]) []) (.out (.ext 0) ([Z, Z, Z, Z, Z, Z, Z, Z, Z, Z, Z, Z, Z, Z, Z, Z, Z, Z, Z, Z, Z, Z, Z, Z, Z, Z]) [])

theorem lp38 (l m : List ByteArray) (hs : l.length ≤ 9223372036854775807) (hlm : l.length = m.length) : ∀ i : Int, 0 ≤ i → i ≤ l.length → LoopT P (loopAt Try.f38 4) (st38 l m i) [] (lt38 l m i) := by
  apply upto
  intro i h0 h1 ih
  refine loop_tr Ee_ok L0 [0, 1, 12, 13] [4] ((.node (decide (i < (↑l.length : Int))) (
     .node (!eqS (l.getD i.toNat default) (m.getD i.toNat default)) (
      .leaf ((Out.ret, [Z, Z, Z, Z, PV.bit false, Z, Z, Z, Z, Z, Z, Z, Z, Z, Z, Z, Z, Z, Z, Z, Z, Z, Z, Z, Z, Z], [])) [0 ≤ i, i < (↑l.length : Int), 0 ≤ i, i < (↑m.length : Int)]) (
      .leaf ((Out.norm, [strs l, strs m, Z, Z, Z, Z, Z, Z, Z, Z, Z, Z, I (↑l.length : Int), I (IntKind.i64.wrap (i + 1)), Z, Z, Z, Z, Z, Z, Z, Z, Z, Z, Z, Z], [])) [0 ≤ i, i < (↑l.length : Int), 0 ≤ i, i < (↑m.length : Int)])) (
     .leaf ((Out.ext 0, [Z, Z, Z, Z, Z, Z, Z, Z, Z, Z, Z, Z, Z, Z, Z, Z, Z, Z, Z, Z, Z, Z, Z, Z, Z, Z], [])) []))) (by kernel_rfl) ?_
  have hz : (l.zip m).length = l.length := by simp [hlm]
  have hst : i < l.length → anyFrom diff (l.zip m) i = (diff (l.getD i.toNat default, m.getD i.toNat default) || anyFrom diff (l.zip m) (i + 1)) := fun hi => by
    rw [anyFrom_step default h0 (by omega), zip_getD l m i.toNat hlm (by omega)]
  have hgo : i < l.length ∧ diff (l.getD i.toNat default, m.getD i.toNat default) = false → LoopT P (loopAt Try.f38 4) (st38 l m (IntKind.i64.wrap (i + 1))) [] (lt38 l m i) := by
    rintro ⟨hi, hb⟩
    rw [wrap64 (by omega) (by omega), show lt38 l m i = lt38 l m (i + 1) by simp only [lt38, hst hi, hb, Bool.false_or]]
    exact ih hi
  have hhit : i < l.length ∧ diff (l.getD i.toNat default, m.getD i.toNat default) = true → anyFrom diff (l.zip m) i = true := by
    rintro ⟨hi, hb⟩
    rw [hst hi, hb]; rfl
  have hend : ¬ i < l.length → anyFrom diff (l.zip m) i = false := fun hi => anyFrom_end (by omega)
  generalize l.getD i.toNat default = a at *
  generalize m.getD i.toNat default = b at *
  simp only [Tr.All, AllP, Rnd, decide_eq_true_eq, decide_eq_false_iff_not, Bool.not_eq_true', Bool.not_eq_false', eqS_decide]
  repeat' with_reducible first | intro _ | refine And.intro ?_ ?_
  all_goals first | trivial | omega | exact hgo (by grind [diff]) | exact ends_t (hhit (by grind [diff])) rfl | exact ends_f (hend (by grind)) rfl

def L38 (l m : List ByteArray) : LEnv := fun _ => ([0, 1, 12, 13], fun _ _ => lt38 l m 0)

theorem equalS_ok (l m : List ByteArray) (hs : l.length ≤ 9223372036854775807) : Ok P 38 [strs l, strs m] (Bo (decide (l = m))) := by
  refine fn_tr Ee_ok (L38 l m) Try.func38 ((.node ((↑l.length : Int) != (↑m.length : Int)) (
     .leaf (Bo false) []) (
     .node (anyFrom diff (l.zip m) 0) (
      .leaf (Bo false) [LoopSem P (loopAt Try.f38 4) ([strs l, strs m, Z, Z, Z, Z, Z, Z, Z, Z, Z, Z, I (↑l.length : Int), I 0, Z, Z, Z, Z, Z, Z, Z, Z, Z, Z, Z, Z]) ([]) (Out.ret) ([Z, Z, Z, Z, PV.bit false, Z, Z, Z, Z, Z, Z, Z, Z, Z, Z, Z, Z, Z, Z, Z, Z, Z, Z, Z, Z, Z]) ([])]) (
      .leaf (Bo true) [LoopSem P (loopAt Try.f38 4) ([strs l, strs m, Z, Z, Z, Z, Z, Z, Z, Z, Z, Z, I (↑l.length : Int), I 0, Z, Z, Z, Z, Z, Z, Z, Z, Z, Z, Z, Z]) ([]) (Out.ext 0) ([Z, Z, Z, Z, Z, Z, Z, Z, Z, Z, Z, Z, Z, Z, Z, Z, Z, Z, Z, Z, Z, Z, Z, Z, Z, Z]) ([])])))) (by kernel_rfl) ?_
  have hv : l.length = m.length → anyFrom diff (l.zip m) 0 = !decide (l = m) := any_diff l m
  have hn : ¬ l.length = m.length → ¬ l = m := fun h e => h (by rw [e])
  simp only [Tr.All, AllP, bne_iff_ne, bne_eq_false_iff_eq]
  repeat' with_reducible first | intro _ | refine And.intro ?_ ?_
  all_goals first | trivial | omega | exact ((lp38 l m hs (by omega) 0 (by omega) (by omega)).t (by assumption)).one | exact ((lp38 l m hs (by omega) 0 (by omega) (by omega)).f (by assumption)).one | exact congrArg Bo (by grind)

def st39 (l m : List Qid) (i : Int) : List PV := [qidL l, qidL m, Z, Z, Z, Z, Z, Z, Z, Z, Z, Z, I l.length, I i, Z, Z, Z, Z, Z, Z, Z, Z, Z, Z, Z, Z]
def lt39 (l m : List Qid) (i : Int) : LT := .ite (anyFrom diff (l.zip m) i) (.out .ret ([Z, Z, Z, Z, .bit false, Z, Z, Z, Z, Z, Z, Z, Z, Z, Z, Z, Z, Z, Z, Z, Z, Z, Z, Z, Z, Z]) []) (.out (.ext 0) ([Z, Z, Z, Z, Z, Z, Z, Z, Z, Z, Z, Z, Z, Z, Z, Z, Z, Z, Z, Z, Z, Z, Z, Z, Z, Z]) [])

theorem lp39 (l m : List Qid) (hs : l.length ≤ 9223372036854775807) (hlm : l.length = m.length) : ∀ i : Int, 0 ≤ i → i ≤ l.length → LoopT P (loopAt Try.f39 4) (st39 l m i) [] (lt39 l m i) := by
  apply upto
  intro i h0 h1 ih
  refine loop_tr Ee_ok L0 [0, 1, 12, 13] [4] ((.node (decide (i < (↑l.length : Int))) (
     .node (!((l.getD i.toNat default).ty == (m.getD i.toNat default).ty && ((l.getD i.toNat default).vers == (m.getD i.toNat default).vers && ((l.getD i.toNat default).path == (m.getD i.toNat default).path && true)))) (
      .leaf ((Out.ret, [Z, Z, Z, Z, PV.bit false, Z, Z, Z, Z, Z, Z, Z, Z, Z, Z, Z, Z, Z, Z, Z, Z, Z, Z, Z, Z, Z], [])) [0 ≤ i, i < (↑l.length : Int), 0 ≤ i, i < (↑m.length : Int)]) (
      .leaf ((Out.norm, [qidL l, qidL m, Z, Z, Z, Z, Z, Z, Z, Z, Z, Z, I (↑l.length : Int), I (IntKind.i64.wrap (i + 1)), Z, Z, Z, Z, Z, Z, Z, Z, Z, Z, Z, Z], [])) [0 ≤ i, i < (↑l.length : Int), 0 ≤ i, i < (↑m.length : Int)])) (
     .leaf ((Out.ext 0, [Z, Z, Z, Z, Z, Z, Z, Z, Z, Z, Z, Z, Z, Z, Z, Z, Z, Z, Z, Z, Z, Z, Z, Z, Z, Z], [])) []))) (by kernel_rfl) ?_
  have hz : (l.zip m).length = l.length := by simp [hlm]
  have hst : i < l.length → anyFrom diff (l.zip m) i = (diff (l.getD i.toNat default, m.getD i.toNat default) || anyFrom diff (l.zip m) (i + 1)) := fun hi => by
    rw [anyFrom_step default h0 (by omega), zip_getD l m i.toNat hlm (by omega)]
  have hgo : i < l.length ∧ diff (l.getD i.toNat default, m.getD i.toNat default) = false → LoopT P (loopAt Try.f39 4) (st39 l m (IntKind.i64.wrap (i + 1))) [] (lt39 l m i) := by
    rintro ⟨hi, hb⟩
    rw [wrap64 (by omega) (by omega), show lt39 l m i = lt39 l m (i + 1) by simp only [lt39, hst hi, hb, Bool.false_or]]
    exact ih hi
  have hhit : i < l.length ∧ diff (l.getD i.toNat default, m.getD i.toNat default) = true → anyFrom diff (l.zip m) i = true := by
    rintro ⟨hi, hb⟩
    rw [hst hi, hb]; rfl
  have hend : ¬ i < l.length → anyFrom diff (l.zip m) i = false := fun hi => anyFrom_end (by omega)
  have hd : ∀ a b : Qid, diff (a, b) = !(a.ty == b.ty && (a.vers == b.vers && (a.path == b.path && true))) := by
    intro a b
    cases a; cases b
    simp only [diff, Bool.and_true, Qid.mk.injEq]
    rw [Bool.eq_iff_iff]
    simp
  generalize l.getD i.toNat default = a at *
  generalize m.getD i.toNat default = b at *
  simp only [Tr.All, AllP, Rnd, decide_eq_true_eq, decide_eq_false_iff_not, Bool.not_eq_true', Bool.not_eq_false']
  repeat' with_reducible first | intro _ | refine And.intro ?_ ?_
  all_goals first | trivial | omega | exact hgo (by grind) | exact ends_t (hhit (by grind)) rfl | exact ends_f (hend (by grind)) rfl

def L39 (l m : List Qid) : LEnv := fun _ => ([0, 1, 12, 13], fun _ _ => lt39 l m 0)

theorem equalQ_ok (l m : List Qid) (hs : l.length ≤ 9223372036854775807) : Ok P 39 [qidL l, qidL m] (Bo (decide (l = m))) := by
  refine fn_tr Ee_ok (L39 l m) Try.func39 ((.node ((↑l.length : Int) != (↑m.length : Int)) (
     .leaf (Bo false) []) (
     .node (anyFrom diff (l.zip m) 0) (
      .leaf (Bo false) [LoopSem P (loopAt Try.f39 4) ([qidL l, qidL m, Z, Z, Z, Z, Z, Z, Z, Z, Z, Z, I (↑l.length : Int), I 0, Z, Z, Z, Z, Z, Z, Z, Z, Z, Z, Z, Z]) ([]) (Out.ret) ([Z, Z, Z, Z, PV.bit false, Z, Z, Z, Z, Z, Z, Z, Z, Z, Z, Z, Z, Z, Z, Z, Z, Z, Z, Z, Z, Z]) ([])]) (
      .leaf (Bo true) [LoopSem P (loopAt Try.f39 4) ([qidL l, qidL m, Z, Z, Z, Z, Z, Z, Z, Z, Z, Z, I (↑l.length : Int), I 0, Z, Z, Z, Z, Z, Z, Z, Z, Z, Z, Z, Z]) ([]) (Out.ext 0) ([Z, Z, Z, Z, Z, Z, Z, Z, Z, Z, Z, Z, Z, Z, Z, Z, Z, Z, Z, Z, Z, Z, Z, Z, Z, Z]) ([])])))) (by kernel_rfl) ?_
  have hv : l.length = m.length → anyFrom diff (l.zip m) 0 = !decide (l = m) := any_diff l m
  have hn : ¬ l.length = m.length → ¬ l = m := fun h e => h (by rw [e])
  simp only [Tr.All, AllP, bne_iff_ne, bne_eq_false_iff_eq]
  repeat' with_reducible first | intro _ | refine And.intro ?_ ?_
  all_goals first | trivial | omega | exact ((lp39 l m hs (by omega) 0 (by omega) (by omega)).t (by assumption)).one | exact ((lp39 l m hs (by omega) 0 (by omega) (by omega)).f (by assumption)).one | exact congrArg Bo (by grind)
end Go.Proofs.Ytnkmcmflfedmkaa
