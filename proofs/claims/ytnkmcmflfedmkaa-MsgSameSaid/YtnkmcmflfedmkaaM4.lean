/- Contracts of chapter 8, third part: names and lists of numbers. -/
import Derived.Test.YtnkmcmflfedmkaaM3
namespace Go.Proofs.Ytnkmcmflfedmkaa
open Go.PS

theorem size_zero (s : ByteArray) : s.size = 0 ↔ s = ⟨#[]⟩ := by
  constructor
  · intro h
    cases s with | mk x => cases x with | mk l => cases l with
      | nil => rfl
      | cons a l => simp [ByteArray.size] at h
  · rintro rfl; rfl

/-! path.Valid -/
def L57 (s : ByteArray) : LEnv := fun _ => ([0, 20, 21], fun _ _ => lt57 s 0)

theorem valid_ok (s : ByteArray) : Ok P 57 [S s] (Bo (validS s)) := by
  refine fn_tr Ea_ok (L57 s) Try.func57 ((.node (eqS s (⟨#[]⟩ : ByteArray)) (
     .leaf (Bo false) []) (
     .node (eqS s (⟨#[46]⟩ : ByteArray)) (
      .leaf (Bo false) []) (
      .node (eqS s (⟨#[46, 46]⟩ : ByteArray)) (
       .leaf (Bo false) []) (
       .node (decide ((↑s.size : Int) > 64)) (
        .leaf (Bo false) []) (
        .node (anyFrom badB s.data.toList 0) (
         .leaf (Bo false) [LoopSem P (loopAt Try.f57 4) ([S s, Z, Z, Z, Z, Z, Z, Z, Z, Z, Z, Z, Z, Z, Z, Z, Z, Z, Z, Z, I (↑s.size : Int), I 0, Z, Z, Z, Z, Z, Z, Z, Z, Z, Z, Z, Z, Z, Z, Z, Z, Z, Z, Z]) ([]) (Out.ret) ([Z, Z, PV.bit false, Z, Z, Z, Z, Z, Z, Z, Z, Z, Z, Z, Z, Z, Z, Z, Z, Z, Z, Z, Z, Z, Z, Z, Z, Z, Z, Z, Z, Z, Z, Z, Z, Z, Z, Z, Z, Z, Z]) ([])]) (
         .leaf (Bo true) [LoopSem P (loopAt Try.f57 4) ([S s, Z, Z, Z, Z, Z, Z, Z, Z, Z, Z, Z, Z, Z, Z, Z, Z, Z, Z, Z, I (↑s.size : Int), I 0, Z, Z, Z, Z, Z, Z, Z, Z, Z, Z, Z, Z, Z, Z, Z, Z, Z, Z, Z]) ([]) (Out.ext 0) ([Z, Z, Z, Z, Z, Z, Z, Z, Z, Z, Z, Z, Z, Z, Z, Z, Z, Z, Z, Z, Z, Z, Z, Z, Z, Z, Z, Z, Z, Z, Z, Z, Z, Z, Z, Z, Z, Z, Z, Z, Z]) ([])]))))))) (by kernel_rfl) ?_
  have hz := size_zero s
  have h1 : s = ⟨#[46]⟩ → validS s = false := by rintro rfl; rfl
  have h2 : s = ⟨#[46, 46]⟩ → validS s = false := by rintro rfl; rfl
  have hv : validS s = (decide (1 ≤ s.size ∧ s.size ≤ 64 ∧ s ≠ ⟨#[46]⟩ ∧ s ≠ ⟨#[46, 46]⟩) && !anyFrom badB s.data.toList 0) := rfl
  simp only [Tr.All, AllP, decide_eq_true_eq, decide_eq_false_iff_not, eqS_decide]
  repeat' with_reducible first | intro _ | refine And.intro ?_ ?_
  all_goals first | trivial | omega | exact ((lp57 s (by omega) 0 (by omega) (by omega)).t (by assumption)).one | exact ((lp57 s (by omega) 0 (by omega) (by omega)).f (by assumption)).one | exact congrArg Bo (by grind)

/-! R03.Valid -/
def st60 (s : ByteArray) (i : Int) : List PV := [S s, Z, Z, I i, Z, Z, Z, Z, Z, Z, Z, Z, Z, Z, Z, Z, Z, Z, Z, Z, Z, Z, Z, Z, Z, Z, Z, Z, Z, Z, Z, Z, Z, Z, Z, Z, Z, Z, Z, Z, Z, Z]
def lt60 (s : ByteArray) (i : Int) : LT := .ite (anyFrom badB s.data.toList i) (.out .ret ([S s, Z, .bit false, Z, Z, Z, Z, Z, Z, Z, Z, Z, Z, Z, Z, Z, Z, Z, Z, Z, Z, Z, Z, Z, Z, Z, Z, Z, Z, Z, Z, Z, Z, Z, Z, Z, Z, Z, Z, Z, Z, Z]) []) (.out (.ext 0) ([S s, Z, Z, Z, Z, Z, Z, Z, Z, Z, Z, Z, Z, Z, Z, Z, Z, Z, Z, Z, Z, Z, Z, Z, Z, Z, Z, Z, Z, Z, Z, Z, Z, Z, Z, Z, Z, Z, Z, Z, Z, Z]) [])

theorem lp60 (s : ByteArray) (hs : s.size ≤ 9223372036854775807) : ∀ i : Int, 0 ≤ i → i ≤ s.size → LoopT P (loopAt Try.f60 2) (st60 s i) [] (lt60 s i) := by
  apply upto
  intro i h0 h1 ih
  refine loop_tr Ea_ok L0 [0, 3] [0, 2] ((.node (decide (i < (↑s.size : Int))) (
     .node (decide ((↑(s.data.toList.getD i.toNat 0).toNat : Int) < 33)) (
      .leaf ((Out.ret, [S s, Z, PV.bit false, Z, Z, Z, Z, Z, Z, Z, Z, Z, Z, Z, Z, Z, Z, Z, Z, Z, Z, Z, Z, Z, Z, Z, Z, Z, Z, Z, Z, Z, Z, Z, Z, Z, Z, Z, Z, Z, Z, Z], [])) [0 ≤ i, i < (↑s.size : Int)]) (
      .node (decide ((↑(s.data.toList.getD i.toNat 0).toNat : Int) > 126)) (
       .leaf ((Out.ret, [S s, Z, PV.bit false, Z, Z, Z, Z, Z, Z, Z, Z, Z, Z, Z, Z, Z, Z, Z, Z, Z, Z, Z, Z, Z, Z, Z, Z, Z, Z, Z, Z, Z, Z, Z, Z, Z, Z, Z, Z, Z, Z, Z], [])) [0 ≤ i, i < (↑s.size : Int), 0 ≤ i, i < (↑s.size : Int)]) (
       .node ((↑(s.data.toList.getD i.toNat 0).toNat : Int) == 47) (
        .leaf ((Out.ret, [S s, Z, PV.bit false, Z, Z, Z, Z, Z, Z, Z, Z, Z, Z, Z, Z, Z, Z, Z, Z, Z, Z, Z, Z, Z, Z, Z, Z, Z, Z, Z, Z, Z, Z, Z, Z, Z, Z, Z, Z, Z, Z, Z], [])) [0 ≤ i, i < (↑s.size : Int), 0 ≤ i, i < (↑s.size : Int), 0 ≤ i, i < (↑s.size : Int)]) (
        .leaf ((Out.norm, [S s, Z, Z, I (IntKind.i64.wrap (i + 1)), Z, Z, Z, Z, Z, Z, Z, Z, Z, Z, Z, Z, Z, Z, Z, Z, Z, Z, Z, Z, Z, Z, Z, Z, Z, Z, Z, Z, Z, Z, Z, Z, Z, Z, Z, Z, Z, Z], [])) [0 ≤ i, i < (↑s.size : Int), 0 ≤ i, i < (↑s.size : Int), 0 ≤ i, i < (↑s.size : Int)])))) (
     .leaf ((Out.ext 0, [S s, Z, Z, Z, Z, Z, Z, Z, Z, Z, Z, Z, Z, Z, Z, Z, Z, Z, Z, Z, Z, Z, Z, Z, Z, Z, Z, Z, Z, Z, Z, Z, Z, Z, Z, Z, Z, Z, Z, Z, Z, Z], [])) []))) (by kernel_rfl) ?_
  have hsz : s.data.toList.length = s.size := by simp
  have hst : i < s.size → anyFrom badB s.data.toList i = (badB (s.data.toList.getD i.toNat 0) || anyFrom badB s.data.toList (i + 1)) := fun hi => anyFrom_step 0 h0 (by omega)
  have hgo : i < s.size ∧ badB (s.data.toList.getD i.toNat 0) = false → LoopT P (loopAt Try.f60 2) (st60 s (IntKind.i64.wrap (i + 1))) [] (lt60 s i) := by
    rintro ⟨hi, hb⟩
    rw [wrap64 (by omega) (by omega), show lt60 s i = lt60 s (i + 1) by simp only [lt60, hst hi, hb, Bool.false_or]]
    exact ih hi
  have hhit : i < s.size ∧ badB (s.data.toList.getD i.toNat 0) = true → anyFrom badB s.data.toList i = true := by
    rintro ⟨hi, hb⟩
    rw [hst hi, hb]; rfl
  have hend : ¬ i < s.size → anyFrom badB s.data.toList i = false := fun hi => anyFrom_end (by omega)
  generalize s.data.toList.getD i.toNat 0 = b at *
  simp only [Tr.All, AllP, Rnd, decide_eq_true_eq, decide_eq_false_iff_not, beq_iff_eq, beq_eq_false_iff_ne]
  repeat' with_reducible first | intro _ | refine And.intro ?_ ?_
  all_goals first | trivial | omega | exact hgo (by grind [badB]) | exact ends_t (hhit (by grind [badB])) rfl | exact ends_f (hend (by grind)) rfl

def L60 (s : ByteArray) : LEnv := fun _ => ([0, 3], fun _ _ => lt60 s 0)

theorem rvalid_ok (s : ByteArray) (hs : s.size ≤ 9223372036854775807) : Ok P 60 [S s] (Bo (validS s)) := by
  refine fn_tr Ea_ok (L60 s) Try.func60 ((.node (anyFrom badB s.data.toList 0) (
     .leaf (Bo false) [LoopSem P (loopAt Try.f60 2) ([S s, Z, Z, I 0, Z, Z, Z, Z, Z, Z, Z, Z, Z, Z, Z, Z, Z, Z, Z, Z, Z, Z, Z, Z, Z, Z, Z, Z, Z, Z, Z, Z, Z, Z, Z, Z, Z, Z, Z, Z, Z, Z]) ([]) (Out.ret) ([S s, Z, PV.bit false, Z, Z, Z, Z, Z, Z, Z, Z, Z, Z, Z, Z, Z, Z, Z, Z, Z, Z, Z, Z, Z, Z, Z, Z, Z, Z, Z, Z, Z, Z, Z, Z, Z, Z, Z, Z, Z, Z, Z]) ([])]) (
     .node (decide ((↑s.size : Int) ≥ 1)) (
      .node (decide ((↑s.size : Int) ≤ 64)) (
       .node (!eqS s (⟨#[46]⟩ : ByteArray)) (
        .leaf (Bo !eqS s (⟨#[46, 46]⟩ : ByteArray)) [LoopSem P (loopAt Try.f60 2) ([S s, Z, Z, I 0, Z, Z, Z, Z, Z, Z, Z, Z, Z, Z, Z, Z, Z, Z, Z, Z, Z, Z, Z, Z, Z, Z, Z, Z, Z, Z, Z, Z, Z, Z, Z, Z, Z, Z, Z, Z, Z, Z]) ([]) (Out.ext 0) ([S s, Z, Z, Z, Z, Z, Z, Z, Z, Z, Z, Z, Z, Z, Z, Z, Z, Z, Z, Z, Z, Z, Z, Z, Z, Z, Z, Z, Z, Z, Z, Z, Z, Z, Z, Z, Z, Z, Z, Z, Z, Z]) ([])]) (
        .leaf (Bo false) [LoopSem P (loopAt Try.f60 2) ([S s, Z, Z, I 0, Z, Z, Z, Z, Z, Z, Z, Z, Z, Z, Z, Z, Z, Z, Z, Z, Z, Z, Z, Z, Z, Z, Z, Z, Z, Z, Z, Z, Z, Z, Z, Z, Z, Z, Z, Z, Z, Z]) ([]) (Out.ext 0) ([S s, Z, Z, Z, Z, Z, Z, Z, Z, Z, Z, Z, Z, Z, Z, Z, Z, Z, Z, Z, Z, Z, Z, Z, Z, Z, Z, Z, Z, Z, Z, Z, Z, Z, Z, Z, Z, Z, Z, Z, Z, Z]) ([])])) (
       .leaf (Bo false) [LoopSem P (loopAt Try.f60 2) ([S s, Z, Z, I 0, Z, Z, Z, Z, Z, Z, Z, Z, Z, Z, Z, Z, Z, Z, Z, Z, Z, Z, Z, Z, Z, Z, Z, Z, Z, Z, Z, Z, Z, Z, Z, Z, Z, Z, Z, Z, Z, Z]) ([]) (Out.ext 0) ([S s, Z, Z, Z, Z, Z, Z, Z, Z, Z, Z, Z, Z, Z, Z, Z, Z, Z, Z, Z, Z, Z, Z, Z, Z, Z, Z, Z, Z, Z, Z, Z, Z, Z, Z, Z, Z, Z, Z, Z, Z, Z]) ([])])) (
      .leaf (Bo false) [LoopSem P (loopAt Try.f60 2) ([S s, Z, Z, I 0, Z, Z, Z, Z, Z, Z, Z, Z, Z, Z, Z, Z, Z, Z, Z, Z, Z, Z, Z, Z, Z, Z, Z, Z, Z, Z, Z, Z, Z, Z, Z, Z, Z, Z, Z, Z, Z, Z]) ([]) (Out.ext 0) ([S s, Z, Z, Z, Z, Z, Z, Z, Z, Z, Z, Z, Z, Z, Z, Z, Z, Z, Z, Z, Z, Z, Z, Z, Z, Z, Z, Z, Z, Z, Z, Z, Z, Z, Z, Z, Z, Z, Z, Z, Z, Z]) ([])])))) (by kernel_rfl) ?_
  have hz := size_zero s
  have hv : validS s = (decide (1 ≤ s.size ∧ s.size ≤ 64 ∧ s ≠ ⟨#[46]⟩ ∧ s ≠ ⟨#[46, 46]⟩) && !anyFrom badB s.data.toList 0) := rfl
  simp only [Tr.All, AllP, decide_eq_true_eq, decide_eq_false_iff_not, Bool.not_eq_true', Bool.not_eq_false', eqS_decide]
  repeat' with_reducible first | intro _ | refine And.intro ?_ ?_
  all_goals first | trivial | omega | exact ((lp60 s (by omega) 0 (by omega) (by omega)).t (by assumption)).one | exact ((lp60 s (by omega) 0 (by omega) (by omega)).f (by assumption)).one | exact congrArg Bo (by grind)

/-! first -/
def st41 (l : List Int) (i : Int) : List PV := [Z, Z, Z, Z, Z, ints l, I l.length, I i, Z, Z, Z, Z, Z, Z, Z]
def lt41 (l : List Int) (i : Int) : LT := .ite (anyFrom (fun x => x != 0) l i) (.out .ret ([Z, Z, I (firstFrom l i), Z, Z, Z, Z, Z, Z, Z, Z, Z, Z, Z, Z]) []) (.out (.ext 0) ([Z, Z, Z, Z, Z, Z, Z, Z, Z, Z, Z, Z, Z, Z, Z]) [])

theorem lp41 (l : List Int) (hs : l.length ≤ 9223372036854775807) : ∀ i : Int, 0 ≤ i → i ≤ l.length → LoopT P (loopAt Try.f41 2) (st41 l i) [] (lt41 l i) := by
  apply upto
  intro i h0 h1 ih
  refine loop_tr Ea_ok L0 [5, 6, 7] [2] ((.node (decide (i < (↑l.length : Int))) (
     .node (l.getD i.toNat 0 != 0) (
      .leaf ((Out.ret, [Z, Z, I (l.getD i.toNat 0), Z, Z, Z, Z, Z, Z, Z, Z, Z, Z, Z, Z], [])) [0 ≤ i, i < (↑l.length : Int)]) (
      .leaf ((Out.norm, [Z, Z, Z, Z, Z, PV.rf l.length fun i => [I (l.getD i 0)], I (↑l.length : Int), I (IntKind.i64.wrap (i + 1)), Z, Z, Z, Z, Z, Z, Z], [])) [0 ≤ i, i < (↑l.length : Int)])) (
     .leaf ((Out.ext 0, [Z, Z, Z, Z, Z, Z, Z, Z, Z, Z, Z, Z, Z, Z, Z], [])) []))) (by kernel_rfl) ?_
  have hst : i < l.length → anyFrom (fun x => x != 0) l i = ((l.getD i.toNat 0 != 0) || anyFrom (fun x => x != 0) l (i + 1)) := fun hi => anyFrom_step 0 h0 (by omega)
  have hst2 : i < l.length → firstFrom l i = if l.getD i.toNat 0 = 0 then firstFrom l (i + 1) else l.getD i.toNat 0 := fun hi => firstFrom_step h0 (by omega)
  have hgo : i < l.length ∧ l.getD i.toNat 0 = 0 → LoopT P (loopAt Try.f41 2) (st41 l (IntKind.i64.wrap (i + 1))) [] (lt41 l i) := by
    rintro ⟨hi, hb⟩
    rw [wrap64 (by omega) (by omega), show lt41 l i = lt41 l (i + 1) by simp only [lt41, hst hi, hst2 hi, hb, bne_self_eq_false, Bool.false_or, if_true]]
    exact ih hi
  have hhit : i < l.length ∧ l.getD i.toNat 0 ≠ 0 → (lt41 l i).ends (.ret, [Z, Z, I (l.getD i.toNat 0), Z, Z, Z, Z, Z, Z, Z, Z, Z, Z, Z, Z], []) := by
    rintro ⟨hi, hb⟩
    refine ends_t (by rw [hst hi]; simp only [Bool.or_eq_true, bne_iff_ne]; exact .inl hb) ?_
    rw [hst2 hi, if_neg hb]; rfl
  have hend : ¬ i < l.length → anyFrom (fun x => x != 0) l i = false := fun hi => anyFrom_end (by omega)
  simp only [Tr.All, AllP, Rnd, decide_eq_true_eq, decide_eq_false_iff_not, bne_iff_ne, bne_eq_false_iff_eq]
  repeat' with_reducible first | intro _ | refine And.intro ?_ ?_
  all_goals first | trivial | omega | exact hgo (by grind) | exact hhit (by grind) | exact ends_f (hend (by grind)) rfl

def L41 (l : List Int) : LEnv := fun _ => ([5, 6, 7], fun _ _ => lt41 l 0)

theorem firstNz_any : ∀ {l : List Int}, l.any (fun x => x != 0) = false → firstNz l = 0
  | [], _ => rfl
  | x :: l, h => by
    simp only [List.any_cons, Bool.or_eq_false_iff] at h
    rw [firstNz, if_pos (by simpa using h.1)]
    exact firstNz_any h.2

theorem first_ok (l : List Int) (hs : l.length ≤ 9223372036854775807) : Ok P 41 [ints l] (I (firstNz l)) := by
  refine fn_tr Ea_ok (L41 l) Try.func41 ((.node (anyFrom (fun x => x != 0) l 0) (
     .leaf (I (firstFrom l 0)) [LoopSem P (loopAt Try.f41 2) ([Z, Z, Z, Z, Z, PV.rf l.length fun i => [I (l.getD i 0)], I (↑l.length : Int), I 0, Z, Z, Z, Z, Z, Z, Z]) ([]) (Out.ret) ([Z, Z, I (firstFrom l 0), Z, Z, Z, Z, Z, Z, Z, Z, Z, Z, Z, Z]) ([])]) (
     .leaf (I 0) [LoopSem P (loopAt Try.f41 2) ([Z, Z, Z, Z, Z, PV.rf l.length fun i => [I (l.getD i 0)], I (↑l.length : Int), I 0, Z, Z, Z, Z, Z, Z, Z]) ([]) (Out.ext 0) ([Z, Z, Z, Z, Z, Z, Z, Z, Z, Z, Z, Z, Z, Z, Z]) ([])]))) (by kernel_rfl) ?_
  have hz : anyFrom (fun x => x != 0) l 0 = false → firstNz l = 0 := firstNz_any
  simp only [Tr.All, AllP]
  repeat' with_reducible first | intro _ | refine And.intro ?_ ?_
  all_goals first | trivial | omega | exact ((lp41 l hs 0 (by omega) (by omega)).t (by assumption)).one | exact ((lp41 l hs 0 (by omega) (by omega)).f (by assumption)).one | rfl | exact congrArg I (by grind)

/-! The environment. -/
def d57 : List PV → Option (PV × List Prop)
  | [.sc (.string s)] => some (Bo (validS s), [])
  | _ => none
def d60 : List PV → Option (PV × List Prop)
  | [.sc (.string s)] => some (Bo (validS s), [s.size ≤ 9223372036854775807])
  | _ => none
def d41 : List PV → Option (PV × List Prop)
  | [.rf n f] => some (I (firstNz (ofN n fun i => intOf (f i))), [allN n fun i => isInt (f i), n ≤ 9223372036854775807])
  | _ => none
def d13 : List PV → Option (PV × List Prop)
  | [.sc (.int .i64 k)] => some (Bo (reqS k), [])
  | _ => none
def d14 : List PV → Option (PV × List Prop)
  | [.sc (.int .i64 k)] => some (I (replyS k), [])
  | _ => none

def Ec : Env := addE 57 d57 (addE 60 d60 (addE 41 d41 (addE 13 d13 (addE 14 d14 Eb))))
theorem Ec_ok : EnvOk P Ec :=
  addE_ok (addE_ok (addE_ok (addE_ok (addE_ok Eb_ok
    (fun l r ob h ho => by unfold d14 at h; split at h <;> cases h; exact reply_ok _))
    (fun l r ob h ho => by unfold d13 at h; split at h <;> cases h; exact rrequest_ok _))
    (fun l r ob h ho => by unfold d41 at h; split at h <;> cases h; exact (first_ok _ (by rw [ofN_length]; exact ho _ (by simp))).conv1 (ints_conv (ho _ (by simp)))))
    (fun l r ob h ho => by unfold d60 at h; split at h <;> cases h; exact rvalid_ok _ (ho _ (by simp))))
    (fun l r ob h ho => by unfold d57 at h; split at h <;> cases h; exact valid_ok _)

theorem rreply_ok (k : Int) : Ok P 15 [I k] (I (replyS k)) :=
  fn_tr Ec_ok L0 Try.func15 ((.node (!reqS k) (
     .leaf (I 0) []) (
     .leaf (I (IntKind.i64.wrap (k + 1))) []))) (by kernel_rfl) (by
    simp +contextual [Tr.All, AllP, replyS]
    intro h
    have := reqS_range h
    rw [wrap64 (by omega) (by omega)])

theorem fid_ok (n : Int) : Ok P 44 [I n] (I (inE n 0 4294967294)) :=
  fn_tr Ec_ok L0 Try.func44 ((.leaf (I (inE n 0 4294967294)) [])) (by kernel_rfl) (by simp [Tr.All, AllP])

theorem named_ok (s : ByteArray) : Ok P 48 [S s] (I (if validS s then 0 else 6)) :=
  fn_tr Ec_ok L0 Try.func48 ((.node (!validS s) (
     .leaf (I 6) []) (
     .leaf (I 0) []))) (by kernel_rfl) (by simp +contextual [Tr.All, AllP])
end Go.Proofs.Ytnkmcmflfedmkaa
