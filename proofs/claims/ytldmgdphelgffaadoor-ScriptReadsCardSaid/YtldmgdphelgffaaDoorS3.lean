/- Contracts of chapter 53: hexadecimal digits; newlines; blanks. -/
import Derived.Test.YtldmgdphelgffaaDoorS2
namespace Go.Proofs.YtldmgdphelgffaaDoor
open Go.PS

def hexd : List UInt8 := [48, 49, 50, 51, 52, 53, 54, 55, 56, 57, 97, 98, 99, 100, 101, 102]
def valS (c : Int) : Int := digS c (-1)

theorem hexd_at (c i : Int) (h0 : 0 ≤ i) (h1 : i < 16) : ((hexd.getD i.toNat 0).toNat : Int) = c ↔ valS c = i := by
  have key : ∀ k : Fin 16, valS ((hexd.getD k.val 0).toNat : Int) = k.val := by decide
  have key2 : ∀ k : Fin 16, ((hexd.getD k.val 0).toNat : Int) = if k.val < 10 then (48 + k.val : Int) else (87 + k.val : Int) := by decide
  obtain ⟨k, rfl⟩ := Int.eq_ofNat_of_zero_le h0
  have hk : k < 16 := by omega
  constructor
  · rintro rfl
    exact key ⟨k, hk⟩
  · intro h
    rw [Int.toNat_natCast, key2 ⟨k, hk⟩]
    unfold valS digS at h
    grind

def st53 (c i : Int) : List PV := [U8 c, Z, Z, Z, I i, Z, Z, Z, Z, Z, Z, Z, Z]
def lt53 (c i : Int) : LT := .ite (decide (i ≤ valS c)) (.out .ret ([Z, Z, I (valS c), Z, Z, Z, Z, Z, Z, Z, Z, Z, Z]) []) (.out (.ext 0) ([Z, Z, Z, Z, Z, Z, Z, Z, Z, Z, Z, Z, Z]) [])

theorem val_lt (c : Int) : valS c < 16 ∧ -1 ≤ valS c := by unfold valS digS; grind

theorem lp53 (c : Int) : ∀ i : Int, 0 ≤ i → i ≤ 16 → LoopT P (loopAt Tryd.f53 2) (st53 c i) [] (lt53 c i) := by
  apply upto
  intro i h0 h1 ih
  refine loop_tr (E0_ok P) L0 [0, 4] [2] ((.node (decide (i < 16)) (
     .node (((↑((#[48, 49, 50, 51, 52, 53, 54, 55, 56, 57, 97, 98, 99, 100, 101, 102] : Array UInt8).toList.getD i.toNat 0).toNat : Int) : Int) == c) (
      .leaf ((Out.ret, [Z, Z, I i, Z, Z, Z, Z, Z, Z, Z, Z, Z, Z], [])) [(0 : Int) ≤ i, i < 16]) (
      .leaf ((Out.norm, [U8 c, Z, Z, Z, I (IntKind.i64.wrap (i + 1)), Z, Z, Z, Z, Z, Z, Z, Z], [])) [(0 : Int) ≤ i, i < 16])) (
     .leaf ((Out.ext 0, [Z, Z, Z, Z, Z, Z, Z, Z, Z, Z, Z, Z, Z], [])) []))) (by kernel_rfl) ?_
  have hv := val_lt c
  have hat : i < 16 → (((hexd.getD i.toNat 0).toNat : Int) = c ↔ valS c = i) := fun h => hexd_at c i h0 h
  have hL : ∀ k, (([48, 49, 50, 51, 52, 53, 54, 55, 56, 57, 97, 98, 99, 100, 101, 102] : List UInt8)).getD k 0 = hexd.getD k 0 := fun _ => rfl
  have hgo : i < 16 ∧ ¬ valS c = i → LoopT P (loopAt Tryd.f53 2) (st53 c (IntKind.i64.wrap (i + 1))) [] (lt53 c i) := by
    rintro ⟨hi, hb⟩
    rw [wrap64 (by omega) (by omega), show lt53 c i = lt53 c (i + 1) by simp only [lt53]; congr 1; rw [decide_eq_decide]; omega]
    exact ih hi
  have hhit : i < 16 ∧ valS c = i → (lt53 c i).ends (.ret, [Z, Z, I i, Z, Z, Z, Z, Z, Z, Z, Z, Z, Z], []) := by
    rintro ⟨hi, hb⟩
    exact ends_t (by simp; omega) (by rw [hb]; rfl)
  simp only [hL]
  generalize ((hexd.getD i.toNat 0).toNat : Int) = d at *
  simp only [Tr.All, AllP, Rnd, decide_eq_true_eq, decide_eq_false_iff_not, beq_iff_eq, beq_eq_false_iff_ne]
  repeat' with_reducible first | intro _ | refine And.intro ?_ ?_
  all_goals first | trivial | omega | exact hgo (by grind) | exact hhit (by grind) | exact ends_f (by simp; grind) rfl

def L53 (c : Int) : LEnv := fun _ => ([0, 4], [], fun _ _ => lt53 c 0)
theorem value_ok (c : Int) : Ok P 53 [U8 c] (I (valS c)) := by
  refine fn_tr (E0_ok P) (L53 c) Tryd.func53 ((.node (decide (0 ≤ valS c)) (
     .leaf (I (valS c)) [LoopSem P (loopAt Tryd.f53 2) ([U8 c, Z, Z, Z, I 0, Z, Z, Z, Z, Z, Z, Z, Z]) ([]) (Out.ret) ([Z, Z, I (valS c), Z, Z, Z, Z, Z, Z, Z, Z, Z, Z]) ([])]) (
     .leaf (I (-1)) [LoopSem P (loopAt Tryd.f53 2) ([U8 c, Z, Z, Z, I 0, Z, Z, Z, Z, Z, Z, Z, Z]) ([]) (Out.ext 0) ([Z, Z, Z, Z, Z, Z, Z, Z, Z, Z, Z, Z, Z]) ([])]))) (by kernel_rfl) ?_
  have hv := val_lt c
  have c1 := lp53 c 0 (by omega) (by omega)
  simp only [Tr.All, AllP, decide_eq_true_eq, decide_eq_false_iff_not]
  repeat' with_reducible first | intro _ | refine And.intro ?_ ?_
  all_goals first | trivial | omega | exact (c1.t (decide_eq_true (by omega))).one | exact (c1.f (decide_eq_false (by omega))).one | exact congrArg I (by omega)

def st54 (c i : Int) : List PV := [U8 c, Z, Z, I i, Z, Z, Z, Z, Z, Z, Z, Z, Z]
theorem lp54 (c : Int) : ∀ i : Int, 0 ≤ i → i ≤ 16 → LoopT P (loopAt Tryd.f54 2) (st54 c i) [] (lt53 c i) := by
  apply upto
  intro i h0 h1 ih
  refine loop_tr (E0_ok P) L0 [0, 3] [2] ((.node (decide (i < 16)) (
     .node (((↑((#[48, 49, 50, 51, 52, 53, 54, 55, 56, 57, 97, 98, 99, 100, 101, 102] : Array UInt8).toList.getD i.toNat 0).toNat : Int) : Int) == c) (
      .leaf ((Out.ret, [Z, Z, I i, Z, Z, Z, Z, Z, Z, Z, Z, Z, Z], [])) [(0 : Int) ≤ i, i < 16]) (
      .leaf ((Out.norm, [U8 c, Z, Z, I (IntKind.i64.wrap (i + 1)), Z, Z, Z, Z, Z, Z, Z, Z, Z], [])) [(0 : Int) ≤ i, i < 16])) (
     .leaf ((Out.ext 0, [Z, Z, Z, Z, Z, Z, Z, Z, Z, Z, Z, Z, Z], [])) []))) (by kernel_rfl) ?_
  have hv := val_lt c
  have hat : i < 16 → (((hexd.getD i.toNat 0).toNat : Int) = c ↔ valS c = i) := fun h => hexd_at c i h0 h
  have hL : ∀ k, (([48, 49, 50, 51, 52, 53, 54, 55, 56, 57, 97, 98, 99, 100, 101, 102] : List UInt8)).getD k 0 = hexd.getD k 0 := fun _ => rfl
  have hgo : i < 16 ∧ ¬ valS c = i → LoopT P (loopAt Tryd.f54 2) (st54 c (IntKind.i64.wrap (i + 1))) [] (lt53 c i) := by
    rintro ⟨hi, hb⟩
    rw [wrap64 (by omega) (by omega), show lt53 c i = lt53 c (i + 1) by simp only [lt53]; congr 1; rw [decide_eq_decide]; omega]
    exact ih hi
  have hhit : i < 16 ∧ valS c = i → (lt53 c i).ends (.ret, [Z, Z, I i, Z, Z, Z, Z, Z, Z, Z, Z, Z, Z], []) := by
    rintro ⟨hi, hb⟩
    exact ends_t (by simp; omega) (by rw [hb]; rfl)
  simp only [hL]
  generalize ((hexd.getD i.toNat 0).toNat : Int) = d at *
  simp only [Tr.All, AllP, Rnd, decide_eq_true_eq, decide_eq_false_iff_not, beq_iff_eq, beq_eq_false_iff_ne]
  repeat' with_reducible first | intro _ | refine And.intro ?_ ?_
  all_goals first | trivial | omega | exact hgo (by grind) | exact hhit (by grind) | exact ends_f (by simp; grind) rfl

def L54 (c : Int) : LEnv := fun _ => ([0, 3], [], fun _ _ => lt53 c 0)
theorem rvalue_ok (c : Int) : Ok P 54 [U8 c] (I (valS c)) := by
  refine fn_tr (E0_ok P) (L54 c) Tryd.func54 ((.node (decide (0 ≤ valS c)) (
     .leaf (I (valS c)) [LoopSem P (loopAt Tryd.f54 2) ([U8 c, Z, Z, I 0, Z, Z, Z, Z, Z, Z, Z, Z, Z]) ([]) (Out.ret) ([Z, Z, I (valS c), Z, Z, Z, Z, Z, Z, Z, Z, Z, Z]) ([])]) (
     .leaf (I (-1)) [LoopSem P (loopAt Tryd.f54 2) ([U8 c, Z, Z, I 0, Z, Z, Z, Z, Z, Z, Z, Z, Z]) ([]) (Out.ext 0) ([Z, Z, Z, Z, Z, Z, Z, Z, Z, Z, Z, Z, Z]) ([])]))) (by kernel_rfl) ?_
  have hv := val_lt c
  have c1 := lp54 c 0 (by omega) (by omega)
  simp only [Tr.All, AllP, decide_eq_true_eq, decide_eq_false_iff_not]
  repeat' with_reducible first | intro _ | refine And.intro ?_ ?_
  all_goals first | trivial | omega | exact (c1.t (decide_eq_true (by omega))).one | exact (c1.f (decide_eq_false (by omega))).one | exact congrArg I (by omega)

/-! A newline; the first blank. -/
def isB (c : UInt8) (b : UInt8) : Bool := b == c
theorem isB_int (c b : UInt8) : isB c b = true ↔ (b.toNat : Int) = c.toNat := by
  unfold isB
  rw [beq_iff_eq]
  constructor
  · rintro rfl; rfl
  · intro h; exact UInt8.toNat_inj.1 (by omega)

def st34 (s : ByteArray) (i : Int) : List PV := [S s, Z, Z, Z, Z, I s.size, I i, Z, Z, Z, Z, Z, Z, Z]
def lt34 (s : ByteArray) (i : Int) : LT := .ite (anyFrom (isB 10) s.data.toList i) (.out .ret ([Z, Z, .bit false, Z, Z, Z, Z, Z, Z, Z, Z, Z, Z, Z]) []) (.out (.ext 0) ([Z, Z, Z, Z, Z, Z, Z, Z, Z, Z, Z, Z, Z, Z]) [])

theorem lp34 (s : ByteArray) (hs : s.size ≤ 9223372036854775807) : ∀ i : Int, 0 ≤ i → i ≤ s.size → LoopT P (loopAt Tryd.f34 2) (st34 s i) [] (lt34 s i) := by
  apply upto
  intro i h0 h1 ih
  refine loop_tr (E0_ok P) L0 [0, 5, 6] [2] ((.node (decide (i < (↑s.size : Int))) (
     .node (((↑(s.data.toList.getD i.toNat 0).toNat : Int) : Int) == 10) (
      .leaf ((Out.ret, [Z, Z, PV.bit false, Z, Z, Z, Z, Z, Z, Z, Z, Z, Z, Z], [])) [(0 : Int) ≤ i, i < (↑s.size : Int)]) (
      .leaf ((Out.norm, [S s, Z, Z, Z, Z, I (↑s.size : Int), I (IntKind.i64.wrap (i + 1)), Z, Z, Z, Z, Z, Z, Z], [])) [(0 : Int) ≤ i, i < (↑s.size : Int)])) (
     .leaf ((Out.ext 0, [Z, Z, Z, Z, Z, Z, Z, Z, Z, Z, Z, Z, Z, Z], [])) []))) (by kernel_rfl) ?_
  have hst : i < s.size → anyFrom (isB 10) s.data.toList i = (isB 10 (s.data.toList.getD i.toNat 0) || anyFrom (isB 10) s.data.toList (i + 1)) := fun hi => anyFrom_step 0 h0 (by simpa using hi)
  have hb := isB_int 10 (s.data.toList.getD i.toNat 0)
  have h10 : ((10 : UInt8).toNat : Int) = 10 := rfl
  have hgo : i < s.size ∧ isB 10 (s.data.toList.getD i.toNat 0) = false → LoopT P (loopAt Tryd.f34 2) (st34 s (IntKind.i64.wrap (i + 1))) [] (lt34 s i) := by
    rintro ⟨hi, hb⟩
    rw [wrap64 (by omega) (by omega), show lt34 s i = lt34 s (i + 1) by simp only [lt34, hst hi, hb, Bool.false_or]]
    exact ih hi
  have hend : ¬ i < s.size → anyFrom (isB 10) s.data.toList i = false := fun hi => anyFrom_end (by simp; omega)
  generalize s.data.toList.getD i.toNat 0 = b at *
  simp only [Tr.All, AllP, Rnd, decide_eq_true_eq, decide_eq_false_iff_not, beq_iff_eq, beq_eq_false_iff_ne]
  repeat' with_reducible first | intro _ | refine And.intro ?_ ?_
  all_goals first | trivial | omega | exact hgo (by grind) | exact ends_t (by rw [hst (by omega), hb.2 (by assumption)]; rfl) rfl | exact ends_f (hend (by omega)) rfl

def L34 (s : ByteArray) : LEnv := fun _ => ([0, 5, 6], [], fun _ _ => lt34 s 0)
theorem plain_ok (s : ByteArray) (hs : s.size ≤ 9223372036854775807) : Ok P 34 [S s] (Bo (!s.data.toList.contains 10)) := by
  refine fn_tr (E0_ok P) (L34 s) Tryd.func34 ((.node (anyFrom (isB 10) s.data.toList 0) (
     .leaf (Bo false) [LoopSem P (loopAt Tryd.f34 2) ([S s, Z, Z, Z, Z, I (↑s.size : Int), I 0, Z, Z, Z, Z, Z, Z, Z]) ([]) (Out.ret) ([Z, Z, PV.bit false, Z, Z, Z, Z, Z, Z, Z, Z, Z, Z, Z]) ([])]) (
     .leaf (Bo true) [LoopSem P (loopAt Tryd.f34 2) ([S s, Z, Z, Z, Z, I (↑s.size : Int), I 0, Z, Z, Z, Z, Z, Z, Z]) ([]) (Out.ext 0) ([Z, Z, Z, Z, Z, Z, Z, Z, Z, Z, Z, Z, Z, Z]) ([])]))) (by kernel_rfl) ?_
  have c1 := lp34 s hs 0 (by omega) (by omega)
  have e : anyFrom (isB 10) s.data.toList 0 = s.data.toList.contains 10 := by
    rw [anyFrom_zero, Bool.eq_iff_iff, List.any_eq_true, List.contains_iff_mem]
    simp [isB]
  simp only [Tr.All, AllP]
  repeat' with_reducible first | intro _ | refine And.intro ?_ ?_
  all_goals first | trivial | omega | exact (c1.t (by assumption)).one | exact (c1.f (by assumption)).one | exact (congrArg Bo (by grind))

theorem extract_B (s : ByteArray) (a b : Nat) : s.extract a b = B ((s.data.toList.drop a).take (b - a)) := by
  rw [← B_of (s.extract a b), Lib.extract_data]
theorem drop_step (s : ByteArray) (i : Int) (h0 : 0 ≤ i) (hi : i < s.size) : s.data.toList.drop i.toNat = s.data.toList.getD i.toNat 0 :: s.data.toList.drop (i + 1).toNat := by
  obtain ⟨k, rfl⟩ := Int.eq_ofNat_of_zero_le h0
  have hk : k < s.data.toList.length := by rw [← Lib.size_eq]; omega
  rw [show ((k : Int) + 1).toNat = k + 1 by omega, Int.toNat_natCast, List.drop_eq_getElem_cons hk, List.getD_eq_getElem?_getD, List.getElem?_eq_getElem hk]
  rfl
theorem take_step (s : ByteArray) (i : Int) (h0 : 0 ≤ i) (hi : i < s.size) : s.data.toList.take (i + 1).toNat = s.data.toList.take i.toNat ++ [s.data.toList.getD i.toNat 0] := by
  obtain ⟨k, rfl⟩ := Int.eq_ofNat_of_zero_le h0
  have hk : k < s.data.toList.length := by rw [← Lib.size_eq]; omega
  rw [show ((k : Int) + 1).toNat = k + 1 by omega, Int.toNat_natCast, List.take_add_one, List.getD_eq_getElem?_getD, List.getElem?_eq_getElem hk]
  rfl

def cutFrom (s : ByteArray) (i : Int) : List UInt8 × List UInt8 × Bool := cutL 32 (s.data.toList.drop i.toNat)
theorem cut_step (s : ByteArray) (i : Int) (h0 : 0 ≤ i) (hi : i < s.size) : cutFrom s i = if s.data.toList.getD i.toNat 0 = 32 then ([], s.data.toList.drop (i + 1).toNat, true) else (s.data.toList.getD i.toNat 0 :: (cutFrom s (i + 1)).1, (cutFrom s (i + 1)).2) := by
  unfold cutFrom
  rw [drop_step s i h0 hi, cutL_cons]
def st41 (s : ByteArray) (i : Int) : List PV := [S s, Z, S ⟨#[]⟩, S ⟨#[]⟩, .bit false, Z, Z, I s.size, I i, Z, Z, Z, Z, Z, Z, Z, Z, Z, Z, Z, Z, Z, Z, Z]
def lt41 (s : ByteArray) (i : Int) : LT := .ite (cutFrom s i).2.2 (.out .ret ([S s, Z, S (B (s.data.toList.take i.toNat ++ (cutFrom s i).1)), S (B (cutFrom s i).2.1), .bit true, Z, Z, Z, Z, Z, Z, Z, Z, Z, Z, Z, Z, Z, Z, Z, Z, Z, Z, Z]) []) (.out (.ext 0) ([S s, Z, S ⟨#[]⟩, S ⟨#[]⟩, .bit false, Z, Z, Z, Z, Z, Z, Z, Z, Z, Z, Z, Z, Z, Z, Z, Z, Z, Z, Z]) [])
theorem lp41 (s : ByteArray) (hs : s.size ≤ 9223372036854775807) : ∀ i : Int, 0 ≤ i → i ≤ s.size → LoopT P (loopAt Tryd.f41 2) (st41 s i) [] (lt41 s i) := by
  apply upto
  intro i h0 h1 ih
  refine loop_tr (E0_ok P) L0 [0, 2, 3, 4, 7, 8] [0, 2, 3, 4] ((.node (decide (i < (↑s.size : Int))) (
     .node (((↑(s.data.toList.getD i.toNat 0).toNat : Int) : Int) == 32) (
      .leaf ((Out.ret, [S s, Z, S (s.extract (↑0 : Int).toNat i.toNat), S (s.extract (IntKind.i64.wrap (i + 1)).toNat (↑s.size : Int).toNat), PV.bit true, Z, Z, Z, Z, Z, Z, Z, Z, Z, Z, Z, Z, Z, Z, Z, Z, Z, Z, Z], [])) [(0 : Int) ≤ i, i < (↑s.size : Int), (0 : Int) ≤ 0, (0 : Int) ≤ i, i ≤ (↑s.size : Int), (0 : Int) ≤ IntKind.i64.wrap (i + 1), IntKind.i64.wrap (i + 1) ≤ (↑s.size : Int), (↑s.size : Int) ≤ (↑s.size : Int)]) (
      .leaf ((Out.norm, [S s, Z, S (⟨#[]⟩ : ByteArray), S (⟨#[]⟩ : ByteArray), PV.bit false, Z, Z, I (↑s.size : Int), I (IntKind.i64.wrap (i + 1)), Z, Z, Z, Z, Z, Z, Z, Z, Z, Z, Z, Z, Z, Z, Z], [])) [(0 : Int) ≤ i, i < (↑s.size : Int)])) (
     .leaf ((Out.ext 0, [S s, Z, S (⟨#[]⟩ : ByteArray), S (⟨#[]⟩ : ByteArray), PV.bit false, Z, Z, Z, Z, Z, Z, Z, Z, Z, Z, Z, Z, Z, Z, Z, Z, Z, Z, Z], [])) []))) (by kernel_rfl) ?_
  have hst : i < s.size → cutFrom s i = if s.data.toList.getD i.toNat 0 = 32 then ([], s.data.toList.drop (i + 1).toNat, true) else (s.data.toList.getD i.toNat 0 :: (cutFrom s (i + 1)).1, (cutFrom s (i + 1)).2) := cut_step s i h0
  have htk : i < s.size → s.data.toList.take (i + 1).toNat = s.data.toList.take i.toNat ++ [s.data.toList.getD i.toNat 0] := take_step s i h0
  have hgo : i < s.size ∧ ¬ s.data.toList.getD i.toNat 0 = 32 → LoopT P (loopAt Tryd.f41 2) (st41 s (IntKind.i64.wrap (i + 1))) [] (lt41 s i) := by
    rintro ⟨hi, hb⟩
    rw [wrap64 (by omega) (by omega), show lt41 s i = lt41 s (i + 1) by simp only [lt41, hst hi, if_neg hb, htk hi, List.append_assoc, List.singleton_append]]
    exact ih hi
  have hhit : i < s.size ∧ s.data.toList.getD i.toNat 0 = 32 → (lt41 s i).ends (.ret, [S s, Z, S (s.extract (0 : Int).toNat i.toNat), S (s.extract (IntKind.i64.wrap (i + 1)).toNat (s.size : Int).toNat), .bit true, Z, Z, Z, Z, Z, Z, Z, Z, Z, Z, Z, Z, Z, Z, Z, Z, Z, Z, Z], []) := by
    rintro ⟨hi, hb⟩
    refine ends_t (by rw [hst hi, if_pos hb]) ?_
    have e1 : (s.data.toList.drop (i + 1).toNat).take ((s.size : Int).toNat - (i + 1).toNat) = s.data.toList.drop (i + 1).toNat := List.take_of_length_le (by simp)
    rw [hst hi, if_pos hb, wrap64 (by omega) (by omega), extract_B, extract_B, e1]
    simp [LT.ends]
  have hend : ¬ i < s.size → cutFrom s i = ([], [], false) := fun hi => by
    unfold cutFrom
    rw [List.drop_eq_nil_of_le (by simp; omega)]; rfl
  have hb := isB_int 32 (s.data.toList.getD i.toNat 0)
  have h32 : ((32 : UInt8).toNat : Int) = 32 := rfl
  have hb2 : ((s.data.toList.getD i.toNat 0).toNat : Int) = 32 ↔ s.data.toList.getD i.toNat 0 = 32 := by rw [← h32, ← hb]; simp [isB]
  simp only [Tr.All, AllP, Rnd, decide_eq_true_eq, decide_eq_false_iff_not, beq_iff_eq, beq_eq_false_iff_ne]
  repeat' with_reducible first | intro _ | refine And.intro ?_ ?_
  all_goals first | trivial | omega | exact hgo ⟨by omega, fun h => absurd (hb2.2 h) (by assumption)⟩ | exact hhit ⟨by omega, hb2.1 (by assumption)⟩ | exact ends_f (by rw [hend (by omega)]) rfl | (rw [wrap64 (by omega) (by omega)]; omega)

def L41 (s : ByteArray) : LEnv := fun _ => ([0, 2, 3, 4, 7, 8], [], fun _ _ => lt41 s 0)
theorem cutL_none (c : UInt8) : ∀ l : List UInt8, (cutL c l).2.2 = false → cutL c l = (l, [], false)
  | [], _ => rfl
  | b :: l, h => by
    rw [cutL_cons] at h ⊢
    by_cases hb : b = c
    · simp [hb] at h
    · rw [if_neg hb] at h ⊢
      rw [cutL_none c l h]
theorem rcut_ok (s : ByteArray) (hs : s.size ≤ 9223372036854775807) : Ok P 41 [S s] (cutV s 32) := by
  refine fn_tr (E0_ok P) (L41 s) Tryd.func41 ((.node ((cutFrom s 0).snd.snd) (
     .leaf (PV.tup [S (B (List.take (Int.toNat 0) s.data.toList ++ (cutFrom s 0).fst)), S (B (cutFrom s 0).snd.fst), Bo true]) [LoopSem P (loopAt Tryd.f41 2) ([S s, Z, S (⟨#[]⟩ : ByteArray), S (⟨#[]⟩ : ByteArray), PV.bit false, Z, Z, I (↑s.size : Int), I 0, Z, Z, Z, Z, Z, Z, Z, Z, Z, Z, Z, Z, Z, Z, Z]) ([]) (Out.ret) ([S s, Z, S (B (List.take (Int.toNat 0) s.data.toList ++ (cutFrom s 0).fst)), S (B (cutFrom s 0).snd.fst), PV.bit true, Z, Z, Z, Z, Z, Z, Z, Z, Z, Z, Z, Z, Z, Z, Z, Z, Z, Z, Z]) ([])]) (
     .leaf (PV.tup [S s, S (⟨#[]⟩ : ByteArray), Bo false]) [LoopSem P (loopAt Tryd.f41 2) ([S s, Z, S (⟨#[]⟩ : ByteArray), S (⟨#[]⟩ : ByteArray), PV.bit false, Z, Z, I (↑s.size : Int), I 0, Z, Z, Z, Z, Z, Z, Z, Z, Z, Z, Z, Z, Z, Z, Z]) ([]) (Out.ext 0) ([S s, Z, S (⟨#[]⟩ : ByteArray), S (⟨#[]⟩ : ByteArray), PV.bit false, Z, Z, Z, Z, Z, Z, Z, Z, Z, Z, Z, Z, Z, Z, Z, Z, Z, Z, Z]) ([])]))) (by kernel_rfl) ?_
  have c1 := lp41 s hs 0 (by omega) (by omega)
  have e : cutFrom s 0 = cutL 32 s.data.toList := by simp [cutFrom]
  have hn := cutL_none 32 s.data.toList
  rw [← e] at hn
  unfold cutV
  rw [← e]
  have hB : S s = S (B s.data.toList) := rfl
  simp only [Tr.All, AllP]
  repeat' with_reducible first | intro _ | refine And.intro ?_ ?_
  all_goals first | trivial | omega | exact (c1.t (by assumption)).one | exact (c1.f (by assumption)).one | (rw [(by assumption : (cutFrom s 0).2.2 = true)]; rfl) | (rw [hn (by assumption)]; rfl)
end Go.Proofs.YtldmgdphelgffaaDoor
