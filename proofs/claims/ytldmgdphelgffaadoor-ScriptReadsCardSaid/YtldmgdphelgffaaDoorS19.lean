/- Contracts of chapter 53: the lines of a script, by the reference. -/
import Derived.Test.YtldmgdphelgffaaDoorS18
namespace Go.Proofs.YtldmgdphelgffaaDoor
open Go.PS

def rowsS (l : List (List UInt8)) : List (List PV) := l.map fun x => [S (B x)]
def hl (l : List (List UInt8)) : Hp := [⟨rowsS l, 0, [], 1, true⟩]
def segL (s : List UInt8) (k i : Nat) : List UInt8 := (s.drop k).take (i - k)
def finL (s : List UInt8) : Nat → Nat → Nat → List (List UInt8) → List (List UInt8) × Nat
  | 0, _, k, l => (l, k)
  | n + 1, i, k, l => if s.getD i 0 = 10 then finL s n (i + 1) (i + 1) (l ++ [segL s k i]) else finL s n (i + 1) k l
def st29 (s : ByteArray) (l : List (List UInt8)) (k i : Int) : List PV := [S s, Z, .nul, .who 0 l.length, I k, Z, Z, I s.size, I i, Z, Z, Z, Z, Z, Z, Z, Z, Z, Z, Z, Z, Z, Z, Z, Z, Z, Z, Z, Z, Z, Z, Z, Z, Z, Z, Z]
def lt29 (s : ByteArray) (x : List (List UInt8) × Nat) : LT := .out (.ext 0) (([S s, Z, .nul, .who 0 x.1.length, I x.2] ++ List.replicate 31 Z)) (hl x.1)

theorem seg_eq (s : ByteArray) (k i : Nat) : s.extract k i = B (segL s.data.toList k i) := extract_B s k i
theorem rowsS_length (l : List (List UInt8)) : (rowsS l).length = l.length := by simp [rowsS]
theorem byte_ten (b : UInt8) : ((b.toNat : Int) = 10) ↔ b = 10 := by
  constructor
  · intro h
    apply UInt8.toNat_inj.1
    show b.toNat = 10
    omega
  · rintro rfl; rfl

theorem lp29 (s : ByteArray) (hs : s.size ≤ 70000) : ∀ n i : Nat, i + n = s.size → ∀ (k : Nat) (l : List (List UInt8)), k ≤ i → l.length ≤ i → LoopT P (loopAt Tryd.f29 4) (st29 s l k i) (hl l) (lt29 s (finL s.data.toList n i k l)) := by
  intro n
  induction n with
  | zero =>
    intro i h0 k l hk hll
    refine loop_tr Ej_ok L0 [0, 2, 3, 4, 7, 8] [2, 10000, 10003, 10004] ((.node (decide ((↑i : Int) < (↑s.size : Int))) (
     .node (((↑(s.data.toList.getD (↑i : Int).toNat 0).toNat : Int) : Int) == 10) (
      .leaf ((Out.norm, [S s, Z, PV.nul, PV.who 0 (l.length + [[PV.sc (Value.string (s.extract (↑k : Int).toNat (↑i : Int).toNat))]].length), I (IntKind.i64.wrap ((↑i : Int) + 1)), Z, Z, I (↑s.size : Int), I (IntKind.i64.wrap ((↑i : Int) + 1)), Z, Z, Z, Z, Z, Z, Z, Z, Z, Z, Z, Z, Z, Z, Z, Z, Z, Z, Z, Z, Z, Z, Z, Z, Z, Z, Z], [{ es := rowsS l ++ [[PV.sc (Value.string (s.extract (↑k : Int).toNat (↑i : Int).toNat))]], st := 0, par := [], sz := 1, sym := true }])) [(0 : Int) ≤ (↑i : Int), (↑i : Int) < (↑s.size : Int), (0 : Int) ≤ (↑k : Int), (↑k : Int) ≤ (↑i : Int), (↑i : Int) ≤ (↑s.size : Int), l.length = (rowsS l).length, (l.length + 1) * 16 ≤ 140737488355328, true = true, true = true]) (
      .leaf ((Out.norm, [S s, Z, PV.nul, PV.who 0 l.length, I (↑k : Int), Z, Z, I (↑s.size : Int), I (IntKind.i64.wrap ((↑i : Int) + 1)), Z, Z, Z, Z, Z, Z, Z, Z, Z, Z, Z, Z, Z, Z, Z, Z, Z, Z, Z, Z, Z, Z, Z, Z, Z, Z, Z], [{ es := rowsS l, st := 0, par := [], sz := 1, sym := true }])) [(0 : Int) ≤ (↑i : Int), (↑i : Int) < (↑s.size : Int)])) (
     .leaf ((Out.ext 0, ([S s, Z, PV.nul, PV.who 0 l.length, I (↑k : Int)] ++ List.replicate 31 Z), [{ es := rowsS l, st := 0, par := [], sz := 1, sym := true }])) []))) (by kernel_rfl) ?_
    simp only [Tr.All, AllP, Rnd, decide_eq_true_eq, decide_eq_false_iff_not, beq_iff_eq, beq_eq_false_iff_ne]
    repeat' with_reducible first | intro _ | refine And.intro ?_ ?_
    all_goals first | trivial | omega | (exact rfl)
  | succ n ih =>
    intro i h0 k l hk hll
    refine loop_tr Ej_ok L0 [0, 2, 3, 4, 7, 8] [2, 10000, 10003, 10004] ((.node (decide ((↑i : Int) < (↑s.size : Int))) (
     .node (((↑(s.data.toList.getD (↑i : Int).toNat 0).toNat : Int) : Int) == 10) (
      .leaf ((Out.norm, [S s, Z, PV.nul, PV.who 0 (l.length + [[PV.sc (Value.string (s.extract (↑k : Int).toNat (↑i : Int).toNat))]].length), I (IntKind.i64.wrap ((↑i : Int) + 1)), Z, Z, I (↑s.size : Int), I (IntKind.i64.wrap ((↑i : Int) + 1)), Z, Z, Z, Z, Z, Z, Z, Z, Z, Z, Z, Z, Z, Z, Z, Z, Z, Z, Z, Z, Z, Z, Z, Z, Z, Z, Z], [{ es := rowsS l ++ [[PV.sc (Value.string (s.extract (↑k : Int).toNat (↑i : Int).toNat))]], st := 0, par := [], sz := 1, sym := true }])) [(0 : Int) ≤ (↑i : Int), (↑i : Int) < (↑s.size : Int), (0 : Int) ≤ (↑k : Int), (↑k : Int) ≤ (↑i : Int), (↑i : Int) ≤ (↑s.size : Int), l.length = (rowsS l).length, (l.length + 1) * 16 ≤ 140737488355328, true = true, true = true]) (
      .leaf ((Out.norm, [S s, Z, PV.nul, PV.who 0 l.length, I (↑k : Int), Z, Z, I (↑s.size : Int), I (IntKind.i64.wrap ((↑i : Int) + 1)), Z, Z, Z, Z, Z, Z, Z, Z, Z, Z, Z, Z, Z, Z, Z, Z, Z, Z, Z, Z, Z, Z, Z, Z, Z, Z, Z], [{ es := rowsS l, st := 0, par := [], sz := 1, sym := true }])) [(0 : Int) ≤ (↑i : Int), (↑i : Int) < (↑s.size : Int)])) (
     .leaf ((Out.ext 0, ([S s, Z, PV.nul, PV.who 0 l.length, I (↑k : Int)] ++ List.replicate 31 Z), [{ es := rowsS l, st := 0, par := [], sz := 1, sym := true }])) []))) (by kernel_rfl) ?_
    rw [wrap64 (x := (i : Int) + 1) (by omega) (by omega)]
    simp only [Int.toNat_natCast, seg_eq, rowsS_length]
    have a1 : s.data.toList.getD i 0 = 10 → LoopT P (loopAt Tryd.f29 4) ([S s, Z, .nul, .who 0 (l.length + 1), I ((i : Int) + 1), Z, Z, I s.size, I ((i : Int) + 1), Z, Z, Z, Z, Z, Z, Z, Z, Z, Z, Z, Z, Z, Z, Z, Z, Z, Z, Z, Z, Z, Z, Z, Z, Z, Z, Z]) [⟨rowsS l ++ [[S (B (segL s.data.toList k i))]], 0, [], 1, true⟩] (lt29 s (finL s.data.toList (n + 1) i k l)) := by
      intro hc
      have := ih (i + 1) (by omega) (i + 1) (l ++ [segL s.data.toList k i]) (Nat.le_refl _) (by simp; omega)
      rw [finL, if_pos hc]
      unfold st29 hl at this
      rw [List.length_append] at this
      unfold rowsS at this ⊢
      rw [List.map_append] at this
      exact this
    have a2 : s.data.toList.getD i 0 ≠ 10 → LoopT P (loopAt Tryd.f29 4) (st29 s l k ((i : Int) + 1)) (hl l) (lt29 s (finL s.data.toList (n + 1) i k l)) := by
      intro hc
      rw [finL, if_neg hc]
      exact ih (i + 1) (by omega) k l (by omega) (by omega)
    simp only [Tr.All, AllP, Rnd, decide_eq_true_eq, decide_eq_false_iff_not, beq_iff_eq, beq_eq_false_iff_ne]
    repeat' with_reducible first | intro _ | refine And.intro ?_ ?_
    all_goals first | trivial | omega | exact a1 ((byte_ten _).1 (by assumption)) | exact a2 (fun h => absurd ((byte_ten _).2 h) (by assumption))

def linesR (s : List UInt8) : List (List UInt8) := if (finL s s.length 0 0 []).2 < s.length then (finL s s.length 0 0 []).1 ++ [segL s (finL s s.length 0 0 []).2 s.length] else (finL s s.length 0 0 []).1
def linesE (s : ByteArray) : List (List UInt8) := if s = ⟨#[]⟩ then [] else splitL 10 (trimS s 10).data.toList

theorem rf_str {n : Nat} {f : Nat → List PV} {l : List (List UInt8)} (hn : n = l.length) (hf : ∀ i, i < l.length → f i = [S (B (l.getD i []))]) : RLe (.rf n f) (strL l) := by
  subst hn
  exact fun w Sx v hr => rf_conv hf hr
theorem rows_getD (l : List (List UInt8)) (i : Nat) (hi : i < l.length) : (rowsS l).getD i [] = [S (B (l.getD i []))] := by
  unfold rowsS
  rw [List.getD_eq_getElem?_getD, List.getD_eq_getElem?_getD, List.getElem?_map, List.getElem?_eq_getElem hi]
  rfl

theorem rf_rows2 (l : List (List UInt8)) (g : List UInt8) : RLe (.rf (l.length + 1) fun i => (rowsS l ++ [[S (B g)]]).getD i []) (strL (l ++ [g])) := by
  rw [show rowsS l ++ [[S (B g)]] = rowsS (l ++ [g]) by simp [rowsS]]
  exact rf_str (by simp) (rows_getD _)
theorem fin_le (s : List UInt8) : ∀ n i k (l : List (List UInt8)), (finL s n i k l).1.length ≤ l.length + n
  | 0, _, _, _ => Nat.le_refl _
  | n + 1, i, k, l => by
    rw [finL]
    split
    · refine Nat.le_trans (fin_le s n _ _ _) ?_; rw [List.length_append, List.length_singleton]; omega
    · exact Nat.le_trans (fin_le s n _ _ _) (by omega)

theorem trim_le (s : ByteArray) : (trimS s 10).size ≤ s.size := by
  unfold trimS
  rw [B_size, Lib.size_eq]
  unfold Lib.trimSuffix
  split
  · simp
  · exact Nat.le_refl _
theorem lines_ok (s : ByteArray) (hs : s.size ≤ 70000) : Ok P 27 [S s] (strL (linesE s)) := by
  refine fn_trc Ej_ok L0 Tryd.func27 ((.node (eqS s (⟨#[]⟩ : ByteArray)) (
     .leaf (PV.rf 0 fun i => []) []) (
     .leaf (PV.rf (splitL 10 (trimS s 10).data.toList).length fun i => [S (B ((splitL 10 (trimS s 10).data.toList).getD i []))]) [s.size ≤ 9223372036854775807, (trimS s 10).size < 4294967281]))) (by kernel_rfl) ?_
  have ht := trim_le s
  unfold linesE
  simp only [Tr.All, AllP, decide_eq_true_eq, decide_eq_false_iff_not, eqS_decide]
  repeat' with_reducible first | intro _ | refine And.intro ?_ ?_
  all_goals first | trivial | omega | (rw [if_pos (by assumption)]; exact rf_str rfl (fun i hi => absurd hi (Nat.not_lt_zero i))) | (rw [if_neg (by assumption)]; exact rf_str rfl (fun _ _ => rfl))

def L29 (s : ByteArray) : LEnv := fun _ => ([0, 2, 3, 4, 7, 8], [(3, 1)], fun _ _ => lt29 s (finL s.data.toList s.size 0 0 []))
theorem rlines_ok (s : ByteArray) (hs : s.size ≤ 70000) : Ok P 29 [S s] (strL (linesR s.data.toList)) := by
  refine fn_trc Ej_ok (L29 s) Tryd.func29 ((.node (decide ((↑(finL s.data.toList s.size 0 0 []).snd : Int) < (↑s.size : Int))) (
     .leaf (PV.rf ((finL s.data.toList s.size 0 0 []).fst.length + [[PV.sc (Value.string (s.extract (↑(finL s.data.toList s.size 0 0 []).snd : Int).toNat (↑s.size : Int).toNat))]].length) fun i => (rowsS (finL s.data.toList s.size 0 0 []).fst ++ [[PV.sc (Value.string (s.extract (↑(finL s.data.toList s.size 0 0 []).snd : Int).toNat (↑s.size : Int).toNat))]]).getD i []) [LoopSem P (loopAt Tryd.f29 4) ([S s, Z, PV.nul, PV.who 0 0, I 0, Z, Z, I (↑s.size : Int), I 0, Z, Z, Z, Z, Z, Z, Z, Z, Z, Z, Z, Z, Z, Z, Z, Z, Z, Z, Z, Z, Z, Z, Z, Z, Z, Z, Z]) ([{ es := [], st := 0, par := [], sz := 1, sym := true }]) (Out.ext 0) (([S s, Z, PV.nul, PV.who 0 (finL s.data.toList s.size 0 0 []).fst.length, I (↑(finL s.data.toList s.size 0 0 []).snd : Int)] ++ List.replicate 31 Z)) ([{ es := rowsS (finL s.data.toList s.size 0 0 []).fst, st := 0, par := [], sz := 1, sym := true }]), (0 : Int) ≤ (↑(finL s.data.toList s.size 0 0 []).snd : Int), (↑(finL s.data.toList s.size 0 0 []).snd : Int) ≤ (↑s.size : Int), (↑s.size : Int) ≤ (↑s.size : Int), (finL s.data.toList s.size 0 0 []).fst.length = (rowsS (finL s.data.toList s.size 0 0 []).fst).length, ((finL s.data.toList s.size 0 0 []).fst.length + 1) * 16 ≤ 140737488355328, true = true, true = true, (finL s.data.toList s.size 0 0 []).fst.length + [[PV.sc (Value.string (s.extract (↑(finL s.data.toList s.size 0 0 []).snd : Int).toNat (↑s.size : Int).toNat))]].length = (rowsS (finL s.data.toList s.size 0 0 []).fst ++ [[PV.sc (Value.string (s.extract (↑(finL s.data.toList s.size 0 0 []).snd : Int).toNat (↑s.size : Int).toNat))]]).length]) (
     .leaf (PV.rf (finL s.data.toList s.size 0 0 []).fst.length fun i => (rowsS (finL s.data.toList s.size 0 0 []).fst).getD i []) [LoopSem P (loopAt Tryd.f29 4) ([S s, Z, PV.nul, PV.who 0 0, I 0, Z, Z, I (↑s.size : Int), I 0, Z, Z, Z, Z, Z, Z, Z, Z, Z, Z, Z, Z, Z, Z, Z, Z, Z, Z, Z, Z, Z, Z, Z, Z, Z, Z, Z]) ([{ es := [], st := 0, par := [], sz := 1, sym := true }]) (Out.ext 0) (([S s, Z, PV.nul, PV.who 0 (finL s.data.toList s.size 0 0 []).fst.length, I (↑(finL s.data.toList s.size 0 0 []).snd : Int)] ++ List.replicate 31 Z)) ([{ es := rowsS (finL s.data.toList s.size 0 0 []).fst, st := 0, par := [], sz := 1, sym := true }]), (finL s.data.toList s.size 0 0 []).fst.length = (rowsS (finL s.data.toList s.size 0 0 []).fst).length]))) (by kernel_rfl) ?_
  have h0 := lp29 s hs s.size 0 (by omega) 0 [] (Nat.le_refl _) (Nat.le_refl _)
  have hsz : s.data.toList.length = s.size := (Lib.size_eq s).symm
  unfold linesR
  rw [hsz]
  have hx := fin_le s.data.toList s.size 0 0 []
  simp only [List.length_nil, Nat.zero_add] at hx
  generalize finL s.data.toList s.size 0 0 [] = x at *
  simp only [Tr.All, AllP, decide_eq_true_eq, decide_eq_false_iff_not]
  repeat' with_reducible first | intro _ | refine And.intro ?_ ?_
  all_goals first | trivial | omega | exact h0.one | exact (rowsS_length _).symm | (simp [rowsS_length]; done) | (rw [if_pos (by omega), extract_B]; exact rf_rows2 _ _) | (rw [if_neg (by omega)]; exact rf_str rfl (rows_getD _)) | (simp only [List.length_singleton]; omega)
end Go.Proofs.YtldmgdphelgffaaDoor
