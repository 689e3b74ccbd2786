/- Contracts of chapter 53: hexadecimal texts, third part; numbers. -/
import Derived.Test.YtldmgdphelgffaaDoorS5
namespace Go.Proofs.YtldmgdphelgffaaDoor
open Go.PS

theorem unhexL_odd : ∀ (n : Nat) (l : List UInt8), l.length = 2 * n + 1 → unhexL l = none
  | 0, [x], _ => rfl
  | n + 1, x :: y :: r, h => by
    rw [unhexL, unhexL_odd n r (by simp at h; omega)]
    simp

def L40 (s : ByteArray) : LEnv := fun _ => ([0, 2, 3, 4, 5], [], fun _ _ => lt40 s [] 0)
def unhexV (s : ByteArray) : PV := .tup [S (B ((unhexL s.data.toList).getD [])), I (if (unhexL s.data.toList).isSome then 0 else 2)]
theorem unhex_ok (s : ByteArray) (hs : s.size ≤ 4294967296) : Ok P 40 [S s] (unhexV s) := by
  refine fn_tr Ea_ok (L40 s) Tryd.func40 ((.node (((↑s.size : Int).tmod 2 : Int) != 0) (
     .leaf (PV.tup [S (⟨#[]⟩ : ByteArray), I 2]) []) (
     .node ((all40 s [] 0).isSome) (
      .leaf (PV.tup [S (bytesP (by8 ((all40 s [] 0).getD []))), I 0]) [(0 : Int) ≤ 0, (0 : Int) ≤ IntKind.i64.wrap ((↑s.size : Int).tdiv 2), IntKind.i64.wrap ((↑s.size : Int).tdiv 2) * (↑1 : Int) ≤ 140737488355328, LoopSem P (loopAt Tryd.f40 5) (([S s, Z, S (⟨#[]⟩ : ByteArray), I 0, PV.who 0 0, I 0] ++ List.replicate 41 Z)) ([{ es := [], st := 0, par := [], sz := 1, sym := true }]) (Out.ext 0) (([Z, Z, S (⟨#[]⟩ : ByteArray), I 0, PV.who 0 ((all40 s [] 0).getD []).length] ++ List.replicate 42 Z)) ([{ es := by8 ((all40 s [] 0).getD []), st := 0, par := [], sz := 1, sym := true }]), bytesB (by8 ((all40 s [] 0).getD [])) = true, ((all40 s [] 0).getD []).length = (by8 ((all40 s [] 0).getD [])).length]) (
      .leaf (PV.tup [S (⟨#[]⟩ : ByteArray), I 2]) [(0 : Int) ≤ 0, (0 : Int) ≤ IntKind.i64.wrap ((↑s.size : Int).tdiv 2), IntKind.i64.wrap ((↑s.size : Int).tdiv 2) * (↑1 : Int) ≤ 140737488355328, LoopSem P (loopAt Tryd.f40 5) (([S s, Z, S (⟨#[]⟩ : ByteArray), I 0, PV.who 0 0, I 0] ++ List.replicate 41 Z)) ([{ es := [], st := 0, par := [], sz := 1, sym := true }]) (Out.ret) (([Z, Z, S (⟨#[]⟩ : ByteArray), I 2] ++ List.replicate 43 Z)) ([])])))) (by kernel_rfl) ?_
  have e : all40 s [] 0 = unhexL s.data.toList := by simp [all40]
  have c1 : (s.size : Int).tmod 2 = 0 → LoopT P (loopAt Tryd.f40 5) (st40 s [] 0) (h40 []) (lt40 s [] 0) := fun h => by
    rw [Int.tmod_eq_emod_of_nonneg (by omega)] at h
    exact lp40 s hs (s.size / 2) 0 (by omega) (by omega) [] (by simp)
  have hodd : ¬ (s.size : Int).tmod 2 = 0 → unhexL s.data.toList = none := fun h => by
    rw [Int.tmod_eq_emod_of_nonneg (by omega)] at h
    exact unhexL_odd (s.size / 2) _ (by rw [← Lib.size_eq]; omega)
  have hlen := by8_length ((all40 s [] 0).getD [])
  have hby := by8_bytesB ((all40 s [] 0).getD [])
  unfold unhexV
  rw [← e]
  have ht : IntKind.i64.wrap ((s.size : Int).tdiv 2) = ((s.size / 2 : Nat) : Int) := by
    rw [show (s.size : Int).tdiv 2 = ((s.size / 2 : Nat) : Int) by rfl, wrap64 (by omega) (by omega)]
  have hn : (all40 s [] 0).isSome = false → all40 s [] 0 = none := fun h => by simpa using h
  rw [e] at hn
  rw [← e] at hodd hn
  simp only [ht]
  simp only [Tr.All, AllP, bne_iff_ne, bne_eq_false_iff_eq]
  repeat' with_reducible first | intro _ | refine And.intro ?_ ?_
  all_goals first | trivial | omega | exact ((c1 (by assumption)).t (by assumption)).one | exact ((c1 (by assumption)).f (by assumption)).one | assumption | exact hlen.symm | (rw [hodd (by assumption)]; rfl) | (rw [by8_bytesP, if_pos (by assumption)]) | (rw [hn (by assumption)]; rfl)

/-! The reference's. -/
def st43 (s : ByteArray) (l : List UInt8) (i : Int) : List PV := ([S s, Z, S ⟨#[]⟩, I 0, S (B l), I i] ++ List.replicate 37 Z)
def lt43 (s : ByteArray) (l : List UInt8) (i : Int) : LT := .ite (all40 s l i).isSome (.out (.ext 0) (([Z, Z, S ⟨#[]⟩, I 0, S (B ((all40 s l i).getD []))] ++ List.replicate 38 Z)) []) (.out .ret (([Z, Z, S ⟨#[]⟩, I 2] ++ List.replicate 39 Z)) [])

theorem lp43 (s : ByteArray) (hs : s.size ≤ 4294967296) : ∀ (n : Nat) (i : Int), 0 ≤ i → i + 2 * n = s.size → ∀ l : List UInt8, (l.length : Int) ≤ i → LoopT P (loopAt Tryd.f43 5) (st43 s l i) [] (lt43 s l i) := by
  intro n
  induction n with
  | zero =>
    intro i h0 h1 l hl
    refine loop_tr Ea_ok L0 [0, 2, 3, 4, 5] [2, 3, 10004] ((.node (decide (i < (↑s.size : Int))) (
     .node (decide (valS (↑(s.data.toList.getD i.toNat 0).toNat : Int) < 0)) (
      .leaf ((Out.ret, ([Z, Z, S (⟨#[]⟩ : ByteArray), I 2] ++ List.replicate 39 Z), [])) [(0 : Int) ≤ i, i < (↑s.size : Int), (0 : Int) ≤ IntKind.i64.wrap (i + 1), IntKind.i64.wrap (i + 1) < (↑s.size : Int)]) (
      .node (decide (valS (↑(s.data.toList.getD (IntKind.i64.wrap (i + 1)).toNat 0).toNat : Int) < 0)) (
       .leaf ((Out.ret, ([Z, Z, S (⟨#[]⟩ : ByteArray), I 2] ++ List.replicate 39 Z), [])) [(0 : Int) ≤ i, i < (↑s.size : Int), (0 : Int) ≤ IntKind.i64.wrap (i + 1), IntKind.i64.wrap (i + 1) < (↑s.size : Int)]) (
       .leaf ((Out.norm, ([S s, Z, S (⟨#[]⟩ : ByteArray), I 0, S (B l ++ bytesP [[PV.sc (Value.int IntKind.u8 (IntKind.u8.wrap (IntKind.i64.wrap (IntKind.i64.wrap (16 * valS (↑(s.data.toList.getD i.toNat 0).toNat : Int)) + valS (↑(s.data.toList.getD (IntKind.i64.wrap (i + 1)).toNat 0).toNat : Int)))))]]), I (IntKind.i64.wrap (i + 2))] ++ List.replicate 37 Z), [])) [(0 : Int) ≤ i, i < (↑s.size : Int), (0 : Int) ≤ IntKind.i64.wrap (i + 1), IntKind.i64.wrap (i + 1) < (↑s.size : Int), true = true, (B l).size + (bytesP [[PV.sc (Value.int IntKind.u8 (IntKind.u8.wrap (IntKind.i64.wrap (IntKind.i64.wrap (16 * valS (↑(s.data.toList.getD i.toNat 0).toNat : Int)) + valS (↑(s.data.toList.getD (IntKind.i64.wrap (i + 1)).toNat 0).toNat : Int)))))]]).size ≤ 9223372036854775807]))) (
     .leaf ((Out.ext 0, ([Z, Z, S (⟨#[]⟩ : ByteArray), I 0, S (B l)] ++ List.replicate 38 Z), [])) []))) (by kernel_rfl) ?_
    have hend : all40 s l i = some l := by
      unfold all40
      rw [List.drop_eq_nil_of_le (by simp; omega)]
      simp [unhexL]
    simp only [Tr.All, AllP, Rnd, decide_eq_true_eq, decide_eq_false_iff_not]
    repeat' with_reducible first | intro _ | refine And.intro ?_ ?_
    all_goals first | trivial | omega | (exact ends_t (by rw [hend]; rfl) (by rw [hend]; rfl))
  | succ n ih =>
    intro i h0 h1 l hl
    refine loop_tr Ea_ok L0 [0, 2, 3, 4, 5] [2, 3, 10004] ((.node (decide (i < (↑s.size : Int))) (
     .node (decide (valS (↑(s.data.toList.getD i.toNat 0).toNat : Int) < 0)) (
      .leaf ((Out.ret, ([Z, Z, S (⟨#[]⟩ : ByteArray), I 2] ++ List.replicate 39 Z), [])) [(0 : Int) ≤ i, i < (↑s.size : Int), (0 : Int) ≤ IntKind.i64.wrap (i + 1), IntKind.i64.wrap (i + 1) < (↑s.size : Int)]) (
      .node (decide (valS (↑(s.data.toList.getD (IntKind.i64.wrap (i + 1)).toNat 0).toNat : Int) < 0)) (
       .leaf ((Out.ret, ([Z, Z, S (⟨#[]⟩ : ByteArray), I 2] ++ List.replicate 39 Z), [])) [(0 : Int) ≤ i, i < (↑s.size : Int), (0 : Int) ≤ IntKind.i64.wrap (i + 1), IntKind.i64.wrap (i + 1) < (↑s.size : Int)]) (
       .leaf ((Out.norm, ([S s, Z, S (⟨#[]⟩ : ByteArray), I 0, S (B l ++ bytesP [[PV.sc (Value.int IntKind.u8 (IntKind.u8.wrap (IntKind.i64.wrap (IntKind.i64.wrap (16 * valS (↑(s.data.toList.getD i.toNat 0).toNat : Int)) + valS (↑(s.data.toList.getD (IntKind.i64.wrap (i + 1)).toNat 0).toNat : Int)))))]]), I (IntKind.i64.wrap (i + 2))] ++ List.replicate 37 Z), [])) [(0 : Int) ≤ i, i < (↑s.size : Int), (0 : Int) ≤ IntKind.i64.wrap (i + 1), IntKind.i64.wrap (i + 1) < (↑s.size : Int), true = true, (B l).size + (bytesP [[PV.sc (Value.int IntKind.u8 (IntKind.u8.wrap (IntKind.i64.wrap (IntKind.i64.wrap (16 * valS (↑(s.data.toList.getD i.toNat 0).toNat : Int)) + valS (↑(s.data.toList.getD (IntKind.i64.wrap (i + 1)).toNat 0).toNat : Int)))))]]).size ≤ 9223372036854775807]))) (
     .leaf ((Out.ext 0, ([Z, Z, S (⟨#[]⟩ : ByteArray), I 0, S (B l)] ++ List.replicate 38 Z), [])) []))) (by kernel_rfl) ?_
    have hstep := unhex_step s l i h0 (by omega)
    rw [wrap64 (x := i + 1) (by omega) (by omega)]
    have hx := val_lt (s.data.toList.getD i.toNat 0).toNat
    have hy := val_lt (s.data.toList.getD (i + 1).toNat 0).toNat
    generalize s.data.toList.getD i.toNat 0 = x at *
    generalize s.data.toList.getD (i + 1).toNat 0 = y at *
    have hbad : valS x.toNat < 0 ∨ valS y.toNat < 0 → (lt43 s l i).ends (.ret, ([Z, Z, S ⟨#[]⟩, I 2] ++ List.replicate 39 Z), []) := by
      intro hv
      rw [if_pos hv] at hstep
      exact ends_f (by rw [hstep]; rfl) rfl
    have hn : ¬ (valS x.toNat < 0 ∨ valS y.toNat < 0) → B l ++ bytesP [[U8 (IntKind.u8.wrap (IntKind.i64.wrap (IntKind.i64.wrap (16 * valS x.toNat) + valS y.toNat)))]] = B (l ++ [UInt8.ofNat (16 * valS x.toNat + valS y.toNat).toNat]) := by
      intro hv
      rw [show [[U8 (IntKind.u8.wrap (IntKind.i64.wrap (IntKind.i64.wrap (16 * valS x.toNat) + valS y.toNat)))]] = by8 [UInt8.ofNat (16 * valS x.toNat + valS y.toNat).toNat] by
        rw [wrap64 (x := 16 * valS x.toNat) (by omega) (by omega), wrap64 (by omega) (by omega), wrap8 (by omega) (by omega)]
        simp only [by8, List.map_cons, List.map_nil]
        rw [UInt8.toNat_ofNat', Nat.mod_eq_of_lt (by omega), Int.toNat_of_nonneg (by omega)], by8_bytesP, B_append]
    have hgo : ¬ (valS x.toNat < 0 ∨ valS y.toNat < 0) → LoopT P (loopAt Tryd.f43 5) (([S s, Z, S ⟨#[]⟩, I 0, S (B l ++ bytesP [[U8 (IntKind.u8.wrap (IntKind.i64.wrap (IntKind.i64.wrap (16 * valS x.toNat) + valS y.toNat)))]]), I (IntKind.i64.wrap (i + 2))] ++ List.replicate 37 Z)) [] (lt43 s l i) := by
      intro hv
      rw [hn hv]
      rw [if_neg hv] at hstep
      rw [wrap64 (by omega) (by omega)]
      have := ih (i + 2) (by omega) (by omega) (l ++ [UInt8.ofNat (16 * valS x.toNat + valS y.toNat).toNat]) (by simp; omega)
      unfold lt43 at this ⊢
      rw [← hstep] at this
      exact this
    have hz : ∀ z : Int, (B l).size + (bytesP [[U8 z]]).size ≤ 9223372036854775807 := fun z => by
      have : (bytesP [[U8 z]]).size = 1 := rfl
      rw [this, B_size]; omega
    simp only [Tr.All, AllP, Rnd, decide_eq_true_eq, decide_eq_false_iff_not]
    repeat' with_reducible first | intro _ | refine And.intro ?_ ?_
    all_goals first | trivial | omega | exact hgo (by omega) | exact hbad (.inl (by assumption)) | exact hbad (.inr (by assumption)) | exact hz _

def L43 (s : ByteArray) : LEnv := fun _ => ([0, 2, 3, 4, 5], [], fun _ _ => lt43 s [] 0)
theorem runhex_ok (s : ByteArray) (hs : s.size ≤ 4294967296) : Ok P 43 [S s] (unhexV s) := by
  refine fn_tr Ea_ok (L43 s) Tryd.func43 ((.node (((↑s.size : Int).tmod 2 : Int) != 0) (
     .leaf (PV.tup [S (⟨#[]⟩ : ByteArray), I 2]) []) (
     .node ((all40 s [] 0).isSome) (
      .leaf (PV.tup [S (B ((all40 s [] 0).getD [])), I 0]) [LoopSem P (loopAt Tryd.f43 5) (([S s, Z, S (⟨#[]⟩ : ByteArray), I 0, S (⟨#[]⟩ : ByteArray), I 0] ++ List.replicate 37 Z)) ([]) (Out.ext 0) (([Z, Z, S (⟨#[]⟩ : ByteArray), I 0, S (B ((all40 s [] 0).getD []))] ++ List.replicate 38 Z)) ([])]) (
      .leaf (PV.tup [S (⟨#[]⟩ : ByteArray), I 2]) [LoopSem P (loopAt Tryd.f43 5) (([S s, Z, S (⟨#[]⟩ : ByteArray), I 0, S (⟨#[]⟩ : ByteArray), I 0] ++ List.replicate 37 Z)) ([]) (Out.ret) (([Z, Z, S (⟨#[]⟩ : ByteArray), I 2] ++ List.replicate 39 Z)) ([])])))) (by kernel_rfl) ?_
  have e : all40 s [] 0 = unhexL s.data.toList := by simp [all40]
  have c1 : (s.size : Int).tmod 2 = 0 → LoopT P (loopAt Tryd.f43 5) (st43 s [] 0) [] (lt43 s [] 0) := fun h => by
    rw [Int.tmod_eq_emod_of_nonneg (by omega)] at h
    exact lp43 s hs (s.size / 2) 0 (by omega) (by omega) [] (by simp)
  have hodd : ¬ (s.size : Int).tmod 2 = 0 → unhexL s.data.toList = none := fun h => by
    rw [Int.tmod_eq_emod_of_nonneg (by omega)] at h
    exact unhexL_odd (s.size / 2) _ (by rw [← Lib.size_eq]; omega)
  have hn : (all40 s [] 0).isSome = false → all40 s [] 0 = none := fun h => by simpa using h
  unfold unhexV
  rw [← e] at hodd ⊢
  simp only [Tr.All, AllP, bne_iff_ne, bne_eq_false_iff_eq]
  repeat' with_reducible first | intro _ | refine And.intro ?_ ?_
  all_goals first | trivial | omega | exact ((c1 (by assumption)).t (by assumption)).one | exact ((c1 (by assumption)).f (by assumption)).one | (rw [hodd (by assumption)]; rfl) | (rw [if_pos (by assumption)]) | (rw [hn (by assumption)]; rfl)

/-! Numbers of at most 2^40. -/
def maxId : Int := 1099511627776
def parseL : List UInt8 → Int → Option Int
  | [], n => some n
  | c :: r, n => if 48 ≤ (c.toNat : Int) ∧ (c.toNat : Int) ≤ 57 ∧ n * 10 + (c.toNat - 48) ≤ maxId then parseL r (n * 10 + (c.toNat - 48)) else none
def parse10 (s : ByteArray) : Option Int := if s = ⟨#[]⟩ ∨ (1 < s.size ∧ ((s.data.toList.getD 0 0).toNat : Int) = 48) then none else parseL s.data.toList 0
def parseV (s : ByteArray) : PV := .tup [I ((parse10 s).getD 0), I (if (parse10 s).isSome then 0 else 5)]

def rest39 (s : ByteArray) (n i : Int) : Option Int := parseL (s.data.toList.drop i.toNat) n
theorem rest_step (s : ByteArray) (n i : Int) (h0 : 0 ≤ i) (hi : i < s.size) : rest39 s n i = if 48 ≤ ((s.data.toList.getD i.toNat 0).toNat : Int) ∧ ((s.data.toList.getD i.toNat 0).toNat : Int) ≤ 57 ∧ n * 10 + ((s.data.toList.getD i.toNat 0).toNat - 48) ≤ maxId then rest39 s (n * 10 + ((s.data.toList.getD i.toNat 0).toNat - 48)) (i + 1) else none := by
  unfold rest39
  rw [drop_step s i h0 hi, parseL]
theorem rest_end (s : ByteArray) (n i : Int) (hi : ¬ i < s.size) : rest39 s n i = some n := by
  unfold rest39
  rw [List.drop_eq_nil_of_le (by simp; omega)]
  rfl

def st39 (s : ByteArray) (n i : Int) : List PV := ([S s, I 10, I maxId, Z, Z, Z, I 0, I 0, I n, Z, Z, Z, Z, Z, Z, Z, Z, Z, Z, Z, Z, Z, Z, Z, Z, Z, Z, Z, Z, Z, Z, I s.size, I i] ++ List.replicate 30 Z)
def lt39 (s : ByteArray) (n i : Int) : LT := .ite (rest39 s n i).isSome (.out (.ext 0) (([Z, Z, Z, Z, Z, Z, I 0, I 0, I ((rest39 s n i).getD 0)] ++ List.replicate 54 Z)) []) (.out .ret (([Z, Z, Z, Z, Z, Z, I 0, I 5] ++ List.replicate 55 Z)) [])
theorem lp39 (s : ByteArray) (hs : s.size ≤ 9223372036854775807) : ∀ i : Int, 0 ≤ i → i ≤ s.size → ∀ n : Int, 0 ≤ n → n ≤ maxId → LoopT P (loopAt Tryd.f39 7) (st39 s n i) [] (lt39 s n i) := by
  apply upto
  intro i h0 h1 ih n hn0 hn1
  refine loop_tr Ea_ok L0 [0, 1, 2, 6, 7, 8, 31, 32] [6, 7, 10008] ((.node (decide (i < (↑s.size : Int))) (
     .node (decide (digS (↑(s.data.toList.getD i.toNat 0).toNat : Int) 16 ≥ 10)) (
      .leaf ((Out.ret, ([Z, Z, Z, Z, Z, Z, I 0, I 5] ++ List.replicate 55 Z), [])) [(0 : Int) ≤ i, i < (↑s.size : Int), (0 : Int) ≤ (↑(s.data.toList.getD i.toNat 0).toNat : Int), (↑(s.data.toList.getD i.toNat 0).toNat : Int) ≤ 255]) (
      .node (decide (n > IntKind.i64.wrap ((IntKind.i64.wrap (maxId - digS (↑(s.data.toList.getD i.toNat 0).toNat : Int) 16)).tdiv 10))) (
       .leaf ((Out.ret, ([Z, Z, Z, Z, Z, Z, I 0, I 5] ++ List.replicate 55 Z), [])) [(0 : Int) ≤ i, i < (↑s.size : Int), (0 : Int) ≤ (↑(s.data.toList.getD i.toNat 0).toNat : Int), (↑(s.data.toList.getD i.toNat 0).toNat : Int) ≤ 255]) (
       .node (decide (digS (↑(s.data.toList.getD i.toNat 0).toNat : Int) 16 > maxId)) (
        .leaf ((Out.ret, ([Z, Z, Z, Z, Z, Z, I 0, I 5] ++ List.replicate 55 Z), [])) [(0 : Int) ≤ i, i < (↑s.size : Int), (0 : Int) ≤ (↑(s.data.toList.getD i.toNat 0).toNat : Int), (↑(s.data.toList.getD i.toNat 0).toNat : Int) ≤ 255]) (
        .leaf ((Out.norm, ([S s, I 10, I 1099511627776, Z, Z, Z, I 0, I 0, I (IntKind.i64.wrap (IntKind.i64.wrap (n * 10) + digS (↑(s.data.toList.getD i.toNat 0).toNat : Int) 16)), Z, Z, Z, Z, Z, Z, Z, Z, Z, Z, Z, Z, Z, Z, Z, Z, Z, Z, Z, Z, Z, Z, I (↑s.size : Int), I (IntKind.i64.wrap (i + 1))] ++ List.replicate 30 Z), [])) [(0 : Int) ≤ i, i < (↑s.size : Int), (0 : Int) ≤ (↑(s.data.toList.getD i.toNat 0).toNat : Int), (↑(s.data.toList.getD i.toNat 0).toNat : Int) ≤ 255])))) (
     .leaf ((Out.ext 0, ([Z, Z, Z, Z, Z, Z, I 0, I 0, I n] ++ List.replicate 54 Z), [])) []))) (by kernel_rfl) ?_
  have hst := rest_step s n i h0
  have hd : digS (s.data.toList.getD i.toNat 0).toNat 16 = if 48 ≤ ((s.data.toList.getD i.toNat 0).toNat : Int) ∧ ((s.data.toList.getD i.toNat 0).toNat : Int) ≤ 57 then ((s.data.toList.getD i.toNat 0).toNat : Int) - 48 else digS (s.data.toList.getD i.toNat 0).toNat 16 := by
    unfold digS; grind
  have hd2 : digS (s.data.toList.getD i.toNat 0).toNat 16 < 10 ↔ 48 ≤ ((s.data.toList.getD i.toNat 0).toNat : Int) ∧ ((s.data.toList.getD i.toNat 0).toNat : Int) ≤ 57 := by unfold digS; grind
  have hd4 : 0 ≤ digS (s.data.toList.getD i.toNat 0).toNat 16 ∧ digS (s.data.toList.getD i.toNat 0).toNat 16 ≤ 16 := by unfold digS; grind
  have hb := (s.data.toList.getD i.toNat 0).toNat_lt
  generalize digS (s.data.toList.getD i.toNat 0).toNat 16 = d at *
  generalize s.data.toList.getD i.toNat 0 = c at *
  have hM : maxId = 1099511627776 := rfl
  have hq : IntKind.i64.wrap ((IntKind.i64.wrap (maxId - d)).tdiv 10) = (maxId - d) / 10 := by
    rw [wrap64 (x := maxId - d) (by omega) (by omega), Int.tdiv_eq_ediv_of_nonneg (by omega), wrap64 (by omega) (by omega)]
  rw [hq]
  have hw : IntKind.i64.wrap (IntKind.i64.wrap (n * 10) + d) = n * 10 + d := by
    rw [wrap64 (x := n * 10) (by omega) (by omega), wrap64 (by omega) (by omega)]
  rw [hw]
  have hbad : i < s.size → (10 ≤ d ∨ n > (maxId - d) / 10 ∨ d > maxId) → (lt39 s n i).ends (.ret, ([Z, Z, Z, Z, Z, Z, I 0, I 5] ++ List.replicate 55 Z), []) := by
    intro hi hv
    refine ends_f ?_ rfl
    rw [hst hi, if_neg (by omega)]; rfl
  have hgo : i < s.size → ¬ (10 ≤ d ∨ n > (maxId - d) / 10 ∨ d > maxId) → LoopT P (loopAt Tryd.f39 7) (([S s, I 10, I maxId, Z, Z, Z, I 0, I 0, I (n * 10 + d), Z, Z, Z, Z, Z, Z, Z, Z, Z, Z, Z, Z, Z, Z, Z, Z, Z, Z, Z, Z, Z, Z, I s.size, I (IntKind.i64.wrap (i + 1))] ++ List.replicate 30 Z)) [] (lt39 s n i) := by
    intro hi hv
    have hc : 48 ≤ (c.toNat : Int) ∧ (c.toNat : Int) ≤ 57 := by omega
    rw [if_pos hc] at hd
    have := ih hi (n * 10 + d) (by omega) (by omega)
    rw [wrap64 (by omega) (by omega)]
    unfold lt39 at this ⊢
    rw [hst hi, if_pos (by omega), ← hd]
    exact this
  have hend : ¬ i < s.size → rest39 s n i = some n := rest_end s n i
  simp only [Tr.All, AllP, Rnd, decide_eq_true_eq, decide_eq_false_iff_not]
  repeat' with_reducible first | intro _ | refine And.intro ?_ ?_
  all_goals first | trivial | omega | exact hgo (by omega) (by omega) | exact hbad (by omega) (by omega) | (exact ends_t (by rw [hend (by omega)]; rfl) (by rw [hend (by omega)]; rfl))

def L39 (s : ByteArray) : LEnv := fun _ => ([0, 1, 2, 6, 7, 8, 31, 32], [], fun _ _ => lt39 s 0 0)
theorem parse_cases (s : ByteArray) : (s = ⟨#[]⟩ → parse10 s = none) ∧ ((s.size : Int) > 1 → ((s.data.toList.getD 0 0).toNat : Int) = 48 → parse10 s = none) ∧
    (¬ s = ⟨#[]⟩ → ¬ (s.size : Int) > 1 → parse10 s = rest39 s 0 0) ∧ (¬ s = ⟨#[]⟩ → ((s.data.toList.getD 0 0).toNat : Int) ≠ 48 → parse10 s = rest39 s 0 0) := by
  have e : rest39 s 0 0 = parseL s.data.toList 0 := by simp [rest39]
  rw [e]
  unfold parse10
  refine ⟨fun h => if_pos (.inl h), fun h1 h2 => if_pos (.inr ⟨by omega, h2⟩), fun h1 h2 => if_neg ?_, fun h1 h2 => if_neg ?_⟩
  · rintro (h | h)
    · exact h1 h
    · omega
  · rintro (h | h)
    · exact h1 h
    · exact h2 h.2
theorem parse_ok (s : ByteArray) (hs : s.size ≤ 9223372036854775807) : Ok P 39 [S s, I 10, I maxId] (parseV s) := by
  refine fn_tr Ea_ok (L39 s) Tryd.func39 ((.say .conc (
    .say .conc (
    .node (eqS s (⟨#[]⟩ : ByteArray)) (
     .leaf (PV.tup [I 0, I 5]) []) (
     .node (decide ((↑s.size : Int) > 1)) (
      .node (((↑(s.data.toList.getD (Int.toNat 0) 0).toNat : Int) : Int) == 48) (
       .leaf (PV.tup [I 0, I 5]) [(0 : Int) ≤ 0, (0 : Int) < (↑s.size : Int)]) (
       .node ((rest39 s 0 0).isSome) (
        .leaf (PV.tup [I ((rest39 s 0 0).getD 0), I 0]) [(0 : Int) ≤ 0, (0 : Int) < (↑s.size : Int), LoopSem P (loopAt Tryd.f39 7) (([S s, I 10, I 1099511627776, Z, Z, Z, I 0, I 0, I 0, Z, Z, Z, Z, Z, Z, Z, Z, Z, Z, Z, Z, Z, Z, Z, Z, Z, Z, Z, Z, Z, Z, I (↑s.size : Int), I 0] ++ List.replicate 30 Z)) ([]) (Out.ext 0) (([Z, Z, Z, Z, Z, Z, I 0, I 0, I ((rest39 s 0 0).getD 0)] ++ List.replicate 54 Z)) ([])]) (
        .leaf (PV.tup [I 0, I 5]) [(0 : Int) ≤ 0, (0 : Int) < (↑s.size : Int), LoopSem P (loopAt Tryd.f39 7) (([S s, I 10, I 1099511627776, Z, Z, Z, I 0, I 0, I 0, Z, Z, Z, Z, Z, Z, Z, Z, Z, Z, Z, Z, Z, Z, Z, Z, Z, Z, Z, Z, Z, Z, I (↑s.size : Int), I 0] ++ List.replicate 30 Z)) ([]) (Out.ret) (([Z, Z, Z, Z, Z, Z, I 0, I 5] ++ List.replicate 55 Z)) ([])]))) (
      .node ((rest39 s 0 0).isSome) (
       .leaf (PV.tup [I ((rest39 s 0 0).getD 0), I 0]) [LoopSem P (loopAt Tryd.f39 7) (([S s, I 10, I 1099511627776, Z, Z, Z, I 0, I 0, I 0, Z, Z, Z, Z, Z, Z, Z, Z, Z, Z, Z, Z, Z, Z, Z, Z, Z, Z, Z, Z, Z, Z, I (↑s.size : Int), I 0] ++ List.replicate 30 Z)) ([]) (Out.ext 0) (([Z, Z, Z, Z, Z, Z, I 0, I 0, I ((rest39 s 0 0).getD 0)] ++ List.replicate 54 Z)) ([])]) (
       .leaf (PV.tup [I 0, I 5]) [LoopSem P (loopAt Tryd.f39 7) (([S s, I 10, I 1099511627776, Z, Z, Z, I 0, I 0, I 0, Z, Z, Z, Z, Z, Z, Z, Z, Z, Z, Z, Z, Z, Z, Z, Z, Z, Z, Z, Z, Z, Z, I (↑s.size : Int), I 0] ++ List.replicate 30 Z)) ([]) (Out.ret) (([Z, Z, Z, Z, Z, Z, I 0, I 5] ++ List.replicate 55 Z)) ([])]))))))) (by kernel_rfl) ?_
  have c1 := lp39 s hs 0 (by omega) (by omega) 0 (by decide) (by decide)
  have hz := size_zero s
  obtain ⟨p1, p2, p3, p4⟩ := parse_cases s
  have hn : (rest39 s 0 0).isSome = false → rest39 s 0 0 = none := fun h => by simpa using h
  simp only [Int.toNat_zero]
  unfold parseV
  simp only [Tr.All, AllP, decide_eq_true_eq, decide_eq_false_iff_not, beq_iff_eq, beq_eq_false_iff_ne, eqS_decide]
  repeat' with_reducible first | intro _ | refine And.intro ?_ ?_
  all_goals first | trivial | omega | exact (c1.t (by assumption)).one | exact (c1.f (by assumption)).one | (rw [p1 (by assumption)]; rfl) | (rw [p2 (by assumption) (by assumption)]; rfl) | (have h1 : s.size ≠ 0 := fun h => absurd (hz.1 h) (by assumption); omega) | (have := hn (by assumption); simp_all) | simp_all

def st44 (s : ByteArray) (n i : Int) : List PV := ([S s, I 10, I maxId, Z, Z, Z, I 0, I 0, I n, I i] ++ List.replicate 57 Z)
def lt44 (s : ByteArray) (n i : Int) : LT := .ite (rest39 s n i).isSome (.out (.ext 0) (([Z, Z, Z, Z, Z, Z, I 0, I 0, I ((rest39 s n i).getD 0)] ++ List.replicate 58 Z)) []) (.out .ret (([Z, Z, Z, Z, Z, Z, I 0, I 5] ++ List.replicate 59 Z)) [])
theorem lp44 (s : ByteArray) (hs : s.size ≤ 9223372036854775807) : ∀ i : Int, 0 ≤ i → i ≤ s.size → ∀ n : Int, 0 ≤ n → n ≤ maxId → LoopT P (loopAt Tryd.f44 7) (st44 s n i) [] (lt44 s n i) := by
  apply upto
  intro i h0 h1 ih n hn0 hn1
  refine loop_tr Ea_ok L0 [0, 1, 2, 6, 7, 8, 9] [6, 7, 10008] ((.node (decide (i < (↑s.size : Int))) (
     .node (decide (digS (↑(s.data.toList.getD i.toNat 0).toNat : Int) (-1) < 0)) (
      .leaf ((Out.ret, ([Z, Z, Z, Z, Z, Z, I 0, I 5] ++ List.replicate 59 Z), [])) [(0 : Int) ≤ i, i < (↑s.size : Int), (0 : Int) ≤ (↑(s.data.toList.getD i.toNat 0).toNat : Int), (↑(s.data.toList.getD i.toNat 0).toNat : Int) ≤ 255]) (
      .node (decide (digS (↑(s.data.toList.getD i.toNat 0).toNat : Int) (-1) ≥ 10)) (
       .leaf ((Out.ret, ([Z, Z, Z, Z, Z, Z, I 0, I 5] ++ List.replicate 59 Z), [])) [(0 : Int) ≤ i, i < (↑s.size : Int), (0 : Int) ≤ (↑(s.data.toList.getD i.toNat 0).toNat : Int), (↑(s.data.toList.getD i.toNat 0).toNat : Int) ≤ 255]) (
       .node (decide (digS (↑(s.data.toList.getD i.toNat 0).toNat : Int) (-1) > maxId)) (
        .leaf ((Out.ret, ([Z, Z, Z, Z, Z, Z, I 0, I 5] ++ List.replicate 59 Z), [])) [(0 : Int) ≤ i, i < (↑s.size : Int), (0 : Int) ≤ (↑(s.data.toList.getD i.toNat 0).toNat : Int), (↑(s.data.toList.getD i.toNat 0).toNat : Int) ≤ 255]) (
        .node (decide (n > IntKind.i64.wrap ((IntKind.i64.wrap (maxId - digS (↑(s.data.toList.getD i.toNat 0).toNat : Int) (-1))).tdiv 10))) (
         .leaf ((Out.ret, ([Z, Z, Z, Z, Z, Z, I 0, I 5] ++ List.replicate 59 Z), [])) [(0 : Int) ≤ i, i < (↑s.size : Int), (0 : Int) ≤ (↑(s.data.toList.getD i.toNat 0).toNat : Int), (↑(s.data.toList.getD i.toNat 0).toNat : Int) ≤ 255]) (
         .leaf ((Out.norm, ([S s, I 10, I 1099511627776, Z, Z, Z, I 0, I 0, I (IntKind.i64.wrap (IntKind.i64.wrap (n * 10) + digS (↑(s.data.toList.getD i.toNat 0).toNat : Int) (-1))), I (IntKind.i64.wrap (i + 1))] ++ List.replicate 57 Z), [])) [(0 : Int) ≤ i, i < (↑s.size : Int), (0 : Int) ≤ (↑(s.data.toList.getD i.toNat 0).toNat : Int), (↑(s.data.toList.getD i.toNat 0).toNat : Int) ≤ 255]))))) (
     .leaf ((Out.ext 0, ([Z, Z, Z, Z, Z, Z, I 0, I 0, I n] ++ List.replicate 58 Z), [])) []))) (by kernel_rfl) ?_
  have hst := rest_step s n i h0
  have hd : digS (s.data.toList.getD i.toNat 0).toNat (-1) = if 48 ≤ ((s.data.toList.getD i.toNat 0).toNat : Int) ∧ ((s.data.toList.getD i.toNat 0).toNat : Int) ≤ 57 then ((s.data.toList.getD i.toNat 0).toNat : Int) - 48 else digS (s.data.toList.getD i.toNat 0).toNat (-1) := by
    unfold digS; grind
  have hd2 : 0 ≤ digS (s.data.toList.getD i.toNat 0).toNat (-1) ∧ digS (s.data.toList.getD i.toNat 0).toNat (-1) < 10 ↔ 48 ≤ ((s.data.toList.getD i.toNat 0).toNat : Int) ∧ ((s.data.toList.getD i.toNat 0).toNat : Int) ≤ 57 := by unfold digS; grind
  have hd4 : -1 ≤ digS (s.data.toList.getD i.toNat 0).toNat (-1) ∧ digS (s.data.toList.getD i.toNat 0).toNat (-1) ≤ 16 := by unfold digS; grind
  have hb := (s.data.toList.getD i.toNat 0).toNat_lt
  generalize digS (s.data.toList.getD i.toNat 0).toNat (-1) = d at *
  generalize s.data.toList.getD i.toNat 0 = c at *
  have hM : maxId = 1099511627776 := rfl
  have hq : IntKind.i64.wrap ((IntKind.i64.wrap (maxId - d)).tdiv 10) = (maxId - d) / 10 := by
    rw [wrap64 (x := maxId - d) (by omega) (by omega), Int.tdiv_eq_ediv_of_nonneg (by omega), wrap64 (by omega) (by omega)]
  rw [hq]
  have hw : IntKind.i64.wrap (IntKind.i64.wrap (n * 10) + d) = n * 10 + d := by
    rw [wrap64 (x := n * 10) (by omega) (by omega), wrap64 (by omega) (by omega)]
  rw [hw]
  have hbad : i < s.size → (d < 0 ∨ 10 ≤ d ∨ n > (maxId - d) / 10 ∨ d > maxId) → (lt44 s n i).ends (.ret, ([Z, Z, Z, Z, Z, Z, I 0, I 5] ++ List.replicate 59 Z), []) := by
    intro hi hv
    refine ends_f ?_ rfl
    rw [hst hi, if_neg (by omega)]; rfl
  have hgo : i < s.size → ¬ (d < 0 ∨ 10 ≤ d ∨ n > (maxId - d) / 10 ∨ d > maxId) → LoopT P (loopAt Tryd.f44 7) (([S s, I 10, I maxId, Z, Z, Z, I 0, I 0, I (n * 10 + d), I (IntKind.i64.wrap (i + 1))] ++ List.replicate 57 Z)) [] (lt44 s n i) := by
    intro hi hv
    have hc : 48 ≤ (c.toNat : Int) ∧ (c.toNat : Int) ≤ 57 := by omega
    rw [if_pos hc] at hd
    have := ih hi (n * 10 + d) (by omega) (by omega)
    rw [wrap64 (by omega) (by omega)]
    unfold lt44 at this ⊢
    rw [hst hi, if_pos (by omega), ← hd]
    exact this
  have hend : ¬ i < s.size → rest39 s n i = some n := rest_end s n i
  simp only [Tr.All, AllP, Rnd, decide_eq_true_eq, decide_eq_false_iff_not]
  repeat' with_reducible first | intro _ | refine And.intro ?_ ?_
  all_goals first | trivial | omega | exact hgo (by omega) (by omega) | exact hbad (by omega) (by omega) | (exact ends_t (by rw [hend (by omega)]; rfl) (by rw [hend (by omega)]; rfl))

def L44 (s : ByteArray) : LEnv := fun _ => ([0, 1, 2, 6, 7, 8, 9], [], fun _ _ => lt44 s 0 0)
theorem rparse_ok (s : ByteArray) (hs : s.size ≤ 9223372036854775807) : Ok P 44 [S s, I 10, I maxId] (parseV s) := by
  refine fn_tr Ea_ok (L44 s) Tryd.func44 ((.say .conc (
    .say .conc (
    .node (eqS s (⟨#[]⟩ : ByteArray)) (
     .leaf (PV.tup [I 0, I 5]) []) (
     .node (decide ((↑s.size : Int) > 1)) (
      .node (((↑(s.data.toList.getD (Int.toNat 0) 0).toNat : Int) : Int) == 48) (
       .leaf (PV.tup [I 0, I 5]) [(0 : Int) ≤ 0, (0 : Int) < (↑s.size : Int)]) (
       .node ((rest39 s 0 0).isSome) (
        .leaf (PV.tup [I ((rest39 s 0 0).getD 0), I 0]) [(0 : Int) ≤ 0, (0 : Int) < (↑s.size : Int), LoopSem P (loopAt Tryd.f44 7) (([S s, I 10, I 1099511627776, Z, Z, Z, I 0, I 0, I 0, I 0] ++ List.replicate 57 Z)) ([]) (Out.ext 0) (([Z, Z, Z, Z, Z, Z, I 0, I 0, I ((rest39 s 0 0).getD 0)] ++ List.replicate 58 Z)) ([])]) (
        .leaf (PV.tup [I 0, I 5]) [(0 : Int) ≤ 0, (0 : Int) < (↑s.size : Int), LoopSem P (loopAt Tryd.f44 7) (([S s, I 10, I 1099511627776, Z, Z, Z, I 0, I 0, I 0, I 0] ++ List.replicate 57 Z)) ([]) (Out.ret) (([Z, Z, Z, Z, Z, Z, I 0, I 5] ++ List.replicate 59 Z)) ([])]))) (
      .node ((rest39 s 0 0).isSome) (
       .leaf (PV.tup [I ((rest39 s 0 0).getD 0), I 0]) [LoopSem P (loopAt Tryd.f44 7) (([S s, I 10, I 1099511627776, Z, Z, Z, I 0, I 0, I 0, I 0] ++ List.replicate 57 Z)) ([]) (Out.ext 0) (([Z, Z, Z, Z, Z, Z, I 0, I 0, I ((rest39 s 0 0).getD 0)] ++ List.replicate 58 Z)) ([])]) (
       .leaf (PV.tup [I 0, I 5]) [LoopSem P (loopAt Tryd.f44 7) (([S s, I 10, I 1099511627776, Z, Z, Z, I 0, I 0, I 0, I 0] ++ List.replicate 57 Z)) ([]) (Out.ret) (([Z, Z, Z, Z, Z, Z, I 0, I 5] ++ List.replicate 59 Z)) ([])]))))))) (by kernel_rfl) ?_
  have c1 := lp44 s hs 0 (by omega) (by omega) 0 (by decide) (by decide)
  have hz := size_zero s
  obtain ⟨p1, p2, p3, p4⟩ := parse_cases s
  have hn : (rest39 s 0 0).isSome = false → rest39 s 0 0 = none := fun h => by simpa using h
  simp only [Int.toNat_zero]
  unfold parseV
  simp only [Tr.All, AllP, decide_eq_true_eq, decide_eq_false_iff_not, beq_iff_eq, beq_eq_false_iff_ne, eqS_decide]
  repeat' with_reducible first | intro _ | refine And.intro ?_ ?_
  all_goals first | trivial | omega | exact (c1.t (by assumption)).one | exact (c1.f (by assumption)).one | (rw [p1 (by assumption)]; rfl) | (rw [p2 (by assumption) (by assumption)]; rfl) | (have h1 : s.size ≠ 0 := fun h => absurd (hz.1 h) (by assumption); omega) | (have := hn (by assumption); simp_all) | simp_all
end Go.Proofs.YtldmgdphelgffaaDoor
