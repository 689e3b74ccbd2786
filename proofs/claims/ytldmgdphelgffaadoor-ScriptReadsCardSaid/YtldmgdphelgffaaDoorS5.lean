/- Contracts of chapter 53: hexadecimal texts, second part. -/
import Derived.Test.YtldmgdphelgffaaDoorS4
namespace Go.Proofs.YtldmgdphelgffaaDoor
open Go.PS

def d53 : List PV → Option (PV × List Prop)
  | [.sc (.int .u8 c)] => some (I (valS c), [])
  | _ => none
def d52 : List PV → Option (PV × List Prop)
  | [.sc (.int .u8 c)] => some (I (digS c 16), [0 ≤ c, c ≤ 255])
  | _ => none
def d55 : List PV → Option (PV × List Prop)
  | [.sc (.int .u8 c)] => some (I (digS c (-1)), [0 ≤ c, c ≤ 255])
  | _ => none
def d31 : List PV → Option (PV × List Prop)
  | [.sc (.int .i64 c)] => some (Bo (baseS c), [])
  | _ => none
def d33 : List PV → Option (PV × List Prop)
  | [.sc (.string s)] => some (S (B (hexL s.data.toList)), [s.size ≤ 4294967296])
  | _ => none
def Ea : Env := addE 53 d53 (addE 54 d53 (addE 52 d52 (addE 55 d55 (addE 31 d31 (addE 35 d31 (addE 33 d33 E0))))))
theorem Ea_ok : EnvOk P Ea :=
  addE_ok (addE_ok (addE_ok (addE_ok (addE_ok (addE_ok (addE_ok (E0_ok P)
    (fun l r ob h ho => by unfold d33 at h; split at h <;> cases h; exact hex_ok _ (ho _ (by simp))))
    (fun l r ob h ho => by unfold d31 at h; split at h <;> cases h; exact based_ok _))
    (fun l r ob h ho => by unfold d31 at h; split at h <;> cases h; exact known_ok _))
    (fun l r ob h ho => by unfold d55 at h; split at h <;> cases h; exact digit1_ok _ (ho _ (by simp)) (ho _ (by simp))))
    (fun l r ob h ho => by unfold d52 at h; split at h <;> cases h; exact digit_ok _ (ho _ (by simp)) (ho _ (by simp))))
    (fun l r ob h ho => by unfold d53 at h; split at h <;> cases h; exact rvalue_ok _))
    (fun l r ob h ho => by unfold d53 at h; split at h <;> cases h; exact value_ok _)

theorem hi16 (b : UInt8) : IntKind.i64.wrap ((IntKind.i64.wrap (b.toNat : Int)).tdiv 16) = ((b.toNat / 16 : Nat) : Int) := by
  have := b.toNat_lt
  rw [wrap64 (x := (b.toNat : Int)) (by omega) (by omega)]
  rw [show (b.toNat : Int).tdiv 16 = ((b.toNat / 16 : Nat) : Int) by rfl, wrap64 (by omega) (by omega)]
theorem lo16 (b : UInt8) : (IntKind.i64.wrap (b.toNat : Int)).tmod 16 = ((b.toNat % 16 : Nat) : Int) := by
  have := b.toNat_lt
  rw [wrap64 (x := (b.toNat : Int)) (by omega) (by omega)]
  rfl
def hexD : ByteArray := ⟨([48, 49, 50, 51, 52, 53, 54, 55, 56, 57, 97, 98, 99, 100, 101, 102] : List UInt8).toArray⟩
theorem hexD_ext (k : Nat) (hk : k < 16) : hexD.extract (k : Int).toNat (IntKind.i64.wrap ((k : Int) + 1)).toNat = B [hexd.getD k 0] := by
  rw [wrap64 (by omega) (by omega), show ((k : Int) + 1).toNat = k + 1 by omega, Int.toNat_natCast, extract_B]
  have key : ∀ j : Fin 16, (hexD.data.toList.drop j.val).take (j.val + 1 - j.val) = [hexd.getD j.val 0] := by decide
  rw [key ⟨k, hk⟩]

def st37 (s : ByteArray) (l : List UInt8) (i : Int) : List PV := [S s, Z, Z, S (B l), I i, Z, Z, Z, Z, Z, Z, Z, Z, Z, Z, Z, Z, Z, Z, Z, Z, Z, Z, Z, Z, Z, Z, Z, Z, Z, Z, Z]
def lt37 (s : ByteArray) (l : List UInt8) (i : Int) : LT := .out (.ext 0) ([Z, Z, Z, S (B (all33 s l i)), Z, Z, Z, Z, Z, Z, Z, Z, Z, Z, Z, Z, Z, Z, Z, Z, Z, Z, Z, Z, Z, Z, Z, Z, Z, Z, Z, Z]) []

theorem lp37 (s : ByteArray) (hs : s.size ≤ 4294967296) : ∀ i : Int, 0 ≤ i → i ≤ s.size → ∀ l : List UInt8, (l.length : Int) = 2 * i → LoopT P (loopAt Tryd.f37 3) (st37 s l i) [] (lt37 s l i) := by
  apply upto
  intro i h0 h1 ih l hl
  refine loop_tr (E0_ok P) L0 [0, 3, 4] [3] ((.node (decide (i < (↑s.size : Int))) (
     .leaf ((Out.norm, [S s, Z, Z, S (B l ++ hexD.extract (IntKind.i64.wrap ((IntKind.i64.wrap (↑(s.data.toList.getD i.toNat 0).toNat : Int)).tdiv 16)).toNat (IntKind.i64.wrap (IntKind.i64.wrap ((IntKind.i64.wrap (↑(s.data.toList.getD i.toNat 0).toNat : Int)).tdiv 16) + 1)).toNat ++ hexD.extract ((IntKind.i64.wrap (↑(s.data.toList.getD i.toNat 0).toNat : Int)).tmod 16).toNat (IntKind.i64.wrap ((IntKind.i64.wrap (↑(s.data.toList.getD i.toNat 0).toNat : Int)).tmod 16 + 1)).toNat), I (IntKind.i64.wrap (i + 1)), Z, Z, Z, Z, Z, Z, Z, Z, Z, Z, Z, Z, Z, Z, Z, Z, Z, Z, Z, Z, Z, Z, Z, Z, Z, Z, Z], [])) [(0 : Int) ≤ i, i < (↑s.size : Int), (0 : Int) ≤ IntKind.i64.wrap ((IntKind.i64.wrap (↑(s.data.toList.getD i.toNat 0).toNat : Int)).tdiv 16), IntKind.i64.wrap ((IntKind.i64.wrap (↑(s.data.toList.getD i.toNat 0).toNat : Int)).tdiv 16) ≤ IntKind.i64.wrap (IntKind.i64.wrap ((IntKind.i64.wrap (↑(s.data.toList.getD i.toNat 0).toNat : Int)).tdiv 16) + 1), IntKind.i64.wrap (IntKind.i64.wrap ((IntKind.i64.wrap (↑(s.data.toList.getD i.toNat 0).toNat : Int)).tdiv 16) + 1) ≤ 16, (B l).size + (hexD.extract (IntKind.i64.wrap ((IntKind.i64.wrap (↑(s.data.toList.getD i.toNat 0).toNat : Int)).tdiv 16)).toNat (IntKind.i64.wrap (IntKind.i64.wrap ((IntKind.i64.wrap (↑(s.data.toList.getD i.toNat 0).toNat : Int)).tdiv 16) + 1)).toNat).size ≤ 9223372036854775807, (0 : Int) ≤ (IntKind.i64.wrap (↑(s.data.toList.getD i.toNat 0).toNat : Int)).tmod 16, (IntKind.i64.wrap (↑(s.data.toList.getD i.toNat 0).toNat : Int)).tmod 16 ≤ IntKind.i64.wrap ((IntKind.i64.wrap (↑(s.data.toList.getD i.toNat 0).toNat : Int)).tmod 16 + 1), IntKind.i64.wrap ((IntKind.i64.wrap (↑(s.data.toList.getD i.toNat 0).toNat : Int)).tmod 16 + 1) ≤ 16, (B l ++ hexD.extract (IntKind.i64.wrap ((IntKind.i64.wrap (↑(s.data.toList.getD i.toNat 0).toNat : Int)).tdiv 16)).toNat (IntKind.i64.wrap (IntKind.i64.wrap ((IntKind.i64.wrap (↑(s.data.toList.getD i.toNat 0).toNat : Int)).tdiv 16) + 1)).toNat).size + (hexD.extract ((IntKind.i64.wrap (↑(s.data.toList.getD i.toNat 0).toNat : Int)).tmod 16).toNat (IntKind.i64.wrap ((IntKind.i64.wrap (↑(s.data.toList.getD i.toNat 0).toNat : Int)).tmod 16 + 1)).toNat).size ≤ 9223372036854775807]) (
     .leaf ((Out.ext 0, [Z, Z, Z, S (B l), Z, Z, Z, Z, Z, Z, Z, Z, Z, Z, Z, Z, Z, Z, Z, Z, Z, Z, Z, Z, Z, Z, Z, Z, Z, Z, Z, Z], [])) []))) (by kernel_rfl) ?_
  have hd := fun h => drop_step s i h0 h
  simp only [hi16, lo16]
  generalize s.data.toList.getD i.toNat 0 = b at *
  have hb := b.toNat_lt
  rw [hexD_ext (b.toNat / 16) (by omega), hexD_ext (b.toNat % 16) (by omega), B_append, B_append]
  have hgo : i < s.size → LoopT P (loopAt Tryd.f37 3) ([S s, Z, Z, S (B (l ++ [hexd.getD (b.toNat / 16) 0] ++ [hexd.getD (b.toNat % 16) 0])), I (IntKind.i64.wrap (i + 1)), Z, Z, Z, Z, Z, Z, Z, Z, Z, Z, Z, Z, Z, Z, Z, Z, Z, Z, Z, Z, Z, Z, Z, Z, Z, Z, Z]) [] (lt37 s l i) := by
    intro hi
    have := ih hi (l ++ [hexd.getD (b.toNat / 16) 0] ++ [hexd.getD (b.toNat % 16) 0]) (by simp; omega)
    rw [wrap64 (by omega) (by omega)]
    have e : lt37 s (l ++ [hexd.getD (b.toNat / 16) 0] ++ [hexd.getD (b.toNat % 16) 0]) (i + 1) = lt37 s l i := by
      simp only [lt37, all33, hd hi, hexL_cons, List.append_assoc, List.cons_append, List.nil_append]
    rw [e] at this
    exact this
  have hend : ¬ i < s.size → all33 s l i = l := fun hi => by
    unfold all33
    rw [List.drop_eq_nil_of_le (by simp; omega)]
    simp [hexL]
  simp only [Tr.All, AllP, Rnd, decide_eq_true_eq, decide_eq_false_iff_not]
  repeat' with_reducible first | intro _ | refine And.intro ?_ ?_
  all_goals first | trivial | omega | exact hgo (by omega) | (simp only [lt37, hend (by omega)]; rfl) | (rw [wrap64 (by omega) (by omega)]; omega) | (simp only [B_size, List.length_append, List.length_singleton]; omega)

def L37 (s : ByteArray) : LEnv := fun _ => ([0, 3, 4], [], fun _ _ => lt37 s [] 0)
theorem rhex_ok (s : ByteArray) (hs : s.size ≤ 4294967296) : Ok P 37 [S s] (S (B (hexL s.data.toList))) := by
  refine fn_tr (E0_ok P) (L37 s) Tryd.func37 ((.leaf (S (B (all33 s [] 0))) [LoopSem P (loopAt Tryd.f37 3) ([S s, Z, Z, S (⟨#[]⟩ : ByteArray), I 0, Z, Z, Z, Z, Z, Z, Z, Z, Z, Z, Z, Z, Z, Z, Z, Z, Z, Z, Z, Z, Z, Z, Z, Z, Z, Z, Z]) ([]) (Out.ext 0) ([Z, Z, Z, S (B (all33 s [] 0)), Z, Z, Z, Z, Z, Z, Z, Z, Z, Z, Z, Z, Z, Z, Z, Z, Z, Z, Z, Z, Z, Z, Z, Z, Z, Z, Z, Z]) ([])])) (by kernel_rfl) ?_
  have c1 := lp37 s hs 0 (by omega) (by omega) [] rfl
  have e : all33 s [] 0 = hexL s.data.toList := by simp [all33]
  simp only [Tr.All, AllP]
  repeat' with_reducible first | intro _ | refine And.intro ?_ ?_
  all_goals first | trivial | omega | exact c1.one | exact congrArg S (by rw [e])

/-- The bytes with some hexadecimal digits, if they are such. -/
def unhexL : List UInt8 → Option (List UInt8)
  | [] => some []
  | [_] => none
  | x :: y :: r => if valS x.toNat < 0 ∨ valS y.toNat < 0 then none else (unhexL r).map (UInt8.ofNat (16 * valS x.toNat + valS y.toNat).toNat :: ·)
def h40 (l : List UInt8) : Hp := [⟨by8 l, 0, [], 1, true⟩]
def st40 (s : ByteArray) (l : List UInt8) (i : Int) : List PV := ([S s, Z, S ⟨#[]⟩, I 0, .who 0 l.length, I i] ++ List.replicate 41 Z)
def all40 (s : ByteArray) (l : List UInt8) (i : Int) : Option (List UInt8) := (unhexL (s.data.toList.drop i.toNat)).map (l ++ ·)
def lt40 (s : ByteArray) (l : List UInt8) (i : Int) : LT := .ite (all40 s l i).isSome (.out (.ext 0) (([Z, Z, S ⟨#[]⟩, I 0, .who 0 ((all40 s l i).getD []).length] ++ List.replicate 42 Z)) (h40 ((all40 s l i).getD []))) (.out .ret (([Z, Z, S ⟨#[]⟩, I 2] ++ List.replicate 43 Z)) [])

theorem unhex_step (s : ByteArray) (l : List UInt8) (i : Int) (h0 : 0 ≤ i) (hi : i + 1 < s.size) : all40 s l i = if valS (s.data.toList.getD i.toNat 0).toNat < 0 ∨ valS (s.data.toList.getD (i + 1).toNat 0).toNat < 0 then none else
    all40 s (l ++ [UInt8.ofNat (16 * valS (s.data.toList.getD i.toNat 0).toNat + valS (s.data.toList.getD (i + 1).toNat 0).toNat).toNat]) (i + 2) := by
  unfold all40
  rw [drop_step s i h0 (by omega), drop_step s (i + 1) (by omega) hi, show i + 1 + 1 = i + 2 by omega, unhexL]
  split
  · rfl
  · simp only [Option.map_map]
    congr 1
    funext x
    simp
theorem nib (a b : Int) (ha : 0 ≤ a) (ha2 : a < 16) (hb : 0 ≤ b) (hb2 : b < 16) :
    IntKind.u8.wrap (IntKind.i64.wrap ((BitVec.ofInt IntKind.i64.bits (IntKind.i64.wrap (a * 2 ^ min (Int.toNat 4) IntKind.i64.bits)) ||| BitVec.ofInt IntKind.i64.bits b).toNat : Int)) = ((UInt8.ofNat (16 * a + b).toNat).toNat : Int) := by
  have key : ∀ x y : Fin 16, IntKind.u8.wrap (IntKind.i64.wrap ((BitVec.ofInt IntKind.i64.bits (IntKind.i64.wrap ((x.val : Int) * 2 ^ min (Int.toNat 4) IntKind.i64.bits)) ||| BitVec.ofInt IntKind.i64.bits (y.val : Int)).toNat : Int)) = ((UInt8.ofNat (16 * (x.val : Int) + (y.val : Int)).toNat).toNat : Int) := by decide +kernel
  obtain ⟨x, rfl⟩ := Int.eq_ofNat_of_zero_le ha
  obtain ⟨y, rfl⟩ := Int.eq_ofNat_of_zero_le hb
  exact key ⟨x, by omega⟩ ⟨y, by omega⟩

theorem lp40 (s : ByteArray) (hs : s.size ≤ 4294967296) : ∀ (n : Nat) (i : Int), 0 ≤ i → i + 2 * n = s.size → ∀ l : List UInt8, (l.length : Int) ≤ i → LoopT P (loopAt Tryd.f40 5) (st40 s l i) (h40 l) (lt40 s l i) := by
  intro n
  induction n with
  | zero =>
    intro i h0 h1 l hl
    refine loop_tr Ea_ok L0 [0, 2, 3, 4, 5] [2, 3, 10004] ((.node (decide (i < (↑s.size : Int))) (
     .node (decide (valS (↑(s.data.toList.getD i.toNat 0).toNat : Int) < 0)) (
      .leaf ((Out.ret, ([Z, Z, S (⟨#[]⟩ : ByteArray), I 2] ++ List.replicate 43 Z), [])) [(0 : Int) ≤ i, i < (↑s.size : Int), (0 : Int) ≤ IntKind.i64.wrap (i + 1), IntKind.i64.wrap (i + 1) < (↑s.size : Int)]) (
      .node (decide (valS (↑(s.data.toList.getD (IntKind.i64.wrap (i + 1)).toNat 0).toNat : Int) < 0)) (
       .leaf ((Out.ret, ([Z, Z, S (⟨#[]⟩ : ByteArray), I 2] ++ List.replicate 43 Z), [])) [(0 : Int) ≤ i, i < (↑s.size : Int), (0 : Int) ≤ IntKind.i64.wrap (i + 1), IntKind.i64.wrap (i + 1) < (↑s.size : Int)]) (
       .leaf ((Out.norm, ([S s, Z, S (⟨#[]⟩ : ByteArray), I 0, PV.who 0 (l.length + [[PV.sc (Value.int IntKind.u8 (IntKind.u8.wrap (IntKind.i64.wrap (↑(BitVec.ofInt IntKind.i64.bits (IntKind.i64.wrap (valS (↑(s.data.toList.getD i.toNat 0).toNat : Int) * 2 ^ min (Int.toNat 4) IntKind.i64.bits)) ||| BitVec.ofInt IntKind.i64.bits (valS (↑(s.data.toList.getD (IntKind.i64.wrap (i + 1)).toNat 0).toNat : Int))).toNat : Int))))]].length), I (IntKind.i64.wrap (i + 2))] ++ List.replicate 41 Z), [{ es := by8 l ++ [[PV.sc (Value.int IntKind.u8 (IntKind.u8.wrap (IntKind.i64.wrap (↑(BitVec.ofInt IntKind.i64.bits (IntKind.i64.wrap (valS (↑(s.data.toList.getD i.toNat 0).toNat : Int) * 2 ^ min (Int.toNat 4) IntKind.i64.bits)) ||| BitVec.ofInt IntKind.i64.bits (valS (↑(s.data.toList.getD (IntKind.i64.wrap (i + 1)).toNat 0).toNat : Int))).toNat : Int))))]], st := 0, par := [], sz := 1, sym := true }])) [(0 : Int) ≤ i, i < (↑s.size : Int), (0 : Int) ≤ IntKind.i64.wrap (i + 1), IntKind.i64.wrap (i + 1) < (↑s.size : Int), l.length = (by8 l).length, (l.length + 1) * 1 ≤ 140737488355328, true = true, true = true]))) (
     .leaf ((Out.ext 0, ([Z, Z, S (⟨#[]⟩ : ByteArray), I 0, PV.who 0 l.length] ++ List.replicate 42 Z), [{ es := by8 l, st := 0, par := [], sz := 1, sym := true }])) []))) (by kernel_rfl) ?_
    have hend : all40 s l i = some l := by
      unfold all40
      rw [List.drop_eq_nil_of_le (by simp; omega)]
      simp [unhexL]
    simp only [Tr.All, AllP, Rnd, decide_eq_true_eq, decide_eq_false_iff_not]
    repeat' with_reducible first | intro _ | refine And.intro ?_ ?_
    all_goals first | trivial | omega | (exact ends_t (by rw [hend]; rfl) (by rw [hend]; rfl))
  | succ n ih =>
    intro i h0 h1 l hl
    refine loop_tr Ea_ok L0 [0, 2, 3, 4, 5] [2, 3, 10004] ((.node (decide (i < (↑s.size : Int))) (
     .node (decide (valS (↑(s.data.toList.getD i.toNat 0).toNat : Int) < 0)) (
      .leaf ((Out.ret, ([Z, Z, S (⟨#[]⟩ : ByteArray), I 2] ++ List.replicate 43 Z), [])) [(0 : Int) ≤ i, i < (↑s.size : Int), (0 : Int) ≤ IntKind.i64.wrap (i + 1), IntKind.i64.wrap (i + 1) < (↑s.size : Int)]) (
      .node (decide (valS (↑(s.data.toList.getD (IntKind.i64.wrap (i + 1)).toNat 0).toNat : Int) < 0)) (
       .leaf ((Out.ret, ([Z, Z, S (⟨#[]⟩ : ByteArray), I 2] ++ List.replicate 43 Z), [])) [(0 : Int) ≤ i, i < (↑s.size : Int), (0 : Int) ≤ IntKind.i64.wrap (i + 1), IntKind.i64.wrap (i + 1) < (↑s.size : Int)]) (
       .leaf ((Out.norm, ([S s, Z, S (⟨#[]⟩ : ByteArray), I 0, PV.who 0 (l.length + [[PV.sc (Value.int IntKind.u8 (IntKind.u8.wrap (IntKind.i64.wrap (↑(BitVec.ofInt IntKind.i64.bits (IntKind.i64.wrap (valS (↑(s.data.toList.getD i.toNat 0).toNat : Int) * 2 ^ min (Int.toNat 4) IntKind.i64.bits)) ||| BitVec.ofInt IntKind.i64.bits (valS (↑(s.data.toList.getD (IntKind.i64.wrap (i + 1)).toNat 0).toNat : Int))).toNat : Int))))]].length), I (IntKind.i64.wrap (i + 2))] ++ List.replicate 41 Z), [{ es := by8 l ++ [[PV.sc (Value.int IntKind.u8 (IntKind.u8.wrap (IntKind.i64.wrap (↑(BitVec.ofInt IntKind.i64.bits (IntKind.i64.wrap (valS (↑(s.data.toList.getD i.toNat 0).toNat : Int) * 2 ^ min (Int.toNat 4) IntKind.i64.bits)) ||| BitVec.ofInt IntKind.i64.bits (valS (↑(s.data.toList.getD (IntKind.i64.wrap (i + 1)).toNat 0).toNat : Int))).toNat : Int))))]], st := 0, par := [], sz := 1, sym := true }])) [(0 : Int) ≤ i, i < (↑s.size : Int), (0 : Int) ≤ IntKind.i64.wrap (i + 1), IntKind.i64.wrap (i + 1) < (↑s.size : Int), l.length = (by8 l).length, (l.length + 1) * 1 ≤ 140737488355328, true = true, true = true]))) (
     .leaf ((Out.ext 0, ([Z, Z, S (⟨#[]⟩ : ByteArray), I 0, PV.who 0 l.length] ++ List.replicate 42 Z), [{ es := by8 l, st := 0, par := [], sz := 1, sym := true }])) []))) (by kernel_rfl) ?_
    have hstep := unhex_step s l i h0 (by omega)
    rw [wrap64 (x := i + 1) (by omega) (by omega)]
    have hx := val_lt (s.data.toList.getD i.toNat 0).toNat
    have hy := val_lt (s.data.toList.getD (i + 1).toNat 0).toNat
    generalize s.data.toList.getD i.toNat 0 = x at *
    generalize s.data.toList.getD (i + 1).toNat 0 = y at *
    have hgo : ¬ (valS x.toNat < 0 ∨ valS y.toNat < 0) → LoopT P (loopAt Tryd.f40 5) (([S s, Z, S ⟨#[]⟩, I 0, .who 0 (l.length + 1), I (IntKind.i64.wrap (i + 2))] ++ List.replicate 41 Z)) [⟨by8 l ++ [[U8 (IntKind.u8.wrap (IntKind.i64.wrap ((BitVec.ofInt IntKind.i64.bits (IntKind.i64.wrap (valS x.toNat * 2 ^ min (Int.toNat 4) IntKind.i64.bits)) ||| BitVec.ofInt IntKind.i64.bits (valS y.toNat)).toNat : Int)))]], 0, [], 1, true⟩] (lt40 s l i) := by
      intro hv
      rw [if_neg hv] at hstep
      rw [nib _ _ (by omega) (by omega) (by omega) (by omega), wrap64 (by omega) (by omega)]
      have := ih (i + 2) (by omega) (by omega) (l ++ [UInt8.ofNat (16 * valS x.toNat + valS y.toNat).toNat]) (by simp; omega)
      unfold lt40 at this ⊢
      rw [← hstep] at this
      unfold st40 h40 at this
      rw [by8_append, List.length_append] at this
      exact this
    have hbad : valS x.toNat < 0 ∨ valS y.toNat < 0 → (lt40 s l i).ends (.ret, ([Z, Z, S ⟨#[]⟩, I 2] ++ List.replicate 43 Z), []) := by
      intro hv
      rw [if_pos hv] at hstep
      exact ends_f (by rw [hstep]; rfl) rfl
    have hlen := by8_length l
    simp only [Tr.All, AllP, Rnd, decide_eq_true_eq, decide_eq_false_iff_not]
    repeat' with_reducible first | intro _ | refine And.intro ?_ ?_
    all_goals first | trivial | omega | exact hgo (by omega) | exact hbad (.inl (by assumption)) | exact hbad (.inr (by assumption))
end Go.Proofs.YtldmgdphelgffaaDoor
