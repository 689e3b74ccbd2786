/- Contracts of chapter 53: hexadecimal texts. -/
import Derived.Test.YtldmgdphelgffaaDoorS3
namespace Go.Proofs.YtldmgdphelgffaaDoor
open Go.PS

def hexL (l : List UInt8) : List UInt8 := l.flatMap fun b => [hexd.getD (b.toNat / 16) 0, hexd.getD (b.toNat % 16) 0]
/-- Bytes, each an element of one cell. -/
def by8 (l : List UInt8) : List (List PV) := l.map fun b => [U8 b.toNat]
theorem by8_append (l m : List UInt8) : by8 (l ++ m) = by8 l ++ by8 m := List.map_append
theorem by8_length (l : List UInt8) : (by8 l).length = l.length := List.length_map _
theorem by8_elems (l : List UInt8) : Elems 1 (by8 l) := by
  intro e he
  obtain ⟨b, _, rfl⟩ := List.mem_map.1 he
  exact ⟨rfl, rfl⟩
theorem by8_bytes (l : List UInt8) : Bytes (by8 l) := by
  intro e he
  obtain ⟨b, _, rfl⟩ := List.mem_map.1 he
  rfl
theorem by8_bytesB (l : List UInt8) : bytesB (by8 l) = true := by
  unfold bytesB
  rw [List.all_eq_true]
  exact by8_bytes l
theorem by8_bytesP (l : List UInt8) : bytesP (by8 l) = B l := by
  unfold bytesP by8 B
  rw [List.map_map]
  congr 2
  conv => rhs; rw [← List.map_id l]
  apply List.map_congr_left
  intro b _
  show UInt8.ofNat ((b.toNat : Int)).toNat = b
  simp

theorem hi4 (b : UInt8) : (b.toNat : Int).fdiv (2 ^ min (Int.toNat 4) IntKind.u8.bits) = ((b.toNat / 16 : Nat) : Int) := by
  have key : ∀ k : Fin 256, ((k.val : Int)).fdiv (2 ^ min (Int.toNat 4) IntKind.u8.bits) = ((k.val / 16 : Nat) : Int) := by decide +kernel
  exact key ⟨b.toNat, b.toNat_lt⟩
theorem lo4 (b : UInt8) : IntKind.u8.wrap ((BitVec.ofInt IntKind.u8.bits (b.toNat : Int) &&& BitVec.ofInt IntKind.u8.bits 15).toNat : Int) = ((b.toNat % 16 : Nat) : Int) := by
  have key : ∀ k : Fin 256, IntKind.u8.wrap ((BitVec.ofInt IntKind.u8.bits (k.val : Int) &&& BitVec.ofInt IntKind.u8.bits 15).toNat : Int) = ((k.val % 16 : Nat) : Int) := by decide +kernel
  exact key ⟨b.toNat, b.toNat_lt⟩

def h33 (l : List UInt8) : Hp := [⟨by8 l, 0, [], 1, true⟩]
def st33 (s : ByteArray) (l : List UInt8) (i : Int) : List PV := [S s, Z, S ⟨#[]⟩, .who 0 l.length, Z, Z, Z, Z, Z, Z, I s.size, I i, Z, Z, Z, Z, Z, Z, Z, Z, Z, Z, Z, Z, Z, Z, Z, Z, Z, Z]
def all33 (s : ByteArray) (l : List UInt8) (i : Int) : List UInt8 := l ++ hexL (s.data.toList.drop i.toNat)
def lt33 (s : ByteArray) (l : List UInt8) (i : Int) : LT := .out (.ext 0) ([Z, Z, S ⟨#[]⟩, .who 0 (all33 s l i).length, Z, Z, Z, Z, Z, Z, Z, Z, Z, Z, Z, Z, Z, Z, Z, Z, Z, Z, Z, Z, Z, Z, Z, Z, Z, Z]) (h33 (all33 s l i))

theorem hexL_cons (b : UInt8) (l : List UInt8) : hexL (b :: l) = hexd.getD (b.toNat / 16) 0 :: hexd.getD (b.toNat % 16) 0 :: hexL l := rfl

theorem lp33 (s : ByteArray) (hs : s.size ≤ 4294967296) : ∀ i : Int, 0 ≤ i → i ≤ s.size → ∀ l : List UInt8, (l.length : Int) = 2 * i → LoopT P (loopAt Tryd.f33 3) (st33 s l i) (h33 l) (lt33 s l i) := by
  apply upto
  intro i h0 h1 ih l hl
  refine loop_tr (E0_ok P) L0 [0, 2, 3, 10, 11] [2, 3] ((.node (decide (i < (↑s.size : Int))) (
     .leaf ((Out.norm, [S s, Z, S (⟨#[]⟩ : ByteArray), PV.who 0 (l.length + 2), Z, Z, Z, Z, Z, Z, I (↑s.size : Int), I (IntKind.i64.wrap (i + 1)), Z, Z, Z, Z, Z, Z, Z, Z, Z, Z, Z, Z, Z, Z, Z, Z, Z, Z], [{ es := by8 l ++ [[PV.sc (Value.int IntKind.u8 (↑((#[48, 49, 50, 51, 52, 53, 54, 55, 56, 57, 97, 98, 99, 100, 101, 102] : Array UInt8).toList.getD ((↑(s.data.toList.getD i.toNat 0).toNat : Int).fdiv (2 ^ min (Int.toNat 4) IntKind.u8.bits)).toNat 0).toNat : Int))], [PV.sc (Value.int IntKind.u8 (↑((#[48, 49, 50, 51, 52, 53, 54, 55, 56, 57, 97, 98, 99, 100, 101, 102] : Array UInt8).toList.getD (IntKind.u8.wrap (↑(BitVec.ofInt IntKind.u8.bits (↑(s.data.toList.getD i.toNat 0).toNat : Int) &&& BitVec.ofInt IntKind.u8.bits 15).toNat : Int)).toNat 0).toNat : Int))]], st := 0, par := [], sz := 1, sym := true }])) [(0 : Int) ≤ i, i < (↑s.size : Int), (0 : Int) ≤ (↑(s.data.toList.getD i.toNat 0).toNat : Int).fdiv (2 ^ min (Int.toNat 4) IntKind.u8.bits), (↑(s.data.toList.getD i.toNat 0).toNat : Int).fdiv (2 ^ min (Int.toNat 4) IntKind.u8.bits) < 16, (0 : Int) ≤ i, i < (↑s.size : Int), (0 : Int) ≤ IntKind.u8.wrap (↑(BitVec.ofInt IntKind.u8.bits (↑(s.data.toList.getD i.toNat 0).toNat : Int) &&& BitVec.ofInt IntKind.u8.bits 15).toNat : Int), IntKind.u8.wrap (↑(BitVec.ofInt IntKind.u8.bits (↑(s.data.toList.getD i.toNat 0).toNat : Int) &&& BitVec.ofInt IntKind.u8.bits 15).toNat : Int) < 16, l.length = (by8 l).length, (l.length + 2) * 1 ≤ 140737488355328, true = true, true = true]) (
     .leaf ((Out.ext 0, [Z, Z, S (⟨#[]⟩ : ByteArray), PV.who 0 l.length, Z, Z, Z, Z, Z, Z, Z, Z, Z, Z, Z, Z, Z, Z, Z, Z, Z, Z, Z, Z, Z, Z, Z, Z, Z, Z], [{ es := by8 l, st := 0, par := [], sz := 1, sym := true }])) []))) (by kernel_rfl) ?_
  have hL : ∀ k, ((#[48, 49, 50, 51, 52, 53, 54, 55, 56, 57, 97, 98, 99, 100, 101, 102] : Array UInt8).toList.getD k 0) = hexd.getD k 0 := fun _ => rfl
  have hd := fun h => drop_step s i h0 h
  simp only [hi4, lo4, hL, Int.toNat_natCast]
  generalize s.data.toList.getD i.toNat 0 = b at *
  have hb := b.toNat_lt
  have hgo : i < s.size → LoopT P (loopAt Tryd.f33 3) ([S s, Z, S ⟨#[]⟩, .who 0 (l.length + 2), Z, Z, Z, Z, Z, Z, I s.size, I (IntKind.i64.wrap (i + 1)), Z, Z, Z, Z, Z, Z, Z, Z, Z, Z, Z, Z, Z, Z, Z, Z, Z, Z]) [⟨by8 l ++ [[U8 (hexd.getD (b.toNat / 16) 0).toNat], [U8 (hexd.getD (b.toNat % 16) 0).toNat]], 0, [], 1, true⟩] (lt33 s l i) := by
    intro hi
    have := ih hi (l ++ [hexd.getD (b.toNat / 16) 0, hexd.getD (b.toNat % 16) 0]) (by simp; omega)
    rw [wrap64 (by omega) (by omega)]
    have e : lt33 s (l ++ [hexd.getD (b.toNat / 16) 0, hexd.getD (b.toNat % 16) 0]) (i + 1) = lt33 s l i := by
      simp only [lt33, all33, hd hi, hexL_cons, List.append_assoc, List.cons_append, List.nil_append]
    rw [e] at this
    unfold st33 h33 at this
    rw [by8_append, List.length_append] at this
    exact this
  have hend : ¬ i < s.size → all33 s l i = l := fun hi => by
    unfold all33
    rw [List.drop_eq_nil_of_le (by simp; omega)]
    simp [hexL]
  have hlen := by8_length l
  simp only [Tr.All, AllP, Rnd, decide_eq_true_eq, decide_eq_false_iff_not]
  repeat' with_reducible first | intro _ | refine And.intro ?_ ?_
  all_goals first | trivial | omega | exact hgo (by omega) | (simp only [lt33, hend (by omega)]; rfl)

def L33 (s : ByteArray) : LEnv := fun _ => ([0, 2, 3, 10, 11], [], fun _ _ => lt33 s [] 0)
theorem hex_ok (s : ByteArray) (hs : s.size ≤ 4294967296) : Ok P 33 [S s] (S (B (hexL s.data.toList))) := by
  refine fn_tr (E0_ok P) (L33 s) Tryd.func33 ((.leaf (S (bytesP (by8 (all33 s [] 0)))) [(0 : Int) ≤ 0, (0 : Int) ≤ IntKind.i64.wrap (2 * (↑s.size : Int)), IntKind.i64.wrap (2 * (↑s.size : Int)) * (↑1 : Int) ≤ 140737488355328, LoopSem P (loopAt Tryd.f33 3) ([S s, Z, S (⟨#[]⟩ : ByteArray), PV.who 0 0, Z, Z, Z, Z, Z, Z, I (↑s.size : Int), I 0, Z, Z, Z, Z, Z, Z, Z, Z, Z, Z, Z, Z, Z, Z, Z, Z, Z, Z]) ([{ es := [], st := 0, par := [], sz := 1, sym := true }]) (Out.ext 0) ([Z, Z, S (⟨#[]⟩ : ByteArray), PV.who 0 (all33 s [] 0).length, Z, Z, Z, Z, Z, Z, Z, Z, Z, Z, Z, Z, Z, Z, Z, Z, Z, Z, Z, Z, Z, Z, Z, Z, Z, Z]) ([{ es := by8 (all33 s [] 0), st := 0, par := [], sz := 1, sym := true }]), bytesB (by8 (all33 s [] 0)) = true, (all33 s [] 0).length = (by8 (all33 s [] 0)).length])) (by kernel_rfl) ?_
  have c1 := lp33 s hs 0 (by omega) (by omega) [] rfl
  have e : all33 s [] 0 = hexL s.data.toList := by simp [all33]
  have hlen := by8_length (all33 s [] 0)
  have hby := by8_bytesB (all33 s [] 0)
  simp only [Tr.All, AllP]
  repeat' with_reducible first | intro _ | refine And.intro ?_ ?_
  all_goals first | trivial | omega | exact c1.one | assumption | exact hlen.symm | (rw [wrap64 (by omega) (by omega)]; omega) | exact congrArg S (by rw [by8_bytesP, e])
end Go.Proofs.YtldmgdphelgffaaDoor
