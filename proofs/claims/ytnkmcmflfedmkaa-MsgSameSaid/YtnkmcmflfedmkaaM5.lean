/- Contracts of chapter 8: lists of names and of qids, equal lists, the use of a field. -/
import Derived.Test.YtnkmcmflfedmkaaM5a
namespace Go.Proofs.Ytnkmcmflfedmkaa
open Go.PS

/-! names -/
def badN (s : ByteArray) : Bool := !decide (s = ⟨#[46, 46]⟩) && !validS s
def namesE (l : List ByteArray) : Int := if 16 < l.length then 4 else if l.any badN then 6 else 0

def st46 (l : List ByteArray) (i : Int) : List PV := [Z, Z, Z, Z, Z, Z, Z, Z, strs l, I l.length, I i, Z, Z, Z, Z, Z, Z, Z, Z, Z, Z, Z]
def lt46 (l : List ByteArray) (i : Int) : LT := .ite (anyFrom badN l i) (.out .ret ([Z, Z, I 6, Z, Z, Z, Z, Z, Z, Z, Z, Z, Z, Z, Z, Z, Z, Z, Z, Z, Z, Z]) []) (.out (.ext 0) ([Z, Z, Z, Z, Z, Z, Z, Z, Z, Z, Z, Z, Z, Z, Z, Z, Z, Z, Z, Z, Z, Z]) [])

theorem lp46 (l : List ByteArray) (hs : l.length ≤ 9223372036854775807) : ∀ i : Int, 0 ≤ i → i ≤ l.length → LoopT P (loopAt Try.f46 4) (st46 l i) [] (lt46 l i) := by
  apply upto
  intro i h0 h1 ih
  refine loop_tr Ed_ok L0 [8, 9, 10] [2] ((.node (decide (i < (↑l.length : Int))) (
     .node (!eqS (l.getD i.toNat default) (⟨#[46, 46]⟩ : ByteArray)) (
      .node (!validS (l.getD i.toNat default)) (
       .leaf ((Out.ret, [Z, Z, I 6, Z, Z, Z, Z, Z, Z, Z, Z, Z, Z, Z, Z, Z, Z, Z, Z, Z, Z, Z], [])) [0 ≤ i, i < (↑l.length : Int)]) (
       .leaf ((Out.norm, [Z, Z, Z, Z, Z, Z, Z, Z, strs l, I (↑l.length : Int), I (IntKind.i64.wrap (i + 1)), Z, Z, Z, Z, Z, Z, Z, Z, Z, Z, Z], [])) [0 ≤ i, i < (↑l.length : Int)])) (
      .leaf ((Out.norm, [Z, Z, Z, Z, Z, Z, Z, Z, strs l, I (↑l.length : Int), I (IntKind.i64.wrap (i + 1)), Z, Z, Z, Z, Z, Z, Z, Z, Z, Z, Z], [])) [0 ≤ i, i < (↑l.length : Int)])) (
     .leaf ((Out.ext 0, [Z, Z, Z, Z, Z, Z, Z, Z, Z, Z, Z, Z, Z, Z, Z, Z, Z, Z, Z, Z, Z, Z], [])) []))) (by kernel_rfl) ?_
  have hst : i < l.length → anyFrom badN l i = (badN (l.getD i.toNat default) || anyFrom badN l (i + 1)) := fun hi => anyFrom_step default h0 (by omega)
  have hgo : i < l.length ∧ badN (l.getD i.toNat default) = false → LoopT P (loopAt Try.f46 4) (st46 l (IntKind.i64.wrap (i + 1))) [] (lt46 l i) := by
    rintro ⟨hi, hb⟩
    rw [wrap64 (by omega) (by omega), show lt46 l i = lt46 l (i + 1) by simp only [lt46, hst hi, hb, Bool.false_or]]
    exact ih hi
  have hhit : i < l.length ∧ badN (l.getD i.toNat default) = true → anyFrom badN l i = true := by
    rintro ⟨hi, hb⟩
    rw [hst hi, hb]; rfl
  have hend : ¬ i < l.length → anyFrom badN l i = false := fun hi => anyFrom_end (by omega)
  generalize l.getD i.toNat default = b at *
  simp only [Tr.All, AllP, Rnd, decide_eq_true_eq, decide_eq_false_iff_not, Bool.not_eq_true', Bool.not_eq_false', eqS_decide]
  repeat' with_reducible first | intro _ | refine And.intro ?_ ?_
  all_goals first | trivial | omega | exact hgo (by grind [badN]) | exact ends_t (hhit (by grind [badN])) rfl | exact ends_f (hend (by grind)) rfl

def L46 (l : List ByteArray) : LEnv := fun _ => ([8, 9, 10], fun _ _ => lt46 l 0)

theorem names_ok (l : List ByteArray) : Ok P 46 [strs l] (I (namesE l)) := by
  refine fn_tr Ed_ok (L46 l) Try.func46 ((.node (decide ((↑l.length : Int) > 16)) (
     .leaf (I 4) []) (
     .node (anyFrom badN l 0) (
      .leaf (I 6) [LoopSem P (loopAt Try.f46 4) ([Z, Z, Z, Z, Z, Z, Z, Z, strs l, I (↑l.length : Int), I 0, Z, Z, Z, Z, Z, Z, Z, Z, Z, Z, Z]) ([]) (Out.ret) ([Z, Z, I 6, Z, Z, Z, Z, Z, Z, Z, Z, Z, Z, Z, Z, Z, Z, Z, Z, Z, Z, Z]) ([])]) (
      .leaf (I 0) [LoopSem P (loopAt Try.f46 4) ([Z, Z, Z, Z, Z, Z, Z, Z, strs l, I (↑l.length : Int), I 0, Z, Z, Z, Z, Z, Z, Z, Z, Z, Z, Z]) ([]) (Out.ext 0) ([Z, Z, Z, Z, Z, Z, Z, Z, Z, Z, Z, Z, Z, Z, Z, Z, Z, Z, Z, Z, Z, Z]) ([])])))) (by kernel_rfl) ?_
  have hv : namesE l = if 16 < l.length then 4 else if anyFrom badN l 0 then 6 else 0 := rfl
  simp only [Tr.All, AllP, decide_eq_true_eq, decide_eq_false_iff_not]
  repeat' with_reducible first | intro _ | refine And.intro ?_ ?_
  all_goals first | trivial | omega | exact ((lp46 l (by omega) 0 (by omega) (by omega)).t (by assumption)).one | exact ((lp46 l (by omega) 0 (by omega) (by omega)).f (by assumption)).one | exact congrArg I (by grind)

/-! R.names -/
def st53 (l : List ByteArray) (i : Int) : List PV := [strs l, Z, Z, Z, Z, Z, Z, Z, I l.length, I i, Z, Z, Z, Z, Z, Z, Z, Z, Z, Z, Z, Z, Z, Z, Z, Z]
def lt53 (l : List ByteArray) (i : Int) : LT := .ite (anyFrom badN l i) (.out .ret ([Z, Z, I 6, Z, Z, Z, Z, Z, Z, Z, Z, Z, Z, Z, Z, Z, Z, Z, Z, Z, Z, Z, Z, Z, Z, Z]) []) (.out (.ext 0) ([Z, Z, Z, Z, Z, Z, Z, Z, Z, Z, Z, Z, Z, Z, Z, Z, Z, Z, Z, Z, Z, Z, Z, Z, Z, Z]) [])

theorem lp53 (l : List ByteArray) (hs : l.length ≤ 9223372036854775807) (hl : ∀ s ∈ l, s.size ≤ 9223372036854775807) : ∀ i : Int, 0 ≤ i → i ≤ l.length → LoopT P (loopAt Try.f53 4) (st53 l i) [] (lt53 l i) := by
  apply upto
  intro i h0 h1 ih
  refine loop_tr Ed_ok L0 [0, 8, 9] [2] ((.node (decide (i < (↑l.length : Int))) (
     .node (!eqS (l.getD i.toNat default) (⟨#[46, 46]⟩ : ByteArray)) (
      .node (!validS (l.getD i.toNat default)) (
       .leaf ((Out.ret, [Z, Z, I 6, Z, Z, Z, Z, Z, Z, Z, Z, Z, Z, Z, Z, Z, Z, Z, Z, Z, Z, Z, Z, Z, Z, Z], [])) [0 ≤ i, i < (↑l.length : Int), 0 ≤ i, i < (↑l.length : Int), (l.getD i.toNat default).size ≤ 9223372036854775807]) (
       .leaf ((Out.norm, [strs l, Z, Z, Z, Z, Z, Z, Z, I (↑l.length : Int), I (IntKind.i64.wrap (i + 1)), Z, Z, Z, Z, Z, Z, Z, Z, Z, Z, Z, Z, Z, Z, Z, Z], [])) [0 ≤ i, i < (↑l.length : Int), 0 ≤ i, i < (↑l.length : Int), (l.getD i.toNat default).size ≤ 9223372036854775807])) (
      .leaf ((Out.norm, [strs l, Z, Z, Z, Z, Z, Z, Z, I (↑l.length : Int), I (IntKind.i64.wrap (i + 1)), Z, Z, Z, Z, Z, Z, Z, Z, Z, Z, Z, Z, Z, Z, Z, Z], [])) [0 ≤ i, i < (↑l.length : Int)])) (
     .leaf ((Out.ext 0, [Z, Z, Z, Z, Z, Z, Z, Z, Z, Z, Z, Z, Z, Z, Z, Z, Z, Z, Z, Z, Z, Z, Z, Z, Z, Z], [])) []))) (by kernel_rfl) ?_
  have hst : i < l.length → anyFrom badN l i = (badN (l.getD i.toNat default) || anyFrom badN l (i + 1)) := fun hi => anyFrom_step default h0 (by omega)
  have hgo : i < l.length ∧ badN (l.getD i.toNat default) = false → LoopT P (loopAt Try.f53 4) (st53 l (IntKind.i64.wrap (i + 1))) [] (lt53 l i) := by
    rintro ⟨hi, hb⟩
    rw [wrap64 (by omega) (by omega), show lt53 l i = lt53 l (i + 1) by simp only [lt53, hst hi, hb, Bool.false_or]]
    exact ih hi
  have hhit : i < l.length ∧ badN (l.getD i.toNat default) = true → anyFrom badN l i = true := by
    rintro ⟨hi, hb⟩
    rw [hst hi, hb]; rfl
  have hend : ¬ i < l.length → anyFrom badN l i = false := fun hi => anyFrom_end (by omega)
  have hsz : i < l.length → (l.getD i.toNat default).size ≤ 9223372036854775807 := fun hi => by
    have hk : i.toNat < l.length := by omega
    rw [List.getD_eq_getElem?_getD, List.getElem?_eq_getElem hk]
    exact hl _ (List.getElem_mem hk)
  generalize l.getD i.toNat default = b at *
  simp only [Tr.All, AllP, Rnd, decide_eq_true_eq, decide_eq_false_iff_not, Bool.not_eq_true', Bool.not_eq_false', eqS_decide]
  repeat' with_reducible first | intro _ | refine And.intro ?_ ?_
  all_goals first | trivial | omega | exact hgo (by grind [badN]) | exact ends_t (hhit (by grind [badN])) rfl | exact ends_f (hend (by grind)) rfl | exact hsz (by grind)

def L53 (l : List ByteArray) : LEnv := fun _ => ([0, 8, 9], fun _ _ => lt53 l 0)

theorem rnames_ok (l : List ByteArray) (hl : ∀ s ∈ l, s.size ≤ 9223372036854775807) : Ok P 53 [strs l] (I (namesE l)) := by
  refine fn_tr Ed_ok (L53 l) Try.func53 ((.node (decide ((↑l.length : Int) > 16)) (
     .leaf (I 4) []) (
     .node (anyFrom badN l 0) (
      .leaf (I 6) [LoopSem P (loopAt Try.f53 4) ([strs l, Z, Z, Z, Z, Z, Z, Z, I (↑l.length : Int), I 0, Z, Z, Z, Z, Z, Z, Z, Z, Z, Z, Z, Z, Z, Z, Z, Z]) ([]) (Out.ret) ([Z, Z, I 6, Z, Z, Z, Z, Z, Z, Z, Z, Z, Z, Z, Z, Z, Z, Z, Z, Z, Z, Z, Z, Z, Z, Z]) ([])]) (
      .leaf (I 0) [LoopSem P (loopAt Try.f53 4) ([strs l, Z, Z, Z, Z, Z, Z, Z, I (↑l.length : Int), I 0, Z, Z, Z, Z, Z, Z, Z, Z, Z, Z, Z, Z, Z, Z, Z, Z]) ([]) (Out.ext 0) ([Z, Z, Z, Z, Z, Z, Z, Z, Z, Z, Z, Z, Z, Z, Z, Z, Z, Z, Z, Z, Z, Z, Z, Z, Z, Z]) ([])])))) (by kernel_rfl) ?_
  have hv : namesE l = if 16 < l.length then 4 else if anyFrom badN l 0 then 6 else 0 := rfl
  simp only [Tr.All, AllP, decide_eq_true_eq, decide_eq_false_iff_not]
  repeat' with_reducible first | intro _ | refine And.intro ?_ ?_
  all_goals first | trivial | omega | exact ((lp53 l (by omega) hl 0 (by omega) (by omega)).t (by assumption)).one | exact ((lp53 l (by omega) hl 0 (by omega) (by omega)).f (by assumption)).one | exact congrArg I (by grind)

/-! qid -/
def qidOk (q : Qid) : Bool := decide (0 ≤ q.ty ∧ q.ty ≤ 255 ∧ q.ty % 8 = 0 ∧ q.ty / 16 % 2 = 0 ∧ 0 ≤ q.vers ∧ q.vers ≤ 2147483647 ∧ 0 ≤ q.path ∧ q.path ≤ 1099511627776)
def qidE (q : Qid) : Int := if qidOk q then 0 else 5

theorem rqid_ok (q : Qid) : Ok P 55 [.agg q.cells] (I (qidE q)) := by
  refine fn_tr Ed_ok L0 Try.func55 ((.node (decide (q.ty < 0)) (
     .leaf (I 5) []) (
     .node (decide (q.ty > 255)) (
      .leaf (I 5) []) (
      .node (q.ty.tmod 8 != 0) (
       .leaf (I 5) []) (
       .node ((IntKind.i64.wrap (q.ty.tdiv 16)).tmod 2 != 0) (
        .leaf (I 5) []) (
        .node (decide (q.vers < 0)) (
         .leaf (I 5) []) (
         .node (decide (q.vers > 2147483647)) (
          .leaf (I 5) []) (
          .node (decide (q.path < 0)) (
           .leaf (I 5) []) (
           .node (decide (q.path > 1099511627776)) (
            .leaf (I 5) []) (
            .leaf (I 0) [])))))))))) (by kernel_rfl) ?_
  have hw : 0 ≤ q.ty → q.ty ≤ 255 → IntKind.i64.wrap (q.ty.tdiv 16) = q.ty / 16 := fun h1 h2 => by
    rw [Int.tdiv_eq_ediv_of_nonneg h1, wrap64 (by omega) (by omega)]
  have hm : 0 ≤ q.ty → q.ty.tmod 8 = q.ty % 8 := fun h1 => Int.tmod_eq_emod_of_nonneg h1
  have hm2 : 0 ≤ q.ty → (q.ty / 16).tmod 2 = q.ty / 16 % 2 := fun h1 => Int.tmod_eq_emod_of_nonneg (by omega)
  simp only [Tr.All, AllP, decide_eq_true_eq, decide_eq_false_iff_not, bne_iff_ne, bne_eq_false_iff_eq]
  repeat' with_reducible first | intro _ | refine And.intro ?_ ?_
  all_goals first | trivial | omega | exact congrArg I (by grind [qidE, qidOk])

theorem bits232 (t : Int) (h0 : 0 ≤ t) (hr : InR t) : (BitVec.ofInt 64 t &&& ~~~BitVec.ofInt 64 232 = 0#64) ↔ (t ≤ 255 ∧ t % 8 = 0 ∧ t / 16 % 2 = 0) := by
  obtain ⟨n, rfl⟩ := Int.eq_ofNat_of_zero_le h0
  unfold InR at hr
  have hn : n < 9223372036854775808 := by omega
  have hof : (BitVec.ofInt 64 (n : Int)) = BitVec.ofNat 64 n := by
    apply BitVec.eq_of_toNat_eq
    rw [BitVec.toNat_ofInt, BitVec.toNat_ofNat]
    omega
  rw [andNot_iff, hof]
  have small : ∀ k : Fin 256, (BitVec.ofNat 64 k.val &&& BitVec.ofInt 64 232 = BitVec.ofNat 64 k.val) ↔ ((k.val : Nat) % 8 = 0 ∧ k.val / 16 % 2 = 0) := by decide +kernel
  constructor
  · intro h
    have hle : n ≤ 232 := by
      have h2 := congrArg BitVec.toNat h
      rw [BitVec.toNat_and, BitVec.toNat_ofNat] at h2
      have h3 : (BitVec.ofInt 64 232).toNat = 232 := by decide +kernel
      rw [h3] at h2
      have h4 : (n % 2 ^ 64) &&& 232 ≤ 232 := Nat.and_le_right
      omega
    have := (small ⟨n, by omega⟩).1 h
    simp only at this
    omega
  · rintro ⟨h1, h2, h3⟩
    exact (small ⟨n, by omega⟩).2 (by simp only; omega)

theorem first2 (a b : Int) : firstNz [a, b] = if a = 0 then b else a := by
  simp only [firstNz]
  split <;> try rfl
  split <;> simp_all

theorem qid_ok (q : Qid) (hr : InR q.ty) : Ok P 45 [.agg q.cells] (I (qidE q)) := by
  refine fn_tr Ed_ok L0 Try.func45 ((.node (decide (q.ty < 0)) (
     .leaf (I 5) []) (
     .node (IntKind.i64.wrap (↑(BitVec.ofInt IntKind.i64.bits q.ty &&& ~~~BitVec.ofInt IntKind.i64.bits 232).toNat : Int) != 0) (
      .leaf (I 5) []) (
      .leaf (I
    (firstNz
      [match [[PV.sc (Value.int IntKind.i64 (inE q.vers 0 2147483647))], [PV.sc (Value.int IntKind.i64 (inE q.path 0 1099511627776))]].getD 0 [] with
        | [PV.sc (Value.int IntKind.i64 n)] => n
        | x => 0,
        match [[PV.sc (Value.int IntKind.i64 (inE q.vers 0 2147483647))], [PV.sc (Value.int IntKind.i64 (inE q.path 0 1099511627776))]].getD 1 [] with
        | [PV.sc (Value.int IntKind.i64 n)] => n
        | x => 0])) [true = true, 2 ≤ 9223372036854775807])))) (by kernel_rfl) ?_
  have hb : 0 ≤ q.ty → (IntKind.i64.wrap ((BitVec.ofInt IntKind.i64.bits q.ty &&& ~~~BitVec.ofInt IntKind.i64.bits 232).toNat : Int) = 0 ↔ (q.ty ≤ 255 ∧ q.ty % 8 = 0 ∧ q.ty / 16 % 2 = 0)) := fun h0 =>
    (wrap_zero _).trans (bits232 q.ty h0 hr)
  simp only [first2]
  generalize IntKind.i64.wrap ((BitVec.ofInt IntKind.i64.bits q.ty &&& ~~~BitVec.ofInt IntKind.i64.bits 232).toNat : Int) = x at *
  simp only [Tr.All, AllP, decide_eq_true_eq, decide_eq_false_iff_not, bne_iff_ne, bne_eq_false_iff_eq]
  repeat' with_reducible first | intro _ | refine And.intro ?_ ?_
  all_goals first | trivial | omega | rfl | exact congrArg I (by grind [qidE, qidOk, inE])
end Go.Proofs.Ytnkmcmflfedmkaa
