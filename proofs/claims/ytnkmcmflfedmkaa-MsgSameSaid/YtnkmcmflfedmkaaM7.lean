/- Contracts of chapter 8: the use of a field, descriptions. -/
import Derived.Test.YtnkmcmflfedmkaaM6
namespace Go.Proofs.Ytnkmcmflfedmkaa
open Go.PS

def isC (c : Int) (b : UInt8) : Bool := (b.toNat : Int) == c
def usesS (k c : Int) : Bool := (fieldsS k).data.toList.any (isC c)

theorem ite_size {c : Prop} [Decidable c] {a b : ByteArray} (h1 : a.size ≤ 4) (h2 : b.size ≤ 4) : (if c then a else b).size ≤ 4 := by split <;> assumption

theorem fields_size (k : Int) : (fieldsS k).size ≤ 4 := by
  unfold fieldsS
  repeat' refine ite_size ?_ ?_
  all_goals decide +kernel

def st20 (s : ByteArray) (c i : Int) : List PV := [Z, U8 c, Z, Z, Z, S s, I i, Z, Z, Z, Z, Z, Z, Z, Z, Z, Z, Z, Z, Z]
def lt20 (s : ByteArray) (c i : Int) : LT := .ite (anyFrom (isC c) s.data.toList i) (.out .ret ([Z, Z, Z, Z, .bit true, Z, Z, Z, Z, Z, Z, Z, Z, Z, Z, Z, Z, Z, Z, Z]) []) (.out (.ext 0) ([Z, Z, Z, Z, Z, Z, Z, Z, Z, Z, Z, Z, Z, Z, Z, Z, Z, Z, Z, Z]) [])

theorem lp20 (s : ByteArray) (c : Int) (hs : s.size ≤ 9223372036854775807) : ∀ i : Int, 0 ≤ i → i ≤ s.size → LoopT P (loopAt Try.f20 3) (st20 s c i) [] (lt20 s c i) := by
  apply upto
  intro i h0 h1 ih
  refine loop_tr Ee_ok L0 [1, 5, 6] [4] ((.node (decide (i < (↑s.size : Int))) (
     .node ((↑(s.data.toList.getD i.toNat 0).toNat : Int) == c) (
      .leaf ((Out.ret, [Z, Z, Z, Z, PV.bit true, Z, Z, Z, Z, Z, Z, Z, Z, Z, Z, Z, Z, Z, Z, Z], [])) [0 ≤ i, i < (↑s.size : Int)]) (
      .leaf ((Out.norm, [Z, U8 c, Z, Z, Z, S s, I (IntKind.i64.wrap (i + 1)), Z, Z, Z, Z, Z, Z, Z, Z, Z, Z, Z, Z, Z], [])) [0 ≤ i, i < (↑s.size : Int)])) (
     .leaf ((Out.ext 0, [Z, Z, Z, Z, Z, Z, Z, Z, Z, Z, Z, Z, Z, Z, Z, Z, Z, Z, Z, Z], [])) []))) (by kernel_rfl) ?_
  have hsz : s.data.toList.length = s.size := by simp
  have hst : i < s.size → anyFrom (isC c) s.data.toList i = (isC c (s.data.toList.getD i.toNat 0) || anyFrom (isC c) s.data.toList (i + 1)) := fun hi => anyFrom_step 0 h0 (by omega)
  have hgo : i < s.size ∧ isC c (s.data.toList.getD i.toNat 0) = false → LoopT P (loopAt Try.f20 3) (st20 s c (IntKind.i64.wrap (i + 1))) [] (lt20 s c i) := by
    rintro ⟨hi, hb⟩
    rw [wrap64 (by omega) (by omega), show lt20 s c i = lt20 s c (i + 1) by simp only [lt20, hst hi, hb, Bool.false_or]]
    exact ih hi
  have hhit : i < s.size ∧ isC c (s.data.toList.getD i.toNat 0) = true → anyFrom (isC c) s.data.toList i = true := by
    rintro ⟨hi, hb⟩
    rw [hst hi, hb]; rfl
  have hend : ¬ i < s.size → anyFrom (isC c) s.data.toList i = false := fun hi => anyFrom_end (by omega)
  generalize s.data.toList.getD i.toNat 0 = b at *
  simp only [Tr.All, AllP, Rnd, decide_eq_true_eq, decide_eq_false_iff_not, beq_iff_eq, beq_eq_false_iff_ne]
  repeat' with_reducible first | intro _ | refine And.intro ?_ ?_
  all_goals first | trivial | omega | exact hgo (by grind [isC]) | exact ends_t (hhit (by grind [isC])) rfl | exact ends_f (hend (by grind)) rfl

def L20 (k c : Int) : LEnv := fun _ => ([1, 5, 6], fun _ _ => lt20 (fieldsS k) c 0)

theorem uses_ok (k c : Int) : Ok P 20 [I k, U8 c] (Bo (usesS k c)) := by
  refine fn_tr Ee_ok (L20 k c) Try.func20 ((.node (anyFrom (isC c) (fieldsS k).data.toList 0) (
     .leaf (Bo true) [LoopSem P (loopAt Try.f20 3) ([Z, U8 c, Z, Z, Z, S (fieldsS k), I 0, Z, Z, Z, Z, Z, Z, Z, Z, Z, Z, Z, Z, Z]) ([]) (Out.ret) ([Z, Z, Z, Z, PV.bit true, Z, Z, Z, Z, Z, Z, Z, Z, Z, Z, Z, Z, Z, Z, Z]) ([])]) (
     .leaf (Bo false) [LoopSem P (loopAt Try.f20 3) ([Z, U8 c, Z, Z, Z, S (fieldsS k), I 0, Z, Z, Z, Z, Z, Z, Z, Z, Z, Z, Z, Z, Z]) ([]) (Out.ext 0) ([Z, Z, Z, Z, Z, Z, Z, Z, Z, Z, Z, Z, Z, Z, Z, Z, Z, Z, Z, Z]) ([])]))) (by kernel_rfl) ?_
  have hs := fields_size k
  have hv : usesS k c = anyFrom (isC c) (fieldsS k).data.toList 0 := rfl
  simp only [Tr.All, AllP]
  repeat' with_reducible first | intro _ | refine And.intro ?_ ?_
  all_goals first | trivial | omega | exact ((lp20 (fieldsS k) c (by omega) 0 (by omega) (by omega)).t (by assumption)).one | exact ((lp20 (fieldsS k) c (by omega) 0 (by omega) (by omega)).f (by assumption)).one | exact congrArg Bo (by grind)

/-! Descriptions. -/
def numsOk (d : Dir) : Bool := qS d.qid.ty 232 && rS d.qid.vers 2147483647 && rS d.qid.path 1099511627776 && qS d.mode 3892314623 && rS d.ty 65534 && rS d.dev 4294967294 && rS d.atime 1099511627776 && rS d.mtime 1099511627776 && rS d.len 9007199254740991
def textsBad (d : Dir) : Bool := (!decide (d.name = ⟨#[]⟩) && !decide (d.name = ⟨#[47]⟩) && !validS d.name) || decide (64 < d.uid.size) || decide (64 < d.gid.size) || decide (64 < d.muid.size)
def dirE (d : Dir) : Int := if numsOk d then (if textsBad d then 6 else 0) else 5

theorem numbers62_ok (d : Dir) (h1 : InR d.qid.ty) (h2 : InR d.mode) : Ok P 62 [.agg d.cells] (Bo (numsOk d)) := by
  refine fn_tr Ee_ok L0 Try.func62 ((.node (qS d.qid.ty 232) (
     .node (rS d.qid.vers 2147483647) (
      .node (rS d.ty 65534) (
       .node (rS d.dev 4294967294) (
        .node (rS d.qid.path 1099511627776) (
         .node (qS d.mode 3892314623) (
          .node (rS d.atime 1099511627776) (
           .node (rS d.mtime 1099511627776) (
            .leaf (Bo (rS d.len 9007199254740991)) [InR d.qid.ty, InR d.mode]) (
            .leaf (Bo false) [InR d.qid.ty, InR d.mode])) (
           .leaf (Bo false) [InR d.qid.ty, InR d.mode])) (
          .leaf (Bo false) [InR d.qid.ty, InR d.mode])) (
         .leaf (Bo false) [InR d.qid.ty, InR d.mode])) (
        .leaf (Bo false) [InR d.qid.ty, InR d.mode])) (
       .leaf (Bo false) [InR d.qid.ty, InR d.mode])) (
      .node (rS d.ty 65534) (
       .node (rS d.dev 4294967294) (
        .leaf (Bo false) [InR d.qid.ty, InR d.mode]) (
        .leaf (Bo false) [InR d.qid.ty, InR d.mode])) (
       .leaf (Bo false) [InR d.qid.ty, InR d.mode]))) (
     .node (rS d.ty 65534) (
      .node (rS d.dev 4294967294) (
       .leaf (Bo false) [InR d.qid.ty, InR d.mode]) (
       .leaf (Bo false) [InR d.qid.ty, InR d.mode])) (
      .leaf (Bo false) [InR d.qid.ty, InR d.mode])))) (by kernel_rfl) ?_
  simp +contextual [Tr.All, AllP, numsOk, h1, h2]

def d62 : List PV → Option (PV × List Prop)
  | [.agg [.sc (.int .i64 a), .sc (.int .i64 b), .sc (.int .i64 c), .sc (.int .i64 d), .sc (.int .i64 e), .sc (.int .i64 f), .sc (.int .i64 g), .sc (.int .i64 h), .sc (.int .i64 i), .sc (.string j), .sc (.string k), .sc (.string l), .sc (.string m)]] =>
    some (Bo (numsOk ⟨a, b, ⟨c, d, e⟩, f, g, h, i, j, k, l, m⟩), [InR c, InR f])
  | _ => none

/-- The numbers of a description, with their bounds. -/
def numL (d : Dir) : List (List PV) := [[I d.ty, I 2, I 65534], [I d.dev, I 4, I 4294967294], [I d.qid.ty, I 1, I 232], [I d.qid.vers, I 4, I 2147483647], [I d.qid.path, I 8, I 1099511627776], [I d.mode, I 4, I 3892314623], [I d.atime, I 8, I 1099511627776], [I d.mtime, I 8, I 1099511627776], [I d.len, I 8, I 9007199254740991]]
structure Num where
  (n w most : Int)
  deriving Inhabited
def numT (d : Dir) : List Num := [⟨d.ty, 2, 65534⟩, ⟨d.dev, 4, 4294967294⟩, ⟨d.qid.ty, 1, 232⟩, ⟨d.qid.vers, 4, 2147483647⟩, ⟨d.qid.path, 8, 1099511627776⟩, ⟨d.mode, 4, 3892314623⟩, ⟨d.atime, 8, 1099511627776⟩, ⟨d.mtime, 8, 1099511627776⟩, ⟨d.len, 8, 9007199254740991⟩]
def numsP (l : List Num) : PV := .rf 9 fun i => [I (l.getD i default).n, I (l.getD i default).w, I (l.getD i default).most]

theorem numbers58_ok (d : Dir) : Ok P 58 [.agg d.cells] (numsP (numT d)) := by
  have h : Ok P 58 [.agg d.cells] (.rf 9 fun i => (numL d).getD i []) :=
    fn_tr Ee_ok L0 Try.func58 ((.leaf (PV.rf 9 fun i => [[PV.sc (Value.int IntKind.i64 d.ty), PV.sc (Value.int IntKind.i64 2), PV.sc (Value.int IntKind.i64 65534)], [PV.sc (Value.int IntKind.i64 d.dev), PV.sc (Value.int IntKind.i64 4), PV.sc (Value.int IntKind.i64 4294967294)], [PV.sc (Value.int IntKind.i64 d.qid.ty), PV.sc (Value.int IntKind.i64 1), PV.sc (Value.int IntKind.i64 232)], [PV.sc (Value.int IntKind.i64 d.qid.vers), PV.sc (Value.int IntKind.i64 4), PV.sc (Value.int IntKind.i64 2147483647)], [PV.sc (Value.int IntKind.i64 d.qid.path), PV.sc (Value.int IntKind.i64 8), PV.sc (Value.int IntKind.i64 1099511627776)], [PV.sc (Value.int IntKind.i64 d.mode), PV.sc (Value.int IntKind.i64 4), PV.sc (Value.int IntKind.i64 3892314623)], [PV.sc (Value.int IntKind.i64 d.atime), PV.sc (Value.int IntKind.i64 8), PV.sc (Value.int IntKind.i64 1099511627776)], [PV.sc (Value.int IntKind.i64 d.mtime), PV.sc (Value.int IntKind.i64 8), PV.sc (Value.int IntKind.i64 1099511627776)], [PV.sc (Value.int IntKind.i64 d.len), PV.sc (Value.int IntKind.i64 8), PV.sc (Value.int IntKind.i64 9007199254740991)]].getD i []) [])) (by kernel_rfl) ⟨trivial, rfl⟩
  refine h.res fun w S v hr => rf_conv (fun i hi => ?_) hr
  match i with
  | 0 | 1 | 2 | 3 | 4 | 5 | 6 | 7 | 8 => rfl
  | i + 9 => omega

def d58 : List PV → Option (PV × List Prop)
  | [.agg [.sc (.int .i64 a), .sc (.int .i64 b), .sc (.int .i64 c), .sc (.int .i64 d), .sc (.int .i64 e), .sc (.int .i64 f), .sc (.int .i64 g), .sc (.int .i64 h), .sc (.int .i64 i), .sc (.string j), .sc (.string k), .sc (.string l), .sc (.string m)]] =>
    some (numsP (numT ⟨a, b, ⟨c, d, e⟩, f, g, h, i, j, k, l, m⟩), [])
  | _ => none
def d20 : List PV → Option (PV × List Prop)
  | [.sc (.int .i64 k), .sc (.int .u8 c)] => some (Bo (usesS k c), [])
  | _ => none

def Ef : Env := addE 62 d62 (addE 58 d58 (addE 20 d20 Ee))
theorem Ef_ok : EnvOk P Ef :=
  addE_ok (addE_ok (addE_ok Ee_ok
    (fun l r ob h ho => by unfold d20 at h; split at h <;> cases h; exact uses_ok _ _))
    (fun l r ob h ho => by unfold d58 at h; split at h <;> cases h; exact numbers58_ok ⟨_, _, ⟨_, _, _⟩, _, _, _, _, _, _, _, _⟩))
    (fun l r ob h ho => by unfold d62 at h; split at h <;> cases h; exact numbers62_ok ⟨_, _, ⟨_, _, _⟩, _, _, _, _, _, _, _, _⟩ (ho _ (by simp)) (ho _ (by simp)))

theorem rcheck_ok (d : Dir) (h1 : InR d.qid.ty) (h2 : InR d.mode) (h3 : d.name.size ≤ 9223372036854775807) : Ok P 61 [.agg d.cells] (I (dirE d)) := by
  refine fn_tr Ef_ok L0 Try.func61 ((.node (!numsOk d) (
     .leaf (I 5) [InR d.qid.ty, InR d.mode]) (
     .node (!eqS d.name (⟨#[]⟩ : ByteArray)) (
      .node (!eqS d.name (⟨#[47]⟩ : ByteArray)) (
       .node (!validS d.name) (
        .leaf (I 6) [InR d.qid.ty, InR d.mode, d.name.size ≤ 9223372036854775807]) (
        .node (decide ((↑d.uid.size : Int) > 64)) (
         .leaf (I 6) [InR d.qid.ty, InR d.mode, d.name.size ≤ 9223372036854775807]) (
         .node (decide ((↑d.gid.size : Int) > 64)) (
          .leaf (I 6) [InR d.qid.ty, InR d.mode, d.name.size ≤ 9223372036854775807]) (
          .node (decide ((↑d.muid.size : Int) > 64)) (
           .leaf (I 6) [InR d.qid.ty, InR d.mode, d.name.size ≤ 9223372036854775807]) (
           .leaf (I 0) [InR d.qid.ty, InR d.mode, d.name.size ≤ 9223372036854775807]))))) (
       .node (decide ((↑d.uid.size : Int) > 64)) (
        .leaf (I 6) [InR d.qid.ty, InR d.mode]) (
        .node (decide ((↑d.gid.size : Int) > 64)) (
         .leaf (I 6) [InR d.qid.ty, InR d.mode]) (
         .node (decide ((↑d.muid.size : Int) > 64)) (
          .leaf (I 6) [InR d.qid.ty, InR d.mode]) (
          .leaf (I 0) [InR d.qid.ty, InR d.mode]))))) (
      .node (decide ((↑d.uid.size : Int) > 64)) (
       .leaf (I 6) [InR d.qid.ty, InR d.mode]) (
       .node (decide ((↑d.gid.size : Int) > 64)) (
        .leaf (I 6) [InR d.qid.ty, InR d.mode]) (
        .node (decide ((↑d.muid.size : Int) > 64)) (
         .leaf (I 6) [InR d.qid.ty, InR d.mode]) (
         .leaf (I 0) [InR d.qid.ty, InR d.mode]))))))) (by kernel_rfl) ?_
  simp only [Tr.All, AllP, decide_eq_true_eq, decide_eq_false_iff_not, Bool.not_eq_true', Bool.not_eq_false', eqS_decide]
  repeat' with_reducible first | intro _ | refine And.intro ?_ ?_
  all_goals first | trivial | omega | assumption | exact congrArg I (by grind [dirE, textsBad])
end Go.Proofs.Ytnkmcmflfedmkaa
