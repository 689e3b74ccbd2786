/- Contracts of chapter 53: words, digits, bases. -/
import Derived.Test.YtldmgdphelgffaaDoorS1
namespace Go.Proofs.YtldmgdphelgffaaDoor
open Go.PS

theorem wrap64 {x : Int} (h1 : -9223372036854775808 ≤ x) (h2 : x ≤ 9223372036854775807) : IntKind.i64.wrap x = x := by rw [IntKind.wrap_i64]; omega
theorem wrap8 {x : Int} (h1 : 0 ≤ x) (h2 : x ≤ 255) : IntKind.u8.wrap x = x := by rw [IntKind.wrap_u8]; omega
theorem eqS_decide (a b : ByteArray) : eqS a b = decide (a = b) := by
  unfold eqS
  rw [decide_eq_decide]
  constructor
  · intro h
    have : a.data = b.data := by rw [← Array.toList_inj]; exact h
    exact ByteArray.ext this
  · rintro rfl; rfl
def InR (n : Int) : Prop := -9223372036854775808 ≤ n ∧ n ≤ 9223372036854775807

def baseS (b : Int) : Bool := b == 8 || b == 10 || b == 16
theorem known_ok (b : Int) : Ok P 31 [I b] (Bo (baseS b)) :=
  fn_tr (E0_ok P) L0 Tryd.func31 ((.node ((b : Int) == 8) (
     .leaf (Bo true) []) (
     .node ((b : Int) == 10) (
      .leaf (Bo true) []) (
      .leaf (Bo (b == 16)) [])))) (by kernel_rfl) (by simp +contextual [Tr.All, AllP, baseS])
theorem based_ok (b : Int) : Ok P 35 [I b] (Bo (baseS b)) :=
  fn_tr (E0_ok P) L0 Tryd.func35 ((.node ((b : Int) == 8) (
     .leaf (Bo true) []) (
     .node ((b : Int) == 10) (
      .leaf (Bo true) []) (
      .leaf (Bo (b == 16)) [])))) (by kernel_rfl) (by simp +contextual [Tr.All, AllP, baseS])

def digS (c d : Int) : Int := if 48 ≤ c ∧ c ≤ 57 then c - 48 else if 97 ≤ c ∧ c ≤ 102 then c - 87 else d
theorem digit_ok (c : Int) (h0 : 0 ≤ c) (h1 : c ≤ 255) : Ok P 52 [U8 c] (I (digS c 16)) := by
  refine fn_tr (E0_ok P) L0 Tryd.func52 ((.node (decide (c ≥ 48)) (
     .node (decide (c ≤ 57)) (
      .leaf (I (IntKind.i64.wrap (IntKind.u8.wrap (c - 48)))) []) (
      .node (decide (c ≥ 97)) (
       .node (decide (c ≤ 102)) (
        .leaf (I (IntKind.i64.wrap (IntKind.i64.wrap (IntKind.u8.wrap (c - 97)) + 10))) []) (
        .leaf (I 16) [])) (
       .leaf (I 16) []))) (
     .node (decide (c ≥ 97)) (
      .node (decide (c ≤ 102)) (
       .leaf (I (IntKind.i64.wrap (IntKind.i64.wrap (IntKind.u8.wrap (c - 97)) + 10))) []) (
       .leaf (I 16) [])) (
      .leaf (I 16) [])))) (by kernel_rfl) ?_
  simp only [Tr.All, AllP, decide_eq_true_eq, decide_eq_false_iff_not]
  repeat' with_reducible first | intro _ | refine And.intro ?_ ?_
  all_goals first | trivial | omega | (simp only [digS]; congr 1; (try rw [IntKind.wrap_u8]); (repeat rw [IntKind.wrap_i64]); grind)
theorem digit1_ok (c : Int) (h0 : 0 ≤ c) (h1 : c ≤ 255) : Ok P 55 [U8 c] (I (digS c (-1))) := by
  refine fn_tr (E0_ok P) L0 Tryd.func55 ((.node (decide (c ≥ 48)) (
     .node (decide (c ≤ 57)) (
      .leaf (I (IntKind.i64.wrap (IntKind.i64.wrap c - 48))) []) (
      .node (decide (c ≥ 97)) (
       .node (decide (c ≤ 102)) (
        .leaf (I (IntKind.i64.wrap (IntKind.i64.wrap (IntKind.i64.wrap c - 97) + 10))) []) (
        .leaf (I (-1)) [])) (
       .leaf (I (-1)) []))) (
     .node (decide (c ≥ 97)) (
      .node (decide (c ≤ 102)) (
       .leaf (I (IntKind.i64.wrap (IntKind.i64.wrap (IntKind.i64.wrap c - 97) + 10))) []) (
       .leaf (I (-1)) [])) (
      .leaf (I (-1)) [])))) (by kernel_rfl) ?_
  simp only [Tr.All, AllP, decide_eq_true_eq, decide_eq_false_iff_not]
  repeat' with_reducible first | intro _ | refine And.intro ?_ ?_
  all_goals first | trivial | omega | (simp only [digS]; congr 1; (repeat rw [IntKind.wrap_i64]); grind)

def wordTab : List ByteArray := [⟨#[]⟩, ⟨#[115, 104]⟩, ⟨#[116, 105, 99, 107]⟩, ⟨#[100, 114, 111, 112]⟩, ⟨#[114, 101, 115, 116, 111, 114, 101]⟩, ⟨#[99, 114, 97, 115, 104]⟩, ⟨#[116, 121, 112, 101]⟩, ⟨#[115, 101, 110, 100]⟩, ⟨#[115, 110, 97, 112]⟩, ⟨#[112, 108, 117, 109, 98]⟩, ⟨#[106, 111, 98]⟩, ⟨#[108, 111, 103, 105, 110]⟩]
def wordS (k : Int) : ByteArray := if 1 ≤ k ∧ k < 12 then wordTab.getD k.toNat default else ⟨#[]⟩
def numS (k : Int) : Int := if k = 7 then 2 else if 1 ≤ k ∧ k ≤ 10 then 1 else 0
def plainK (k : Int) : Bool := k == 1 || k == 11
def bytesK (k : Int) : Bool := k == 6 || k == 7 || k == 9

theorem word_ok (k : Int) : Ok P 21 [I k] (S (wordS k)) := by
  refine fn_tr (E0_ok P) L0 Tryd.func21 ((.node (decide (k < 1)) (
     .leaf (S (⟨#[]⟩ : ByteArray)) []) (
     .node (decide (k ≥ (↑12 : Int))) (
      .leaf (S (⟨#[]⟩ : ByteArray)) []) (
      .say .tab (
      .leaf (S ([(⟨#[]⟩ : ByteArray), (⟨#[115, 104]⟩ : ByteArray), (⟨#[116, 105, 99, 107]⟩ : ByteArray), (⟨#[100, 114, 111, 112]⟩ : ByteArray), (⟨#[114, 101, 115, 116, 111, 114, 101]⟩ : ByteArray), (⟨#[99, 114, 97, 115, 104]⟩ : ByteArray), (⟨#[116, 121, 112, 101]⟩ : ByteArray), (⟨#[115, 101, 110, 100]⟩ : ByteArray), (⟨#[115, 110, 97, 112]⟩ : ByteArray), (⟨#[112, 108, 117, 109, 98]⟩ : ByteArray), (⟨#[106, 111, 98]⟩ : ByteArray), (⟨#[108, 111, 103, 105, 110]⟩ : ByteArray)].getD (0 + k.toNat) default)) [(0 : Int) ≤ k, k < 12, 0 + k.toNat < 12]))))) (by kernel_rfl) ?_
  simp only [Tr.All, AllP, decide_eq_true_eq, decide_eq_false_iff_not]
  repeat' with_reducible first | intro _ | refine And.intro ?_ ?_
  all_goals first | trivial | omega | exact (congrArg S (by unfold wordS; rw [if_neg (by omega)])) | exact (congrArg S (by unfold wordS; rw [if_pos (by omega)]; rw [Nat.zero_add]; rfl))

def shapeV (k : Int) : PV := .agg [S (wordS k), I (numS k), Bo (plainK k), Bo (bytesK k)]
theorem shape_ok (k : Int) : Ok P 16 [I k] (shapeV k) := by
  refine fn_tr (E0_ok P) L0 Tryd.func16 ((.node ((k : Int) == 1) (
     .leaf (PV.agg [S (⟨#[115, 104]⟩ : ByteArray), I 1, Bo true, Bo false]) []) (
     .node ((k : Int) == 2) (
      .leaf (PV.agg [S (⟨#[116, 105, 99, 107]⟩ : ByteArray), I 1, Bo false, Bo false]) []) (
      .node ((k : Int) == 3) (
       .leaf (PV.agg [S (⟨#[100, 114, 111, 112]⟩ : ByteArray), I 1, Bo false, Bo false]) []) (
       .node ((k : Int) == 4) (
        .leaf (PV.agg [S (⟨#[114, 101, 115, 116, 111, 114, 101]⟩ : ByteArray), I 1, Bo false, Bo false]) []) (
        .node ((k : Int) == 5) (
         .leaf (PV.agg [S (⟨#[99, 114, 97, 115, 104]⟩ : ByteArray), I 1, Bo false, Bo false]) []) (
         .node ((k : Int) == 6) (
          .leaf (PV.agg [S (⟨#[116, 121, 112, 101]⟩ : ByteArray), I 1, Bo false, Bo true]) []) (
          .node ((k : Int) == 7) (
           .leaf (PV.agg [S (⟨#[115, 101, 110, 100]⟩ : ByteArray), I 2, Bo false, Bo true]) []) (
           .node ((k : Int) == 8) (
            .leaf (PV.agg [S (⟨#[115, 110, 97, 112]⟩ : ByteArray), I 1, Bo false, Bo false]) []) (
            .node ((k : Int) == 9) (
             .leaf (PV.agg [S (⟨#[112, 108, 117, 109, 98]⟩ : ByteArray), I 1, Bo false, Bo true]) []) (
             .node ((k : Int) == 10) (
              .leaf (PV.agg [S (⟨#[106, 111, 98]⟩ : ByteArray), I 1, Bo false, Bo false]) []) (
              .node ((k : Int) == 11) (
               .leaf (PV.agg [S (⟨#[108, 111, 103, 105, 110]⟩ : ByteArray), I 0, Bo true, Bo false]) []) (
               .leaf (PV.agg [S (⟨#[]⟩ : ByteArray), I 0, Bo false, Bo false]) []))))))))))))) (by kernel_rfl) ?_
  simp only [Tr.All, AllP, beq_iff_eq, beq_eq_false_iff_ne]
  repeat' with_reducible first | intro _ | refine And.intro ?_ ?_
  all_goals first | trivial | omega | (subst_vars; rfl) | (unfold shapeV wordS; rw [if_neg (by omega)]; simp only [numS, plainK, bytesK, *, if_false]; rw [if_neg (by omega)]; simp [*])

theorem nil_iff (s : ByteArray) : s = ⟨#[]⟩ ↔ s.data.toList = [] := by
  constructor
  · rintro rfl; rfl
  · intro h
    apply ByteArray.ext
    rw [← Array.toList_inj]
    exact h
theorem size_zero (s : ByteArray) : s.size = 0 ↔ s = ⟨#[]⟩ := by
  rw [nil_iff, Lib.size_eq]
  exact List.length_eq_zero_iff

def ignS (s : ByteArray) : Bool := decide (s = ⟨#[]⟩) || ((s.data.toList.getD 0 0).toNat : Int) == 35
theorem ignored_ok (s : ByteArray) : Ok P 45 [S s] (Bo (ignS s)) := by
  refine fn_tr (E0_ok P) L0 Tryd.func45 ((.node (eqS s (⟨#[]⟩ : ByteArray)) (
     .leaf (Bo true) []) (
     .leaf (Bo ((↑(s.data.toList.getD (Int.toNat 0) 0).toNat : Int) == 35)) [(0 : Int) ≤ 0, (0 : Int) < (↑s.size : Int)]))) (by kernel_rfl) ?_
  have hz := size_zero s
  simp only [Tr.All, AllP, decide_eq_true_eq, decide_eq_false_iff_not, eqS_decide]
  repeat' with_reducible first | intro _ | refine And.intro ?_ ?_
  all_goals first | trivial | omega | (exact congrArg Bo (by simp [ignS, *])) | (have h1 : s.size ≠ 0 := fun h => absurd (hz.1 h) (by assumption); omega)
theorem rignored_ok (s : ByteArray) : Ok P 48 [S s] (Bo (ignS s)) := by
  refine fn_tr (E0_ok P) L0 Tryd.func48 ((.node (eqS s (⟨#[]⟩ : ByteArray)) (
     .leaf (Bo true) []) (
     .leaf (Bo ((↑(s.data.toList.getD (Int.toNat 0) 0).toNat : Int) == 35)) [(0 : Int) ≤ 0, (0 : Int) < (↑s.size : Int)]))) (by kernel_rfl) ?_
  have hz := size_zero s
  simp only [Tr.All, AllP, decide_eq_true_eq, decide_eq_false_iff_not, eqS_decide]
  repeat' with_reducible first | intro _ | refine And.intro ?_ ?_
  all_goals first | trivial | omega | (exact congrArg Bo (by simp [ignS, *])) | (have h1 : s.size ≠ 0 := fun h => absurd (hz.1 h) (by assumption); omega)
end Go.Proofs.YtldmgdphelgffaaDoor
