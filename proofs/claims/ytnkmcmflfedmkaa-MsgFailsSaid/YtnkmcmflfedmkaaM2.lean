/- Contracts of the functions of chapter 8 that call no others: numbers, lengths, names, tags. -/
import Derived.Test.YtnkmcmflfedmkaaM1
namespace Go.Proofs.Ytnkmcmflfedmkaa
open Go.PS

theorem wrap64 {x : Int} (h1 : -9223372036854775808 ≤ x) (h2 : x ≤ 9223372036854775807) : IntKind.i64.wrap x = x := by
  rw [IntKind.wrap_i64]; omega

def InR (n : Int) : Prop := -9223372036854775808 ≤ n ∧ n ≤ 9223372036854775807

@[simp] theorem eqS_decide (a b : ByteArray) : eqS a b = decide (a = b) := by
  unfold eqS
  rw [decide_eq_decide]
  constructor
  · intro h
    cases a with | mk x => cases b with | mk y => cases x; cases y; simp_all
  · rintro rfl; rfl

/-! Numbers and lengths. -/
def inE (n lo hi : Int) : Int := if n < lo ∨ hi < n then 5 else 0
def shortE (s : ByteArray) (most : Int) : Int := if most < s.size then 4 else 0

theorem in_ok (n lo hi : Int) : Ok P 42 [I n, I lo, I hi] (I (inE n lo hi)) :=
  fn_tr (E0_ok P) L0 Try.func42 ((.node (decide (n < lo)) (
     .leaf (I 5) []) (
     .node (decide (n > hi)) (
      .leaf (I 5) []) (
      .leaf (I 0) [])))) (by kernel_rfl) (by simp +contextual [Tr.All, AllP, inE])

theorem short_ok (s : ByteArray) (n : Int) : Ok P 43 [S s, I n] (I (shortE s n)) :=
  fn_tr (E0_ok P) L0 Try.func43 ((.node (decide ((↑s.size : Int) > n)) (
     .leaf (I 4) []) (
     .leaf (I 0) []))) (by kernel_rfl) (by simp +contextual [Tr.All, AllP, shortE])

theorem number_ok (n hi : Int) : Ok P 51 [I n, I hi] (I (inE n 0 hi)) :=
  fn_tr (E0_ok P) L0 Try.func51 ((.node (decide (n < 0)) (
     .leaf (I 5) []) (
     .node (decide (n > hi)) (
      .leaf (I 5) []) (
      .leaf (I 0) [])))) (by kernel_rfl) (by simp +contextual [Tr.All, AllP, inE])

theorem length_ok (s : ByteArray) (n : Int) : Ok P 52 [S s, I n] (I (shortE s n)) :=
  fn_tr (E0_ok P) L0 Try.func52 ((.node (decide ((↑s.size : Int) > n)) (
     .leaf (I 4) []) (
     .leaf (I 0) []))) (by kernel_rfl) (by simp +contextual [Tr.All, AllP, shortE])

/-! Bits. -/
def subB (n b : Int) : Bool := BitVec.ofInt 64 n &&& BitVec.ofInt 64 b == BitVec.ofInt 64 n

theorem toInt_small (x : BitVec 64) (h : x.toNat < 9223372036854775808) : IntKind.i64.wrap (x.toNat : Int) = x.toNat := wrap64 (by omega) (by omega)

theorem andNot_iff (x m : BitVec 64) : x &&& ~~~m = 0#64 ↔ x &&& m = x := by
  constructor
  · intro h
    have h2 : x &&& m ||| x &&& ~~~m = x := by
      ext i hi
      simp
      cases x[i] <;> cases m[i] <;> rfl
    rw [h] at h2
    simpa using h2
  · intro h
    rw [← h]
    ext i hi
    simp

theorem wrap_zero (x : BitVec 64) : IntKind.i64.wrap (x.toNat : Int) = 0 ↔ x = 0#64 := by
  rw [IntKind.wrap_i64]
  have := x.isLt
  constructor
  · intro h
    apply BitVec.eq_of_toNat_eq
    show x.toNat = 0
    omega
  · intro h
    have h2 : x.toNat = 0 := by rw [h]; rfl
    omega

theorem wrap_self (x : BitVec 64) (n : Int) (hn : InR n) : IntKind.i64.wrap (x.toNat : Int) = n ↔ x = BitVec.ofInt 64 n := by
  unfold InR at hn
  rw [IntKind.wrap_i64]
  have := x.isLt
  constructor
  · intro h
    apply BitVec.eq_of_toNat_eq
    rw [BitVec.toNat_ofInt]
    generalize x.toNat = y at *
    omega
  · intro h
    have h2 := congrArg BitVec.toNat h
    rw [BitVec.toNat_ofInt] at h2
    generalize x.toNat = y at *
    omega

def rS (n b : Int) : Bool := n == -1 || decide (0 ≤ n ∧ n ≤ b)
def qS (n b : Int) : Bool := n == -1 || decide (0 ≤ n) && subB n b

theorem within_ok' (n b : Int) : Ok P 59 [I n, I b] (Bo (n == -1 || decide (0 ≤ n) && subB n b)) :=
  fn_tr (E0_ok P) L0 Try.func59 ((.node (n == -1) (
     .leaf (Bo true) []) (
     .node (decide (n ≥ 0)) (
      .leaf (Bo (IntKind.i64.wrap (↑(BitVec.ofInt IntKind.i64.bits n &&& ~~~BitVec.ofInt IntKind.i64.bits b).toNat : Int) == 0)) []) (
      .leaf (Bo false) [])))) (by kernel_rfl) (by
    simp only [Tr.All, AllP, true_and]
    refine ⟨fun h => by simp_all, fun h => ⟨fun h1 => ?_, fun h1 => by simp_all; omega⟩⟩
    have h0 : 0 ≤ n := by simpa using h1
    rw [h, Bool.false_or, decide_eq_true h0, Bool.true_and]
    refine congrArg Bo ?_
    unfold subB
    rw [Bool.eq_iff_iff, beq_iff_eq, beq_iff_eq]
    exact (wrap_zero _).trans (andNot_iff _ _))

theorem sum_ok' (n b : Int) (hn : InR n) : Ok P 63 [I n, I b] (Bo (n == -1 || decide (0 ≤ n) && subB n b)) :=
  fn_tr (E0_ok P) L0 Try.func63 ((.node (n == -1) (
     .leaf (Bo true) []) (
     .node (decide (n ≥ 0)) (
      .leaf (Bo (IntKind.i64.wrap (↑(BitVec.ofInt IntKind.i64.bits n &&& BitVec.ofInt IntKind.i64.bits b).toNat : Int) == n)) []) (
      .leaf (Bo false) [])))) (by kernel_rfl) (by
    simp only [Tr.All, AllP, true_and]
    refine ⟨fun h => by simp_all, fun h => ⟨fun h1 => ?_, fun h1 => by simp_all; omega⟩⟩
    have h0 : 0 ≤ n := by simpa using h1
    rw [h, Bool.false_or, decide_eq_true h0, Bool.true_and]
    refine congrArg Bo ?_
    unfold subB
    rw [Bool.eq_iff_iff, beq_iff_eq, beq_iff_eq]
    exact wrap_self _ _ hn)

theorem rin_ok' (n b : Int) : Ok P 64 [I n, I b] (Bo (n == -1 || decide (0 ≤ n ∧ n ≤ b))) :=
  fn_tr (E0_ok P) L0 Try.func64 ((.node (n == -1) (
     .leaf (Bo true) []) (
     .node (decide (n ≥ 0)) (
      .leaf (Bo (decide (n ≤ b))) []) (
      .leaf (Bo false) [])))) (by kernel_rfl) (by simp +contextual [Tr.All, AllP]; omega)

theorem within_ok (n b : Int) : Ok P 59 [I n, I b] (Bo (qS n b)) := within_ok' n b
theorem sum_ok (n b : Int) (hn : InR n) : Ok P 63 [I n, I b] (Bo (qS n b)) := sum_ok' n b hn
theorem rin_ok (n b : Int) : Ok P 64 [I n, I b] (Bo (rS n b)) := rin_ok' n b

/-! Tags, kinds. -/
def tagOk (m : Msg) : Bool :=
  if m.kind = 100 ∨ m.kind = 101 then m.tag == 65535 else if m.kind = 107 then decide (0 ≤ m.tag ∧ m.tag ≤ 65535) else decide (0 ≤ m.tag ∧ m.tag ≤ 65534)

theorem tagged_ok (m : Msg) : Ok P 29 [.agg m.cells] (Bo (tagOk m)) :=
  fn_tr (E0_ok P) L0 Try.func29 ((.node (m.kind == 100) (
     .leaf (Bo (m.tag == 65535)) []) (
     .node (m.kind == 101) (
      .leaf (Bo (m.tag == 65535)) []) (
      .node (m.kind == 107) (
       .node (decide (m.tag ≥ 0)) (
        .leaf (Bo (decide (m.tag ≤ 65535))) []) (
        .leaf (Bo false) [])) (
       .node (decide (m.tag ≥ 0)) (
        .leaf (Bo (decide (m.tag ≤ 65534))) []) (
        .leaf (Bo false) [])))))) (by kernel_rfl) (by simp +contextual [Tr.All, AllP, tagOk]; grind)

theorem tag_ok (m : Msg) : Ok P 32 [.agg m.cells] (I (if tagOk m then 0 else 5)) :=
  fn_tr (E0_ok P) L0 Try.func32 ((.node (m.kind == 100) (
     .node (m.tag != 65535) (
      .leaf (I 5) []) (
      .node (decide (m.tag < 0)) (
       .leaf (I 5) []) (
       .node (decide (m.tag > 65535)) (
        .leaf (I 5) []) (
        .say .conc (
        .leaf (I 0) []))))) (
     .node (m.kind == 101) (
      .node (m.tag != 65535) (
       .leaf (I 5) []) (
       .node (decide (m.tag < 0)) (
        .leaf (I 5) []) (
        .node (decide (m.tag > 65535)) (
         .leaf (I 5) []) (
         .node (!m.kind == 101) (
          .node (m.kind != 107) (
           .node (decide (m.tag > 65534)) (
            .leaf (I 5) []) (
            .leaf (I 0) [])) (
           .leaf (I 0) [])) (
          .leaf (I 0) []))))) (
      .node (decide (m.tag < 0)) (
       .leaf (I 5) []) (
       .node (decide (m.tag > 65535)) (
        .leaf (I 5) []) (
        .node (!m.kind == 101) (
         .node (m.kind != 107) (
          .node (decide (m.tag > 65534)) (
           .leaf (I 5) []) (
           .leaf (I 0) [])) (
          .leaf (I 0) [])) (
         .leaf (I 0) []))))))) (by kernel_rfl) (by simp +contextual [Tr.All, AllP, tagOk]; grind)

def nameTab : List ByteArray := [⟨#[84, 86, 101, 114, 115, 105, 111, 110]⟩, ⟨#[82, 86, 101, 114, 115, 105, 111, 110]⟩, ⟨#[84, 65, 117, 116, 104]⟩, ⟨#[82, 65, 117, 116, 104]⟩, ⟨#[84, 65, 116, 116, 97, 99, 104]⟩, ⟨#[82, 65, 116, 116, 97, 99, 104]⟩, ⟨#[]⟩, ⟨#[82, 69, 114, 114, 111, 114]⟩, ⟨#[84, 70, 108, 117, 115, 104]⟩, ⟨#[82, 70, 108, 117, 115, 104]⟩, ⟨#[84, 87, 97, 108, 107]⟩, ⟨#[82, 87, 97, 108, 107]⟩, ⟨#[84, 79, 112, 101, 110]⟩, ⟨#[82, 79, 112, 101, 110]⟩, ⟨#[84, 67, 114, 101, 97, 116, 101]⟩, ⟨#[82, 67, 114, 101, 97, 116, 101]⟩, ⟨#[84, 82, 101, 97, 100]⟩, ⟨#[82, 82, 101, 97, 100]⟩, ⟨#[84, 87, 114, 105, 116, 101]⟩, ⟨#[82, 87, 114, 105, 116, 101]⟩, ⟨#[84, 67, 108, 117, 110, 107]⟩, ⟨#[82, 67, 108, 117, 110, 107]⟩, ⟨#[84, 82, 101, 109, 111, 118, 101]⟩, ⟨#[82, 82, 101, 109, 111, 118, 101]⟩, ⟨#[84, 83, 116, 97, 116]⟩, ⟨#[82, 83, 116, 97, 116]⟩, ⟨#[84, 87, 115, 116, 97, 116]⟩, ⟨#[82, 87, 115, 116, 97, 116]⟩, ⟨#[84, 76, 101, 97, 115, 101]⟩, ⟨#[82, 76, 101, 97, 115, 101]⟩, ⟨#[84, 82, 101, 115, 117, 109, 101]⟩, ⟨#[82, 82, 101, 115, 117, 109, 101]⟩]
def nameS (k : Int) : ByteArray := if 100 ≤ k ∧ k ≤ 131 then nameTab.getD (k - 100).toNat default else ⟨#[]⟩

theorem name_ok (k : Int) : Ok P 10 [I k] (S (nameS k)) :=
  fn_tr (E0_ok P) L0 Try.func10 ((.node (decide (k < 100)) (
     .leaf (S (⟨#[]⟩ : ByteArray)) []) (
     .node (decide (k > 131)) (
      .leaf (S (⟨#[]⟩ : ByteArray)) []) (
      .say .tab (
      .leaf (S ([(⟨#[84, 86, 101, 114, 115, 105, 111, 110]⟩ : ByteArray), (⟨#[82, 86, 101, 114, 115, 105, 111, 110]⟩ : ByteArray), (⟨#[84, 65, 117, 116, 104]⟩ : ByteArray), (⟨#[82, 65, 117, 116, 104]⟩ : ByteArray), (⟨#[84, 65, 116, 116, 97, 99, 104]⟩ : ByteArray), (⟨#[82, 65, 116, 116, 97, 99, 104]⟩ : ByteArray), (⟨#[]⟩ : ByteArray), (⟨#[82, 69, 114, 114, 111, 114]⟩ : ByteArray), (⟨#[84, 70, 108, 117, 115, 104]⟩ : ByteArray), (⟨#[82, 70, 108, 117, 115, 104]⟩ : ByteArray), (⟨#[84, 87, 97, 108, 107]⟩ : ByteArray), (⟨#[82, 87, 97, 108, 107]⟩ : ByteArray), (⟨#[84, 79, 112, 101, 110]⟩ : ByteArray), (⟨#[82, 79, 112, 101, 110]⟩ : ByteArray), (⟨#[84, 67, 114, 101, 97, 116, 101]⟩ : ByteArray), (⟨#[82, 67, 114, 101, 97, 116, 101]⟩ : ByteArray), (⟨#[84, 82, 101, 97, 100]⟩ : ByteArray), (⟨#[82, 82, 101, 97, 100]⟩ : ByteArray), (⟨#[84, 87, 114, 105, 116, 101]⟩ : ByteArray), (⟨#[82, 87, 114, 105, 116, 101]⟩ : ByteArray), (⟨#[84, 67, 108, 117, 110, 107]⟩ : ByteArray), (⟨#[82, 67, 108, 117, 110, 107]⟩ : ByteArray), (⟨#[84, 82, 101, 109, 111, 118, 101]⟩ : ByteArray), (⟨#[82, 82, 101, 109, 111, 118, 101]⟩ : ByteArray), (⟨#[84, 83, 116, 97, 116]⟩ : ByteArray), (⟨#[82, 83, 116, 97, 116]⟩ : ByteArray), (⟨#[84, 87, 115, 116, 97, 116]⟩ : ByteArray), (⟨#[82, 87, 115, 116, 97, 116]⟩ : ByteArray), (⟨#[84, 76, 101, 97, 115, 101]⟩ : ByteArray), (⟨#[82, 76, 101, 97, 115, 101]⟩ : ByteArray), (⟨#[84, 82, 101, 115, 117, 109, 101]⟩ : ByteArray), (⟨#[82, 82, 101, 115, 117, 109, 101]⟩ : ByteArray)].getD (0 + (IntKind.i64.wrap (k - 100)).toNat) default)) [0 ≤ IntKind.i64.wrap (k - 100), IntKind.i64.wrap (k - 100) < 32, 0 + (IntKind.i64.wrap (k - 100)).toNat < 32]))))) (by kernel_rfl) (by
    simp only [Tr.All, AllP]
    refine ⟨fun h => ⟨trivial, ?_⟩, fun h => ⟨fun h1 => ⟨trivial, ?_⟩, fun h1 => ?_⟩⟩
    · rw [nameS, if_neg (by simp at h; omega)]
    · rw [nameS, if_neg (by simp at h1; omega)]
    · have a : 100 ≤ k := by simpa using h
      have b : k ≤ 131 := by simpa using h1
      rw [wrap64 (by omega) (by omega), nameS, if_pos ⟨a, b⟩]
      refine ⟨⟨by omega, by omega, by omega, trivial⟩, ?_⟩
      rw [Nat.zero_add]; rfl)

theorem late_ok (k : Int) (h : k < 100 ∨ 117 < k ∨ k = 106) : Ok P 28 [I k] (S (nameS k)) :=
  fn_tr (E0_ok P) L0 Try.func28 ((.node (k == 118) (
     .leaf (S (⟨#[84, 87, 114, 105, 116, 101]⟩ : ByteArray)) []) (
     .node (k == 119) (
      .leaf (S (⟨#[82, 87, 114, 105, 116, 101]⟩ : ByteArray)) []) (
      .node (k == 120) (
       .leaf (S (⟨#[84, 67, 108, 117, 110, 107]⟩ : ByteArray)) []) (
       .node (k == 121) (
        .leaf (S (⟨#[82, 67, 108, 117, 110, 107]⟩ : ByteArray)) []) (
        .node (k == 122) (
         .leaf (S (⟨#[84, 82, 101, 109, 111, 118, 101]⟩ : ByteArray)) []) (
         .node (k == 123) (
          .leaf (S (⟨#[82, 82, 101, 109, 111, 118, 101]⟩ : ByteArray)) []) (
          .node (k == 124) (
           .leaf (S (⟨#[84, 83, 116, 97, 116]⟩ : ByteArray)) []) (
           .node (k == 125) (
            .leaf (S (⟨#[82, 83, 116, 97, 116]⟩ : ByteArray)) []) (
            .node (k == 126) (
             .leaf (S (⟨#[84, 87, 115, 116, 97, 116]⟩ : ByteArray)) []) (
             .node (k == 127) (
              .leaf (S (⟨#[82, 87, 115, 116, 97, 116]⟩ : ByteArray)) []) (
              .node (k == 128) (
               .leaf (S (⟨#[84, 76, 101, 97, 115, 101]⟩ : ByteArray)) []) (
               .node (k == 129) (
                .leaf (S (⟨#[82, 76, 101, 97, 115, 101]⟩ : ByteArray)) []) (
                .node (k == 130) (
                 .leaf (S (⟨#[84, 82, 101, 115, 117, 109, 101]⟩ : ByteArray)) []) (
                 .node (k == 131) (
                  .leaf (S (⟨#[82, 82, 101, 115, 117, 109, 101]⟩ : ByteArray)) []) (
                  .leaf (S (⟨#[]⟩ : ByteArray)) [])))))))))))))))) (by kernel_rfl) (by
    rcases h with h | h | rfl
    · simp +contextual [Tr.All, AllP, nameS, nameTab]
      intros; omega
    · simp +contextual [Tr.All, AllP, nameS, nameTab]
      intros; omega
    · simp [Tr.All, AllP, nameS, nameTab])
end Go.Proofs.Ytnkmcmflfedmkaa
