/- Contracts of chapter 8, second part: an environment; kinds; names; lists. -/
import Derived.Test.YtnkmcmflfedmkaaM2
namespace Go.Proofs.Ytnkmcmflfedmkaa
open Go.PS

def d42 : List PV → Option (PV × List Prop)
  | [.sc (.int .i64 n), .sc (.int .i64 lo), .sc (.int .i64 hi)] => some (I (inE n lo hi), [])
  | _ => none
def d43 : List PV → Option (PV × List Prop)
  | [.sc (.string s), .sc (.int .i64 n)] => some (I (shortE s n), [])
  | _ => none
def d51 : List PV → Option (PV × List Prop)
  | [.sc (.int .i64 n), .sc (.int .i64 hi)] => some (I (inE n 0 hi), [])
  | _ => none
def d59 : List PV → Option (PV × List Prop)
  | [.sc (.int .i64 n), .sc (.int .i64 b)] => some (Bo (qS n b), [])
  | _ => none
def d63 : List PV → Option (PV × List Prop)
  | [.sc (.int .i64 n), .sc (.int .i64 b)] => some (Bo (qS n b), [InR n])
  | _ => none
def d64 : List PV → Option (PV × List Prop)
  | [.sc (.int .i64 n), .sc (.int .i64 b)] => some (Bo (rS n b), [])
  | _ => none
def d10 : List PV → Option (PV × List Prop)
  | [.sc (.int .i64 k)] => some (S (nameS k), [])
  | _ => none
def d28 : List PV → Option (PV × List Prop)
  | [.sc (.int .i64 k)] => some (S (nameS k), [k < 100 ∨ 117 < k ∨ k = 106])
  | _ => none

def Ea : Env := addE 42 d42 (addE 43 d43 (addE 51 d51 (addE 52 d43 (addE 59 d59 (addE 63 d63 (addE 64 d64 (addE 10 d10 (addE 28 d28 E0))))))))

theorem Ea_ok : EnvOk P Ea :=
  addE_ok (addE_ok (addE_ok (addE_ok (addE_ok (addE_ok (addE_ok (addE_ok (addE_ok (E0_ok P)
    (fun l r ob h ho => by unfold d28 at h; split at h <;> cases h; exact late_ok _ (ho _ (by simp))))
    (fun l r ob h ho => by unfold d10 at h; split at h <;> cases h; exact name_ok _))
    (fun l r ob h ho => by unfold d64 at h; split at h <;> cases h; exact rin_ok _ _))
    (fun l r ob h ho => by unfold d63 at h; split at h <;> cases h; exact sum_ok _ _ (ho _ (by simp))))
    (fun l r ob h ho => by unfold d59 at h; split at h <;> cases h; exact within_ok _ _))
    (fun l r ob h ho => by unfold d43 at h; split at h <;> cases h; exact length_ok _ _))
    (fun l r ob h ho => by unfold d51 at h; split at h <;> cases h; exact number_ok _ _))
    (fun l r ob h ho => by unfold d43 at h; split at h <;> cases h; exact short_ok _ _))
    (fun l r ob h ho => by unfold d42 at h; split at h <;> cases h; exact in_ok _ _ _)

theorem rname_ok (k : Int) : Ok P 11 [I k] (S (nameS k)) :=
  fn_tr Ea_ok L0 Try.func11 ((.node (k == 100) (
     .leaf (S (⟨#[84, 86, 101, 114, 115, 105, 111, 110]⟩ : ByteArray)) []) (
     .node (k == 101) (
      .leaf (S (⟨#[82, 86, 101, 114, 115, 105, 111, 110]⟩ : ByteArray)) []) (
      .node (k == 102) (
       .leaf (S (⟨#[84, 65, 117, 116, 104]⟩ : ByteArray)) []) (
       .node (k == 103) (
        .leaf (S (⟨#[82, 65, 117, 116, 104]⟩ : ByteArray)) []) (
        .node (k == 104) (
         .leaf (S (⟨#[84, 65, 116, 116, 97, 99, 104]⟩ : ByteArray)) []) (
         .node (k == 105) (
          .leaf (S (⟨#[82, 65, 116, 116, 97, 99, 104]⟩ : ByteArray)) []) (
          .node (k == 107) (
           .leaf (S (⟨#[82, 69, 114, 114, 111, 114]⟩ : ByteArray)) []) (
           .node (k == 108) (
            .leaf (S (⟨#[84, 70, 108, 117, 115, 104]⟩ : ByteArray)) []) (
            .node (k == 109) (
             .leaf (S (⟨#[82, 70, 108, 117, 115, 104]⟩ : ByteArray)) []) (
             .node (k == 110) (
              .leaf (S (⟨#[84, 87, 97, 108, 107]⟩ : ByteArray)) []) (
              .node (k == 111) (
               .leaf (S (⟨#[82, 87, 97, 108, 107]⟩ : ByteArray)) []) (
               .node (k == 112) (
                .leaf (S (⟨#[84, 79, 112, 101, 110]⟩ : ByteArray)) []) (
                .node (k == 113) (
                 .leaf (S (⟨#[82, 79, 112, 101, 110]⟩ : ByteArray)) []) (
                 .node (k == 114) (
                  .leaf (S (⟨#[84, 67, 114, 101, 97, 116, 101]⟩ : ByteArray)) []) (
                  .node (k == 115) (
                   .leaf (S (⟨#[82, 67, 114, 101, 97, 116, 101]⟩ : ByteArray)) []) (
                   .node (k == 116) (
                    .leaf (S (⟨#[84, 82, 101, 97, 100]⟩ : ByteArray)) []) (
                    .node (k == 117) (
                     .leaf (S (⟨#[82, 82, 101, 97, 100]⟩ : ByteArray)) []) (
                     .leaf (S (nameS k)) [k < 100 ∨ 117 < k ∨ k = 106]))))))))))))))))))) (by kernel_rfl) (by
    simp +contextual [Tr.All, AllP, nameS, nameTab]
    intros; omega)

def d11 : List PV → Option (PV × List Prop) := d10
def reqS (k : Int) : Bool := decide (k.tmod 2 = 0) && !decide (nameS k = ⟨#[]⟩)

theorem request_ok (k : Int) : Ok P 12 [I k] (Bo (reqS k)) :=
  fn_tr Ea_ok L0 Try.func12 ((.node (k.tmod 2 == 0) (
     .leaf (Bo !eqS (nameS k) (⟨#[]⟩ : ByteArray)) []) (
     .leaf (Bo false) []))) (by kernel_rfl) (by simp +contextual [Tr.All, AllP, reqS])

def Eb : Env := addE 11 d10 (addE 12 (fun l => match l with
  | [.sc (.int .i64 k)] => some (Bo (reqS k), [])
  | _ => none) Ea)
theorem Eb_ok : EnvOk P Eb :=
  addE_ok (addE_ok Ea_ok
    (fun l r ob h ho => by split at h <;> cases h; exact request_ok _))
    (fun l r ob h ho => by unfold d10 at h; split at h <;> cases h; exact rname_ok _)

theorem rrequest_ok (k : Int) : Ok P 13 [I k] (Bo (reqS k)) :=
  fn_tr Eb_ok L0 Try.func13 ((.node (!eqS (nameS k) (⟨#[]⟩ : ByteArray)) (
     .leaf (Bo (k.tmod 2 == 0)) []) (
     .leaf (Bo false) []))) (by kernel_rfl) (by
    simp +contextual [Tr.All, AllP, reqS]
    intro _
    rw [Bool.eq_iff_iff]
    simp)

def replyS (k : Int) : Int := if reqS k then k + 1 else 0

theorem reqS_range {k : Int} (h : reqS k = true) : 100 ≤ k ∧ k ≤ 131 := by
  simp only [reqS, nameS, Bool.and_eq_true, decide_eq_true_eq, Bool.not_eq_true'] at h
  have h2 := h.2
  split at h2
  · assumption
  · simp at h2

theorem reply_ok (k : Int) : Ok P 14 [I k] (I (replyS k)) :=
  fn_tr Eb_ok L0 Try.func14 ((.node (!reqS k) (
     .leaf (I 0) []) (
     .leaf (I (IntKind.i64.wrap (k + 1))) []))) (by kernel_rfl) (by
    simp +contextual [Tr.All, AllP, replyS]
    intro h
    have := reqS_range h
    rw [wrap64 (by omega) (by omega)])

/-! Names. -/
def badB (c : UInt8) : Bool := decide (c.toNat < 33 ∨ 126 < c.toNat ∨ c.toNat = 47)
def validS (s : ByteArray) : Bool := decide (1 ≤ s.size ∧ s.size ≤ 64 ∧ s ≠ ⟨#[46]⟩ ∧ s ≠ ⟨#[46, 46]⟩) && !s.data.toList.any badB

def st57 (s : ByteArray) (i : Int) : List PV := [S s, Z, Z, Z, Z, Z, Z, Z, Z, Z, Z, Z, Z, Z, Z, Z, Z, Z, Z, Z, I s.size, I i, Z, Z, Z, Z, Z, Z, Z, Z, Z, Z, Z, Z, Z, Z, Z, Z, Z, Z, Z]
def lt57 (s : ByteArray) (i : Int) : LT := .ite (anyFrom badB s.data.toList i) (.out .ret ([Z, Z, .bit false, Z, Z, Z, Z, Z, Z, Z, Z, Z, Z, Z, Z, Z, Z, Z, Z, Z, Z, Z, Z, Z, Z, Z, Z, Z, Z, Z, Z, Z, Z, Z, Z, Z, Z, Z, Z, Z, Z]) []) (.out (.ext 0) ([Z, Z, Z, Z, Z, Z, Z, Z, Z, Z, Z, Z, Z, Z, Z, Z, Z, Z, Z, Z, Z, Z, Z, Z, Z, Z, Z, Z, Z, Z, Z, Z, Z, Z, Z, Z, Z, Z, Z, Z, Z]) [])

theorem lp57 (s : ByteArray) (hs : s.size ≤ 9223372036854775807) : ∀ i : Int, 0 ≤ i → i ≤ s.size → LoopT P (loopAt Try.f57 4) (st57 s i) [] (lt57 s i) := by
  apply upto
  intro i h0 h1 ih
  refine loop_tr Ea_ok L0 [0, 20, 21] [2] ((.node (decide (i < (↑s.size : Int))) (
     .node (decide ((↑(s.data.toList.getD i.toNat 0).toNat : Int) < 33)) (
      .leaf ((Out.ret, [Z, Z, PV.bit false, Z, Z, Z, Z, Z, Z, Z, Z, Z, Z, Z, Z, Z, Z, Z, Z, Z, Z, Z, Z, Z, Z, Z, Z, Z, Z, Z, Z, Z, Z, Z, Z, Z, Z, Z, Z, Z, Z], [])) [0 ≤ i, i < (↑s.size : Int)]) (
      .node (decide ((↑(s.data.toList.getD i.toNat 0).toNat : Int) > 126)) (
       .leaf ((Out.ret, [Z, Z, PV.bit false, Z, Z, Z, Z, Z, Z, Z, Z, Z, Z, Z, Z, Z, Z, Z, Z, Z, Z, Z, Z, Z, Z, Z, Z, Z, Z, Z, Z, Z, Z, Z, Z, Z, Z, Z, Z, Z, Z], [])) [0 ≤ i, i < (↑s.size : Int), 0 ≤ i, i < (↑s.size : Int)]) (
       .node ((↑(s.data.toList.getD i.toNat 0).toNat : Int) == 47) (
        .leaf ((Out.ret, [Z, Z, PV.bit false, Z, Z, Z, Z, Z, Z, Z, Z, Z, Z, Z, Z, Z, Z, Z, Z, Z, Z, Z, Z, Z, Z, Z, Z, Z, Z, Z, Z, Z, Z, Z, Z, Z, Z, Z, Z, Z, Z], [])) [0 ≤ i, i < (↑s.size : Int), 0 ≤ i, i < (↑s.size : Int), 0 ≤ i, i < (↑s.size : Int)]) (
        .leaf ((Out.norm, [S s, Z, Z, Z, Z, Z, Z, Z, Z, Z, Z, Z, Z, Z, Z, Z, Z, Z, Z, Z, I (↑s.size : Int), I (IntKind.i64.wrap (i + 1)), Z, Z, Z, Z, Z, Z, Z, Z, Z, Z, Z, Z, Z, Z, Z, Z, Z, Z, Z], [])) [0 ≤ i, i < (↑s.size : Int), 0 ≤ i, i < (↑s.size : Int), 0 ≤ i, i < (↑s.size : Int)])))) (
     .leaf ((Out.ext 0, [Z, Z, Z, Z, Z, Z, Z, Z, Z, Z, Z, Z, Z, Z, Z, Z, Z, Z, Z, Z, Z, Z, Z, Z, Z, Z, Z, Z, Z, Z, Z, Z, Z, Z, Z, Z, Z, Z, Z, Z, Z], [])) []))) (by kernel_rfl) ?_
  have hsz : s.data.toList.length = s.size := by simp
  have hst : i < s.size → anyFrom badB s.data.toList i = (badB (s.data.toList.getD i.toNat 0) || anyFrom badB s.data.toList (i + 1)) := fun hi => anyFrom_step 0 h0 (by omega)
  have hgo : i < s.size ∧ badB (s.data.toList.getD i.toNat 0) = false → LoopT P (loopAt Try.f57 4) (st57 s (IntKind.i64.wrap (i + 1))) [] (lt57 s i) := by
    rintro ⟨hi, hb⟩
    rw [wrap64 (by omega) (by omega), show lt57 s i = lt57 s (i + 1) by simp only [lt57, hst hi, hb, Bool.false_or]]
    exact ih hi
  have hhit : i < s.size ∧ badB (s.data.toList.getD i.toNat 0) = true → anyFrom badB s.data.toList i = true := by
    rintro ⟨hi, hb⟩
    rw [hst hi, hb]; rfl
  have hend : ¬ i < s.size → anyFrom badB s.data.toList i = false := fun hi => anyFrom_end (by omega)
  generalize s.data.toList.getD i.toNat 0 = b at *
  simp only [Tr.All, AllP, Rnd, decide_eq_true_eq, decide_eq_false_iff_not, beq_iff_eq, beq_eq_false_iff_ne]
  repeat' with_reducible first | intro _ | refine And.intro ?_ ?_
  all_goals first | trivial | omega | exact hgo (by grind [badB]) | exact ends_t (hhit (by grind [badB])) rfl | exact ends_f (hend (by grind)) rfl | trace_state
end Go.Proofs.Ytnkmcmflfedmkaa
