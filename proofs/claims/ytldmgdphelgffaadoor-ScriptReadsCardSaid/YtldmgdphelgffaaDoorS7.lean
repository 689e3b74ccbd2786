/- Contracts of chapter 53: numerals; the words of an event's line. -/
import Derived.Test.YtldmgdphelgffaaDoorS6
namespace Go.Proofs.YtldmgdphelgffaaDoor
open Go.PS

theorem tdiv10 (u : Nat) : (-(u : Int)).tdiv 10 = -((u / 10 : Nat) : Int) := by rw [Int.neg_tdiv]; rfl
theorem tmod10 (u : Nat) : (-(u : Int)).tmod 10 = -((u % 10 : Nat) : Int) := by rw [Int.neg_tmod]; rfl

def digR (u : Nat) (l : List UInt8) : List UInt8 := if u = 0 ∧ l ≠ [] then l else Lib.decDigits u ++ l
theorem digR_step (u : Nat) (l : List UInt8) (h : 0 < u ∨ l = []) : digR (u / 10) (hexd.getD (u % 10) 0 :: l) = digR u l := by
  have hh : hexd.getD (u % 10) 0 = UInt8.ofNat (48 + u % 10) := by
    have key : ∀ k : Fin 10, hexd.getD k.val 0 = UInt8.ofNat (48 + k.val) := by decide
    exact key ⟨u % 10, Nat.mod_lt _ (by decide)⟩
  have h1 : digR u l = Lib.decDigits u ++ l := by
    unfold digR
    rw [if_neg]
    rintro ⟨q1, q2⟩
    rcases h with h | h
    · omega
    · exact q2 h
  rw [h1, hh]
  unfold digR
  by_cases hs : u < 10
  · rw [if_pos ⟨by omega, by simp⟩, Lib.decDigits, dif_pos hs, Nat.mod_eq_of_lt hs]
    rfl
  · rw [if_neg (by rintro ⟨q, _⟩; omega)]
    conv => rhs; rw [Lib.decDigits, dif_neg hs]
    simp

def st36 (u : Nat) (l : List UInt8) : List PV := [I (-(u : Int)), I 10, Z, Z, Z, S (B l), Z, Z, Z, Z, Z, Z, Z, Z, Z, Z, Z, Z, Z, Z, Z, Z, Z, Z, Z, Z, Z]
def lt36 (u : Nat) (l : List UInt8) : LT := .out (.ext 0) ([Z, Z, Z, Z, Z, S (B (digR u l)), Z, Z, Z, Z, Z, Z, Z, Z, Z, Z, Z, Z, Z, Z, Z, Z, Z, Z, Z, Z, Z]) []
theorem rd36 (u : Nat) (l : List UInt8) (h1 : u ≤ 9223372036854775808) (hl : l.length ≤ 100) (hgo : 0 < u ∨ l = [] → LoopT P (loopAt Tryd.f36 2) (st36 (u / 10) (hexd.getD (u % 10) 0 :: l)) [] (lt36 u l)) : LoopT P (loopAt Tryd.f36 2) (st36 u l) [] (lt36 u l) := by
  refine loop_tr Ea_ok L0 [0, 1, 5] [5] ((.node (decide (-(↑u : Int) < 0)) (
     .leaf ((Out.norm, [I (IntKind.i64.wrap ((-(↑u : Int)).tdiv 10)), I 10, Z, Z, Z, S (hexD.extract (IntKind.i64.wrap (0 - (-(↑u : Int)).tmod 10)).toNat (IntKind.i64.wrap (IntKind.i64.wrap (0 - (-(↑u : Int)).tmod 10) + 1)).toNat ++ B l), Z, Z, Z, Z, Z, Z, Z, Z, Z, Z, Z, Z, Z, Z, Z, Z, Z, Z, Z, Z, Z], [])) [(0 : Int) ≤ IntKind.i64.wrap (0 - (-(↑u : Int)).tmod 10), IntKind.i64.wrap (0 - (-(↑u : Int)).tmod 10) ≤ IntKind.i64.wrap (IntKind.i64.wrap (0 - (-(↑u : Int)).tmod 10) + 1), IntKind.i64.wrap (IntKind.i64.wrap (0 - (-(↑u : Int)).tmod 10) + 1) ≤ 16, (hexD.extract (IntKind.i64.wrap (0 - (-(↑u : Int)).tmod 10)).toNat (IntKind.i64.wrap (IntKind.i64.wrap (0 - (-(↑u : Int)).tmod 10) + 1)).toNat).size + (B l).size ≤ 9223372036854775807]) (
     .node (eqS (B l) (⟨#[]⟩ : ByteArray)) (
      .leaf ((Out.norm, [I (IntKind.i64.wrap ((-(↑u : Int)).tdiv 10)), I 10, Z, Z, Z, S (hexD.extract (IntKind.i64.wrap (0 - (-(↑u : Int)).tmod 10)).toNat (IntKind.i64.wrap (IntKind.i64.wrap (0 - (-(↑u : Int)).tmod 10) + 1)).toNat ++ B l), Z, Z, Z, Z, Z, Z, Z, Z, Z, Z, Z, Z, Z, Z, Z, Z, Z, Z, Z, Z, Z], [])) [(0 : Int) ≤ IntKind.i64.wrap (0 - (-(↑u : Int)).tmod 10), IntKind.i64.wrap (0 - (-(↑u : Int)).tmod 10) ≤ IntKind.i64.wrap (IntKind.i64.wrap (0 - (-(↑u : Int)).tmod 10) + 1), IntKind.i64.wrap (IntKind.i64.wrap (0 - (-(↑u : Int)).tmod 10) + 1) ≤ 16, (hexD.extract (IntKind.i64.wrap (0 - (-(↑u : Int)).tmod 10)).toNat (IntKind.i64.wrap (IntKind.i64.wrap (0 - (-(↑u : Int)).tmod 10) + 1)).toNat).size + (B l).size ≤ 9223372036854775807]) (
      .leaf ((Out.ext 0, [Z, Z, Z, Z, Z, S (B l), Z, Z, Z, Z, Z, Z, Z, Z, Z, Z, Z, Z, Z, Z, Z, Z, Z, Z, Z, Z, Z], [])) [])))) (by kernel_rfl) ?_
  have hk := Nat.mod_lt u (show 0 < 10 by decide)
  have hd : IntKind.i64.wrap (0 - (-(u : Int)).tmod 10) = ((u % 10 : Nat) : Int) := by
    rw [tmod10, wrap64 (by omega) (by omega)]; omega
  have hq : IntKind.i64.wrap ((-(u : Int)).tdiv 10) = -((u / 10 : Nat) : Int) := by
    rw [tdiv10, wrap64 (by omega) (by omega)]
  have hnil : B l = ⟨#[]⟩ ↔ l = [] := by rw [nil_iff, B_list]
  rw [hd, hexD_ext _ (by omega), B_append, hq]
  have hend : ¬ (0 < u ∨ l = []) → digR u l = l := fun h => if_pos ⟨by omega, fun e => h (.inr e)⟩
  simp only [Tr.All, AllP, Rnd, decide_eq_true_eq, decide_eq_false_iff_not, eqS_decide]
  repeat' with_reducible first | intro _ | refine And.intro ?_ ?_
  all_goals first | trivial | omega | exact hgo (.inl (by omega)) | exact hgo (.inr (hnil.1 (by assumption))) | (rw [wrap64 (by omega) (by omega)]; omega) | (simp only [B_size, List.length_singleton]; omega) | (have hne : ¬ (0 < u ∨ l = []) := fun h => h.elim (fun h => by omega) (fun h => absurd (hnil.2 h) (by assumption)); unfold lt36; rw [hend hne]; rfl)

theorem lp36a : ∀ (k u : Nat) (l : List UInt8), u < 10 ^ k → l ≠ [] → u ≤ 9223372036854775808 → l.length + k ≤ 100 → LoopT P (loopAt Tryd.f36 2) (st36 u l) [] (lt36 u l)
  | 0, u, l, h, hl, hu, hk => rd36 u l hu (by omega) fun h2 => by
    have : u = 0 := by simpa using h
    rcases h2 with h2 | h2
    · omega
    · exact absurd h2 hl
  | k + 1, u, l, h, hl, hu, hk => rd36 u l hu (by omega) fun h2 => by
    have := lp36a k (u / 10) (hexd.getD (u % 10) 0 :: l) (by rw [Nat.pow_succ] at h; omega) (by simp) (by omega) (by simp; omega)
    unfold lt36 at this ⊢
    rw [digR_step u l h2] at this
    exact this
theorem lp36 (u : Nat) (hu : u ≤ 9223372036854775808) : LoopT P (loopAt Tryd.f36 2) (st36 u []) [] (lt36 u []) :=
  rd36 u [] hu (by simp) fun h2 => by
    have := lp36a 20 (u / 10) [hexd.getD (u % 10) 0] (by omega) (by simp) (by omega) (by simp)
    unfold lt36 at this ⊢
    rw [digR_step u [] h2] at this
    exact this

def L36 (u : Nat) : LEnv := fun _ => ([0, 1, 5], [], fun _ _ => lt36 u [])
theorem digits_ok (u : Nat) (hu : u ≤ 9223372036854775808) : Ok P 36 [I (-(u : Int)), I 10] (S (B (Lib.decDigits u))) := by
  refine fn_tr Ea_ok (L36 u) Tryd.func36 ((.leaf (S (B (digR u []))) [LoopSem P (loopAt Tryd.f36 2) ([I (-(↑u : Int)), I 10, Z, Z, Z, S (⟨#[]⟩ : ByteArray), Z, Z, Z, Z, Z, Z, Z, Z, Z, Z, Z, Z, Z, Z, Z, Z, Z, Z, Z, Z, Z]) ([]) (Out.ext 0) ([Z, Z, Z, Z, Z, S (B (digR u [])), Z, Z, Z, Z, Z, Z, Z, Z, Z, Z, Z, Z, Z, Z, Z, Z, Z, Z, Z, Z, Z]) ([])])) (by kernel_rfl) ?_
  have c1 := lp36 u hu
  have e : digR u [] = Lib.decDigits u := by unfold digR; simp
  simp only [Tr.All, AllP]
  repeat' with_reducible first | intro _ | refine And.intro ?_ ?_
  all_goals first | trivial | omega | exact c1.one | exact congrArg S (by rw [e])

def d36 : List PV → Option (PV × List Prop)
  | [.sc (.int .i64 n), .sc (.int .i64 10)] => some (S (B (Lib.decDigits n.natAbs)), [n ≤ 0, -9223372036854775808 ≤ n])
  | _ => none
def d32 : List PV → Option (PV × List Prop)
  | [.sc (.int .i64 n), .sc (.int .i64 10)] => some (S (B (Lib.itoa n)), [-9223372036854775808 ≤ n, n ≤ 9223372036854775807])
  | _ => none
def Eb : Env := addE 36 d36 (addE 32 d32 Ea)
theorem Eb_ok : EnvOk P Eb :=
  addE_ok (addE_ok Ea_ok
    (fun l r ob h ho => by unfold d32 at h; split at h <;> cases h; exact formatInt_ok _ (ho _ (by simp)) (ho _ (by simp))))
    (fun l r ob h ho => by
      unfold d36 at h
      split at h <;> cases h
      rename_i n
      have h1 : n ≤ 0 := ho _ (by simp)
      have h2 : -9223372036854775808 ≤ n := ho _ (by simp)
      have e : n = -((n.natAbs : Nat) : Int) := by omega
      have := digits_ok n.natAbs (by omega)
      rw [← e] at this
      exact this)

theorem text_ok (n : Int) (h : InR n) : Ok P 18 [I n, I 10] (S (B (Lib.itoa n))) := by
  refine fn_tr Eb_ok L0 Tryd.func18 ((.say .conc (
    .leaf (S (B (Lib.itoa n))) [(-9223372036854775808 : Int) ≤ n, n ≤ 9223372036854775807]))) (by kernel_rfl) ?_
  obtain ⟨h1, h2⟩ := h
  simp only [Tr.All, AllP]
  repeat' with_reducible first | intro _ | refine And.intro ?_ ?_
  all_goals first | trivial | omega | skip
theorem decDigits_len : ∀ (k u : Nat), u < 10 ^ (k + 1) → (Lib.decDigits u).length ≤ k + 1
  | 0, u, h => by
    rw [Lib.decDigits, dif_pos (by omega)]; simp
  | k + 1, u, h => by
    rw [Lib.decDigits]
    split
    · simp
    · have := decDigits_len k (u / 10) (by rw [Nat.pow_succ] at h; omega)
      simp; omega
theorem rtext_ok (n : Int) (h : InR n) : Ok P 22 [I n, I 10] (S (B (Lib.itoa n))) := by
  refine fn_tr Eb_ok L0 Tryd.func22 ((.say .conc (
    .node (decide (n < 0)) (
     .leaf (S ((⟨#[45]⟩ : ByteArray) ++ B (Lib.decDigits n.natAbs))) [n ≤ 0, (-9223372036854775808 : Int) ≤ n, (⟨#[45]⟩ : ByteArray).size + (B (Lib.decDigits n.natAbs)).size ≤ 9223372036854775807]) (
     .leaf (S (B (Lib.decDigits (IntKind.i64.wrap (0 - n)).natAbs))) [IntKind.i64.wrap (0 - n) ≤ 0, (-9223372036854775808 : Int) ≤ IntKind.i64.wrap (0 - n)])))) (by kernel_rfl) ?_
  obtain ⟨h1, h2⟩ := h
  have hl := decDigits_len 19 n.natAbs (by omega)
  have hs : (⟨#[45]⟩ : ByteArray).size = 1 := rfl
  have hw : ¬ n < 0 → IntKind.i64.wrap (0 - n) = -n := fun hn => by rw [wrap64 (by omega) (by omega)]; omega
  simp only [Tr.All, AllP, decide_eq_true_eq, decide_eq_false_iff_not]
  repeat' with_reducible first | intro _ | refine And.intro ?_ ?_
  all_goals first | trivial | omega | (rw [hs, B_size]; omega) | (rw [hw (by assumption)]; omega) | exact congrArg S (by unfold Lib.itoa; rw [if_pos (by assumption)]; exact B_append [45] _) | exact congrArg S (by unfold Lib.itoa; rw [if_neg (by assumption), hw (by assumption)]; congr 2; omega)

/-! Bytes of a text, or a dash. -/
def hexOr (l : List UInt8) : List UInt8 := if l = [] then [45] else hexL l
theorem hexd_ok (s : ByteArray) (hs : s.size ≤ 4294967296) : Ok P 19 [S s] (S (B (hexOr s.data.toList))) := by
  refine fn_tr Eb_ok L0 Tryd.func19 ((.node (eqS s (⟨#[]⟩ : ByteArray)) (
     .leaf (S (⟨#[45]⟩ : ByteArray)) []) (
     .leaf (S (B (hexL s.data.toList))) [s.size ≤ 4294967296]))) (by kernel_rfl) ?_
  have hz := nil_iff s
  simp only [Tr.All, AllP, decide_eq_true_eq, decide_eq_false_iff_not, eqS_decide]
  repeat' with_reducible first | intro _ | refine And.intro ?_ ?_
  all_goals first | trivial | omega | (unfold hexOr; rw [if_pos (hz.1 (by assumption))]; rfl) | (unfold hexOr; rw [if_neg (fun h => absurd (hz.2 h) (by assumption))])
def d37 : List PV → Option (PV × List Prop) := d33
def Ec0 : Env := addE 37 d33 Eb
theorem Ec0_ok : EnvOk P Ec0 := addE_ok Eb_ok (fun l r ob h ho => by unfold d33 at h; split at h <;> cases h; exact rhex_ok _ (ho _ (by simp)))
theorem bytes_ok (s : ByteArray) (hs : s.size ≤ 4294967296) : Ok P 23 [S s] (S (B (hexOr s.data.toList))) := by
  refine fn_tr Ec0_ok L0 Tryd.func23 ((.node (eqS s (⟨#[]⟩ : ByteArray)) (
     .leaf (S (⟨#[45]⟩ : ByteArray)) []) (
     .leaf (S (B (hexL s.data.toList))) [s.size ≤ 4294967296]))) (by kernel_rfl) ?_
  have hz := nil_iff s
  simp only [Tr.All, AllP, decide_eq_true_eq, decide_eq_false_iff_not, eqS_decide]
  repeat' with_reducible first | intro _ | refine And.intro ?_ ?_
  all_goals first | trivial | omega | (unfold hexOr; rw [if_pos (hz.1 (by assumption))]; rfl) | (unfold hexOr; rw [if_neg (fun h => absurd (hz.2 h) (by assumption))])

/-! Events. -/
structure Ev where
  (kind a b : Int) (text : ByteArray)
  deriving DecidableEq, Inhabited
def Ev.cells (e : Ev) : List PV := [I e.kind, I e.a, I e.b, S e.text]
def idOk (n : Int) : Bool := decide (0 ≤ n ∧ n ≤ maxId)
def nl (s : ByteArray) : Bool := s.data.toList.contains 10
def okE (e : Ev) : Bool := decide (wordS e.kind ≠ ⟨#[]⟩) && idOk e.a && idOk e.b && (if plainK e.kind then !nl e.text else if bytesK e.kind then true else decide (e.text = ⟨#[]⟩)) &&
  (decide (numS e.kind = 2) || decide (e.b = 0)) && (decide (1 ≤ numS e.kind) || decide (e.a = 0))
def d16 : List PV → Option (PV × List Prop)
  | [.sc (.int .i64 k)] => some (shapeV k, [])
  | _ => none
def d21 : List PV → Option (PV × List Prop)
  | [.sc (.int .i64 k)] => some (S (wordS k), [])
  | _ => none
def d17 : List PV → Option (PV × List Prop)
  | [.sc (.string s), .sc (.string ⟨⟨[10]⟩⟩)] => some (Bo (nl s), [])
  | _ => none
def d34 : List PV → Option (PV × List Prop)
  | [.sc (.string s)] => some (Bo (!nl s), [s.size ≤ 9223372036854775807])
  | _ => none
def d18 : List PV → Option (PV × List Prop)
  | [.sc (.int .i64 n), .sc (.int .i64 10)] => some (S (B (Lib.itoa n)), [InR n])
  | _ => none
def d19 : List PV → Option (PV × List Prop)
  | [.sc (.string s)] => some (S (B (hexOr s.data.toList)), [s.size ≤ 4294967296])
  | _ => none
def Ec : Env := addE 16 d16 (addE 21 d21 (addE 17 d17 (addE 34 d34 (addE 18 d18 (addE 22 d18 (addE 19 d19 (addE 23 d19 Ec0)))))))
theorem Ec_ok : EnvOk P Ec :=
  addE_ok (addE_ok (addE_ok (addE_ok (addE_ok (addE_ok (addE_ok (addE_ok Ec0_ok
    (fun l r ob h ho => by unfold d19 at h; split at h <;> cases h; exact bytes_ok _ (ho _ (by simp))))
    (fun l r ob h ho => by unfold d19 at h; split at h <;> cases h; exact hexd_ok _ (ho _ (by simp))))
    (fun l r ob h ho => by unfold d18 at h; split at h <;> cases h; exact rtext_ok _ (ho _ (by simp))))
    (fun l r ob h ho => by unfold d18 at h; split at h <;> cases h; exact text_ok _ (ho _ (by simp))))
    (fun l r ob h ho => by unfold d34 at h; split at h <;> cases h; exact plain_ok _ (ho _ (by simp))))
    (fun l r ob h ho => by unfold d17 at h; split at h <;> cases h; exact contains_ok _ _))
    (fun l r ob h ho => by unfold d21 at h; split at h <;> cases h; exact word_ok _))
    (fun l r ob h ho => by unfold d16 at h; split at h <;> cases h; exact shape_ok _)

theorem word_range (k : Int) : ¬ wordS k = ⟨#[]⟩ → 1 ≤ k ∧ k < 12 := by
  intro h
  unfold wordS at h
  split at h
  · assumption
  · exact absurd rfl h

theorem fits_ok (e : Ev) (ht : e.text.size ≤ 9223372036854775807) : Ok P 20 [.agg e.cells] (Bo (okE e && decide (e.text.size ≤ 65536))) := by
  refine fn_tr Ec_ok L0 Tryd.func20 ((.node (eqS (wordS e.kind) (⟨#[]⟩ : ByteArray)) (
     .leaf (Bo false) []) (
     .node (decide (e.a < 0)) (
      .leaf (Bo false) []) (
      .node (decide (e.a > 1099511627776)) (
       .leaf (Bo false) []) (
       .node (decide (e.b < 0)) (
        .leaf (Bo false) []) (
        .node (decide (e.b > 1099511627776)) (
         .leaf (Bo false) []) (
         .node (decide ((↑e.text.size : Int) > 65536)) (
          .leaf (Bo false) []) (
          .node ((e.kind : Int) == 1) (
           .node ((e.b : Int) == 0) (
            .leaf (Bo !nl e.text) [e.text.size ≤ 9223372036854775807]) (
            .leaf (Bo false) [])) (
           .node ((e.kind : Int) == 11) (
            .node ((e.a : Int) == 0) (
             .node ((e.b : Int) == 0) (
              .leaf (Bo !nl e.text) [e.text.size ≤ 9223372036854775807]) (
              .leaf (Bo false) [])) (
             .leaf (Bo false) [])) (
            .node ((e.kind : Int) == 6) (
             .leaf (Bo (e.b == 0)) []) (
             .node ((e.kind : Int) == 9) (
              .leaf (Bo (e.b == 0)) []) (
              .node ((e.kind : Int) == 7) (
               .leaf (Bo true) []) (
               .node ((e.b : Int) == 0) (
                .leaf (Bo (eqS e.text (⟨#[]⟩ : ByteArray))) []) (
                .leaf (Bo false) [])))))))))))))) (by kernel_rfl) ?_
  have hw := word_range e.kind
  simp only [Tr.All, AllP, decide_eq_true_eq, decide_eq_false_iff_not, beq_iff_eq, beq_eq_false_iff_ne, eqS_decide]
  repeat' with_reducible first | intro _ | refine And.intro ?_ ?_
  all_goals first | trivial | omega | exact congrArg Bo (by simp only [okE, idOk, plainK, bytesK, numS, maxId]; grind)
end Go.Proofs.YtldmgdphelgffaaDoor
