/- Contracts of chapter 53: the reference's guess. -/
import Derived.Test.YtldmgdphelgffaaDoorS12
namespace Go.Proofs.YtldmgdphelgffaaDoor
open Go.PS

theorem parts_ok (s : ByteArray) (hs : s.size ≤ 9223372036854775807) : Ok P 42 [S s] (.tup [I (numPart s.data.toList), S (B (rest1 s.data.toList)), Bo ((parse10 (B (cutL 32 s.data.toList).1)).isSome && (cutL 32 s.data.toList).2.2)]) := by
  refine fn_tr Ee_ok L0 Tryd.func42 ((.node ((if (parse10 (B (cutL 32 s.data.toList).fst)).isSome = true then 0 else 5 : Int) == 0) (
     .leaf (PV.tup [I ((parse10 (B (cutL 32 s.data.toList).fst)).getD 0), S (B (cutL 32 s.data.toList).snd.fst), Bo (cutL 32 s.data.toList).snd.snd]) [s.size ≤ 9223372036854775807, (B (cutL 32 s.data.toList).fst).size ≤ 9223372036854775807]) (
     .leaf (PV.tup [I ((parse10 (B (cutL 32 s.data.toList).fst)).getD 0), S (B (cutL 32 s.data.toList).snd.fst), Bo false]) [s.size ≤ 9223372036854775807, (B (cutL 32 s.data.toList).fst).size ≤ 9223372036854775807]))) (by kernel_rfl) ?_
  have hl := (cutL_le 32 s.data.toList).1
  rw [← Lib.size_eq] at hl
  simp only [B_size]
  unfold numPart rest1
  simp only [Tr.All, AllP, beq_iff_eq, beq_eq_false_iff_ne]
  repeat' with_reducible first | intro _ | refine And.intro ?_ ?_
  all_goals first | trivial | omega | (cases hp : (parse10 (B (cutL 32 s.data.toList).1)).isSome <;> simp_all)

def d42 : List PV → Option (PV × List Prop)
  | [.sc (.string s)] => some (.tup [I (numPart s.data.toList), S (B (rest1 s.data.toList)), Bo ((parse10 (B (cutL 32 s.data.toList).1)).isSome && (cutL 32 s.data.toList).2.2)], [s.size ≤ 9223372036854775807])
  | _ => none
def Ef : Env := addE 42 d42 Ee
theorem Ef_ok : EnvOk P Ef := addE_ok Ee_ok (fun l r ob h ho => by unfold d42 at h; split at h <;> cases h; exact parts_ok _ (ho _ (by simp)))

def h25 (c : Int) : Hp := [⟨[[I 0, I 0, I 0, S ⟨#[]⟩]], 0, [], 4, false⟩, ⟨[[I c, I 0, I 0, S ⟨#[]⟩]], 0, [], 4, false⟩]
def st25 (w r : List UInt8) (more : Bool) (k : Int) : List PV := ([Z, Z, .ptr 0 0 0, S (B w), S (B r), Bo more, .ptr 1 0 0, I k] ++ List.replicate 84 Z)
def kR (w : List UInt8) (more : Bool) (k c : Int) : Int := if more then (match findK w k with
  | some j => (j : Int)
  | none => c) else c
def lt25 (w r : List UInt8) (more : Bool) (k c : Int) : LT := .out (.ext 0) (([Z, Z, .ptr 0 0 0, Z, S (B r), Z, .ptr 1 0 0] ++ List.replicate 85 Z)) (h25 (kR w more k c))
theorem find_once (w : List UInt8) (k : Int) (h0 : 1 ≤ k) (h1 : k ≤ 11) (h : wordL k = w) : findK w (k + 1) = none := by
  obtain ⟨n, rfl⟩ := Int.eq_ofNat_of_zero_le (show 0 ≤ k by omega)
  unfold findK
  rw [List.find?_eq_none]
  intro j hj
  have key : ∀ a : Fin 12, ∀ b ∈ (List.range 12).drop (a.val + 1), 1 ≤ a.val → wordL (b : Int) ≠ wordL (a.val : Int) := by decide
  have := key ⟨n, by omega⟩ j (by rw [show ((n : Int) + 1).toNat = n + 1 by omega] at hj; exact hj) (by show 1 ≤ n; omega)
  simpa [h] using fun e : wordL (j : Int) = w => this (e.trans h.symm)

theorem lp25 (w r : List UInt8) (more : Bool) : ∀ k : Int, 0 ≤ k → k ≤ 11 → ∀ c, LoopT P (loopAt Tryd.f25 4) (st25 w r more (k + 1)) (h25 c) (lt25 w r more (k + 1) c) := by
  apply upto
  intro k h0 h1 ih c
  refine loop_tr Ef_ok L0 [2, 3, 4, 5, 6, 7] [2, 4, 6] ((.node (decide (k + 1 ≤ 11)) (
     .node (eqS (wordS (k + 1)) (B w)) (
      .node (more) (
       .leaf ((Out.norm, ([Z, Z, PV.ptr 0 0 0, S (B w), S (B r), Bo more, PV.ptr 1 0 0, I (IntKind.i64.wrap (k + 1 + 1))] ++ List.replicate 84 Z), [{ es := [[I 0, I 0, I 0, S (⟨#[]⟩ : ByteArray)]], st := 0, par := [], sz := 4, sym := false }, { es := [[I (k + 1), I 0, I 0, S (⟨#[]⟩ : ByteArray)]], st := 0, par := [], sz := 4, sym := false }])) []) (
       .leaf ((Out.norm, ([Z, Z, PV.ptr 0 0 0, S (B w), S (B r), Bo more, PV.ptr 1 0 0, I (IntKind.i64.wrap (k + 1 + 1))] ++ List.replicate 84 Z), [{ es := [[I 0, I 0, I 0, S (⟨#[]⟩ : ByteArray)]], st := 0, par := [], sz := 4, sym := false }, { es := [[I c, I 0, I 0, S (⟨#[]⟩ : ByteArray)]], st := 0, par := [], sz := 4, sym := false }])) [])) (
      .leaf ((Out.norm, ([Z, Z, PV.ptr 0 0 0, S (B w), S (B r), Bo more, PV.ptr 1 0 0, I (IntKind.i64.wrap (k + 1 + 1))] ++ List.replicate 84 Z), [{ es := [[I 0, I 0, I 0, S (⟨#[]⟩ : ByteArray)]], st := 0, par := [], sz := 4, sym := false }, { es := [[I c, I 0, I 0, S (⟨#[]⟩ : ByteArray)]], st := 0, par := [], sz := 4, sym := false }])) [])) (
     .leaf ((Out.ext 0, ([Z, Z, PV.ptr 0 0 0, Z, S (B r), Z, PV.ptr 1 0 0] ++ List.replicate 85 Z), [{ es := [[I 0, I 0, I 0, S (⟨#[]⟩ : ByteArray)]], st := 0, par := [], sz := 4, sym := false }, { es := [[I c, I 0, I 0, S (⟨#[]⟩ : ByteArray)]], st := 0, par := [], sz := 4, sym := false }])) []))) (by kernel_rfl) ?_
  have hf := find_step w (k + 1) (by omega)
  have hwl : wordS (k + 1) = B w ↔ wordL (k + 1) = w := by
    rw [show wordS (k + 1) = B (wordL (k + 1)) from rfl, B_inj]
  have hgo : ∀ c', k + 1 ≤ 11 → kR w more (k + 1 + 1) c' = kR w more (k + 1) c → LoopT P (loopAt Tryd.f25 4) (st25 w r more (IntKind.i64.wrap (k + 1 + 1))) (h25 c') (lt25 w r more (k + 1) c) := fun c' h1 h2 => by
    have := ih (by omega) c'
    rw [wrap64 (by omega) (by omega)]
    unfold lt25 at this ⊢
    rw [← h2]
    exact this
  have k1 : k + 1 ≤ 11 → wordS (k + 1) = B w → more = true → kR w more (k + 1 + 1) (k + 1) = kR w more (k + 1) c := fun h1 h2 h3 => by
    unfold kR
    rw [h3, hf h1, if_pos (hwl.1 h2), find_once w (k + 1) (by omega) h1 (hwl.1 h2)]
    simp
    omega
  have k2 : k + 1 ≤ 11 → ¬ wordS (k + 1) = B w → kR w more (k + 1 + 1) c = kR w more (k + 1) c := fun h1 h2 => by
    unfold kR
    rw [hf h1, if_neg (fun h => h2 (hwl.2 h))]
  have k3 : more = false → kR w more (k + 1 + 1) c = kR w more (k + 1) c := fun h => by unfold kR; rw [h]; rfl
  have hend : ¬ k + 1 ≤ 11 → kR w more (k + 1) c = c := fun h => by
    unfold kR
    rw [find_end w (k + 1) (by omega)]
    cases more <;> rfl
  simp only [Tr.All, AllP, Rnd, decide_eq_true_eq, decide_eq_false_iff_not, eqS_decide]
  repeat' with_reducible first | intro _ | refine And.intro ?_ ?_
  all_goals first | trivial | omega | exact hgo _ (by assumption) (k1 (by assumption) (by assumption) (by assumption)) | exact hgo _ (by assumption) (k2 (by assumption) (by assumption)) | exact hgo _ (by assumption) (k3 (by assumption)) | (unfold lt25; rw [hend (by assumption)]; rfl)

/-- What a line seems to say, as the reference reads it. -/
def evR (k : Int) (r : List UInt8) : Ev :=
  if k = 0 then ⟨0, 0, 0, ⟨#[]⟩⟩ else if k = 11 then ⟨k, 0, 0, B r⟩ else if k = 1 then ⟨k, numPart r, 0, B (rest1 r)⟩ else if k = 6 ∨ k = 9 then ⟨k, numPart r, 0, B ((unhexL (rest1 r)).getD [])⟩ else
  if k = 7 then ⟨k, numPart r, numPart (rest1 r), B ((unhexL (rest1 (rest1 r))).getD [])⟩ else ⟨k, (parse10 (B r)).getD 0, 0, ⟨#[]⟩⟩
def guessR (s : ByteArray) : Ev := evR (kR (cutL 32 s.data.toList).1 (cutL 32 s.data.toList).2.2 1 0) (cutL 32 s.data.toList).2.1
def L25 (w r : List UInt8) (more : Bool) : LEnv := fun _ => ([2, 3, 4, 5, 6, 7], [], fun _ _ => lt25 w r more 1 0)
theorem rguess_ok (s : ByteArray) (hs : s.size ≤ 70000) : Ok P 25 [S s] (.agg (guessR s).cells) := by
  refine fn_tr Ef_ok (L25 (cutL 32 s.data.toList).1 (cutL 32 s.data.toList).2.1 (cutL 32 s.data.toList).2.2) Tryd.func25 ((.node ((kR (cutL 32 s.data.toList).fst (cutL 32 s.data.toList).snd.snd 1 0 : Int) == 0) (
     .leaf (PV.agg [I (kR (cutL 32 s.data.toList).fst (cutL 32 s.data.toList).snd.snd 1 0), I 0, I 0, S (⟨#[]⟩ : ByteArray)]) [s.size ≤ 9223372036854775807, LoopSem P (loopAt Tryd.f25 4) (([Z, Z, PV.ptr 0 0 0, S (B (cutL 32 s.data.toList).fst), S (B (cutL 32 s.data.toList).snd.fst), Bo (cutL 32 s.data.toList).snd.snd, PV.ptr 1 0 0, I 1] ++ List.replicate 84 Z)) ([{ es := [[I 0, I 0, I 0, S (⟨#[]⟩ : ByteArray)]], st := 0, par := [], sz := 4, sym := false }, { es := [[I 0, I 0, I 0, S (⟨#[]⟩ : ByteArray)]], st := 0, par := [], sz := 4, sym := false }]) (Out.ext 0) (([Z, Z, PV.ptr 0 0 0, Z, S (B (cutL 32 s.data.toList).snd.fst), Z, PV.ptr 1 0 0] ++ List.replicate 85 Z)) ([{ es := [[I 0, I 0, I 0, S (⟨#[]⟩ : ByteArray)]], st := 0, par := [], sz := 4, sym := false }, { es := [[I (kR (cutL 32 s.data.toList).fst (cutL 32 s.data.toList).snd.snd 1 0), I 0, I 0, S (⟨#[]⟩ : ByteArray)]], st := 0, par := [], sz := 4, sym := false }])]) (
     .node ((kR (cutL 32 s.data.toList).fst (cutL 32 s.data.toList).snd.snd 1 0 : Int) == 11) (
      .leaf (PV.agg [I (kR (cutL 32 s.data.toList).fst (cutL 32 s.data.toList).snd.snd 1 0), I 0, I 0, S (B (cutL 32 s.data.toList).snd.fst)]) [s.size ≤ 9223372036854775807, LoopSem P (loopAt Tryd.f25 4) (([Z, Z, PV.ptr 0 0 0, S (B (cutL 32 s.data.toList).fst), S (B (cutL 32 s.data.toList).snd.fst), Bo (cutL 32 s.data.toList).snd.snd, PV.ptr 1 0 0, I 1] ++ List.replicate 84 Z)) ([{ es := [[I 0, I 0, I 0, S (⟨#[]⟩ : ByteArray)]], st := 0, par := [], sz := 4, sym := false }, { es := [[I 0, I 0, I 0, S (⟨#[]⟩ : ByteArray)]], st := 0, par := [], sz := 4, sym := false }]) (Out.ext 0) (([Z, Z, PV.ptr 0 0 0, Z, S (B (cutL 32 s.data.toList).snd.fst), Z, PV.ptr 1 0 0] ++ List.replicate 85 Z)) ([{ es := [[I 0, I 0, I 0, S (⟨#[]⟩ : ByteArray)]], st := 0, par := [], sz := 4, sym := false }, { es := [[I (kR (cutL 32 s.data.toList).fst (cutL 32 s.data.toList).snd.snd 1 0), I 0, I 0, S (⟨#[]⟩ : ByteArray)]], st := 0, par := [], sz := 4, sym := false }])]) (
      .node ((kR (cutL 32 s.data.toList).fst (cutL 32 s.data.toList).snd.snd 1 0 : Int) == 1) (
       .leaf (PV.agg [I (kR (cutL 32 s.data.toList).fst (cutL 32 s.data.toList).snd.snd 1 0), I (numPart (B (cutL 32 s.data.toList).snd.fst).data.toList), I 0, S (B (rest1 (B (cutL 32 s.data.toList).snd.fst).data.toList))]) [s.size ≤ 9223372036854775807, LoopSem P (loopAt Tryd.f25 4) (([Z, Z, PV.ptr 0 0 0, S (B (cutL 32 s.data.toList).fst), S (B (cutL 32 s.data.toList).snd.fst), Bo (cutL 32 s.data.toList).snd.snd, PV.ptr 1 0 0, I 1] ++ List.replicate 84 Z)) ([{ es := [[I 0, I 0, I 0, S (⟨#[]⟩ : ByteArray)]], st := 0, par := [], sz := 4, sym := false }, { es := [[I 0, I 0, I 0, S (⟨#[]⟩ : ByteArray)]], st := 0, par := [], sz := 4, sym := false }]) (Out.ext 0) (([Z, Z, PV.ptr 0 0 0, Z, S (B (cutL 32 s.data.toList).snd.fst), Z, PV.ptr 1 0 0] ++ List.replicate 85 Z)) ([{ es := [[I 0, I 0, I 0, S (⟨#[]⟩ : ByteArray)]], st := 0, par := [], sz := 4, sym := false }, { es := [[I (kR (cutL 32 s.data.toList).fst (cutL 32 s.data.toList).snd.snd 1 0), I 0, I 0, S (⟨#[]⟩ : ByteArray)]], st := 0, par := [], sz := 4, sym := false }]), (B (cutL 32 s.data.toList).snd.fst).size ≤ 9223372036854775807]) (
       .node ((kR (cutL 32 s.data.toList).fst (cutL 32 s.data.toList).snd.snd 1 0 : Int) == 6) (
        .leaf (PV.agg [I (kR (cutL 32 s.data.toList).fst (cutL 32 s.data.toList).snd.snd 1 0), I (numPart (B (cutL 32 s.data.toList).snd.fst).data.toList), I 0, S (B ((unhexL (B (rest1 (B (cutL 32 s.data.toList).snd.fst).data.toList)).data.toList).getD []))]) [s.size ≤ 9223372036854775807, LoopSem P (loopAt Tryd.f25 4) (([Z, Z, PV.ptr 0 0 0, S (B (cutL 32 s.data.toList).fst), S (B (cutL 32 s.data.toList).snd.fst), Bo (cutL 32 s.data.toList).snd.snd, PV.ptr 1 0 0, I 1] ++ List.replicate 84 Z)) ([{ es := [[I 0, I 0, I 0, S (⟨#[]⟩ : ByteArray)]], st := 0, par := [], sz := 4, sym := false }, { es := [[I 0, I 0, I 0, S (⟨#[]⟩ : ByteArray)]], st := 0, par := [], sz := 4, sym := false }]) (Out.ext 0) (([Z, Z, PV.ptr 0 0 0, Z, S (B (cutL 32 s.data.toList).snd.fst), Z, PV.ptr 1 0 0] ++ List.replicate 85 Z)) ([{ es := [[I 0, I 0, I 0, S (⟨#[]⟩ : ByteArray)]], st := 0, par := [], sz := 4, sym := false }, { es := [[I (kR (cutL 32 s.data.toList).fst (cutL 32 s.data.toList).snd.snd 1 0), I 0, I 0, S (⟨#[]⟩ : ByteArray)]], st := 0, par := [], sz := 4, sym := false }]), (B (cutL 32 s.data.toList).snd.fst).size ≤ 9223372036854775807, (B (rest1 (B (cutL 32 s.data.toList).snd.fst).data.toList)).size ≤ 4294967296]) (
        .node ((kR (cutL 32 s.data.toList).fst (cutL 32 s.data.toList).snd.snd 1 0 : Int) == 9) (
         .leaf (PV.agg [I (kR (cutL 32 s.data.toList).fst (cutL 32 s.data.toList).snd.snd 1 0), I (numPart (B (cutL 32 s.data.toList).snd.fst).data.toList), I 0, S (B ((unhexL (B (rest1 (B (cutL 32 s.data.toList).snd.fst).data.toList)).data.toList).getD []))]) [s.size ≤ 9223372036854775807, LoopSem P (loopAt Tryd.f25 4) (([Z, Z, PV.ptr 0 0 0, S (B (cutL 32 s.data.toList).fst), S (B (cutL 32 s.data.toList).snd.fst), Bo (cutL 32 s.data.toList).snd.snd, PV.ptr 1 0 0, I 1] ++ List.replicate 84 Z)) ([{ es := [[I 0, I 0, I 0, S (⟨#[]⟩ : ByteArray)]], st := 0, par := [], sz := 4, sym := false }, { es := [[I 0, I 0, I 0, S (⟨#[]⟩ : ByteArray)]], st := 0, par := [], sz := 4, sym := false }]) (Out.ext 0) (([Z, Z, PV.ptr 0 0 0, Z, S (B (cutL 32 s.data.toList).snd.fst), Z, PV.ptr 1 0 0] ++ List.replicate 85 Z)) ([{ es := [[I 0, I 0, I 0, S (⟨#[]⟩ : ByteArray)]], st := 0, par := [], sz := 4, sym := false }, { es := [[I (kR (cutL 32 s.data.toList).fst (cutL 32 s.data.toList).snd.snd 1 0), I 0, I 0, S (⟨#[]⟩ : ByteArray)]], st := 0, par := [], sz := 4, sym := false }]), (B (cutL 32 s.data.toList).snd.fst).size ≤ 9223372036854775807, (B (rest1 (B (cutL 32 s.data.toList).snd.fst).data.toList)).size ≤ 4294967296]) (
         .node ((kR (cutL 32 s.data.toList).fst (cutL 32 s.data.toList).snd.snd 1 0 : Int) == 7) (
          .leaf (PV.agg [I (kR (cutL 32 s.data.toList).fst (cutL 32 s.data.toList).snd.snd 1 0), I (numPart (B (cutL 32 s.data.toList).snd.fst).data.toList), I (numPart (B (rest1 (B (cutL 32 s.data.toList).snd.fst).data.toList)).data.toList), S (B ((unhexL (B (rest1 (B (rest1 (B (cutL 32 s.data.toList).snd.fst).data.toList)).data.toList)).data.toList).getD []))]) [s.size ≤ 9223372036854775807, LoopSem P (loopAt Tryd.f25 4) (([Z, Z, PV.ptr 0 0 0, S (B (cutL 32 s.data.toList).fst), S (B (cutL 32 s.data.toList).snd.fst), Bo (cutL 32 s.data.toList).snd.snd, PV.ptr 1 0 0, I 1] ++ List.replicate 84 Z)) ([{ es := [[I 0, I 0, I 0, S (⟨#[]⟩ : ByteArray)]], st := 0, par := [], sz := 4, sym := false }, { es := [[I 0, I 0, I 0, S (⟨#[]⟩ : ByteArray)]], st := 0, par := [], sz := 4, sym := false }]) (Out.ext 0) (([Z, Z, PV.ptr 0 0 0, Z, S (B (cutL 32 s.data.toList).snd.fst), Z, PV.ptr 1 0 0] ++ List.replicate 85 Z)) ([{ es := [[I 0, I 0, I 0, S (⟨#[]⟩ : ByteArray)]], st := 0, par := [], sz := 4, sym := false }, { es := [[I (kR (cutL 32 s.data.toList).fst (cutL 32 s.data.toList).snd.snd 1 0), I 0, I 0, S (⟨#[]⟩ : ByteArray)]], st := 0, par := [], sz := 4, sym := false }]), (B (cutL 32 s.data.toList).snd.fst).size ≤ 9223372036854775807, (B (rest1 (B (cutL 32 s.data.toList).snd.fst).data.toList)).size ≤ 9223372036854775807, (B (rest1 (B (rest1 (B (cutL 32 s.data.toList).snd.fst).data.toList)).data.toList)).size ≤ 4294967296]) (
          .leaf (PV.agg [I (kR (cutL 32 s.data.toList).fst (cutL 32 s.data.toList).snd.snd 1 0), I ((parse10 (B (cutL 32 s.data.toList).snd.fst)).getD 0), I 0, S (⟨#[]⟩ : ByteArray)]) [s.size ≤ 9223372036854775807, LoopSem P (loopAt Tryd.f25 4) (([Z, Z, PV.ptr 0 0 0, S (B (cutL 32 s.data.toList).fst), S (B (cutL 32 s.data.toList).snd.fst), Bo (cutL 32 s.data.toList).snd.snd, PV.ptr 1 0 0, I 1] ++ List.replicate 84 Z)) ([{ es := [[I 0, I 0, I 0, S (⟨#[]⟩ : ByteArray)]], st := 0, par := [], sz := 4, sym := false }, { es := [[I 0, I 0, I 0, S (⟨#[]⟩ : ByteArray)]], st := 0, par := [], sz := 4, sym := false }]) (Out.ext 0) (([Z, Z, PV.ptr 0 0 0, Z, S (B (cutL 32 s.data.toList).snd.fst), Z, PV.ptr 1 0 0] ++ List.replicate 85 Z)) ([{ es := [[I 0, I 0, I 0, S (⟨#[]⟩ : ByteArray)]], st := 0, par := [], sz := 4, sym := false }, { es := [[I (kR (cutL 32 s.data.toList).fst (cutL 32 s.data.toList).snd.snd 1 0), I 0, I 0, S (⟨#[]⟩ : ByteArray)]], st := 0, par := [], sz := 4, sym := false }]), (B (cutL 32 s.data.toList).snd.fst).size ≤ 9223372036854775807])))))))) (by kernel_rfl) ?_
  have hl := (cutL_le 32 s.data.toList).2
  rw [← Lib.size_eq] at hl
  have c1 := lp25 (cutL 32 s.data.toList).1 (cutL 32 s.data.toList).2.1 (cutL 32 s.data.toList).2.2 0 (by omega) (by omega) 0
  unfold guessR evR
  have hr := cutL_le 32 (cutL 32 s.data.toList).2.1
  have hr2 := cutL_le 32 (rest1 (cutL 32 s.data.toList).2.1)
  have hr3 : rest1 (cutL 32 s.data.toList).2.1 = (cutL 32 (cutL 32 s.data.toList).2.1).2.1 := rfl
  have hr4 : rest1 (rest1 (cutL 32 s.data.toList).2.1) = (cutL 32 (rest1 (cutL 32 s.data.toList).2.1)).2.1 := rfl
  have hle : ∀ x : List UInt8, (rest1 x).length ≤ x.length := fun x => (cutL_le 32 x).2
  have q1 := hle (cutL 32 s.data.toList).2.1
  have q2 := hle (rest1 (cutL 32 s.data.toList).2.1)
  have q3 := hle (cutL 32 (cutL 32 s.data.toList).2.1).2.1
  simp only [B_list, B_size]
  simp only [Tr.All, AllP, beq_iff_eq, beq_eq_false_iff_ne]
  repeat' with_reducible first | intro _ | refine And.intro ?_ ?_
  all_goals first | trivial | omega | exact c1.one | (simp [*, Ev.cells]; done) | (rw [hr4]; omega) | (rw [hr3]; omega)
end Go.Proofs.YtldmgdphelgffaaDoor
