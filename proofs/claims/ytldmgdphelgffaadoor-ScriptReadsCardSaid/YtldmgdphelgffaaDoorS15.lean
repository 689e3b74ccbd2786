/- Contracts of chapter 53: Parse. -/
import Derived.Test.YtldmgdphelgffaaDoorS14
namespace Go.Proofs.YtldmgdphelgffaaDoor
open Go.PS

theorem parseL_range : ∀ (l : List UInt8) (n m : Int), 0 ≤ n → n ≤ maxId → parseL l n = some m → 0 ≤ m ∧ m ≤ maxId
  | [], n, m, h0, h1, h => by rw [parseL] at h; cases h; exact ⟨h0, h1⟩
  | c :: l, n, m, h0, h1, h => by
    rw [parseL] at h
    split at h
    · rename_i hc
      exact parseL_range l _ m (by omega) hc.2.2 h
    · cases h
theorem parse10_range (s : ByteArray) : 0 ≤ (parse10 s).getD 0 ∧ (parse10 s).getD 0 ≤ maxId := by
  cases h : parse10 s with
  | none => exact ⟨by decide, by decide⟩
  | some n =>
    unfold parse10 at h
    split at h
    · cases h
    · exact parseL_range _ 0 n (by decide) (by decide) h
theorem unhexL_len : ∀ (n : Nat) (l m : List UInt8), l.length ≤ n → unhexL l = some m → m.length ≤ l.length
  | _, [], m, _, h => by rw [unhexL] at h; cases h; simp
  | _, [_], m, _, h => by rw [unhexL] at h; cases h
  | n + 1, x :: y :: r, m, hn, h => by
    rw [unhexL] at h
    split at h
    · cases h
    · cases hr : unhexL r with
      | none => rw [hr] at h; cases h
      | some q =>
        rw [hr] at h
        simp only [Option.map_some, Option.some.injEq] at h
        have := unhexL_len n r q (by simp at hn; omega) hr
        rw [← h]
        simp
        omega
theorem unhex_le (l : List UInt8) : ((unhexL l).getD []).length ≤ l.length := by
  cases h : unhexL l with
  | none => simp
  | some m => exact unhexL_len _ l m (Nat.le_refl _) h
theorem rest1_le (x : List UInt8) : (rest1 x).length ≤ x.length := (cutL_le 32 x).2
theorem inR_id {n : Int} (h : 0 ≤ n ∧ n ≤ maxId) : InR n := ⟨by have := h.1; omega, by have := h.2; unfold maxId at this; omega⟩

structure EvW (e : Ev) (n : Nat) : Prop where
  t : e.text.size ≤ n
  a : InR e.a
  b : InR e.b
theorem numPart_range (r : List UInt8) : InR (numPart r) := inR_id (parse10_range _)
theorem in0 : InR 0 := ⟨by omega, by omega⟩
theorem evP_w (k : Int) (r : List UInt8) : EvW (evP k r) r.length := by
  have hr : ∀ (j : Int) (x : List UInt8), (rN k j x).length ≤ x.length := fun j x => by
    unfold rN
    split
    · exact rest1_le x
    · exact Nat.le_refl _
  have h1 := hr 1 r
  have h2 := hr 2 (rN k 1 r)
  have h3 := unhex_le (rN k 2 (rN k 1 r))
  refine ⟨?_, ?_, ?_⟩
  · unfold evP
    simp only
    split
    · rw [B_size]; omega
    · split
      · rw [B_size]; omega
      · exact Nat.zero_le _
  · unfold evP aN
    simp only
    split
    · exact numPart_range _
    · exact in0
  · unfold evP bN
    simp only
    split
    · exact numPart_range _
    · exact in0
theorem guessE_w (s : ByteArray) : EvW (guessE s) s.size := by
  have hl := (cutL_le 32 s.data.toList).2
  rw [← Lib.size_eq] at hl
  unfold guessE
  split
  · have := evP_w (↑(‹Nat›)) (cutL 32 s.data.toList).2.1
    exact ⟨Nat.le_trans this.t hl, this.a, this.b⟩
  · exact ⟨Nat.zero_le _, in0, in0⟩
theorem evR_w (k : Int) (r : List UInt8) : EvW (evR k r) r.length := by
  have h1 := rest1_le r
  have h2 := rest1_le (rest1 r)
  have h3 := unhex_le (rest1 r)
  have h4 := unhex_le (rest1 (rest1 r))
  unfold evR
  split
  · exact ⟨Nat.zero_le _, in0, in0⟩
  split
  · exact ⟨by simp, in0, in0⟩
  split
  · exact ⟨by simpa using h1, numPart_range _, in0⟩
  split
  · exact ⟨by simp only [B_size]; omega, numPart_range _, in0⟩
  split
  · exact ⟨by simp only [B_size]; omega, numPart_range _, numPart_range _⟩
  · exact ⟨Nat.zero_le _, inR_id (parse10_range _), in0⟩
theorem guessR_w (s : ByteArray) : EvW (guessR s) s.size := by
  have hl := (cutL_le 32 s.data.toList).2
  rw [← Lib.size_eq] at hl
  have := evR_w (kR (cutL 32 s.data.toList).1 (cutL 32 s.data.toList).2.2 1 0) (cutL 32 s.data.toList).2.1
  exact ⟨Nat.le_trans this.t hl, this.a, this.b⟩

def zEv : Ev := ⟨0, 0, 0, ⟨#[]⟩⟩
def isLine (e : Ev) (s : ByteArray) : Bool := lineOk e && decide (B (lineT e) = s)
def parseS (s : ByteArray) : Ev × Int := if 65536 < s.size then (zEv, 4) else if isLine (guessE s) s then (guessE s, 0) else (zEv, 2)
def parseP (s : ByteArray) : PV := .tup [.agg (parseS s).1.cells, I (parseS s).2]
theorem same_guess (s : ByteArray) (h : isLine (guessR s) s = true ∨ isLine (guessE s) s = true) : guessR s = guessE s := by
  have key : ∀ e, isLine e s = true → guessE s = e ∧ guessR s = e := fun e he => by
    unfold isLine at he
    rw [Bool.and_eq_true, decide_eq_true_eq] at he
    have := read_line e he.1
    rw [he.2] at this
    exact this
  rcases h with h | h
  · exact (key _ h).1.symm
  · exact (key _ h).2
theorem parseS_R (s : ByteArray) : parseS s = if 65536 < s.size then (zEv, 4) else if isLine (guessR s) s then (guessR s, 0) else (zEv, 2) := by
  unfold parseS
  split
  · rfl
  · by_cases h1 : isLine (guessR s) s = true
    · have := same_guess s (.inl h1)
      rw [this]
    · by_cases h2 : isLine (guessE s) s = true
      · have := same_guess s (.inr h2)
        rw [this]
      · rw [if_neg h1, if_neg h2]

def d24 : List PV → Option (PV × List Prop)
  | [.sc (.string s)] => some (.agg (guessE s).cells, [s.size ≤ 70000])
  | _ => none
def d25 : List PV → Option (PV × List Prop)
  | [.sc (.string s)] => some (.agg (guessR s).cells, [s.size ≤ 70000])
  | _ => none
def Eg : Env := addE 24 d24 (addE 25 d25 Ef)
theorem Eg_ok : EnvOk P Eg :=
  addE_ok (addE_ok Ef_ok
    (fun l r ob h ho => by unfold d25 at h; split at h <;> cases h; exact rguess_ok _ (ho _ (by simp))))
    (fun l r ob h ho => by unfold d24 at h; split at h <;> cases h; exact guess_ok _ (ho _ (by simp)))

theorem parse53_ok (s : ByteArray) (hs : s.size ≤ 9223372036854775807) : Ok P 10 [S s] (parseP s) := by
  refine fn_tr Eg_ok L0 Tryd.func10 ((.node (decide ((↑s.size : Int) > 65536)) (
     .leaf (PV.tup [PV.agg [I 0, I 0, I 0, S (⟨#[]⟩ : ByteArray)], I 4]) []) (
     .node ((if lineOk (guessE s) = true then 0 else 1 : Int) != 0) (
      .leaf (PV.tup [PV.agg [I 0, I 0, I 0, S (⟨#[]⟩ : ByteArray)], I 2]) [s.size ≤ 70000, (guessE s).text.size ≤ 70000, InR (guessE s).a, InR (guessE s).b]) (
      .node (!eqS (if lineOk (guessE s) = true then B (lineT (guessE s)) else (⟨#[]⟩ : ByteArray)) s) (
       .leaf (PV.tup [PV.agg [I 0, I 0, I 0, S (⟨#[]⟩ : ByteArray)], I 2]) [s.size ≤ 70000, (guessE s).text.size ≤ 70000, InR (guessE s).a, InR (guessE s).b]) (
       .leaf (PV.tup [PV.agg [I (guessE s).kind, I (guessE s).a, I (guessE s).b, S (guessE s).text], I 0]) [s.size ≤ 70000, (guessE s).text.size ≤ 70000, InR (guessE s).a, InR (guessE s).b]))))) (by kernel_rfl) ?_
  obtain ⟨g1, g2, g3⟩ := guessE_w s
  have p1 : 65536 < s.size → parseP s = .tup [.agg zEv.cells, I 4] := fun h => by unfold parseP; rw [show parseS s = if 65536 < s.size then (zEv, 4) else if isLine (guessE s) s then (guessE s, 0) else (zEv, 2) from rfl, if_pos h]
  have p2 : ¬ 65536 < s.size → isLine (guessE s) s = false → parseP s = .tup [.agg zEv.cells, I 2] := fun h h2 => by unfold parseP; rw [show parseS s = if 65536 < s.size then (zEv, 4) else if isLine (guessE s) s then (guessE s, 0) else (zEv, 2) from rfl, if_neg h, h2]; rfl
  have p3 : ¬ 65536 < s.size → isLine (guessE s) s = true → parseP s = .tup [.agg (guessE s).cells, I 0] := fun h h2 => by unfold parseP; rw [show parseS s = if 65536 < s.size then (zEv, 4) else if isLine (guessE s) s then (guessE s, 0) else (zEv, 2) from rfl, if_neg h, if_pos h2]
  unfold isLine at p2 p3
  simp only [Tr.All, AllP, decide_eq_true_eq, decide_eq_false_iff_not, bne_iff_ne, bne_eq_false_iff_eq, Bool.not_eq_true', Bool.not_eq_false', eqS_decide]
  repeat' with_reducible first | intro _ | refine And.intro ?_ ?_
  all_goals first | trivial | omega | exact (p1 (by omega)).symm | exact (p2 (by omega) (by cases h : lineOk (guessE s) <;> simp_all)).symm | exact (p3 (by omega) (by cases h : lineOk (guessE s) <;> simp_all)).symm | assumption

theorem rparse53_ok (s : ByteArray) (hs : s.size ≤ 9223372036854775807) : Ok P 11 [S s] (parseP s) := by
  refine fn_tr Eg_ok L0 Tryd.func11 ((.node (decide ((↑s.size : Int) > 65536)) (
     .leaf (PV.tup [PV.agg [I 0, I 0, I 0, S (⟨#[]⟩ : ByteArray)], I 4]) []) (
     .node ((if lineOk (guessR s) = true then 0 else 1 : Int) != 0) (
      .leaf (PV.tup [PV.agg [I 0, I 0, I 0, S (⟨#[]⟩ : ByteArray)], I 2]) [s.size ≤ 70000, (guessR s).text.size ≤ 70000, InR (guessR s).a, InR (guessR s).b]) (
      .node (!eqS (if lineOk (guessR s) = true then B (lineT (guessR s)) else (⟨#[]⟩ : ByteArray)) s) (
       .leaf (PV.tup [PV.agg [I 0, I 0, I 0, S (⟨#[]⟩ : ByteArray)], I 2]) [s.size ≤ 70000, (guessR s).text.size ≤ 70000, InR (guessR s).a, InR (guessR s).b]) (
       .leaf (PV.tup [PV.agg [I (guessR s).kind, I (guessR s).a, I (guessR s).b, S (guessR s).text], I 0]) [s.size ≤ 70000, (guessR s).text.size ≤ 70000, InR (guessR s).a, InR (guessR s).b]))))) (by kernel_rfl) ?_
  obtain ⟨g1, g2, g3⟩ := guessR_w s
  have p1 : 65536 < s.size → parseP s = .tup [.agg zEv.cells, I 4] := fun h => by unfold parseP; rw [parseS_R, if_pos h]
  have p2 : ¬ 65536 < s.size → isLine (guessR s) s = false → parseP s = .tup [.agg zEv.cells, I 2] := fun h h2 => by unfold parseP; rw [parseS_R, if_neg h, h2]; rfl
  have p3 : ¬ 65536 < s.size → isLine (guessR s) s = true → parseP s = .tup [.agg (guessR s).cells, I 0] := fun h h2 => by unfold parseP; rw [parseS_R, if_neg h, if_pos h2]
  unfold isLine at p2 p3
  simp only [Tr.All, AllP, decide_eq_true_eq, decide_eq_false_iff_not, bne_iff_ne, bne_eq_false_iff_eq, Bool.not_eq_true', Bool.not_eq_false', eqS_decide]
  repeat' with_reducible first | intro _ | refine And.intro ?_ ?_
  all_goals first | trivial | omega | exact (p1 (by omega)).symm | exact (p2 (by omega) (by cases h : lineOk (guessR s) <;> simp_all)).symm | exact (p3 (by omega) (by cases h : lineOk (guessR s) <;> simp_all)).symm | assumption


/-! What an event led to. -/
structure Told where
  (out status : ByteArray) (err : Int)
def Told.cells (t : Told) : List PV := [S t.out, S t.status, I t.err]
def tellT (t : Told) : List UInt8 := Lib.itoa t.err ++ [32] ++ hexOr t.status.data.toList ++ [32] ++ hexOr t.out.data.toList ++ [10]
theorem tell_ok (t : Told) (h1 : t.out.size ≤ 70000) (h2 : t.status.size ≤ 70000) (h3 : InR t.err) : Ok P 12 [.agg t.cells] (S (B (tellT t))) := by
  refine fn_tr Eg_ok L0 Tryd.func12 ((.leaf (S (B (Lib.itoa t.err) ++ (⟨#[32]⟩ : ByteArray) ++ B (hexOr t.status.data.toList) ++ (⟨#[32]⟩ : ByteArray) ++ B (hexOr t.out.data.toList) ++ (⟨#[10]⟩ : ByteArray))) [InR t.err, (B (Lib.itoa t.err)).size + (⟨#[32]⟩ : ByteArray).size ≤ 9223372036854775807, t.status.size ≤ 4294967296, (B (Lib.itoa t.err) ++ (⟨#[32]⟩ : ByteArray)).size + (B (hexOr t.status.data.toList)).size ≤ 9223372036854775807, (B (Lib.itoa t.err) ++ (⟨#[32]⟩ : ByteArray) ++ B (hexOr t.status.data.toList)).size + (⟨#[32]⟩ : ByteArray).size ≤ 9223372036854775807, t.out.size ≤ 4294967296, (B (Lib.itoa t.err) ++ (⟨#[32]⟩ : ByteArray) ++ B (hexOr t.status.data.toList) ++ (⟨#[32]⟩ : ByteArray)).size + (B (hexOr t.out.data.toList)).size ≤ 9223372036854775807, (B (Lib.itoa t.err) ++ (⟨#[32]⟩ : ByteArray) ++ B (hexOr t.status.data.toList) ++ (⟨#[32]⟩ : ByteArray) ++ B (hexOr t.out.data.toList)).size + (⟨#[10]⟩ : ByteArray).size ≤ 9223372036854775807])) (by kernel_rfl) ?_
  have i1 := itoa_len t.err h3
  have i2 := (hexOr_length t.status.data.toList).2
  have i3 := (hexOr_length t.out.data.toList).2
  rw [← Lib.size_eq] at i2 i3
  simp only [show (⟨#[32]⟩ : ByteArray) = B [32] from rfl, show (⟨#[10]⟩ : ByteArray) = B [10] from rfl, B_append]
  simp only [Tr.All, AllP]
  repeat' with_reducible first | intro _ | refine And.intro ?_ ?_
  all_goals first | trivial | omega | rfl | (simp only [B_size, List.length_append, List.length_singleton]; omega)
theorem rtell_ok (t : Told) (h1 : t.out.size ≤ 70000) (h2 : t.status.size ≤ 70000) (h3 : InR t.err) : Ok P 13 [.agg t.cells] (S (B (tellT t))) := by
  refine fn_tr Eg_ok L0 Tryd.func13 ((.leaf (S (B (Lib.itoa t.err) ++ (⟨#[32]⟩ : ByteArray) ++ B (hexOr t.status.data.toList) ++ (⟨#[32]⟩ : ByteArray) ++ B (hexOr t.out.data.toList) ++ (⟨#[10]⟩ : ByteArray))) [InR t.err, (B (Lib.itoa t.err)).size + (⟨#[32]⟩ : ByteArray).size ≤ 9223372036854775807, t.status.size ≤ 4294967296, (B (Lib.itoa t.err) ++ (⟨#[32]⟩ : ByteArray)).size + (B (hexOr t.status.data.toList)).size ≤ 9223372036854775807, (B (Lib.itoa t.err) ++ (⟨#[32]⟩ : ByteArray) ++ B (hexOr t.status.data.toList)).size + (⟨#[32]⟩ : ByteArray).size ≤ 9223372036854775807, t.out.size ≤ 4294967296, (B (Lib.itoa t.err) ++ (⟨#[32]⟩ : ByteArray) ++ B (hexOr t.status.data.toList) ++ (⟨#[32]⟩ : ByteArray)).size + (B (hexOr t.out.data.toList)).size ≤ 9223372036854775807, (B (Lib.itoa t.err) ++ (⟨#[32]⟩ : ByteArray) ++ B (hexOr t.status.data.toList) ++ (⟨#[32]⟩ : ByteArray) ++ B (hexOr t.out.data.toList)).size + (⟨#[10]⟩ : ByteArray).size ≤ 9223372036854775807])) (by kernel_rfl) ?_
  have i1 := itoa_len t.err h3
  have i2 := (hexOr_length t.status.data.toList).2
  have i3 := (hexOr_length t.out.data.toList).2
  rw [← Lib.size_eq] at i2 i3
  simp only [show (⟨#[32]⟩ : ByteArray) = B [32] from rfl, show (⟨#[10]⟩ : ByteArray) = B [10] from rfl, B_append]
  simp only [Tr.All, AllP]
  repeat' with_reducible first | intro _ | refine And.intro ?_ ?_
  all_goals first | trivial | omega | rfl | (simp only [B_size, List.length_append, List.length_singleton]; omega)

def d10 : List PV → Option (PV × List Prop)
  | [.sc (.string s)] => some (parseP s, [s.size ≤ 9223372036854775807])
  | _ => none
def d12 : List PV → Option (PV × List Prop)
  | [.agg [.sc (.string o), .sc (.string s), .sc (.int .i64 n)]] => some (S (B (tellT ⟨o, s, n⟩)), [o.size ≤ 70000, s.size ≤ 70000, InR n])
  | _ => none
def Eh : Env := addE 10 d10 (addE 11 d10 (addE 12 d12 (addE 13 d12 Eg)))
theorem Eh_ok : EnvOk P Eh :=
  addE_ok (addE_ok (addE_ok (addE_ok Eg_ok
    (fun l r ob h ho => by unfold d12 at h; split at h <;> cases h; exact rtell_ok ⟨_, _, _⟩ (ho _ (by simp)) (ho _ (by simp)) (ho _ (by simp))))
    (fun l r ob h ho => by unfold d12 at h; split at h <;> cases h; exact tell_ok ⟨_, _, _⟩ (ho _ (by simp)) (ho _ (by simp)) (ho _ (by simp))))
    (fun l r ob h ho => by unfold d10 at h; split at h <;> cases h; exact rparse53_ok _ (ho _ (by simp))))
    (fun l r ob h ho => by unfold d10 at h; split at h <;> cases h; exact parse53_ok _ (ho _ (by simp)))
end Go.Proofs.YtldmgdphelgffaaDoor
