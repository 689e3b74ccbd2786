/- Contracts of chapter 53: an event's line. -/
import Derived.Test.YtldmgdphelgffaaDoorS7
namespace Go.Proofs.YtldmgdphelgffaaDoor
open Go.PS

def h8 (e : Ev) : Hp := [⟨[e.cells], 0, [], 4, false⟩, ⟨[[S (wordS e.kind), I (numS e.kind), Bo (plainK e.kind), Bo (bytesK e.kind)]], 0, [], 4, false⟩, ⟨[[I e.a], [I e.b]], 0, [], 1, false⟩]
def st8 (s : List UInt8) (i : Int) : List PV := ([Z, .ptr 0 0 0, Z, Z, .ptr 1 0 0, Z, S (B s), Z, Z, Z, Z, Z, Z, Z, Z, Z, Z, Z, Z, Z, Z, Z, Z, Z, Z, Z, Z, Z, Z, Z, Z, Z, Z, Z, Z, Z, Z, Z, Z, Z, Z, Z, Z, Z, Z, Z, .own 2 0 2, I 2, I i] ++ List.replicate 49 Z)
def end8 (e : Ev) (s : List UInt8) : LT := .out (.ext 0) (([Z, .ptr 0 0 0, Z, Z, .ptr 1 0 0, Z, S (B s)] ++ List.replicate 91 Z)) ((h8 e).take 2)
def okN (e : Ev) (j n : Int) : Bool := !(decide (numS e.kind ≤ j) && decide (n ≠ 0)) && idOk n
def txN (e : Ev) (j n : Int) : List UInt8 := if j < numS e.kind then 32 :: Lib.itoa n else []
def bad8 : LT := .out .ret (([Z, Z, S ⟨#[]⟩, I 1] ++ List.replicate 94 Z)) []
def lt81 (e : Ev) (s : List UInt8) : LT := .ite (okN e 1 e.b) (end8 e (s ++ txN e 1 e.b)) bad8
def lt80 (e : Ev) (s : List UInt8) : LT := .ite (okN e 0 e.a && okN e 1 e.b) (end8 e (s ++ txN e 0 e.a ++ txN e 1 e.b)) bad8

theorem lp82 (e : Ev) (s : List UInt8) : LoopT P (loopAt Tryd.f8 7) (st8 s 2) (h8 e) (end8 e s) := by
  refine loop_tr Ec_ok L0 [1, 4, 6, 46, 47, 48] [2, 3, 10001, 10004, 10006] ((.say .conc (
    .leaf ((Out.ext 0, ([Z, PV.ptr 0 0 0, Z, Z, PV.ptr 1 0 0, Z, S (B s)] ++ List.replicate 91 Z), [{ es := [[I e.kind, I e.a, I e.b, S e.text]], st := 0, par := [], sz := 4, sym := false }, { es := [[S (wordS e.kind), I (numS e.kind), Bo (plainK e.kind), Bo (bytesK e.kind)]], st := 0, par := [], sz := 4, sym := false }])) []))) (by kernel_rfl) ?_
  simp only [Tr.All, AllP, Rnd]
  repeat' with_reducible first | intro _ | refine And.intro ?_ ?_
  all_goals first | trivial | omega | rfl

theorem itoa_len (n : Int) (h : InR n) : (Lib.itoa n).length ≤ 30 := by
  have hl := decDigits_len 19 n.natAbs (by unfold InR at h; omega)
  unfold Lib.itoa
  split
  · simp; omega
  · rw [show n.toNat = n.natAbs by omega]; omega

theorem lp81 (e : Ev) (s : List UInt8) (hs : s.length ≤ 9223372036854770000) : LoopT P (loopAt Tryd.f8 7) (st8 s 1) (h8 e) (lt81 e s) := by
  refine loop_tr Ec_ok L0 [1, 4, 6, 46, 47, 48] [2, 3, 10001, 10004, 10006] ((.say .conc (
    .node (decide (1 ≥ numS e.kind)) (
     .node ((e.b : Int) != 0) (
      .leaf ((Out.ret, ([Z, Z, S (⟨#[]⟩ : ByteArray), I 1] ++ List.replicate 94 Z), [])) [(0 : Int) ≤ 1, (1 : Int) < 2]) (
      .node (decide (e.b < 0)) (
       .leaf ((Out.ret, ([Z, Z, S (⟨#[]⟩ : ByteArray), I 1] ++ List.replicate 94 Z), [])) [(0 : Int) ≤ 1, (1 : Int) < 2]) (
       .node (decide (e.b > 1099511627776)) (
        .leaf ((Out.ret, ([Z, Z, S (⟨#[]⟩ : ByteArray), I 1] ++ List.replicate 94 Z), [])) [(0 : Int) ≤ 1, (1 : Int) < 2]) (
        .node (decide (1 < numS e.kind)) (
         .leaf ((Out.norm, ([Z, PV.ptr 0 0 0, Z, Z, PV.ptr 1 0 0, Z, S (B s ++ ((⟨#[32]⟩ : ByteArray) ++ B (Lib.itoa e.b))), Z, Z, Z, Z, Z, Z, Z, Z, Z, Z, Z, Z, Z, Z, Z, Z, Z, Z, Z, Z, Z, Z, Z, Z, Z, Z, Z, Z, Z, Z, Z, Z, Z, Z, Z, Z, Z, Z, Z, PV.own 2 0 2, I 2, I 2] ++ List.replicate 49 Z), [{ es := [[I e.kind, I e.a, I e.b, S e.text]], st := 0, par := [], sz := 4, sym := false }, { es := [[S (wordS e.kind), I (numS e.kind), Bo (plainK e.kind), Bo (bytesK e.kind)]], st := 0, par := [], sz := 4, sym := false }, { es := [[I e.a], [I e.b]], st := 0, par := [], sz := 1, sym := false }])) [(0 : Int) ≤ 1, (1 : Int) < 2, InR e.b, (⟨#[32]⟩ : ByteArray).size + (B (Lib.itoa e.b)).size ≤ 9223372036854775807, (B s).size + ((⟨#[32]⟩ : ByteArray) ++ B (Lib.itoa e.b)).size ≤ 9223372036854775807]) (
         .leaf ((Out.norm, ([Z, PV.ptr 0 0 0, Z, Z, PV.ptr 1 0 0, Z, S (B s), Z, Z, Z, Z, Z, Z, Z, Z, Z, Z, Z, Z, Z, Z, Z, Z, Z, Z, Z, Z, Z, Z, Z, Z, Z, Z, Z, Z, Z, Z, Z, Z, Z, Z, Z, Z, Z, Z, Z, PV.own 2 0 2, I 2, I 2] ++ List.replicate 49 Z), [{ es := [[I e.kind, I e.a, I e.b, S e.text]], st := 0, par := [], sz := 4, sym := false }, { es := [[S (wordS e.kind), I (numS e.kind), Bo (plainK e.kind), Bo (bytesK e.kind)]], st := 0, par := [], sz := 4, sym := false }, { es := [[I e.a], [I e.b]], st := 0, par := [], sz := 1, sym := false }])) [(0 : Int) ≤ 1, (1 : Int) < 2]))))) (
     .node (decide (e.b < 0)) (
      .leaf ((Out.ret, ([Z, Z, S (⟨#[]⟩ : ByteArray), I 1] ++ List.replicate 94 Z), [])) [(0 : Int) ≤ 1, (1 : Int) < 2]) (
      .node (decide (e.b > 1099511627776)) (
       .leaf ((Out.ret, ([Z, Z, S (⟨#[]⟩ : ByteArray), I 1] ++ List.replicate 94 Z), [])) [(0 : Int) ≤ 1, (1 : Int) < 2]) (
       .node (decide (1 < numS e.kind)) (
        .leaf ((Out.norm, ([Z, PV.ptr 0 0 0, Z, Z, PV.ptr 1 0 0, Z, S (B s ++ ((⟨#[32]⟩ : ByteArray) ++ B (Lib.itoa e.b))), Z, Z, Z, Z, Z, Z, Z, Z, Z, Z, Z, Z, Z, Z, Z, Z, Z, Z, Z, Z, Z, Z, Z, Z, Z, Z, Z, Z, Z, Z, Z, Z, Z, Z, Z, Z, Z, Z, Z, PV.own 2 0 2, I 2, I 2] ++ List.replicate 49 Z), [{ es := [[I e.kind, I e.a, I e.b, S e.text]], st := 0, par := [], sz := 4, sym := false }, { es := [[S (wordS e.kind), I (numS e.kind), Bo (plainK e.kind), Bo (bytesK e.kind)]], st := 0, par := [], sz := 4, sym := false }, { es := [[I e.a], [I e.b]], st := 0, par := [], sz := 1, sym := false }])) [(0 : Int) ≤ 1, (1 : Int) < 2, InR e.b, (⟨#[32]⟩ : ByteArray).size + (B (Lib.itoa e.b)).size ≤ 9223372036854775807, (B s).size + ((⟨#[32]⟩ : ByteArray) ++ B (Lib.itoa e.b)).size ≤ 9223372036854775807]) (
        .leaf ((Out.norm, ([Z, PV.ptr 0 0 0, Z, Z, PV.ptr 1 0 0, Z, S (B s), Z, Z, Z, Z, Z, Z, Z, Z, Z, Z, Z, Z, Z, Z, Z, Z, Z, Z, Z, Z, Z, Z, Z, Z, Z, Z, Z, Z, Z, Z, Z, Z, Z, Z, Z, Z, Z, Z, Z, PV.own 2 0 2, I 2, I 2] ++ List.replicate 49 Z), [{ es := [[I e.kind, I e.a, I e.b, S e.text]], st := 0, par := [], sz := 4, sym := false }, { es := [[S (wordS e.kind), I (numS e.kind), Bo (plainK e.kind), Bo (bytesK e.kind)]], st := 0, par := [], sz := 4, sym := false }, { es := [[I e.a], [I e.b]], st := 0, par := [], sz := 1, sym := false }])) [(0 : Int) ≤ 1, (1 : Int) < 2]))))))) (by kernel_rfl) ?_
  rw [show (⟨#[32]⟩ : ByteArray) = B [32] from rfl, B_append, B_append]
  have hin : ¬ e.b < 0 → ¬ e.b > 1099511627776 → InR e.b := fun h1 h2 => ⟨by omega, by omega⟩
  have hil : ¬ e.b < 0 → ¬ e.b > 1099511627776 → (Lib.itoa e.b).length ≤ 30 := fun h1 h2 => itoa_len _ (hin h1 h2)
  have hok : okN e 1 e.b = true ↔ ¬ (1 ≥ numS e.kind ∧ e.b ≠ 0) ∧ ¬ e.b < 0 ∧ ¬ e.b > 1099511627776 := by
    unfold okN idOk maxId
    grind
  have hbad : ¬ okN e 1 e.b = true → (lt81 e s).ends (.ret, ([Z, Z, S ⟨#[]⟩, I 1] ++ List.replicate 94 Z), []) := fun h => ends_f (by simp [h]) rfl
  have hgo : okN e 1 e.b = true → LoopT P (loopAt Tryd.f8 7) (st8 (s ++ txN e 1 e.b) 2) (h8 e) (lt81 e s) := fun h => by
    obtain ⟨x, x1, x2⟩ := lp82 e (s ++ txN e 1 e.b)
    exact ⟨x, ends_t h x1, x2⟩
  have hgo1 : 1 < numS e.kind → okN e 1 e.b = true → LoopT P (loopAt Tryd.f8 7) (st8 (s ++ ([32] ++ Lib.itoa e.b)) 2) (h8 e) (lt81 e s) := fun h h2 => by
    have := hgo h2
    unfold txN at this
    rw [if_pos h] at this
    exact this
  have hgo2 : ¬ 1 < numS e.kind → okN e 1 e.b = true → LoopT P (loopAt Tryd.f8 7) (st8 s 2) (h8 e) (lt81 e s) := fun h h2 => by
    have := hgo h2
    unfold txN at this
    rw [if_neg h, List.append_nil] at this
    exact this
  simp only [Tr.All, AllP, Rnd, decide_eq_true_eq, decide_eq_false_iff_not, bne_iff_ne, bne_eq_false_iff_eq]
  repeat' with_reducible first | intro _ | refine And.intro ?_ ?_
  all_goals first | trivial | omega | exact hbad (fun h => by have := hok.1 h; omega) | exact hgo1 (by omega) (hok.2 (by omega)) | exact hgo2 (by omega) (hok.2 (by omega)) | exact hin (by omega) (by omega) | (have := hil (by omega) (by omega); simp only [B_size, List.length_append, List.length_singleton]; omega)

theorem lp80 (e : Ev) (s : List UInt8) (hs : s.length ≤ 9223372036854760000) : LoopT P (loopAt Tryd.f8 7) (st8 s 0) (h8 e) (lt80 e s) := by
  refine loop_tr Ec_ok L0 [1, 4, 6, 46, 47, 48] [2, 3, 10001, 10004, 10006] ((.say .conc (
    .node (decide (0 ≥ numS e.kind)) (
     .node ((e.a : Int) != 0) (
      .leaf ((Out.ret, ([Z, Z, S (⟨#[]⟩ : ByteArray), I 1] ++ List.replicate 94 Z), [])) [(0 : Int) ≤ 0, (0 : Int) < 2]) (
      .node (decide (e.a < 0)) (
       .leaf ((Out.ret, ([Z, Z, S (⟨#[]⟩ : ByteArray), I 1] ++ List.replicate 94 Z), [])) [(0 : Int) ≤ 0, (0 : Int) < 2]) (
       .node (decide (e.a > 1099511627776)) (
        .leaf ((Out.ret, ([Z, Z, S (⟨#[]⟩ : ByteArray), I 1] ++ List.replicate 94 Z), [])) [(0 : Int) ≤ 0, (0 : Int) < 2]) (
        .node (decide (0 < numS e.kind)) (
         .leaf ((Out.norm, ([Z, PV.ptr 0 0 0, Z, Z, PV.ptr 1 0 0, Z, S (B s ++ ((⟨#[32]⟩ : ByteArray) ++ B (Lib.itoa e.a))), Z, Z, Z, Z, Z, Z, Z, Z, Z, Z, Z, Z, Z, Z, Z, Z, Z, Z, Z, Z, Z, Z, Z, Z, Z, Z, Z, Z, Z, Z, Z, Z, Z, Z, Z, Z, Z, Z, Z, PV.own 2 0 2, I 2, I 1] ++ List.replicate 49 Z), [{ es := [[I e.kind, I e.a, I e.b, S e.text]], st := 0, par := [], sz := 4, sym := false }, { es := [[S (wordS e.kind), I (numS e.kind), Bo (plainK e.kind), Bo (bytesK e.kind)]], st := 0, par := [], sz := 4, sym := false }, { es := [[I e.a], [I e.b]], st := 0, par := [], sz := 1, sym := false }])) [(0 : Int) ≤ 0, (0 : Int) < 2, InR e.a, (⟨#[32]⟩ : ByteArray).size + (B (Lib.itoa e.a)).size ≤ 9223372036854775807, (B s).size + ((⟨#[32]⟩ : ByteArray) ++ B (Lib.itoa e.a)).size ≤ 9223372036854775807]) (
         .leaf ((Out.norm, ([Z, PV.ptr 0 0 0, Z, Z, PV.ptr 1 0 0, Z, S (B s), Z, Z, Z, Z, Z, Z, Z, Z, Z, Z, Z, Z, Z, Z, Z, Z, Z, Z, Z, Z, Z, Z, Z, Z, Z, Z, Z, Z, Z, Z, Z, Z, Z, Z, Z, Z, Z, Z, Z, PV.own 2 0 2, I 2, I 1] ++ List.replicate 49 Z), [{ es := [[I e.kind, I e.a, I e.b, S e.text]], st := 0, par := [], sz := 4, sym := false }, { es := [[S (wordS e.kind), I (numS e.kind), Bo (plainK e.kind), Bo (bytesK e.kind)]], st := 0, par := [], sz := 4, sym := false }, { es := [[I e.a], [I e.b]], st := 0, par := [], sz := 1, sym := false }])) [(0 : Int) ≤ 0, (0 : Int) < 2]))))) (
     .node (decide (e.a < 0)) (
      .leaf ((Out.ret, ([Z, Z, S (⟨#[]⟩ : ByteArray), I 1] ++ List.replicate 94 Z), [])) [(0 : Int) ≤ 0, (0 : Int) < 2]) (
      .node (decide (e.a > 1099511627776)) (
       .leaf ((Out.ret, ([Z, Z, S (⟨#[]⟩ : ByteArray), I 1] ++ List.replicate 94 Z), [])) [(0 : Int) ≤ 0, (0 : Int) < 2]) (
       .node (decide (0 < numS e.kind)) (
        .leaf ((Out.norm, ([Z, PV.ptr 0 0 0, Z, Z, PV.ptr 1 0 0, Z, S (B s ++ ((⟨#[32]⟩ : ByteArray) ++ B (Lib.itoa e.a))), Z, Z, Z, Z, Z, Z, Z, Z, Z, Z, Z, Z, Z, Z, Z, Z, Z, Z, Z, Z, Z, Z, Z, Z, Z, Z, Z, Z, Z, Z, Z, Z, Z, Z, Z, Z, Z, Z, Z, PV.own 2 0 2, I 2, I 1] ++ List.replicate 49 Z), [{ es := [[I e.kind, I e.a, I e.b, S e.text]], st := 0, par := [], sz := 4, sym := false }, { es := [[S (wordS e.kind), I (numS e.kind), Bo (plainK e.kind), Bo (bytesK e.kind)]], st := 0, par := [], sz := 4, sym := false }, { es := [[I e.a], [I e.b]], st := 0, par := [], sz := 1, sym := false }])) [(0 : Int) ≤ 0, (0 : Int) < 2, InR e.a, (⟨#[32]⟩ : ByteArray).size + (B (Lib.itoa e.a)).size ≤ 9223372036854775807, (B s).size + ((⟨#[32]⟩ : ByteArray) ++ B (Lib.itoa e.a)).size ≤ 9223372036854775807]) (
        .leaf ((Out.norm, ([Z, PV.ptr 0 0 0, Z, Z, PV.ptr 1 0 0, Z, S (B s), Z, Z, Z, Z, Z, Z, Z, Z, Z, Z, Z, Z, Z, Z, Z, Z, Z, Z, Z, Z, Z, Z, Z, Z, Z, Z, Z, Z, Z, Z, Z, Z, Z, Z, Z, Z, Z, Z, Z, PV.own 2 0 2, I 2, I 1] ++ List.replicate 49 Z), [{ es := [[I e.kind, I e.a, I e.b, S e.text]], st := 0, par := [], sz := 4, sym := false }, { es := [[S (wordS e.kind), I (numS e.kind), Bo (plainK e.kind), Bo (bytesK e.kind)]], st := 0, par := [], sz := 4, sym := false }, { es := [[I e.a], [I e.b]], st := 0, par := [], sz := 1, sym := false }])) [(0 : Int) ≤ 0, (0 : Int) < 2]))))))) (by kernel_rfl) ?_
  rw [show (⟨#[32]⟩ : ByteArray) = B [32] from rfl, B_append, B_append]
  have hin : ¬ e.a < 0 → ¬ e.a > 1099511627776 → InR e.a := fun h1 h2 => ⟨by omega, by omega⟩
  have hil : ¬ e.a < 0 → ¬ e.a > 1099511627776 → (Lib.itoa e.a).length ≤ 30 := fun h1 h2 => itoa_len _ (hin h1 h2)
  have hok : okN e 0 e.a = true ↔ ¬ (0 ≥ numS e.kind ∧ e.a ≠ 0) ∧ ¬ e.a < 0 ∧ ¬ e.a > 1099511627776 := by
    unfold okN idOk maxId
    grind
  have hbad : ¬ okN e 0 e.a = true → (lt80 e s).ends (.ret, ([Z, Z, S ⟨#[]⟩, I 1] ++ List.replicate 94 Z), []) := fun h => ends_f (by simp [h]) rfl
  have hgo : okN e 0 e.a = true → LoopT P (loopAt Tryd.f8 7) (st8 (s ++ txN e 0 e.a) 1) (h8 e) (lt80 e s) := fun h => by
    have hl : (txN e 0 e.a).length ≤ 31 := by
      unfold txN
      split
      · have := hil (by have := hok.1 h; omega) (by have := hok.1 h; omega)
        simp; omega
      · simp
    have := lp81 e (s ++ txN e 0 e.a) (by rw [List.length_append]; omega)
    unfold lt80
    unfold lt81 at this
    rw [h, Bool.true_and]
    exact this
  have hgo1 : 0 < numS e.kind → okN e 0 e.a = true → LoopT P (loopAt Tryd.f8 7) (st8 (s ++ ([32] ++ Lib.itoa e.a)) 1) (h8 e) (lt80 e s) := fun h h2 => by
    have := hgo h2
    unfold txN at this
    rw [if_pos h] at this
    exact this
  have hgo2 : ¬ 0 < numS e.kind → okN e 0 e.a = true → LoopT P (loopAt Tryd.f8 7) (st8 s 1) (h8 e) (lt80 e s) := fun h h2 => by
    have := hgo h2
    unfold txN at this
    rw [if_neg h, List.append_nil] at this
    exact this
  simp only [Tr.All, AllP, Rnd, decide_eq_true_eq, decide_eq_false_iff_not, bne_iff_ne, bne_eq_false_iff_eq]
  repeat' with_reducible first | intro _ | refine And.intro ?_ ?_
  all_goals first | trivial | omega | exact hbad (fun h => by have := hok.1 h; omega) | exact hgo1 (by omega) (hok.2 (by omega)) | exact hgo2 (by omega) (hok.2 (by omega)) | exact hin (by omega) (by omega) | (have := hil (by omega) (by omega); simp only [B_size, List.length_append, List.length_singleton]; omega)

end Go.Proofs.YtldmgdphelgffaaDoor
