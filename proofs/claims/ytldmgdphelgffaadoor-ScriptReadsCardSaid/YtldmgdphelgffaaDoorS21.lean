/- Contracts of chapter 53: the events of lines. -/
import Derived.Test.YtldmgdphelgffaaDoorS20
namespace Go.Proofs.YtldmgdphelgffaaDoor
open Go.PS

def rowsE (l : List Ev) : List (List PV) := l.map Ev.cells
theorem rowsE_length (l : List Ev) : (rowsE l).length = l.length := by simp [rowsE]
def he (l : List Ev) : Hp := [⟨rowsE l, 0, [], 4, true⟩]
def badE (p : Ev × Int) (es : List Ev) : Int := if p.2 = 0 ∧ 256 ≤ es.length then 22 else p.2
def evL : List (List UInt8) → Nat → List Ev → List Ev × Nat × Int
  | [], i, es => (es, i, 0)
  | x :: r, i, es => if ignS (B x) then evL r (i + 1) es else if badE (parseS (B x)) es = 0 then evL r (i + 1) (es ++ [(parseS (B x)).1]) else ([], i, badE (parseS (B x)) es)
def st26 (l : List (List UInt8)) (es : List Ev) (i : Int) : List PV := ([strL l, Z, Z, Z, .nul, I 0, I 0, .who 0 es.length, I i] ++ List.replicate 40 Z)
def lt26 (l : List (List UInt8)) (x : List Ev × Nat × Int) : LT := .ite (decide (x.2.2 = 0)) (.out (.ext 0) (([strL l, Z, Z, Z, .nul, I 0, I 0, .who 0 x.1.length] ++ List.replicate 41 Z)) (he x.1)) (.out .ret (([Z, Z, Z, Z, .nul, I x.2.1, I x.2.2] ++ List.replicate 42 Z)) [])

theorem lp26 (l : List (List UInt8)) (hl : l.length ≤ 70001) (hx : ∀ i, (l.getD i []).length ≤ 70000) : ∀ n i : Nat, i + n = l.length → ∀ es : List Ev, es.length ≤ i → LoopT P (loopAt Tryd.f26 3) (st26 l es i) (he es) (lt26 l (evL (l.drop i) i es)) := by
  intro n
  induction n with
  | zero =>
    intro i h0 es hes
    refine loop_tr Ej_ok L0 [0, 4, 5, 6, 7, 8] [4, 5, 6, 10000, 10007] ((.node (decide ((↑i : Int) < (↑l.length : Int))) (
     .node (ignS (B (l.getD (↑i : Int).toNat []))) (
      .leaf ((Out.norm, ([PV.rf l.length fun i => [S (B (l.getD i []))], Z, Z, Z, PV.nul, I 0, I 0, PV.who 0 es.length, I (IntKind.i64.wrap ((↑i : Int) + 1))] ++ List.replicate 40 Z), [{ es := rowsE es, st := 0, par := [], sz := 4, sym := true }])) [(0 : Int) ≤ (↑i : Int), (↑i : Int) < (↑l.length : Int)]) (
      .node (((parseS (B (l.getD (↑i : Int).toNat []))).snd : Int) == 0) (
       .node (decide ((↑es.length : Int) ≥ 256)) (
        .say .conc (
        .leaf ((Out.ret, ([Z, Z, Z, Z, PV.nul, I (↑i : Int), I 22] ++ List.replicate 42 Z), [])) [(0 : Int) ≤ (↑i : Int), (↑i : Int) < (↑l.length : Int), (0 : Int) ≤ (↑i : Int), (↑i : Int) < (↑l.length : Int), (B (l.getD (↑i : Int).toNat [])).size ≤ 9223372036854775807])) (
        .node (((parseS (B (l.getD (↑i : Int).toNat []))).snd : Int) != 0) (
         .leaf ((Out.ret, ([Z, Z, Z, Z, PV.nul, I (↑i : Int), I (parseS (B (l.getD (↑i : Int).toNat []))).snd] ++ List.replicate 42 Z), [])) [(0 : Int) ≤ (↑i : Int), (↑i : Int) < (↑l.length : Int), (0 : Int) ≤ (↑i : Int), (↑i : Int) < (↑l.length : Int), (B (l.getD (↑i : Int).toNat [])).size ≤ 9223372036854775807]) (
         .leaf ((Out.norm, ([PV.rf l.length fun i => [S (B (l.getD i []))], Z, Z, Z, PV.nul, I 0, I 0, PV.who 0 (es.length + [List.take 4 [I (parseS (B (l.getD (↑i : Int).toNat []))).fst.kind, I (parseS (B (l.getD (↑i : Int).toNat []))).fst.a, I (parseS (B (l.getD (↑i : Int).toNat []))).fst.b, S (parseS (B (l.getD (↑i : Int).toNat []))).fst.text]].length), I (IntKind.i64.wrap ((↑i : Int) + 1))] ++ List.replicate 40 Z), [{ es := (rowsE es) ++ [List.take 4 [I (parseS (B (l.getD (↑i : Int).toNat []))).fst.kind, I (parseS (B (l.getD (↑i : Int).toNat []))).fst.a, I (parseS (B (l.getD (↑i : Int).toNat []))).fst.b, S (parseS (B (l.getD (↑i : Int).toNat []))).fst.text]], st := 0, par := [], sz := 4, sym := true }])) [(0 : Int) ≤ (↑i : Int), (↑i : Int) < (↑l.length : Int), (0 : Int) ≤ (↑i : Int), (↑i : Int) < (↑l.length : Int), (B (l.getD (↑i : Int).toNat [])).size ≤ 9223372036854775807, es.length = (rowsE es).length, (es.length + 1) * 40 ≤ 140737488355328, true = true, true = true]))) (
       .node (((parseS (B (l.getD (↑i : Int).toNat []))).snd : Int) != 0) (
        .leaf ((Out.ret, ([Z, Z, Z, Z, PV.nul, I (↑i : Int), I (parseS (B (l.getD (↑i : Int).toNat []))).snd] ++ List.replicate 42 Z), [])) [(0 : Int) ≤ (↑i : Int), (↑i : Int) < (↑l.length : Int), (0 : Int) ≤ (↑i : Int), (↑i : Int) < (↑l.length : Int), (B (l.getD (↑i : Int).toNat [])).size ≤ 9223372036854775807]) (
        .leaf ((Out.norm, ([PV.rf l.length fun i => [S (B (l.getD i []))], Z, Z, Z, PV.nul, I 0, I 0, PV.who 0 (es.length + [List.take 4 [I (parseS (B (l.getD (↑i : Int).toNat []))).fst.kind, I (parseS (B (l.getD (↑i : Int).toNat []))).fst.a, I (parseS (B (l.getD (↑i : Int).toNat []))).fst.b, S (parseS (B (l.getD (↑i : Int).toNat []))).fst.text]].length), I (IntKind.i64.wrap ((↑i : Int) + 1))] ++ List.replicate 40 Z), [{ es := (rowsE es) ++ [List.take 4 [I (parseS (B (l.getD (↑i : Int).toNat []))).fst.kind, I (parseS (B (l.getD (↑i : Int).toNat []))).fst.a, I (parseS (B (l.getD (↑i : Int).toNat []))).fst.b, S (parseS (B (l.getD (↑i : Int).toNat []))).fst.text]], st := 0, par := [], sz := 4, sym := true }])) [(0 : Int) ≤ (↑i : Int), (↑i : Int) < (↑l.length : Int), (0 : Int) ≤ (↑i : Int), (↑i : Int) < (↑l.length : Int), (B (l.getD (↑i : Int).toNat [])).size ≤ 9223372036854775807, es.length = (rowsE es).length, (es.length + 1) * 40 ≤ 140737488355328, true = true, true = true])))) (
     .leaf ((Out.ext 0, ([PV.rf l.length fun i => [S (B (l.getD i []))], Z, Z, Z, PV.nul, I 0, I 0, PV.who 0 es.length] ++ List.replicate 41 Z), [{ es := rowsE es, st := 0, par := [], sz := 4, sym := true }])) []))) (by kernel_rfl) ?_
    rw [List.drop_eq_nil_of_le (by omega)]
    simp only [Tr.All, AllP, Rnd, decide_eq_true_eq, decide_eq_false_iff_not, beq_iff_eq, beq_eq_false_iff_ne, bne_iff_ne, bne_eq_false_iff_eq]
    repeat' with_reducible first | intro _ | refine And.intro ?_ ?_
    all_goals first | trivial | omega | (exact ends_t rfl rfl)
  | succ n ih =>
    intro i h0 es hes
    refine loop_tr Ej_ok L0 [0, 4, 5, 6, 7, 8] [4, 5, 6, 10000, 10007] ((.node (decide ((↑i : Int) < (↑l.length : Int))) (
     .node (ignS (B (l.getD (↑i : Int).toNat []))) (
      .leaf ((Out.norm, ([PV.rf l.length fun i => [S (B (l.getD i []))], Z, Z, Z, PV.nul, I 0, I 0, PV.who 0 es.length, I (IntKind.i64.wrap ((↑i : Int) + 1))] ++ List.replicate 40 Z), [{ es := rowsE es, st := 0, par := [], sz := 4, sym := true }])) [(0 : Int) ≤ (↑i : Int), (↑i : Int) < (↑l.length : Int)]) (
      .node (((parseS (B (l.getD (↑i : Int).toNat []))).snd : Int) == 0) (
       .node (decide ((↑es.length : Int) ≥ 256)) (
        .say .conc (
        .leaf ((Out.ret, ([Z, Z, Z, Z, PV.nul, I (↑i : Int), I 22] ++ List.replicate 42 Z), [])) [(0 : Int) ≤ (↑i : Int), (↑i : Int) < (↑l.length : Int), (0 : Int) ≤ (↑i : Int), (↑i : Int) < (↑l.length : Int), (B (l.getD (↑i : Int).toNat [])).size ≤ 9223372036854775807])) (
        .node (((parseS (B (l.getD (↑i : Int).toNat []))).snd : Int) != 0) (
         .leaf ((Out.ret, ([Z, Z, Z, Z, PV.nul, I (↑i : Int), I (parseS (B (l.getD (↑i : Int).toNat []))).snd] ++ List.replicate 42 Z), [])) [(0 : Int) ≤ (↑i : Int), (↑i : Int) < (↑l.length : Int), (0 : Int) ≤ (↑i : Int), (↑i : Int) < (↑l.length : Int), (B (l.getD (↑i : Int).toNat [])).size ≤ 9223372036854775807]) (
         .leaf ((Out.norm, ([PV.rf l.length fun i => [S (B (l.getD i []))], Z, Z, Z, PV.nul, I 0, I 0, PV.who 0 (es.length + [List.take 4 [I (parseS (B (l.getD (↑i : Int).toNat []))).fst.kind, I (parseS (B (l.getD (↑i : Int).toNat []))).fst.a, I (parseS (B (l.getD (↑i : Int).toNat []))).fst.b, S (parseS (B (l.getD (↑i : Int).toNat []))).fst.text]].length), I (IntKind.i64.wrap ((↑i : Int) + 1))] ++ List.replicate 40 Z), [{ es := (rowsE es) ++ [List.take 4 [I (parseS (B (l.getD (↑i : Int).toNat []))).fst.kind, I (parseS (B (l.getD (↑i : Int).toNat []))).fst.a, I (parseS (B (l.getD (↑i : Int).toNat []))).fst.b, S (parseS (B (l.getD (↑i : Int).toNat []))).fst.text]], st := 0, par := [], sz := 4, sym := true }])) [(0 : Int) ≤ (↑i : Int), (↑i : Int) < (↑l.length : Int), (0 : Int) ≤ (↑i : Int), (↑i : Int) < (↑l.length : Int), (B (l.getD (↑i : Int).toNat [])).size ≤ 9223372036854775807, es.length = (rowsE es).length, (es.length + 1) * 40 ≤ 140737488355328, true = true, true = true]))) (
       .node (((parseS (B (l.getD (↑i : Int).toNat []))).snd : Int) != 0) (
        .leaf ((Out.ret, ([Z, Z, Z, Z, PV.nul, I (↑i : Int), I (parseS (B (l.getD (↑i : Int).toNat []))).snd] ++ List.replicate 42 Z), [])) [(0 : Int) ≤ (↑i : Int), (↑i : Int) < (↑l.length : Int), (0 : Int) ≤ (↑i : Int), (↑i : Int) < (↑l.length : Int), (B (l.getD (↑i : Int).toNat [])).size ≤ 9223372036854775807]) (
        .leaf ((Out.norm, ([PV.rf l.length fun i => [S (B (l.getD i []))], Z, Z, Z, PV.nul, I 0, I 0, PV.who 0 (es.length + [List.take 4 [I (parseS (B (l.getD (↑i : Int).toNat []))).fst.kind, I (parseS (B (l.getD (↑i : Int).toNat []))).fst.a, I (parseS (B (l.getD (↑i : Int).toNat []))).fst.b, S (parseS (B (l.getD (↑i : Int).toNat []))).fst.text]].length), I (IntKind.i64.wrap ((↑i : Int) + 1))] ++ List.replicate 40 Z), [{ es := (rowsE es) ++ [List.take 4 [I (parseS (B (l.getD (↑i : Int).toNat []))).fst.kind, I (parseS (B (l.getD (↑i : Int).toNat []))).fst.a, I (parseS (B (l.getD (↑i : Int).toNat []))).fst.b, S (parseS (B (l.getD (↑i : Int).toNat []))).fst.text]], st := 0, par := [], sz := 4, sym := true }])) [(0 : Int) ≤ (↑i : Int), (↑i : Int) < (↑l.length : Int), (0 : Int) ≤ (↑i : Int), (↑i : Int) < (↑l.length : Int), (B (l.getD (↑i : Int).toNat [])).size ≤ 9223372036854775807, es.length = (rowsE es).length, (es.length + 1) * 40 ≤ 140737488355328, true = true, true = true])))) (
     .leaf ((Out.ext 0, ([PV.rf l.length fun i => [S (B (l.getD i []))], Z, Z, Z, PV.nul, I 0, I 0, PV.who 0 es.length] ++ List.replicate 41 Z), [{ es := rowsE es, st := 0, par := [], sz := 4, sym := true }])) []))) (by kernel_rfl) ?_
    rw [wrap64 (x := (i : Int) + 1) (by omega) (by omega)]
    simp only [Int.toNat_natCast]
    have hsz : (B (l.getD i [])).size ≤ 70000 := by rw [B_size]; exact hx i
    have hd : l.drop i = l.getD i [] :: l.drop (i + 1) := by
      rw [List.drop_eq_getElem_cons (by omega), List.getD_eq_getElem?_getD, List.getElem?_eq_getElem (by omega)]
      rfl
    rw [hd, evL]
    have ih0 := ih (i + 1) (by omega) es (by omega)
    have ih1 := ih (i + 1) (by omega) (es ++ [(parseS (B (l.getD i []))).1]) (by simp; omega)
    unfold st26 he at ih0 ih1
    rw [List.length_append, List.length_singleton] at ih1
    generalize hp : parseS (B (l.getD i [])) = p at *
    have a1 : ignS (B (l.getD i [])) = true → LoopT P (loopAt Tryd.f26 3) (st26 l es ((i : Int) + 1)) (he es) (lt26 l (if ignS (B (l.getD i [])) then evL (l.drop (i + 1)) (i + 1) es else if badE p es = 0 then evL (l.drop (i + 1)) (i + 1) (es ++ [p.1]) else ([], i, badE p es))) := by
      intro h
      rw [if_pos h]
      exact ih0
    have a2 : ignS (B (l.getD i [])) = false → badE p es = 0 → LoopT P (loopAt Tryd.f26 3) (([strL l, Z, Z, Z, .nul, I 0, I 0, .who 0 (es.length + 1), I ((i : Int) + 1)] ++ List.replicate 40 Z)) [⟨rowsE es ++ [p.1.cells], 0, [], 4, true⟩] (lt26 l (if ignS (B (l.getD i [])) then evL (l.drop (i + 1)) (i + 1) es else if badE p es = 0 then evL (l.drop (i + 1)) (i + 1) (es ++ [p.1]) else ([], i, badE p es))) := by
      intro h hb
      rw [if_neg (by rw [h]; exact Bool.false_ne_true), if_pos hb]
      unfold rowsE at ih1 ⊢
      rw [List.map_append] at ih1
      exact ih1
    have a3 : ∀ e : Int, ignS (B (l.getD i [])) = false → badE p es = e → e ≠ 0 → (lt26 l (if ignS (B (l.getD i [])) then evL (l.drop (i + 1)) (i + 1) es else if badE p es = 0 then evL (l.drop (i + 1)) (i + 1) (es ++ [p.1]) else ([], i, badE p es))).ends (.ret, ([Z, Z, Z, Z, .nul, I i, I e] ++ List.replicate 42 Z), []) := by
      intro e h hb he
      subst hb
      rw [if_neg (by rw [h]; exact Bool.false_ne_true), if_neg he]
      exact ends_f (decide_eq_false he) rfl
    have b1 : p.2 = 0 → (256 : Int) ≤ es.length → badE p es = 22 := fun h1 h2 => by unfold badE; rw [if_pos ⟨h1, by omega⟩]
    have b2 : ¬ (p.2 = 0 ∧ 256 ≤ es.length) → badE p es = p.2 := fun h => by unfold badE; rw [if_neg h]
    simp only [Tr.All, AllP, Rnd, decide_eq_true_eq, decide_eq_false_iff_not, beq_iff_eq, beq_eq_false_iff_ne, bne_iff_ne, bne_eq_false_iff_eq]
    repeat' with_reducible first | intro _ | refine And.intro ?_ ?_
    all_goals first | trivial | omega | exact (rowsE_length _).symm | exact a1 (by assumption) | exact a3 _ (by assumption) (b1 (by assumption) (by omega)) (by omega) | exact a3 _ (by assumption) (b2 (by omega)) (by omega) | (refine a2 (by assumption) ?_; rw [b2 (by omega)]; omega)

theorem lp28 (l : List (List UInt8)) (hl : l.length ≤ 70001) (hx : ∀ i, (l.getD i []).length ≤ 70000) : ∀ n i : Nat, i + n = l.length → ∀ es : List Ev, es.length ≤ i → LoopT P (loopAt Tryd.f28 3) (st26 l es i) (he es) (lt26 l (evL (l.drop i) i es)) := by
  intro n
  induction n with
  | zero =>
    intro i h0 es hes
    refine loop_tr Ej_ok L0 [0, 4, 5, 6, 7, 8] [4, 5, 6, 10000, 10007] ((.node (decide ((↑i : Int) < (↑l.length : Int))) (
     .node (ignS (B (l.getD (↑i : Int).toNat []))) (
      .leaf ((Out.norm, ([PV.rf l.length fun i => [S (B (l.getD i []))], Z, Z, Z, PV.nul, I 0, I 0, PV.who 0 es.length, I (IntKind.i64.wrap ((↑i : Int) + 1))] ++ List.replicate 40 Z), [{ es := rowsE es, st := 0, par := [], sz := 4, sym := true }])) [(0 : Int) ≤ (↑i : Int), (↑i : Int) < (↑l.length : Int)]) (
      .node (((parseS (B (l.getD (↑i : Int).toNat []))).snd : Int) == 0) (
       .node (decide ((↑es.length : Int) ≥ 256)) (
        .say .conc (
        .leaf ((Out.ret, ([Z, Z, Z, Z, PV.nul, I (↑i : Int), I 22] ++ List.replicate 42 Z), [])) [(0 : Int) ≤ (↑i : Int), (↑i : Int) < (↑l.length : Int), (0 : Int) ≤ (↑i : Int), (↑i : Int) < (↑l.length : Int), (B (l.getD (↑i : Int).toNat [])).size ≤ 9223372036854775807])) (
        .node (((parseS (B (l.getD (↑i : Int).toNat []))).snd : Int) != 0) (
         .leaf ((Out.ret, ([Z, Z, Z, Z, PV.nul, I (↑i : Int), I (parseS (B (l.getD (↑i : Int).toNat []))).snd] ++ List.replicate 42 Z), [])) [(0 : Int) ≤ (↑i : Int), (↑i : Int) < (↑l.length : Int), (0 : Int) ≤ (↑i : Int), (↑i : Int) < (↑l.length : Int), (B (l.getD (↑i : Int).toNat [])).size ≤ 9223372036854775807]) (
         .leaf ((Out.norm, ([PV.rf l.length fun i => [S (B (l.getD i []))], Z, Z, Z, PV.nul, I 0, I 0, PV.who 0 (es.length + [List.take 4 [I (parseS (B (l.getD (↑i : Int).toNat []))).fst.kind, I (parseS (B (l.getD (↑i : Int).toNat []))).fst.a, I (parseS (B (l.getD (↑i : Int).toNat []))).fst.b, S (parseS (B (l.getD (↑i : Int).toNat []))).fst.text]].length), I (IntKind.i64.wrap ((↑i : Int) + 1))] ++ List.replicate 40 Z), [{ es := (rowsE es) ++ [List.take 4 [I (parseS (B (l.getD (↑i : Int).toNat []))).fst.kind, I (parseS (B (l.getD (↑i : Int).toNat []))).fst.a, I (parseS (B (l.getD (↑i : Int).toNat []))).fst.b, S (parseS (B (l.getD (↑i : Int).toNat []))).fst.text]], st := 0, par := [], sz := 4, sym := true }])) [(0 : Int) ≤ (↑i : Int), (↑i : Int) < (↑l.length : Int), (0 : Int) ≤ (↑i : Int), (↑i : Int) < (↑l.length : Int), (B (l.getD (↑i : Int).toNat [])).size ≤ 9223372036854775807, es.length = (rowsE es).length, (es.length + 1) * 40 ≤ 140737488355328, true = true, true = true]))) (
       .node (((parseS (B (l.getD (↑i : Int).toNat []))).snd : Int) != 0) (
        .leaf ((Out.ret, ([Z, Z, Z, Z, PV.nul, I (↑i : Int), I (parseS (B (l.getD (↑i : Int).toNat []))).snd] ++ List.replicate 42 Z), [])) [(0 : Int) ≤ (↑i : Int), (↑i : Int) < (↑l.length : Int), (0 : Int) ≤ (↑i : Int), (↑i : Int) < (↑l.length : Int), (B (l.getD (↑i : Int).toNat [])).size ≤ 9223372036854775807]) (
        .leaf ((Out.norm, ([PV.rf l.length fun i => [S (B (l.getD i []))], Z, Z, Z, PV.nul, I 0, I 0, PV.who 0 (es.length + [List.take 4 [I (parseS (B (l.getD (↑i : Int).toNat []))).fst.kind, I (parseS (B (l.getD (↑i : Int).toNat []))).fst.a, I (parseS (B (l.getD (↑i : Int).toNat []))).fst.b, S (parseS (B (l.getD (↑i : Int).toNat []))).fst.text]].length), I (IntKind.i64.wrap ((↑i : Int) + 1))] ++ List.replicate 40 Z), [{ es := (rowsE es) ++ [List.take 4 [I (parseS (B (l.getD (↑i : Int).toNat []))).fst.kind, I (parseS (B (l.getD (↑i : Int).toNat []))).fst.a, I (parseS (B (l.getD (↑i : Int).toNat []))).fst.b, S (parseS (B (l.getD (↑i : Int).toNat []))).fst.text]], st := 0, par := [], sz := 4, sym := true }])) [(0 : Int) ≤ (↑i : Int), (↑i : Int) < (↑l.length : Int), (0 : Int) ≤ (↑i : Int), (↑i : Int) < (↑l.length : Int), (B (l.getD (↑i : Int).toNat [])).size ≤ 9223372036854775807, es.length = (rowsE es).length, (es.length + 1) * 40 ≤ 140737488355328, true = true, true = true])))) (
     .leaf ((Out.ext 0, ([PV.rf l.length fun i => [S (B (l.getD i []))], Z, Z, Z, PV.nul, I 0, I 0, PV.who 0 es.length] ++ List.replicate 41 Z), [{ es := rowsE es, st := 0, par := [], sz := 4, sym := true }])) []))) (by kernel_rfl) ?_
    rw [List.drop_eq_nil_of_le (by omega)]
    simp only [Tr.All, AllP, Rnd, decide_eq_true_eq, decide_eq_false_iff_not, beq_iff_eq, beq_eq_false_iff_ne, bne_iff_ne, bne_eq_false_iff_eq]
    repeat' with_reducible first | intro _ | refine And.intro ?_ ?_
    all_goals first | trivial | omega | (exact ends_t rfl rfl)
  | succ n ih =>
    intro i h0 es hes
    refine loop_tr Ej_ok L0 [0, 4, 5, 6, 7, 8] [4, 5, 6, 10000, 10007] ((.node (decide ((↑i : Int) < (↑l.length : Int))) (
     .node (ignS (B (l.getD (↑i : Int).toNat []))) (
      .leaf ((Out.norm, ([PV.rf l.length fun i => [S (B (l.getD i []))], Z, Z, Z, PV.nul, I 0, I 0, PV.who 0 es.length, I (IntKind.i64.wrap ((↑i : Int) + 1))] ++ List.replicate 40 Z), [{ es := rowsE es, st := 0, par := [], sz := 4, sym := true }])) [(0 : Int) ≤ (↑i : Int), (↑i : Int) < (↑l.length : Int)]) (
      .node (((parseS (B (l.getD (↑i : Int).toNat []))).snd : Int) == 0) (
       .node (decide ((↑es.length : Int) ≥ 256)) (
        .say .conc (
        .leaf ((Out.ret, ([Z, Z, Z, Z, PV.nul, I (↑i : Int), I 22] ++ List.replicate 42 Z), [])) [(0 : Int) ≤ (↑i : Int), (↑i : Int) < (↑l.length : Int), (0 : Int) ≤ (↑i : Int), (↑i : Int) < (↑l.length : Int), (B (l.getD (↑i : Int).toNat [])).size ≤ 9223372036854775807])) (
        .node (((parseS (B (l.getD (↑i : Int).toNat []))).snd : Int) != 0) (
         .leaf ((Out.ret, ([Z, Z, Z, Z, PV.nul, I (↑i : Int), I (parseS (B (l.getD (↑i : Int).toNat []))).snd] ++ List.replicate 42 Z), [])) [(0 : Int) ≤ (↑i : Int), (↑i : Int) < (↑l.length : Int), (0 : Int) ≤ (↑i : Int), (↑i : Int) < (↑l.length : Int), (B (l.getD (↑i : Int).toNat [])).size ≤ 9223372036854775807]) (
         .leaf ((Out.norm, ([PV.rf l.length fun i => [S (B (l.getD i []))], Z, Z, Z, PV.nul, I 0, I 0, PV.who 0 (es.length + [List.take 4 [I (parseS (B (l.getD (↑i : Int).toNat []))).fst.kind, I (parseS (B (l.getD (↑i : Int).toNat []))).fst.a, I (parseS (B (l.getD (↑i : Int).toNat []))).fst.b, S (parseS (B (l.getD (↑i : Int).toNat []))).fst.text]].length), I (IntKind.i64.wrap ((↑i : Int) + 1))] ++ List.replicate 40 Z), [{ es := (rowsE es) ++ [List.take 4 [I (parseS (B (l.getD (↑i : Int).toNat []))).fst.kind, I (parseS (B (l.getD (↑i : Int).toNat []))).fst.a, I (parseS (B (l.getD (↑i : Int).toNat []))).fst.b, S (parseS (B (l.getD (↑i : Int).toNat []))).fst.text]], st := 0, par := [], sz := 4, sym := true }])) [(0 : Int) ≤ (↑i : Int), (↑i : Int) < (↑l.length : Int), (0 : Int) ≤ (↑i : Int), (↑i : Int) < (↑l.length : Int), (B (l.getD (↑i : Int).toNat [])).size ≤ 9223372036854775807, es.length = (rowsE es).length, (es.length + 1) * 40 ≤ 140737488355328, true = true, true = true]))) (
       .node (((parseS (B (l.getD (↑i : Int).toNat []))).snd : Int) != 0) (
        .leaf ((Out.ret, ([Z, Z, Z, Z, PV.nul, I (↑i : Int), I (parseS (B (l.getD (↑i : Int).toNat []))).snd] ++ List.replicate 42 Z), [])) [(0 : Int) ≤ (↑i : Int), (↑i : Int) < (↑l.length : Int), (0 : Int) ≤ (↑i : Int), (↑i : Int) < (↑l.length : Int), (B (l.getD (↑i : Int).toNat [])).size ≤ 9223372036854775807]) (
        .leaf ((Out.norm, ([PV.rf l.length fun i => [S (B (l.getD i []))], Z, Z, Z, PV.nul, I 0, I 0, PV.who 0 (es.length + [List.take 4 [I (parseS (B (l.getD (↑i : Int).toNat []))).fst.kind, I (parseS (B (l.getD (↑i : Int).toNat []))).fst.a, I (parseS (B (l.getD (↑i : Int).toNat []))).fst.b, S (parseS (B (l.getD (↑i : Int).toNat []))).fst.text]].length), I (IntKind.i64.wrap ((↑i : Int) + 1))] ++ List.replicate 40 Z), [{ es := (rowsE es) ++ [List.take 4 [I (parseS (B (l.getD (↑i : Int).toNat []))).fst.kind, I (parseS (B (l.getD (↑i : Int).toNat []))).fst.a, I (parseS (B (l.getD (↑i : Int).toNat []))).fst.b, S (parseS (B (l.getD (↑i : Int).toNat []))).fst.text]], st := 0, par := [], sz := 4, sym := true }])) [(0 : Int) ≤ (↑i : Int), (↑i : Int) < (↑l.length : Int), (0 : Int) ≤ (↑i : Int), (↑i : Int) < (↑l.length : Int), (B (l.getD (↑i : Int).toNat [])).size ≤ 9223372036854775807, es.length = (rowsE es).length, (es.length + 1) * 40 ≤ 140737488355328, true = true, true = true])))) (
     .leaf ((Out.ext 0, ([PV.rf l.length fun i => [S (B (l.getD i []))], Z, Z, Z, PV.nul, I 0, I 0, PV.who 0 es.length] ++ List.replicate 41 Z), [{ es := rowsE es, st := 0, par := [], sz := 4, sym := true }])) []))) (by kernel_rfl) ?_
    rw [wrap64 (x := (i : Int) + 1) (by omega) (by omega)]
    simp only [Int.toNat_natCast]
    have hsz : (B (l.getD i [])).size ≤ 70000 := by rw [B_size]; exact hx i
    have hd : l.drop i = l.getD i [] :: l.drop (i + 1) := by
      rw [List.drop_eq_getElem_cons (by omega), List.getD_eq_getElem?_getD, List.getElem?_eq_getElem (by omega)]
      rfl
    rw [hd, evL]
    have ih0 := ih (i + 1) (by omega) es (by omega)
    have ih1 := ih (i + 1) (by omega) (es ++ [(parseS (B (l.getD i []))).1]) (by simp; omega)
    unfold st26 he at ih0 ih1
    rw [List.length_append, List.length_singleton] at ih1
    generalize hp : parseS (B (l.getD i [])) = p at *
    have a1 : ignS (B (l.getD i [])) = true → LoopT P (loopAt Tryd.f28 3) (st26 l es ((i : Int) + 1)) (he es) (lt26 l (if ignS (B (l.getD i [])) then evL (l.drop (i + 1)) (i + 1) es else if badE p es = 0 then evL (l.drop (i + 1)) (i + 1) (es ++ [p.1]) else ([], i, badE p es))) := by
      intro h
      rw [if_pos h]
      exact ih0
    have a2 : ignS (B (l.getD i [])) = false → badE p es = 0 → LoopT P (loopAt Tryd.f28 3) (([strL l, Z, Z, Z, .nul, I 0, I 0, .who 0 (es.length + 1), I ((i : Int) + 1)] ++ List.replicate 40 Z)) [⟨rowsE es ++ [p.1.cells], 0, [], 4, true⟩] (lt26 l (if ignS (B (l.getD i [])) then evL (l.drop (i + 1)) (i + 1) es else if badE p es = 0 then evL (l.drop (i + 1)) (i + 1) (es ++ [p.1]) else ([], i, badE p es))) := by
      intro h hb
      rw [if_neg (by rw [h]; exact Bool.false_ne_true), if_pos hb]
      unfold rowsE at ih1 ⊢
      rw [List.map_append] at ih1
      exact ih1
    have a3 : ∀ e : Int, ignS (B (l.getD i [])) = false → badE p es = e → e ≠ 0 → (lt26 l (if ignS (B (l.getD i [])) then evL (l.drop (i + 1)) (i + 1) es else if badE p es = 0 then evL (l.drop (i + 1)) (i + 1) (es ++ [p.1]) else ([], i, badE p es))).ends (.ret, ([Z, Z, Z, Z, .nul, I i, I e] ++ List.replicate 42 Z), []) := by
      intro e h hb he
      subst hb
      rw [if_neg (by rw [h]; exact Bool.false_ne_true), if_neg he]
      exact ends_f (decide_eq_false he) rfl
    have b1 : p.2 = 0 → (256 : Int) ≤ es.length → badE p es = 22 := fun h1 h2 => by unfold badE; rw [if_pos ⟨h1, by omega⟩]
    have b2 : ¬ (p.2 = 0 ∧ 256 ≤ es.length) → badE p es = p.2 := fun h => by unfold badE; rw [if_neg h]
    simp only [Tr.All, AllP, Rnd, decide_eq_true_eq, decide_eq_false_iff_not, beq_iff_eq, beq_eq_false_iff_ne, bne_iff_ne, bne_eq_false_iff_eq]
    repeat' with_reducible first | intro _ | refine And.intro ?_ ?_
    all_goals first | trivial | omega | exact (rowsE_length _).symm | exact a1 (by assumption) | exact a3 _ (by assumption) (b1 (by assumption) (by omega)) (by omega) | exact a3 _ (by assumption) (b2 (by omega)) (by omega) | (refine a2 (by assumption) ?_; rw [b2 (by omega)]; omega)

def evsE (es : List Ev) : PV := .rf es.length fun i => (es.getD i zEv).cells
def evV (x : List Ev × Nat × Int) : PV := .tup [evsE x.1, I x.2.1, I x.2.2]
def L26 (l : List (List UInt8)) : LEnv := fun _ => ([0, 4, 5, 6, 7, 8], [(7, 4)], fun _ _ => lt26 l (evL l 0 []))
theorem tupRf {p q a b : PV} (h : RLe p q) : RLe (.tup [p, a, b]) (.tup [q, a, b]) := by
  intro w Sx v hr
  cases hr with
  | tup _ vs hn hc =>
    refine .tup _ _ hn fun i d v q1 q2 => ?_
    match i with
    | 0 => obtain rfl := Option.some.inj q1; exact h _ _ _ (hc 0 p v rfl q2)
    | 1 => obtain rfl := Option.some.inj q1; exact hc 1 a v rfl q2
    | 2 => obtain rfl := Option.some.inj q1; exact hc 2 b v rfl q2
    | _ + 3 => cases q1
theorem rf_ev (l : List Ev) : RLe (.rf l.length fun i => (rowsE l).getD i []) (evsE l) := by
  intro w Sx v hr
  refine rf_conv (fun i hi => ?_) hr
  unfold rowsE
  rw [List.getD_eq_getElem?_getD, List.getD_eq_getElem?_getD, List.getElem?_map, List.getElem?_eq_getElem hi]
  rfl
theorem rf_ev0 (f : Nat → List PV) : RLe (.rf 0 f) (evsE []) := fun _ _ _ hr => rf_conv (fun _ hi => absurd hi (Nat.not_lt_zero _)) hr
theorem evL_ok : ∀ (l : List (List UInt8)) (i : Nat) (es : List Ev), (evL l i es).2.2 = 0 → (evL l i es).2.1 = i + l.length
  | [], i, es, _ => rfl
  | x :: r, i, es, h => by
    rw [evL] at h ⊢
    split at h
    · rename_i h1
      rw [if_pos h1, evL_ok r _ _ h, List.length_cons]; omega
    · rename_i h1
      rw [if_neg h1]
      split at h
      · rename_i h2
        rw [if_pos h2, evL_ok r _ _ h, List.length_cons]; omega
      · rename_i h2
        exact absurd h h2
theorem evL_bad : ∀ (l : List (List UInt8)) (i : Nat) (es : List Ev), (evL l i es).2.2 ≠ 0 → (evL l i es).1 = []
  | [], _, _, h => absurd rfl h
  | x :: r, i, es, h => by
    rw [evL] at h ⊢
    split at h
    · rename_i h1
      rw [if_pos h1, evL_bad r _ _ h]
    · rename_i h1
      rw [if_neg h1]
      split at h
      · rename_i h2
        rw [if_pos h2, evL_bad r _ _ h]
      · rename_i h2
        rw [if_neg h2]
theorem events_ok (l : List (List UInt8)) (hl : l.length ≤ 70001) (hx : ∀ i, (l.getD i []).length ≤ 70000) : Ok P 26 [strL l, I 0] (evV (evL l 0 [])) := by
  refine fn_trc Ej_ok (L26 l) Tryd.func26 ((.node (decide ((evL l 0 []).snd.snd = 0)) (
     .leaf (PV.tup [PV.rf (evL l 0 []).fst.length fun i => (rowsE (evL l 0 []).fst).getD i [], I (↑l.length : Int), I 0]) [LoopSem P (loopAt Tryd.f26 3) (([PV.rf l.length fun i => [S (B (l.getD i []))], Z, Z, Z, PV.nul, I 0, I 0, PV.who 0 0, I 0] ++ List.replicate 40 Z)) ([{ es := [], st := 0, par := [], sz := 4, sym := true }]) (Out.ext 0) (([PV.rf l.length fun i => [S (B (l.getD i []))], Z, Z, Z, PV.nul, I 0, I 0, PV.who 0 (evL l 0 []).fst.length] ++ List.replicate 41 Z)) ([{ es := rowsE (evL l 0 []).fst, st := 0, par := [], sz := 4, sym := true }]), (evL l 0 []).fst.length = (rowsE (evL l 0 []).fst).length]) (
     .leaf (PV.tup [PV.rf 0 fun i => [], I (↑(evL l 0 []).snd.fst : Int), I (evL l 0 []).snd.snd]) [LoopSem P (loopAt Tryd.f26 3) (([PV.rf l.length fun i => [S (B (l.getD i []))], Z, Z, Z, PV.nul, I 0, I 0, PV.who 0 0, I 0] ++ List.replicate 40 Z)) ([{ es := [], st := 0, par := [], sz := 4, sym := true }]) (Out.ret) (([Z, Z, Z, Z, PV.nul, I (↑(evL l 0 []).snd.fst : Int), I (evL l 0 []).snd.snd] ++ List.replicate 42 Z)) ([])]))) (by kernel_rfl) ?_
  have h0 := lp26 l hl hx l.length 0 (by omega) [] (Nat.le_refl _)
  rw [List.drop_zero] at h0
  have h1 := evL_ok l 0 []
  have h2 := evL_bad l 0 []
  generalize evL l 0 [] = x at *
  have e1 : x.2.2 = 0 → RLe (.tup [.rf x.1.length fun i => (rowsE x.1).getD i [], I l.length, I 0]) (evV x) := by
    intro h
    have := h1 h
    unfold evV
    rw [h, this, Nat.zero_add]
    exact tupRf (rf_ev _)
  have e2 : x.2.2 ≠ 0 → RLe (.tup [.rf 0 fun _ => [], I x.2.1, I x.2.2]) (evV x) := by
    intro h
    unfold evV
    rw [h2 h]
    exact tupRf (rf_ev0 _)
  simp only [Tr.All, AllP, decide_eq_true_eq, decide_eq_false_iff_not]
  repeat' with_reducible first | intro _ | refine And.intro ?_ ?_
  all_goals first | trivial | omega | exact (rowsE_length _).symm | exact (h0.t (decide_eq_true (by assumption))).one | exact (h0.f (decide_eq_false (by assumption))).one | exact e1 (by assumption) | exact e2 (by assumption)
theorem revents_ok (l : List (List UInt8)) (hl : l.length ≤ 70001) (hx : ∀ i, (l.getD i []).length ≤ 70000) : Ok P 28 [strL l, I 0] (evV (evL l 0 [])) := by
  refine fn_trc Ej_ok (L26 l) Tryd.func28 ((.node (decide ((evL l 0 []).snd.snd = 0)) (
     .leaf (PV.tup [PV.rf (evL l 0 []).fst.length fun i => (rowsE (evL l 0 []).fst).getD i [], I (↑l.length : Int), I 0]) [LoopSem P (loopAt Tryd.f28 3) (([PV.rf l.length fun i => [S (B (l.getD i []))], Z, Z, Z, PV.nul, I 0, I 0, PV.who 0 0, I 0] ++ List.replicate 40 Z)) ([{ es := [], st := 0, par := [], sz := 4, sym := true }]) (Out.ext 0) (([PV.rf l.length fun i => [S (B (l.getD i []))], Z, Z, Z, PV.nul, I 0, I 0, PV.who 0 (evL l 0 []).fst.length] ++ List.replicate 41 Z)) ([{ es := rowsE (evL l 0 []).fst, st := 0, par := [], sz := 4, sym := true }]), (evL l 0 []).fst.length = (rowsE (evL l 0 []).fst).length]) (
     .leaf (PV.tup [PV.rf 0 fun i => [], I (↑(evL l 0 []).snd.fst : Int), I (evL l 0 []).snd.snd]) [LoopSem P (loopAt Tryd.f28 3) (([PV.rf l.length fun i => [S (B (l.getD i []))], Z, Z, Z, PV.nul, I 0, I 0, PV.who 0 0, I 0] ++ List.replicate 40 Z)) ([{ es := [], st := 0, par := [], sz := 4, sym := true }]) (Out.ret) (([Z, Z, Z, Z, PV.nul, I (↑(evL l 0 []).snd.fst : Int), I (evL l 0 []).snd.snd] ++ List.replicate 42 Z)) ([])]))) (by kernel_rfl) ?_
  have h0 := lp28 l hl hx l.length 0 (by omega) [] (Nat.le_refl _)
  rw [List.drop_zero] at h0
  have h1 := evL_ok l 0 []
  have h2 := evL_bad l 0 []
  generalize evL l 0 [] = x at *
  have e1 : x.2.2 = 0 → RLe (.tup [.rf x.1.length fun i => (rowsE x.1).getD i [], I l.length, I 0]) (evV x) := by
    intro h
    have := h1 h
    unfold evV
    rw [h, this, Nat.zero_add]
    exact tupRf (rf_ev _)
  have e2 : x.2.2 ≠ 0 → RLe (.tup [.rf 0 fun _ => [], I x.2.1, I x.2.2]) (evV x) := by
    intro h
    unfold evV
    rw [h2 h]
    exact tupRf (rf_ev0 _)
  simp only [Tr.All, AllP, decide_eq_true_eq, decide_eq_false_iff_not]
  repeat' with_reducible first | intro _ | refine And.intro ?_ ?_
  all_goals first | trivial | omega | exact (rowsE_length _).symm | exact (h0.t (decide_eq_true (by assumption))).one | exact (h0.f (decide_eq_false (by assumption))).one | exact e1 (by assumption) | exact e2 (by assumption)
end Go.Proofs.YtldmgdphelgffaaDoor
