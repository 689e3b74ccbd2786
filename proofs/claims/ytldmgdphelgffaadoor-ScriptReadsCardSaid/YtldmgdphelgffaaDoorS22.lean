/- Contracts of chapter 53: Read. -/
import Derived.Test.YtldmgdphelgffaaDoorS21
namespace Go.Proofs.YtldmgdphelgffaaDoor
open Go.PS

def d27 : List PV → Option (PV × List Prop)
  | [.sc (.string s)] => some (strL (linesE s), [s.size ≤ 70000])
  | _ => none
def cellL (x : List PV) : List UInt8 := match x with
  | [.sc (.string s)] => s.data.toList
  | _ => []
def listOf (n : Nat) (f : Nat → List PV) : List (List UInt8) := ofN n fun i => cellL (f i)
theorem listOf_eq (l : List (List UInt8)) : (listOf l.length fun i => [S (B (l.getD i []))]) = l := by
  unfold listOf
  exact ofN_getD l []
def d26 : List PV → Option (PV × List Prop)
  | [.rf n f, .sc (.int .i64 0)] => some (evV (evL (listOf n f) 0 []), [n ≤ 70001, (∀ i, ((listOf n f).getD i []).length ≤ 70000) ∧ ∀ i, i < n → f i = [S (B ((listOf n f).getD i []))]])
  | _ => none
theorem d26_ok {g : FuncId} (hg : ∀ l : List (List UInt8), l.length ≤ 70001 → (∀ i, (l.getD i []).length ≤ 70000) → Ok P g [strL l, I 0] (evV (evL l 0 []))) (l : List PV) (r : PV) (ob : List Prop) (h : d26 l = some (r, ob)) (ho : ∀ X ∈ ob, X) : Ok P g l r := by
  unfold d26 at h
  split at h <;> cases h
  rename_i n f
  have h1 := ho _ (List.mem_cons_self)
  have h2 := ho _ (List.mem_cons_of_mem _ List.mem_cons_self)
  have hn : n = (listOf n f).length := by simp [listOf]
  refine (hg (listOf n f) (by omega) h2.1).conv rfl fun i p p' q1 q2 => ?_
  match i with
  | 0 =>
    obtain rfl := Option.some.inj q1
    obtain rfl := Option.some.inj q2
    exact rf_str hn (fun i hi => h2.2 i (by omega))
  | 1 =>
    obtain rfl := Option.some.inj q1
    obtain rfl := Option.some.inj q2
    exact fun _ _ _ h => h
  | _ + 2 => cases q1
def Ek : Env := addE 26 d26 (addE 28 d26 (addE 27 d27 (addE 29 d27 Ej)))
theorem Ek_ok : EnvOk P Ek :=
  addE_ok (addE_ok (addE_ok (addE_ok Ej_ok
    (fun l r ob h ho => by
      unfold d27 at h
      split at h <;> cases h
      rw [← lines_same]
      exact rlines_ok _ (ho _ (List.mem_cons_self))))
    (fun l r ob h ho => by unfold d27 at h; split at h <;> cases h; exact lines_ok _ (ho _ (by simp))))
    (fun l r ob h ho => d26_ok revents_ok l r ob h ho))
    (fun l r ob h ho => d26_ok events_ok l r ob h ho)

theorem split_len (c : UInt8) : ∀ l : List UInt8, (splitL c l).length ≤ l.length + 1 ∧ ∀ x ∈ splitL c l, x.length ≤ l.length
  | [] => ⟨Nat.le_refl _, fun x hx => by simp [splitL] at hx; subst hx; exact Nat.le_refl _⟩
  | b :: l => by
    have ih := split_len c l
    rw [splitL_cons]
    split
    · refine ⟨by rw [List.length_cons, List.length_cons]; have := ih.1; omega, fun x hx => ?_⟩
      rcases List.mem_cons.1 hx with rfl | hx
      · exact Nat.zero_le _
      · exact Nat.le_trans (ih.2 x hx) (by rw [List.length_cons]; omega)
    · cases hs : splitL c l with
      | nil => exact absurd hs (splitL_ne _ _)
      | cons h t =>
        rw [hs] at ih
        refine ⟨by rw [List.length_cons, List.length_cons]; have := ih.1; rw [List.length_cons] at this; omega, fun x hx => ?_⟩
        rcases List.mem_cons.1 hx with rfl | hx
        · rw [List.length_cons, List.length_cons]
          have := ih.2 h (by simp)
          omega
        · exact Nat.le_trans (ih.2 x (by simp [hx])) (by rw [List.length_cons]; omega)
theorem linesE_len (s : ByteArray) (hs : s.size ≤ 70000) : (linesE s).length ≤ 70001 ∧ ∀ i, ((linesE s).getD i []).length ≤ 70000 := by
  have ht := trim_le s
  rw [Lib.size_eq] at ht
  obtain ⟨h1, h2⟩ := split_len 10 (trimS s 10).data.toList
  unfold linesE
  split
  · exact ⟨Nat.zero_le _, fun i => by simp⟩
  · refine ⟨by omega, fun i => ?_⟩
    rw [List.getD_eq_getElem?_getD]
    cases hq : (splitL 10 (trimS s 10).data.toList)[i]? with
    | none => exact Nat.zero_le _
    | some x => exact Nat.le_trans (h2 x (List.mem_of_getElem? hq)) (by omega)

def readX (s : ByteArray) : List Ev × Nat × Int := if 65536 < s.size then ([], 0, 4) else evL (linesE s) 0 []
def readV (s : ByteArray) : PV := evV (readX s)
theorem read_ok (s : ByteArray) (hs : s.size ≤ 70000) : Ok P 14 [S s] (readV s) := by
  refine fn_trc Ek_ok L0 Tryd.func14 ((.node (decide ((↑s.size : Int) > 65536)) (
     .leaf (PV.tup [PV.rf 0 fun i => [], I 0, I 4]) []) (
     .leaf (PV.tup [PV.rf (evL (listOf (linesE s).length fun i => [S (B ((linesE s).getD i []))]) 0 []).fst.length fun i => [I ((evL (listOf (linesE s).length fun i => [S (B ((linesE s).getD i []))]) 0 []).fst.getD i zEv).kind, I ((evL (listOf (linesE s).length fun i => [S (B ((linesE s).getD i []))]) 0 []).fst.getD i zEv).a, I ((evL (listOf (linesE s).length fun i => [S (B ((linesE s).getD i []))]) 0 []).fst.getD i zEv).b, S ((evL (listOf (linesE s).length fun i => [S (B ((linesE s).getD i []))]) 0 []).fst.getD i zEv).text], I (↑(evL (listOf (linesE s).length fun i => [S (B ((linesE s).getD i []))]) 0 []).snd.fst : Int), I (evL (listOf (linesE s).length fun i => [S (B ((linesE s).getD i []))]) 0 []).snd.snd]) [s.size ≤ 70000, (linesE s).length ≤ 70001, (∀ (i : Nat), ((listOf (linesE s).length fun i => [S (B ((linesE s).getD i []))]).getD i []).length ≤ 70000) ∧ ∀ (i : Nat), i < (linesE s).length → [S (B ((linesE s).getD i []))] = [S (B ((listOf (linesE s).length fun i => [S (B ((linesE s).getD i []))]).getD i []))]]))) (by kernel_rfl) ?_
  rw [listOf_eq]
  obtain ⟨h1, h2⟩ := linesE_len s hs
  have e1 : 65536 < s.size → RLe (.tup [.rf 0 fun _ => [], I 0, I 4]) (readV s) := fun h => by
    unfold readV readX
    rw [if_pos h]
    exact tupRf (rf_ev0 _)
  have e2 : ¬ 65536 < s.size → RLe (evV (evL (linesE s) 0 [])) (readV s) := fun h => by
    unfold readV readX
    rw [if_neg h]
    exact RLe.refl _
  simp only [Tr.All, AllP, decide_eq_true_eq, decide_eq_false_iff_not]
  repeat' with_reducible first | intro _ | refine And.intro ?_ ?_
  all_goals first | trivial | omega | exact e1 (by omega) | exact e2 (by omega) | exact h2 _ | assumption | rfl
theorem rread_ok (s : ByteArray) (hs : s.size ≤ 70000) : Ok P 15 [S s] (readV s) := by
  refine fn_trc Ek_ok L0 Tryd.func15 ((.node (decide ((↑s.size : Int) > 65536)) (
     .leaf (PV.tup [PV.rf 0 fun i => [], I 0, I 4]) []) (
     .leaf (PV.tup [PV.rf (evL (listOf (linesE s).length fun i => [S (B ((linesE s).getD i []))]) 0 []).fst.length fun i => [I ((evL (listOf (linesE s).length fun i => [S (B ((linesE s).getD i []))]) 0 []).fst.getD i zEv).kind, I ((evL (listOf (linesE s).length fun i => [S (B ((linesE s).getD i []))]) 0 []).fst.getD i zEv).a, I ((evL (listOf (linesE s).length fun i => [S (B ((linesE s).getD i []))]) 0 []).fst.getD i zEv).b, S ((evL (listOf (linesE s).length fun i => [S (B ((linesE s).getD i []))]) 0 []).fst.getD i zEv).text], I (↑(evL (listOf (linesE s).length fun i => [S (B ((linesE s).getD i []))]) 0 []).snd.fst : Int), I (evL (listOf (linesE s).length fun i => [S (B ((linesE s).getD i []))]) 0 []).snd.snd]) [s.size ≤ 70000, (linesE s).length ≤ 70001, (∀ (i : Nat), ((listOf (linesE s).length fun i => [S (B ((linesE s).getD i []))]).getD i []).length ≤ 70000) ∧ ∀ (i : Nat), i < (linesE s).length → [S (B ((linesE s).getD i []))] = [S (B ((listOf (linesE s).length fun i => [S (B ((linesE s).getD i []))]).getD i []))]]))) (by kernel_rfl) ?_
  rw [listOf_eq]
  obtain ⟨h1, h2⟩ := linesE_len s hs
  have e1 : 65536 < s.size → RLe (.tup [.rf 0 fun _ => [], I 0, I 4]) (readV s) := fun h => by
    unfold readV readX
    rw [if_pos h]
    exact tupRf (rf_ev0 _)
  have e2 : ¬ 65536 < s.size → RLe (evV (evL (linesE s) 0 [])) (readV s) := fun h => by
    unfold readV readX
    rw [if_neg h]
    exact RLe.refl _
  simp only [Tr.All, AllP, decide_eq_true_eq, decide_eq_false_iff_not]
  repeat' with_reducible first | intro _ | refine And.intro ?_ ?_
  all_goals first | trivial | omega | exact e1 (by omega) | exact e2 (by omega) | exact h2 _ | assumption | rfl
end Go.Proofs.YtldmgdphelgffaaDoor
