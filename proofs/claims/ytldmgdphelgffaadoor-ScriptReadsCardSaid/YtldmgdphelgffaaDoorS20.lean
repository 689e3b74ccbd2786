/- The plain law: both ways of parting a text into lines give the same. -/
import Derived.Test.YtldmgdphelgffaaDoorS19
namespace Go.Proofs.YtldmgdphelgffaaDoor
open Go.PS

def rl : List UInt8 → List UInt8 → List (List UInt8)
  | [], cur => if cur = [] then [] else [cur]
  | b :: r, cur => if b = 10 then cur :: rl r [] else rl r (cur ++ [b])

theorem seg_succ (s : List UInt8) (k i : Nat) (hk : k ≤ i) (hi : i < s.length) : segL s k (i + 1) = segL s k i ++ [s.getD i 0] := by
  unfold segL
  rw [show i + 1 - k = (i - k) + 1 by omega, List.take_add_one]
  congr 1
  rw [List.getElem?_drop, show k + (i - k) = i by omega, List.getElem?_eq_getElem hi, List.getD_eq_getElem?_getD, List.getElem?_eq_getElem hi]
  rfl
theorem seg_nil (s : List UInt8) (i : Nat) : segL s i i = [] := by simp [segL]

def endL (s : List UInt8) (x : List (List UInt8) × Nat) : List (List UInt8) := if x.2 < s.length then x.1 ++ [segL s x.2 s.length] else x.1

theorem fin_rl (s : List UInt8) : ∀ n i k l, i + n = s.length → k ≤ i → endL s (finL s n i k l) = l ++ rl (s.drop i) (segL s k i) := by
  intro n
  induction n with
  | zero =>
    intro i k l h hk
    obtain rfl : i = s.length := by omega
    rw [List.drop_length, finL, endL, rl]
    show (if k < s.length then l ++ [segL s k s.length] else l) = _
    by_cases hc : k < s.length
    · rw [if_pos hc, if_neg]
      unfold segL
      intro h0
      have := congrArg List.length h0
      simp at this
      omega
    · obtain rfl : k = s.length := by omega
      rw [if_neg hc, seg_nil, if_pos rfl, List.append_nil]
  | succ n ih =>
    intro i k l h hk
    have hi : i < s.length := by omega
    have hd : s.drop i = s.getD i 0 :: s.drop (i + 1) := by
      rw [List.drop_eq_getElem_cons hi, List.getD_eq_getElem?_getD, List.getElem?_eq_getElem hi]
      rfl
    rw [finL, hd, rl]
    split
    · rw [ih _ _ _ (by omega) (Nat.le_refl _), seg_nil, List.append_assoc]
      rfl
    · rw [ih _ _ _ (by omega) (by omega), seg_succ s k i hk hi]

theorem trim_one (b : UInt8) : Lib.trimSuffix [b] [10] = if b = 10 then [] else [b] := by
  unfold Lib.trimSuffix Lib.hasSuffix
  by_cases hb : b = 10
  · subst hb; decide
  · rw [if_neg hb]
    have e : ([10] : List UInt8).isSuffixOf [b] = false := by
      rw [← Bool.not_eq_true, List.isSuffixOf_iff_suffix, List.suffix_cons_iff]
      rintro (h | h)
      · cases h; exact hb rfl
      · cases List.suffix_nil.1 h
    rw [e]
    rfl
theorem trim_cons (b c : UInt8) (r : List UInt8) : Lib.trimSuffix (b :: c :: r) [10] = b :: Lib.trimSuffix (c :: r) [10] := by
  unfold Lib.trimSuffix
  have e : Lib.hasSuffix (b :: c :: r) [10] = Lib.hasSuffix (c :: r) [10] := by
    unfold Lib.hasSuffix
    rw [Bool.eq_iff_iff, List.isSuffixOf_iff_suffix, List.isSuffixOf_iff_suffix, List.suffix_cons_iff]
    constructor
    · rintro (h | h)
      · cases h
      · exact h
    · exact .inr
  rw [e]
  split
  · simp
  · rfl

theorem rl_split : ∀ (l cur : List UInt8), l ≠ [] → rl l cur = match splitL 10 (Lib.trimSuffix l [10]) with
    | h :: t => (cur ++ h) :: t
    | [] => []
  | [], _, h => absurd rfl h
  | [b], cur, _ => by
    rw [rl, trim_one]
    split
    · rw [rl, if_pos rfl]; simp [splitL]
    · rename_i hb
      rw [rl, if_neg (by simp), splitL_cons, if_neg hb]
      rfl
  | b :: c :: r, cur, _ => by
    rw [rl, trim_cons, splitL_cons]
    have ih := fun cur' => rl_split (c :: r) cur' (by simp)
    cases hs : splitL 10 (Lib.trimSuffix (c :: r) [10]) with
    | nil => exact absurd hs (splitL_ne _ _)
    | cons h t =>
      simp only [hs] at ih
      split
      · rw [ih]; simp
      · rw [ih]; simp

theorem lines_same (s : ByteArray) : linesR s.data.toList = linesE s := by
  have h := fin_rl s.data.toList s.data.toList.length 0 0 [] (by omega) (Nat.le_refl _)
  have e : linesR s.data.toList = endL s.data.toList (finL s.data.toList s.data.toList.length 0 0 []) := rfl
  rw [e, h, List.nil_append, List.drop_zero, seg_nil]
  unfold linesE
  by_cases hs : s = ⟨#[]⟩
  · subst hs; rfl
  · rw [if_neg hs, rl_split _ _ (by intro h0; apply hs; obtain ⟨⟨l⟩⟩ := s; obtain rfl : l = [] := h0; rfl)]
    show _ = splitL 10 (Lib.trimSuffix s.data.toList [10])
    cases hq : splitL 10 (Lib.trimSuffix s.data.toList [10]) with
    | nil => exact absurd hq (splitL_ne _ _)
    | cons h t => rfl
end Go.Proofs.YtldmgdphelgffaaDoor
