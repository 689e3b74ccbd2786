/- The cells of an argument, one by one. -/
import Derived.Test.YtldmgdphelgffaaDoorU2
namespace Go.PS
open Go.RowKit

/-- What a cell holds. -/
inductive CT where
  | int (k : IntKind)
  | str
  | bool
  | sl (e : TypeId)

def CellOk (P : Program) : CT → PV → Prop
  | .int k, p => ∃ i, p = .sc (.int k i) ∧ (Lit.int k i).wf = true
  | .str, p => ∃ s, p = .sc (.string s) ∧ s.size ≤ maxLen
  | .bool, p => ∃ b, p = .sc (.bool b)
  | .sl e, p => ∃ es : List (List PV), p = .ro es ∧ es.length ≤ maxLen ∧ ∃ n, ∀ x ∈ es, Sh P n e x

def All2 (P : Program) : List CT → List PV → Prop
  | [], [] => True
  | c :: cs, p :: ps => CellOk P c p ∧ All2 P cs ps
  | _, _ => False

theorem All2.inv {P : Program} {c : CT} {cs : List CT} {ps : List PV} (h : All2 P (c :: cs) ps) : ∃ p qs, ps = p :: qs ∧ CellOk P c p ∧ All2 P cs qs := by
  cases ps with
  | nil => exact h.elim
  | cons p qs => exact ⟨p, qs, rfl, h.1, h.2⟩
theorem All2.nil {P : Program} {ps : List PV} (h : All2 P [] ps) : ps = [] := by
  cases ps with
  | nil => rfl
  | cons p qs => exact h.elim
theorem All2.append {P : Program} : ∀ {cs ds : List CT} {ps qs : List PV}, All2 P cs ps → All2 P ds qs → All2 P (cs ++ ds) (ps ++ qs)
  | [], ds, ps, qs, h1, h2 => by rw [h1.nil]; exact h2
  | c :: cs, ds, ps, qs, h1, h2 => by
    obtain ⟨p, rs, rfl, h3, h4⟩ := h1.inv
    exact ⟨h3, h4.append h2⟩

def fieldTys (f : TypeId → Option (List CT)) : List Field → Option (List CT)
  | [] => some []
  | g :: r => match f g.type, fieldTys f r with
    | some a, some b => some (a ++ b)
    | _, _ => none

def cellTys (P : Program) : Nat → TypeId → Option (List CT)
  | 0, _ => none
  | n + 1, t => match P.underlying t with
    | some .bool => some [.bool]
    | some (.int k) => some [.int k]
    | some .string => some [.str]
    | some (.slice e) => some [.sl e]
    | some (.struct fs) => if tilesP P 0 fs.toList (P.cellsOf t) then fieldTys (cellTys P n) fs.toList else none
    | _ => none

theorem field_cells {P : Program} {n total : Nat} {ps : List PV} (hlen : ps.length = total) (ih : ∀ {t : TypeId} {qs : List PV} {l : List CT}, Sh P n t qs → cellTys P n t = some l → All2 P l qs) :
    ∀ {fs : List Field} {at_ : Nat} {l : List CT}, tilesP P at_ fs total = true → (∀ f ∈ fs, Sh P n f.type ((ps.drop f.offset).take (P.cellsOf f.type))) → fieldTys (cellTys P n) fs = some l → All2 P l (ps.drop at_)
  | [], at_, l, ht, _, hl => by
    have : at_ = total := by simpa [tilesP] using ht
    cases hl
    rw [List.drop_eq_nil_of_le (by omega)]
    trivial
  | f :: fs, at_, l, ht, hs, hl => by
    simp only [tilesP, Bool.and_eq_true] at ht
    have hoff : f.offset = at_ := by simpa using ht.1
    simp only [fieldTys] at hl
    split at hl
    · rename_i a b ha hb
      cases hl
      have h1 := ih (hs f (by simp)) ha
      have h2 := field_cells hlen ih ht.2 (fun g hg => hs g (by simp [hg])) hb
      have := h1.append h2
      rw [hoff, ← List.drop_drop, List.take_append_drop] at this
      exact this
    · cases hl

theorem sh_cells {P : Program} : ∀ {n : Nat} {t : TypeId} {ps : List PV} {l : List CT}, Sh P n t ps → cellTys P n t = some l → All2 P l ps := by
  intro n
  induction n with
  | zero => intro t ps l h; exact h.elim
  | succ n ih =>
    intro t ps l h hl
    unfold cellTys at hl
    split at hl
    · rename_i hu
      cases hl
      obtain ⟨b, rfl⟩ := sh_bool hu h
      exact ⟨⟨b, rfl⟩, trivial⟩
    · rename_i k hu
      cases hl
      obtain ⟨i, rfl, hw⟩ := sh_int hu h
      exact ⟨⟨i, rfl, hw⟩, trivial⟩
    · rename_i hu
      cases hl
      obtain ⟨s, rfl, hw⟩ := sh_string hu h
      exact ⟨⟨s, rfl, hw⟩, trivial⟩
    · rename_i e hu
      cases hl
      obtain ⟨es, rfl, hw, hx⟩ := sh_slice hu h
      exact ⟨⟨es, rfl, hw, n, hx⟩, trivial⟩
    · rename_i fs hu
      split at hl
      · rename_i ht
        obtain ⟨h1, h2⟩ := sh_struct hu h
        have := field_cells h1 (fun a b => ih a b) ht h2 hl
        simpa using this
      · cases hl
    · cases hl

theorem Sh.succ {P : Program} : ∀ {n : Nat} {t : TypeId} {ps : List PV}, Sh P n t ps → Sh P (n + 1) t ps := by
  intro n
  induction n with
  | zero => intro t ps h; exact h.elim
  | succ n ih =>
    intro t ps h
    have hh := h
    unfold Sh at hh
    split at hh
    · rename_i hu; unfold Sh; rw [hu]; exact hh
    · rename_i k hu; unfold Sh; rw [hu]; exact hh
    · rename_i hu; unfold Sh; rw [hu]; exact hh
    · rename_i e hu
      obtain ⟨es, h1, h2, h3⟩ := hh
      unfold Sh; rw [hu]
      exact ⟨es, h1, h2, fun x hx => ih (h3 x hx)⟩
    · rename_i fs hu
      unfold Sh; rw [hu]
      exact ⟨hh.1, fun f hf => ih (hh.2 f hf)⟩
    · exact hh.elim

/-- Is the type one of structs? -/
def isSt (P : Program) (t : TypeId) : Bool :=
  match P.underlying t with
  | some (.struct _) => true
  | _ => false
theorem arg_st {P : Program} {t : TypeId} {ps : List PV} (h : isSt P t = true) : argPV P t ps = .agg ps := by
  unfold isSt at h
  split at h
  · rename_i fs hu; exact arg_agg hu
  · cases h

theorem ro_rf {w : World} {Sx : Nat → Prop} {es : List (List PV)} {g : Nat → List PV} {v : Value} (h : ∀ i, i < es.length → es.getD i [] = g i) (hr : RepS w Sx (.ro es) v) : RepS w Sx (.rf es.length g) v := by
  refine rf_conv (f := fun i => es.getD i []) h ?_
  refine .rf _ _ _ ?_
  rw [range_getD]
  exact hr

theorem ro_strF {w : World} {Sx : Nat → Prop} {es : List (List PV)} {v : Value} (h : ∀ x ∈ es, isStr x = true) (hr : RepS w Sx (.ro es) v) : RepS w Sx (strF ⟨es.length, fun i => strOf (es.getD i [])⟩) v :=
  ro_rf (fun i hi => by
    have : es.getD i [] = es[i] := by simp [List.getD, hi]
    show es.getD i [] = [S (strOf (es.getD i []))]
    rw [this]
    exact strOf_is (h _ (List.getElem_mem hi))) hr
end Go.PS
