/- Helps: lists by number, arguments that are lists. -/
import Derived.Test.YtldmgdphelgffaaDoorPS20
namespace Go.PS

/-! Lists. -/
def ofN {α : Type} (n : Nat) (g : Nat → α) : List α := (List.range n).map g

@[simp] theorem ofN_length {α : Type} (n : Nat) (g : Nat → α) : (ofN n g).length = n := by simp [ofN]

theorem ofN_get {α : Type} (n : Nat) (g : Nat → α) (i : Nat) (d : α) (h : i < n) : (ofN n g).getD i d = g i := by simp [ofN, List.getD, h]

theorem ofN_getD {α : Type} (l : List α) (d : α) : (ofN l.length fun i => l.getD i d) = l := range_getD l d

def anyFrom {α : Type} (p : α → Bool) (l : List α) (i : Int) : Bool := (l.drop i.toNat).any p

theorem anyFrom_step {α : Type} {p : α → Bool} {l : List α} {i : Int} (d : α) (h0 : 0 ≤ i) (h1 : i < l.length) : anyFrom p l i = (p (l.getD i.toNat d) || anyFrom p l (i + 1)) := by
  unfold anyFrom
  obtain ⟨k, rfl⟩ := Int.eq_ofNat_of_zero_le h0
  have hk : k < l.length := by omega
  rw [show ((k : Int) + 1).toNat = k + 1 by omega, Int.toNat_natCast, List.drop_eq_getElem_cons hk, List.any_cons, List.getD_eq_getElem?_getD, List.getElem?_eq_getElem hk]
  rfl

theorem anyFrom_end {α : Type} {p : α → Bool} {l : List α} {i : Int} (h1 : (l.length : Int) ≤ i) : anyFrom p l i = false := by
  unfold anyFrom
  rw [List.drop_eq_nil_of_le (by omega)]
  rfl

theorem anyFrom_zero {α : Type} {p : α → Bool} {l : List α} : anyFrom p l 0 = l.any p := rfl

/-- The first element that is not z. -/
def firstNz : List Int → Int
  | [] => 0
  | x :: r => if x = 0 then firstNz r else x

def firstFrom (l : List Int) (i : Int) : Int := firstNz (l.drop i.toNat)

theorem firstFrom_step {l : List Int} {i : Int} (h0 : 0 ≤ i) (h1 : i < l.length) : firstFrom l i = if l.getD i.toNat 0 = 0 then firstFrom l (i + 1) else l.getD i.toNat 0 := by
  unfold firstFrom
  obtain ⟨k, rfl⟩ := Int.eq_ofNat_of_zero_le h0
  have hk : k < l.length := by omega
  rw [show ((k : Int) + 1).toNat = k + 1 by omega, Int.toNat_natCast, List.drop_eq_getElem_cons hk, List.getD_eq_getElem?_getD, List.getElem?_eq_getElem hk]
  rfl

theorem firstFrom_end {l : List Int} {i : Int} (h1 : (l.length : Int) ≤ i) : firstFrom l i = 0 := by
  unfold firstFrom
  rw [List.drop_eq_nil_of_le (by omega)]
  rfl

theorem ends_t {c : Bool} {t f : LT} {x : Out × List PV × Hp} (hc : c = true) (h : t.ends x) : (LT.ite c t f).ends x := ⟨fun _ => h, fun hx => absurd hx (by simp [hc])⟩
theorem ends_f {c : Bool} {t f : LT} {x : Out × List PV × Hp} (hc : c = false) (h : f.ends x) : (LT.ite c t f).ends x := ⟨fun hx => absurd hx (by simp [hc]), fun _ => h⟩

/-! Arguments. -/
theorem rf_conv {w : World} {S : Nat → Prop} {n : Nat} {f g : Nat → List PV} {v : Value} (h : ∀ i, i < n → f i = g i) (hr : RepS w S (.rf n f) v) : RepS w S (.rf n g) v := by
  cases hr with
  | rf _ _ _ hr =>
    refine .rf _ _ _ ?_
    have : (List.range n).map g = (List.range n).map f := List.map_congr_left fun i hi => (h i (by simpa using hi)).symm
    rw [this]; exact hr

theorem agg_conv {w : World} {S : Nat → Prop} {cs ds : List PV} {v : Value} (hl : cs.length = ds.length) (h : ∀ (i : Nat) c d v, cs[i]? = some c → ds[i]? = some d → RepS w S c v → RepS w S d v) (hr : RepS w S (.agg cs) v) : RepS w S (.agg ds) v := by
  cases hr with
  | agg _ vs hn hc =>
    refine .agg _ _ (by omega) fun i d v q1 q2 => ?_
    have hi : i < cs.length := by have := (List.getElem?_eq_some_iff.1 q1).1; omega
    have hci : cs[i]? = some cs[i] := by simp [hi]
    exact h i cs[i] d v hci q1 (hc i cs[i] v hci q2)

/-- The same contract for arguments that stand for the same. -/
theorem Ok.conv {P : Program} {g : FuncId} {l l' : List PV} {r : PV} (h : Ok P g l' r) (hl : l.length = l'.length) (hc : ∀ (i : Nat) p p', l[i]? = some p → l'[i]? = some p' → ∀ w S v, RepS w S p v → RepS w S p' v) : Ok P g l r := by
  intro w Sa vs h0 h1 h2 h3
  refine h w Sa vs h0 h1 (by omega) fun i p' v q1 q2 => ?_
  have hi : i < l.length := by have := (List.getElem?_eq_some_iff.1 q1).1; omega
  have hli : l[i]? = some l[i] := by simp [hi]
  exact hc i l[i] p' hli q1 w Sa v (h3 i l[i] v hli q2)

theorem Ok.res {P : Program} {g : FuncId} {l : List PV} {r r' : PV} (h : Ok P g l r) (hr : ∀ w S v, RepS w S r v → RepS w S r' v) : Ok P g l r' := by
  intro w Sa vs h0 h1 h2 h3
  refine (h w Sa vs h0 h1 h2 h3).mono ?_
  rintro e w' ⟨v, q1, q2, q3⟩
  exact ⟨v, q1, q2, hr _ _ _ q3⟩

theorem Ok.conv1 {P : Program} {g : FuncId} {a a' : PV} {r : PV} (h : Ok P g [a'] r) (hc : ∀ w S v, RepS w S a v → RepS w S a' v) : Ok P g [a] r :=
  h.conv rfl fun i p p' q1 q2 w S v hr => by
    cases i with
    | zero => simp at q1 q2; subst q1; subst q2; exact hc w S v hr
    | succ i => simp at q1

theorem Ok.conv2 {P : Program} {g : FuncId} {a a' b b' : PV} {r : PV} (h : Ok P g [a', b'] r) (hc : ∀ w S v, RepS w S a v → RepS w S a' v) (hd : ∀ w S v, RepS w S b v → RepS w S b' v) : Ok P g [a, b] r :=
  h.conv rfl fun i p p' q1 q2 w S v hr => by
    match i with
    | 0 => simp at q1 q2; subst q1; subst q2; exact hc w S v hr
    | 1 => simp at q1 q2; subst q1; subst q2; exact hd w S v hr
    | i + 2 => simp at q1

/-! Cells of known shape. -/
def strOf : List PV → ByteArray
  | [.sc (.string b)] => b
  | _ => default
def isStr : List PV → Bool
  | [.sc (.string _)] => true
  | _ => false
def intOf : List PV → Int
  | [.sc (.int .i64 n)] => n
  | _ => 0
def isInt : List PV → Bool
  | [.sc (.int .i64 _)] => true
  | _ => false

def allN (n : Nat) (p : Nat → Bool) : Prop := (List.range n).all p = true
theorem allN_iff {n : Nat} {p : Nat → Bool} : allN n p ↔ ∀ i, i < n → p i = true := by
  unfold allN
  rw [List.all_eq_true]
  simp

theorem ofN_map {α β : Type} (l : List α) (d : α) (g : α → β) : (ofN l.length fun i => g (l.getD i d)) = l.map g := by
  have h := congrArg (List.map g) (range_getD l d)
  rw [List.map_map] at h
  exact h
theorem allN_map {α : Type} (l : List α) (d : α) (p : α → Bool) : (allN l.length fun i => p (l.getD i d)) ↔ ∀ x ∈ l, p x = true := by
  rw [allN_iff]
  constructor
  · intro h x hx
    obtain ⟨i, hi, rfl⟩ := List.getElem_of_mem hx
    have := h i hi
    simpa [List.getD, hi] using this
  · intro h i hi
    have := h l[i] (List.getElem_mem hi)
    simpa [List.getD, hi] using this

def strs (l : List ByteArray) : PV := .rf l.length fun i => [S (l.getD i default)]
def ints (l : List Int) : PV := .rf l.length fun i => [I (l.getD i 0)]

theorem strOf_is {e : List PV} (h : isStr e = true) : e = [S (strOf e)] := by
  unfold isStr at h
  split at h
  · rfl
  · cases h
theorem intOf_is {e : List PV} (h : isInt e = true) : e = [I (intOf e)] := by
  unfold isInt at h
  split at h
  · rfl
  · cases h

/-- A list as a function of the number. -/
structure FL (α : Type) where
  n : Nat
  f : Nat → α
def FL.list {α : Type} (x : FL α) : List α := ofN x.n x.f
@[simp] theorem FL.list_length {α : Type} (x : FL α) : x.list.length = x.n := ofN_length _ _
theorem FL.list_get {α : Type} (x : FL α) (i : Nat) (d : α) (h : i < x.n) : x.list.getD i d = x.f i := ofN_get _ _ _ _ h
theorem FL.list_all {α : Type} (x : FL α) (p : α → Prop) (h : ∀ i, i < x.n → p (x.f i)) : ∀ y ∈ x.list, p y := by
  intro y hy
  simp only [FL.list, ofN, List.mem_map, List.mem_range] at hy
  obtain ⟨i, hi, rfl⟩ := hy
  exact h i hi

def strF (x : FL ByteArray) : PV := .rf x.n fun i => [S (x.f i)]
def intF (x : FL Int) : PV := .rf x.n fun i => [I (x.f i)]
theorem strF_conv (x : FL ByteArray) (w : World) (S : Nat → Prop) (v : Value) (hr : RepS w S (strF x) v) : RepS w S (strs x.list) v := by
  unfold strs
  rw [x.list_length]
  exact rf_conv (fun i hi => by rw [x.list_get _ _ hi]) hr
theorem strF_of {n : Nat} {f : Nat → List PV} (h : allN n fun i => isStr (f i)) (w : World) (S : Nat → Prop) (v : Value) (hr : RepS w S (.rf n f) v) : RepS w S (strF ⟨n, fun i => strOf (f i)⟩) v :=
  rf_conv (fun i hi => strOf_is (allN_iff.1 h i hi)) hr

theorem strs_conv {n : Nat} {f : Nat → List PV} (h : allN n fun i => isStr (f i)) (w : World) (S : Nat → Prop) (v : Value) (hr : RepS w S (.rf n f) v) : RepS w S (strs (ofN n fun i => strOf (f i))) v := by
  unfold strs
  rw [ofN_length]
  exact rf_conv (fun i hi => by rw [ofN_get _ _ _ _ hi]; exact strOf_is (allN_iff.1 h i hi)) hr
theorem ints_conv {n : Nat} {f : Nat → List PV} (h : allN n fun i => isInt (f i)) (w : World) (S : Nat → Prop) (v : Value) (hr : RepS w S (.rf n f) v) : RepS w S (ints (ofN n fun i => intOf (f i))) v := by
  unfold ints
  rw [ofN_length]
  exact rf_conv (fun i hi => by rw [ofN_get _ _ _ _ hi]; exact intOf_is (allN_iff.1 h i hi)) hr
end Go.PS
