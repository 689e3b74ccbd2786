/- Contracts of chapter 8: fields. -/
import Derived.Test.YtnkmcmflfedmkaaM9
namespace Go.Proofs.Ytnkmcmflfedmkaa
open Go.PS

def d46 : List PV → Option (PV × List Prop)
  | [.rf n f] => some (I (namesE (ofN n fun i => strOf (f i))), [allN n fun i => isStr (f i)])
  | _ => none
def d53 : List PV → Option (PV × List Prop)
  | [.rf n f] => some (I (namesE (ofN n fun i => strOf (f i))), [allN n fun i => isStr (f i), ∀ i, i < n → (strOf (f i)).size ≤ 9223372036854775807])
  | _ => none
def d47 : List PV → Option (PV × List Prop)
  | [.rf n f] => some (I (qidsE (ofN n fun i => qidOf (f i))), [allN n fun i => isQid (f i), ∀ i, i < n → InR (qidOf (f i)).ty])
  | _ => none
def d54 : List PV → Option (PV × List Prop)
  | [.rf n f] => some (I (qidsE (ofN n fun i => qidOf (f i))), [allN n fun i => isQid (f i)])
  | _ => none
def d49 : List PV → Option (PV × List Prop)
  | [.agg [.sc (.int .i64 a), .sc (.int .i64 b), .sc (.int .i64 c), .sc (.int .i64 d), .sc (.int .i64 e), .sc (.int .i64 f), .sc (.int .i64 g), .sc (.int .i64 h), .sc (.int .i64 i), .sc (.string j), .sc (.string k), .sc (.string l), .sc (.string m)]] =>
    some (I (dirE ⟨a, b, ⟨c, d, e⟩, f, g, h, i, j, k, l, m⟩), [InR c, InR f])
  | _ => none
def d61 : List PV → Option (PV × List Prop)
  | [.agg [.sc (.int .i64 a), .sc (.int .i64 b), .sc (.int .i64 c), .sc (.int .i64 d), .sc (.int .i64 e), .sc (.int .i64 f), .sc (.int .i64 g), .sc (.int .i64 h), .sc (.int .i64 i), .sc (.string j), .sc (.string k), .sc (.string l), .sc (.string m)]] =>
    some (I (dirE ⟨a, b, ⟨c, d, e⟩, f, g, h, i, j, k, l, m⟩), [InR c, InR f, j.size ≤ 9223372036854775807])
  | _ => none

theorem ofN_all {α : Type} {n : Nat} {g : Nat → α} {p : α → Prop} (h : ∀ i, i < n → p (g i)) : ∀ y ∈ ofN n g, p y := FL.list_all ⟨n, g⟩ p h

def Eh : Env := addE 46 d46 (addE 53 d53 (addE 47 d47 (addE 54 d54 (addE 49 d49 (addE 61 d61 Eg)))))
theorem Eh_ok : EnvOk P Eh :=
  addE_ok (addE_ok (addE_ok (addE_ok (addE_ok (addE_ok Eg_ok
    (fun l r ob h ho => by unfold d61 at h; split at h <;> cases h; exact rcheck_ok ⟨_, _, ⟨_, _, _⟩, _, _, _, _, _, _, _, _⟩ (ho _ (by simp)) (ho _ (by simp)) (ho _ (by simp))))
    (fun l r ob h ho => by unfold d49 at h; split at h <;> cases h; exact check_ok ⟨_, _, ⟨_, _, _⟩, _, _, _, _, _, _, _, _⟩ (ho _ (by simp)) (ho _ (by simp))))
    (fun l r ob h ho => by unfold d54 at h; split at h <;> cases h; exact (rqids_ok _).conv1 (qidL_conv (ho _ (by simp)))))
    (fun l r ob h ho => by unfold d47 at h; split at h <;> cases h; exact (qids_ok _ (ofN_all (ho _ (List.mem_cons_of_mem _ List.mem_cons_self)))).conv1 (qidL_conv (ho _ (by simp)))))
    (fun l r ob h ho => by unfold d53 at h; split at h <;> cases h; exact (rnames_ok _ (ofN_all (ho _ (List.mem_cons_of_mem _ List.mem_cons_self)))).conv1 (strs_conv (ho _ (by simp)))))
    (fun l r ob h ho => by unfold d46 at h; split at h <;> cases h; exact (names_ok _).conv1 (strs_conv (ho _ (by simp))))
end Go.Proofs.Ytnkmcmflfedmkaa
