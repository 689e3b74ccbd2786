/- Contracts of chapter 53: the lines of a script. -/
import Derived.Test.YtldmgdphelgffaaDoorS16
namespace Go.Proofs.YtldmgdphelgffaaDoor
open Go.PS

def d45 : List PV → Option (PV × List Prop)
  | [.sc (.string s)] => some (Bo (ignS s), [])
  | _ => none
def d46 : List PV → Option (PV × List Prop)
  | [.sc (.string s), .sc (.string ⟨⟨[c]⟩⟩)] => some (strL (splitL c s.data.toList), [s.size < 4294967281])
  | _ => none
def d47 : List PV → Option (PV × List Prop)
  | [.sc (.string s), .sc (.string ⟨⟨[c]⟩⟩)] => some (S (trimS s c), [s.size ≤ 9223372036854775807])
  | _ => none
def Ej : Env := addE 45 d45 (addE 48 d45 (addE 46 d46 (addE 47 d47 Ei)))
theorem Ej_ok : EnvOk P Ej :=
  addE_ok (addE_ok (addE_ok (addE_ok Ei_ok
    (fun l r ob h ho => by unfold d47 at h; split at h <;> cases h; exact trim_ok _ _ (ho _ (by simp))))
    (fun l r ob h ho => by unfold d46 at h; split at h <;> cases h; exact split_ok _ _ (ho _ (by simp))))
    (fun l r ob h ho => by unfold d45 at h; split at h <;> cases h; exact rignored_ok _))
    (fun l r ob h ho => by unfold d45 at h; split at h <;> cases h; exact ignored_ok _)
end Go.Proofs.YtldmgdphelgffaaDoor
