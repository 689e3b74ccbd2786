/- Contracts of chapter 53: what a line seems to say. -/
import Derived.Test.YtldmgdphelgffaaDoorS10
namespace Go.Proofs.YtldmgdphelgffaaDoor
open Go.PS

def d8 : List PV → Option (PV × List Prop)
  | [.agg [.sc (.int .i64 k), .sc (.int .i64 a), .sc (.int .i64 b), .sc (.string s)]] => some (lineV ⟨k, a, b, s⟩, [s.size ≤ 70000, InR a, InR b])
  | _ => none
def d38 : List PV → Option (PV × List Prop)
  | [.sc (.string s), .sc (.string ⟨⟨[c]⟩⟩)] => some (cutV s c, [s.size < 4294967281])
  | _ => none
def d41 : List PV → Option (PV × List Prop)
  | [.sc (.string s)] => some (cutV s 32, [s.size ≤ 9223372036854775807])
  | _ => none
def d39 : List PV → Option (PV × List Prop)
  | [.sc (.string s), .sc (.int .i64 10), .sc (.int .i64 1099511627776)] => some (parseV s, [s.size ≤ 9223372036854775807])
  | _ => none
def d40 : List PV → Option (PV × List Prop)
  | [.sc (.string s)] => some (unhexV s, [s.size ≤ 4294967296])
  | _ => none
def Ee : Env := addE 8 d8 (addE 9 d8 (addE 38 d38 (addE 41 d41 (addE 39 d39 (addE 44 d39 (addE 40 d40 (addE 43 d40 Ed)))))))
theorem Ee_ok : EnvOk P Ee :=
  addE_ok (addE_ok (addE_ok (addE_ok (addE_ok (addE_ok (addE_ok (addE_ok Ed_ok
    (fun l r ob h ho => by unfold d40 at h; split at h <;> cases h; exact runhex_ok _ (ho _ (by simp))))
    (fun l r ob h ho => by unfold d40 at h; split at h <;> cases h; exact unhex_ok _ (ho _ (by simp))))
    (fun l r ob h ho => by unfold d39 at h; split at h <;> cases h; exact rparse_ok _ (ho _ (by simp))))
    (fun l r ob h ho => by unfold d39 at h; split at h <;> cases h; exact parse_ok _ (ho _ (by simp))))
    (fun l r ob h ho => by unfold d41 at h; split at h <;> cases h; exact rcut_ok _ (ho _ (by simp))))
    (fun l r ob h ho => by unfold d38 at h; split at h <;> cases h; exact cut_ok _ _ (ho _ (by simp))))
    (fun l r ob h ho => by unfold d8 at h; split at h <;> cases h; exact rline_ok ⟨_, _, _, _⟩ (ho _ (by simp)) (ho _ (by simp)) (ho _ (by simp))))
    (fun l r ob h ho => by unfold d8 at h; split at h <;> cases h; exact line_ok ⟨_, _, _, _⟩ (ho _ (by simp)) (ho _ (by simp)) (ho _ (by simp)))
end Go.Proofs.YtldmgdphelgffaaDoor
