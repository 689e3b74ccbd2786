/- Regions that draw their order: whatever order is drawn comes to what the text's order comes to. -/
import Derived.Test.YtldmgdphelgffaaDoorPS13
namespace Go.PS
open Go.RowKit

section
variable {P : Program} {w0 w : World} {Sa S : Nat → Prop} {h h' : Hp} {m : Mp} {a : Act} {o : Oper} {T T' : List PV} {s s' : Scr} {ob : List Prop} {v : PV} {ops : Array Oper} {Q : Exit → Act → World → Prop} {E : Env}

theorem Deci.back {p q : PV} (hd : Deci p q) {u : Value} (hr : Rep w S m q u) : Rep w S m p u := by
  cases hd with
  | refl => exact hr
  | bit c => rw [bit_inv hr]; exact .st _ _ (.sc _)

end
end Go.PS
