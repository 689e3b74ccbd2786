/- JFZ. -/
import Derived.Test.YtnpcbfcfcjdhlaaGreatDoorJF0
import Derived.Test.YtnpcbfcfcjdhlaaGreatDoorJF1
import Derived.Test.YtnpcbfcfcjdhlaaGreatDoorJF2
import Derived.Test.YtnpcbfcfcjdhlaaGreatDoorJF3
import Derived.Test.YtnpcbfcfcjdhlaaGreatDoorJF4
import Derived.Test.YtnpcbfcfcjdhlaaGreatDoorJF5
import Derived.Test.YtnpcbfcfcjdhlaaGreatDoorJF6
import Derived.Test.YtnpcbfcfcjdhlaaGreatDoorJF7
import Derived.Test.YtnpcbfcfcjdhlaaGreatDoorJF8
import Derived.Test.YtnpcbfcfcjdhlaaGreatDoorJF9
import Derived.Test.YtnpcbfcfcjdhlaaGreatDoorJF10
import Derived.Test.YtnpcbfcfcjdhlaaGreatDoorJF11
import Derived.Test.YtnpcbfcfcjdhlaaGreatDoorJF12
import Derived.Test.YtnpcbfcfcjdhlaaGreatDoorJF13
namespace Go.Proofs.YtnpcbfcfcjdhlaaGreatDoor
section
open Go
theorem mX {a b:Bool}(O:a=true)(h2:b=true):(a&&b)=true:=by rw[O,h2];rfl
set_option maxRecDepth 100000 in
theorem as0:joinedFacts Tryz.pinned.checked.prog 3 Tryz.f3 Rows.deviceRightSpec Rows.deviceRightRow=true:=
 mX (mX (mX (mX (mX (mX (mX (mX (mX (mX (mX (mX (mX (mX (mX (mX (mX (mX (mX (mX (mX (mX (mX (mX (mX (mX (mX (mX (mX (mX (mX ar0 ar5) ar6) ar1) ar2) ar3) ar7) ar4) ar8) ar9) Y7) Y8) Y9) YS) YT) YU) YV) YW) YX) YY) YZ) Y1) Za) Y2) Zb) Zc) Zd) Ze) Y3) Y4) Y5) Y6
