/- CheckClash, of the program and of the specification. -/
import Derived.Test.YtepnijjgdhldeaaQD14
namespace Go.Proofs.Ytepnijjgdhldeaa
open Go.Awp
set_option linter.unusedSimpArgs false
set_option linter.unusedVariables false
set_option maxRecDepth 10000
set_option maxHeartbeats 4000000
def froms (ds : List Df) (l : List Int) : List Int := l.map fun k => (dd ds k).1
/-- CheckClash, as both programs answer. -/
def clash (n : Int) (ds : List Df) (l : List Int) : Int :=
  if valid n ds then (if idx ds l then (if l.length = 0 ∨ (l.length : Int) > n then 43 else if (froms ds l).Nodup then (if (wkV ds (dd ds (l.getD 0 0)).1 (dd ds (l.getD 0 0)).1 l).2 = true ∧ (wkV ds (dd ds (l.getD 0 0)).1 (dd ds (l.getD 0 0)).1 l).1 < 0 then 0 else 43) else 43) else 1) else 40
end Go.Proofs.Ytepnijjgdhldeaa
