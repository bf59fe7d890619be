/- CheckPath of the program and of the specification; Apart and Simple of the specification. -/
import Derived.Test.YtepnijjgdhldeaaQG8
namespace Go.Proofs.Ytepnijjgdhldeaa
open Go.Awp
set_option linter.unusedSimpArgs false
set_option linter.unusedVariables false
set_option maxRecDepth 10000
set_option maxHeartbeats 8000000
/-- CheckPath, as both programs answer. -/
def ckPath (n : Int) (ds : List Df) (f t most : Int) (l : List Int) : Int :=
  if valid n ds then (if (isNode f n && isNode t n) && idx ds l then (if (l.length : Int) > n - 1 then 43 else if (wkV ds f t l).2 = true ∧ (wkV ds f t l).1 ≤ most then 0 else 43) else 1) else 40
/-- Where a list of differences leads. -/
def tos (ds : List Df) (l : List Int) : List Int := l.map fun k => (dd ds k).2.1
end Go.Proofs.Ytepnijjgdhldeaa
