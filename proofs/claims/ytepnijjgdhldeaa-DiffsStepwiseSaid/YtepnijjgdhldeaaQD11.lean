/- Top and Bottom of the specification, and the law DiffsTopSpec. -/
import Derived.Test.YtepnijjgdhldeaaQG2
namespace Go.Proofs.Ytepnijjgdhldeaa
open Go.Awp
set_option linter.unusedSimpArgs false
set_option linter.unusedVariables false
set_option maxRecDepth 10000
def rbotV (n : Int) (ds : List Df) : List Int × Int := if (rtopV n (turn ds)).2 = 0 then ((rtopV n (turn ds)).1.map (- ·), 0) else ([], (rtopV n (turn ds)).2)
end Go.Proofs.Ytepnijjgdhldeaa
