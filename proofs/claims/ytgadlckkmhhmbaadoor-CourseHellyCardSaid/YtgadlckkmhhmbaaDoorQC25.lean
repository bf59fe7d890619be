/- Contracts: Standing of the program. -/
import Derived.Test.YtgadlckkmhhmbaaDoorQG8
set_option linter.unusedVariables false
set_option linter.unusedSimpArgs false
set_option linter.unusedSectionVars false
namespace Go.Proofs.YtgadlckkmhhmbaaDoor
open Go.Awp Go.Grams
set_option linter.unusedSimpArgs false
set_option linter.unusedVariables false
set_option linter.unusedSectionVars false
set_option maxRecDepth 10000
/-- Numbers that are gone, as the rows of a map. -/
def mrows (l : List Int) : List (List AV) := l.map fun n => [I n, .bool true]
end Go.Proofs.YtgadlckkmhhmbaaDoor
