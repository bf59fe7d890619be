/- Contracts: Course, of the program and of the specification. -/
import Derived.Test.YtgadlckkmhhmbaaDoorQC11
import Derived.Test.YtgadlckkmhhmbaaDoorProg
import Derived.Test.YtgadlckkmhhmbaaDoorQFx
import Derived.KernelRfl
set_option linter.unusedVariables false
set_option linter.unusedSimpArgs false
set_option linter.unusedSectionVars false
namespace Go.Proofs.YtgadlckkmhhmbaaDoor
open Go.Awp Go.Grams
set_option linter.unusedSimpArgs false
set_option linter.unusedVariables false
set_option linter.unusedSectionVars false
set_option maxRecDepth 10000
def couR (no rate : Int) (ts : List Tst) (s : Sht) (known : Int) : Sp := ifL no rate ts s 0 known (courseS s (turnsV rate ts s known))
end Go.Proofs.YtgadlckkmhhmbaaDoor
