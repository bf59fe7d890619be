/- Contracts: lists of sheets and of numbers. -/
import Derived.Test.YtgadlckkmhhmbaaDoorQC17
import Derived.Test.YtgadlckkmhhmbaaDoorQC14
import Derived.Test.YtgadlckkmhhmbaaDoorQC13
set_option linter.unusedVariables false
set_option linter.unusedSimpArgs false
set_option linter.unusedSectionVars false
namespace Go.Proofs.YtgadlckkmhhmbaaDoor
open Go.Awp Go.Grams
set_option linter.unusedSimpArgs false
set_option linter.unusedVariables false
set_option linter.unusedSectionVars false
set_option maxRecDepth 10000
/-- Sheets, as the cells of a slice. -/
def srows (l : List Sht) : List (List AV) := l.map (shR false)
def shsE (l : List Sht) : Int := if 256 < l.length then 2 else if l.all okSh = true then 0 else 12
def numsV (l : List Int) : Bool := l.all okNo && upI l
end Go.Proofs.YtgadlckkmhhmbaaDoor
