/- CourseStands: what follows the standing sheets (Corrected names what changed). -/
import Derived.Test.YtgadlckkmhhmbaaDoorProg
import Derived.Test.YtgadlckkmhhmbaaDoorQFx
import Derived.KernelRfl
import Derived.Test.YtgadlckkmhhmbaaDoorQE0
import Derived.Test.YtgadlckkmhhmbaaDoorQC26
import Derived.Test.YtgadlckkmhhmbaaDoorQC20
import Derived.Test.YtgadlckkmhhmbaaDoorQG8
import Derived.Test.YtgadlckkmhhmbaaDoorQTL
set_option linter.unusedVariables false
set_option linter.unusedSimpArgs false
set_option linter.unusedSectionVars false
namespace Go.Proofs.YtgadlckkmhhmbaaDoor
open Go.Awp Go.Grams
set_option linter.unusedSimpArgs false
set_option linter.unusedVariables false
set_option linter.unusedSectionVars false
set_option maxRecDepth 10000
end Go.Proofs.YtgadlckkmhhmbaaDoor
/- CourseStands: a list of sheets without one of them. -/
namespace Go.Proofs.YtgadlckkmhhmbaaDoor
open Go.Awp Go.Grams
set_option linter.unusedSimpArgs false
set_option linter.unusedVariables false
set_option linter.unusedSectionVars false
set_option maxRecDepth 10000
end Go.Proofs.YtgadlckkmhhmbaaDoor
/- CourseStands: without a sheet that does not stand nothing changes. -/
namespace Go.Proofs.YtgadlckkmhhmbaaDoor
open Go.Awp Go.Grams
set_option linter.unusedSimpArgs false
set_option linter.unusedVariables false
set_option linter.unusedSectionVars false
set_option maxRecDepth 10000
end Go.Proofs.YtgadlckkmhhmbaaDoor
/- CourseStands: a sheet of a number stands exactly if the number is not withdrawn and there is a known sheet of it. -/
namespace Go.Proofs.YtgadlckkmhhmbaaDoor
open Go.Awp Go.Grams
set_option linter.unusedSimpArgs false
set_option linter.unusedVariables false
set_option linter.unusedSectionVars false
set_option maxRecDepth 10000
theorem car_ptr {H : AHeap} {d h ver i j : Nat} {cs l : List AV} (hd : deref H (.ptr h ver i j) = some cs) (hc : carL (carry false H d) cs = some l) : carry false H (d + 1) (.ptr h ver i j) = some (.rop l) := by
  rw [show carry false H (d + 1) (.ptr h ver i j) = (match deref H (.ptr h ver i j) with | some cells => (match carL (carry false H d) cells with | some l => some (.rop l) | none => none) | none => none) from rfl, hd]
  simp only [hc]
end Go.Proofs.YtgadlckkmhhmbaaDoor
