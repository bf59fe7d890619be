/- The closed facts of the row of the law CourseHelly. -/
import Derived.Test.YtgadlckkmhhmbaaDoorRows
import Derived.JoinedOf
import Derived.KernelRfl
set_option linter.unusedVariables false
set_option linter.unusedSimpArgs false
set_option linter.unusedSectionVars false
namespace Go.Proofs.YtgadlckkmhhmbaaDoor
set_option maxRecDepth 100000
set_option maxHeartbeats 32000000 in
theorem closed11 : joinedFacts Tryd.prog 11 Tryd.f11 Rows.courseHellySpec Rows.courseHellyRow = true := by
  unfold joinedFacts
  simp only [Bool.and_eq_true]
  repeat' apply And.intro
  all_goals (as_aux_lemma => kernel_rfl)
end Go.Proofs.YtgadlckkmhhmbaaDoor
