/- The closed facts of the row of the law CourseStands. -/
import Derived.Test.YtgadlckkmhhmbaaDoorRows
import Derived.JoinedOf
import Derived.KernelRfl
set_option linter.unusedVariables false
set_option linter.unusedSimpArgs false
set_option linter.unusedSectionVars false
namespace Go.Proofs.YtgadlckkmhhmbaaDoor
set_option maxRecDepth 100000
set_option maxHeartbeats 32000000 in
theorem closed10 : joinedFacts Tryd.prog 10 Tryd.f10 Rows.courseStandsSpec Rows.courseStandsRow = true := by
  unfold joinedFacts
  simp only [Bool.and_eq_true]
  repeat' apply And.intro
  all_goals (as_aux_lemma => kernel_rfl)
end Go.Proofs.YtgadlckkmhhmbaaDoor
