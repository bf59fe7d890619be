/- The closed facts of the row of the law DiffsMostSpec. -/
import Derived.Test.YtepnijjgdhldeaaRows
import Derived.JoinedOf
import Derived.KernelRfl
namespace Go.Proofs.Ytepnijjgdhldeaa
set_option maxRecDepth 100000
set_option maxHeartbeats 32000000 in
theorem closed11 : joinedFacts Try.prog 11 Try.f11 Rows.diffsMostSpecSpec Rows.diffsMostSpecRow = true := by
  unfold joinedFacts
  simp only [Bool.and_eq_true]
  repeat' apply And.intro
  all_goals (as_aux_lemma => kernel_rfl)
end Go.Proofs.Ytepnijjgdhldeaa
