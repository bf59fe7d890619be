/- The closed facts of the row of the law PackTexts. -/
import Derived.Test.YtomejgikdelgkaaGreatDoorRows
import Derived.JoinedOf
import Derived.KernelRfl
set_option linter.unusedVariables false
set_option linter.unusedSimpArgs false
set_option linter.unusedSectionVars false
namespace Go.Proofs.YtomejgikdelgkaaGreatDoor
set_option maxRecDepth 100000
set_option maxHeartbeats 32000000 in
theorem closed3 : joinedFacts Tryz.prog 3 Tryz.f3 Rows.packTextsSpec Rows.packTextsUptoRow = true := by
  unfold joinedFacts
  simp only [Bool.and_eq_true]
  repeat' apply And.intro
  all_goals (as_aux_lemma => kernel_rfl)
end Go.Proofs.YtomejgikdelgkaaGreatDoor
