/- Contracts: Drift and Run. -/
import Derived.Test.YtomejgikdelgkaaGreatDoorQC10
set_option linter.unusedVariables false
set_option linter.unusedSimpArgs false
set_option linter.unusedSectionVars false
namespace Go.Proofs.YtomejgikdelgkaaGreatDoor
open Go.Awp Go.Snow
set_option linter.unusedSimpArgs false
set_option linter.unusedVariables false
set_option linter.unusedSectionVars false
set_option maxRecDepth 10000
theorem frz_agg1 {H : AHeap} {x y : AV} (hx : Frz H x y) (h1 : y.one = true) : Frz H (.agg [x]) (.agg [y]) := fun w m B v st hv => by
  cases hv with
  | agg _ vs hl ho hh =>
    refine .agg _ _ hl (by simp [h1]) fun i z v' e1 e2 => ?_
    rcases i with _ | i
    · cases e1; exact hx w m B v' st (hh 0 x v' rfl e2)
    · simp at e1
def driftV (p q : List Lay) (m : Int) : List Lay × List Lay × Int :=
  if okP p && okP q then (if 0 ≤ m ∧ m ≤ 65536 then (if okP (times loss1 m.toNat p).1 then
    (if (applyV q 1 (taken loss1 m.toNat p) 0).2.2 = 0 then ((times loss1 m.toNat p).1, (applyV q 1 (taken loss1 m.toNat p) 0).1, 0) else ([], [], (applyV q 1 (taken loss1 m.toNat p) 0).2.2)) else ([], [], 2)) else ([], [], 1)) else ([], [], 20)
end Go.Proofs.YtomejgikdelgkaaGreatDoor
