/- Contracts: the specification's histories. -/
import Derived.Test.YtgadlckkmhhmbaaGreatDoorQC13
import Derived.Test.YtgadlckkmhhmbaaGreatDoorQTR
set_option linter.unusedVariables false
set_option linter.unusedSimpArgs false
set_option linter.unusedSectionVars false
namespace Go.Proofs.YtgadlckkmhhmbaaGreatDoor
open Go.Awp Go.Grams
set_option linter.unusedSimpArgs false
set_option linter.unusedVariables false
set_option linter.unusedSectionVars false
set_option maxRecDepth 10000
theorem car_ic {b : Bool} {H : AHeap} {d : Nat} {l : List Int} : carry false H (d + 2) (.ro b (ic l)) = some (.ro false (ic l)) := car_ro (ic_simple _) (.inl rfl)
noncomputable def hisV (no rate : Int) (ts : List Tst) (known : Int) (days grams : List Int) : AV := .tuple [.bool (hisB no rate ts known days grams), I (hisE no rate ts known days grams)]
theorem ask1 {no rate known : Int} {ts : List Tst} : askV no rate ts [known] = if chkS no rate ts ≠ 0 then chkS no rate ts else if okDay known = true then 0 else 1 := by simp [askV]
end Go.Proofs.YtgadlckkmhhmbaaGreatDoor
