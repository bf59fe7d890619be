/- Tables: CheckTable of the specification. -/
import Derived.Test.YtepnijjgdhldeaaQD22
namespace Go.Proofs.Ytepnijjgdhldeaa
open Go.Awp
set_option linter.unusedSimpArgs false
set_option linter.unusedVariables false
set_option maxRecDepth 10000
set_option maxHeartbeats 8000000
noncomputable def tabE (n : Int) (l : List Int) (m : List Bool) : Int := if tabB n l m = true then 0 else 40
theorem ic_mg {l : List Int} {x : Nat} (h : x < l.length) : (ic l)[x]? = some [I (mg l x)] := by rw [ic_get h, mg_eq]
theorem bc_hq {l : List Bool} {x : Nat} (h : x < l.length) : (bc l)[x]? = some [.bool (hq l x)] := by rw [bc_get h, hq_eq]
end Go.Proofs.Ytepnijjgdhldeaa
