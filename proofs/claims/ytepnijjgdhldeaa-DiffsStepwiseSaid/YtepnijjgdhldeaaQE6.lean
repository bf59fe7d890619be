/- The law DiffsScaled, walked. -/
import Derived.Test.YtepnijjgdhldeaaQV6
import Derived.Test.YtepnijjgdhldeaaProg
import Derived.Test.YtepnijjgdhldeaaA4
import Derived.Test.YtepnijjgdhldeaaA1
import Derived.KernelRfl
namespace Go.Proofs.Ytepnijjgdhldeaa
open Go.Awp
set_option linter.unusedSimpArgs false
set_option linter.unusedVariables false
set_option maxRecDepth 10000
set_option maxHeartbeats 4000000
theorem frz_agg2 {H : AHeap} {x y x' y' : AV} (hx : Frz H x x') (hy : Frz H y y') (h1 : x'.one = true) (h2 : y'.one = true) : Frz H (.agg [x, y]) (.agg [x', y']) := fun w m B v st hv => by
  cases hv with
  | agg _ vs hl ho hh =>
    refine .agg _ _ hl (by simp [h1, h2]) fun i z v' e1 e2 => ?_
    rcases i with _ | _ | i
    · cases e1; exact hx w m B v' st (hh 0 x v' rfl e2)
    · cases e1; exact hy w m B v' st (hh 1 y v' rfl e2)
    · simp at e1
theorem frz_int {H : AHeap} {n : Int} : Frz H (I n) (I n) := frz_car (d := 1) rfl
end Go.Proofs.Ytepnijjgdhldeaa
