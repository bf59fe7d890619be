/- The law DiffsScaled, walked. -/
import Derived.Test.YtepnijjgdhldeaaQV6
import Derived.Test.YtepnijjgdhldeaaProg
import Derived.Test.YtepnijjgdhldeaaA4
import Derived.KernelRfl
namespace Go.Proofs.Ytepnijjgdhldeaa
open Go.Awp
set_option linter.unusedSimpArgs false
set_option linter.unusedVariables false
set_option maxRecDepth 10000
set_option maxHeartbeats 4000000
theorem frz_agg2 {H : AHeap} {x y x' y' : AV} (hx : Frz H x x') (hy : Frz H y y') (h1 : x'.one = true) (h2 : y'.one = true) : Frz H (.agg [x, y]) (.agg [x', y']) := fun w m B v st hv => by
  cases hv with
  | agg _ vs hl ho hh =>
    refine .agg _ _ hl (by simp [h1, h2]) fun i z v' e1 e2 => ?_
    rcases i with _ | _ | i
    · cases e1; exact hx w m B v' st (hh 0 x v' rfl e2)
    · cases e1; exact hy w m B v' st (hh 1 y v' rfl e2)
    · simp at e1
theorem frz_int {H : AHeap} {n : Int} : Frz H (I n) (I n) := frz_car (d := 1) rfl
theorem frz_icF {H : AHeap} {b : Bool} {xs : List Int} : Frz H (.ro b (ic xs)) (.ro false (ic xs)) := frz_car (d := 2) car_icF
theorem acc_frz {lo : Nat} {H : AHeap} {a : AV} {e s : Nat} {els : List (List AV)} (h : Acc lo H a e s els) (hs : Simple els) : Frz H a (.ro false els) := by
  have := h.frz hs []
  rwa [List.append_nil] at this
theorem acc_net {lo : Nat} {H : AHeap} {n : Int} {a : AV} {ds : List Df} (h : Acc lo H a 39 3 (rows ds)) : Frz H (.agg [I n, a]) (.agg [I n, .ro false (rows ds)]) :=
  frz_agg2 frz_int (acc_frz h (rows_simple _)) rfl rfl
end Go.Proofs.Ytepnijjgdhldeaa
