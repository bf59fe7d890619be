/- Solve and Clash: what they hand back. -/
import Derived.Test.YtepnijjgdhldeaaQD15
namespace Go.Proofs.Ytepnijjgdhldeaa
open Go.Awp
set_option linter.unusedSimpArgs false
set_option linter.unusedVariables false
set_option maxRecDepth 10000
set_option maxHeartbeats 4000000
/-- A list with its first and last elements exchanged, up to a place. -/
def rv (n : Nat) (f : Nat → Int) (i : Nat) : Nat → Int := fun t => if t < i ∨ n ≤ t + i then f (n - 1 - t) else f t
/-- Solve, as the program answers. -/
def solveV (n : Int) (ds : List Df) : List Int × Int := if valid n ds then (if 0 ≤ (grown n.toNat ds (everyone n.toNat)).2 then ([], 41) else (solved n.toNat ds, 0)) else ([], 40)
def clashV (l : List Int) (b : Bool) (e : Int) : AV := .tuple [.ro true (ic l), .bool b, I e]
/-- The indices along a round, from its end. -/
def roundL (ds : List Df) (s : Gs) (a p : Nat) : List Int := li p fun t => s.last (itp ds s (p - 1 - t) a)
end Go.Proofs.Ytepnijjgdhldeaa
