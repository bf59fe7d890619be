/- Close: what it hands back. -/
import Derived.Test.YtepnijjgdhldeaaQD17
import Derived.Test.YtepnijjgdhldeaaProg
import Derived.Test.YtepnijjgdhldeaaA4
import Derived.Test.YtepnijjgdhldeaaA1
import Derived.KernelRfl
namespace Go.Proofs.Ytepnijjgdhldeaa
open Go.Awp
set_option linter.unusedSimpArgs false
set_option linter.unusedVariables false
set_option maxRecDepth 10000
set_option maxHeartbeats 8000000
def cellOf (n : Nat) (ds : List Df) (x : Nat) : Int := (lens n ds (one (x / n))).1.long (x % n)
def hasOf (n : Nat) (ds : List Df) (x : Nat) : Bool := (lens n ds (one (x / n))).1.has (x % n)
/-- Close, as both programs answer: the number of nodes, the table, the error. -/
def closeV (n : Int) (ds : List Df) : Int × List Int × List Bool × Int :=
  if valid n ds then (if n > 64 then (0, [], [], 2) else if (lens n.toNat ds (everyone n.toNat)).2 then (n, li (n.toNat * n.toNat) (cellOf n.toNat ds), lb (n.toNat * n.toNat) (hasOf n.toNat ds), 0) else (0, [], [], 41)) else (0, [], [], 40)
def tabV (b : Bool) (n : Int) (l : List Int) (m : List Bool) : AV := .agg [I n, .ro b (ic l), .ro b (bc m)]
end Go.Proofs.Ytepnijjgdhldeaa
