/- Apart: what it hands back. -/
import Derived.Test.YtepnijjgdhldeaaQE3
namespace Go.Proofs.Ytepnijjgdhldeaa
open Go.Awp
set_option linter.unusedSimpArgs false
set_option linter.unusedVariables false
set_option maxRecDepth 10000
def isNode (i n : Int) : Bool := decide (0 ≤ i) && decide (i < n)
/-- Apart, as both programs answer. -/
def apart (n : Int) (ds : List Df) (i j : Int) : Int × Bool × Int :=
  if valid n ds then (if isNode i n && isNode j n then (if (lens n.toNat ds (everyone n.toNat)).2 then (if (lens n.toNat ds (one i.toNat)).1.has j.toNat then ((lens n.toNat ds (one i.toNat)).1.long j.toNat, true, 0) else (0, false, 0)) else (0, false, 41)) else (0, false, 1)) else (0, false, 40)
def apartV (r : Int × Bool × Int) : AV := .tuple [I r.1, .bool r.2.1, I r.2.2]
theorem out_apart {H : AHeap} {a e : Int} {b : Bool} : Out H (.tuple [I a, .bool b, I e]) (apartV (a, b, e)) := out_tuple (.cons out_int (.cons out_bool (.cons out_int .nil)))
end Go.Proofs.Ytepnijjgdhldeaa
