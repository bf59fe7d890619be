/- Lists of differences: are they indices, are they walks. -/
import Derived.Test.YtepnijjgdhldeaaQG5
import Derived.Test.YtepnijjgdhldeaaProg
import Derived.Test.YtepnijjgdhldeaaA4
import Derived.Test.YtepnijjgdhldeaaA1
import Derived.KernelRfl
import Derived.Test.YtepnijjgdhldeaaQG6
namespace Go.Proofs.Ytepnijjgdhldeaa
open Go.Awp
set_option linter.unusedSimpArgs false
set_option linter.unusedVariables false
set_option maxRecDepth 10000
set_option maxHeartbeats 4000000
def dd (ds : List Df) (k : Int) : Df := ds.getD k.toNat (0, 0, 0)
def isIdx (ds : List Df) (k : Int) : Bool := decide (0 ≤ k) && decide (k < ds.length)
def idx (ds : List Df) (l : List Int) : Bool := l.all (isIdx ds)
/-- A walk along a list, as both programs reckon it: the sum, and where it ends. -/
def wk (ds : List Df) : Int → Int → List Int → Option (Int × Int)
  | s, at', [] => some (s, at')
  | s, at', k :: r => if (dd ds k).1 = at' then wk ds (IntKind.i64.wrap (s + (dd ds k).2.2)) (dd ds k).2.1 r else none
def wkV (ds : List Df) (f t : Int) (l : List Int) : Int × Bool := match wk ds 0 f l with
  | some (s, a) => (s, a == t)
  | none => (0, false)
end Go.Proofs.Ytepnijjgdhldeaa
