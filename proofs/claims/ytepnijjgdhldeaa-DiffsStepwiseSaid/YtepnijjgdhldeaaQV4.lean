/- The cheapest use of differences: best. -/
import Derived.Test.YtepnijjgdhldeaaQV3
namespace Go.Proofs.Ytepnijjgdhldeaa
open Go.Awp
set_option linter.unusedSimpArgs false
set_option linter.unusedVariables false
set_option maxRecDepth 10000
set_option maxHeartbeats 8000000
def wg (l : List Int) (x : Nat) : Int := l.getD x 0
def wfar (x : Int) : Bool := !(decide (-4096 ≤ x) && decide (x ≤ 4096))
def weightyB (n : Int) (ws : List Int) : Bool := decide ((ws.length : Int) = n) && !ws.any wfar
def bestE (n : Int) (ds : List Df) (ws : List Int) : Int := if valid n ds then (if weightyB n ws then (if (lens n.toNat ds (everyone n.toNat)).2 then 0 else 41) else 1) else 40
structure Bested (n : Int) (ds : List Df) (ws : List Int) (H0 : AHeap) (x : AV) (H' : AHeap) : Prop where
  len : H0.length ≤ H'.length
  same : ∀ i, i < H0.length → AHeap.obj H' i = AHeap.obj H0 i
  cas : (bestE n ds ws ≠ 0 ∧ x = .tuple [.nilPtr, .bool false, I (bestE n ds ws)]) ∨
    (bestE n ds ws = 0 ∧ ∃ (m hu hf hw : Nat) (F W : Nat → Int) (T : Int) (ok : Bool), n = m ∧ Sol m ds ∧ T ≤ 65536 ∧ x = .tuple [.ptr hu 1 0 0, .bool ok, I 0] ∧ H0.length ≤ hu ∧ H0.length ≤ hf ∧ H0.length ≤ hw ∧ UF hu hf hw m ds F W H' ∧ Inv m ds (wg ws) T F W ∧ ((ok = true ∧ Opt m ds (wg ws) F) ∨ (ok = false ∧ ∃ y, Ray m ds (wg ws) y)))
end Go.Proofs.Ytepnijjgdhldeaa
/- Most: what it hands back. -/
namespace Go.Proofs.Ytepnijjgdhldeaa
open Go.Awp
set_option linter.unusedSimpArgs false
set_option linter.unusedVariables false
set_option maxRecDepth 10000
set_option maxHeartbeats 8000000
def costc (ds : List Df) (F : Nat → Int) (c : Nat) : Int := sumN c fun k => F k * (ed ds k).2.2
noncomputable def mostV (n : Int) (ds : List Df) (ws : List Int) : Int × Bool × Int := if bestE n ds ws = 0 then ((mostN n.toNat ds (wg ws)).1, (mostN n.toNat ds (wg ws)).2, 0) else (0, false, bestE n ds ws)
end Go.Proofs.Ytepnijjgdhldeaa
/- The greatest sums for single nodes are the shortest walks. -/
namespace Go.Proofs.Ytepnijjgdhldeaa
open Go.Awp
set_option linter.unusedSimpArgs false
set_option linter.unusedVariables false
end Go.Proofs.Ytepnijjgdhldeaa
