/- Best and Flow: what they hand back. -/
import Derived.Test.YtepnijjgdhldeaaQX1
import Derived.Test.YtepnijjgdhldeaaQG7
namespace Go.Proofs.Ytepnijjgdhldeaa
open Go.Awp
set_option linter.unusedSimpArgs false
set_option linter.unusedVariables false
set_option maxRecDepth 10000
set_option maxHeartbeats 4000000
/-- What Flow hands back. -/
structure Flowed (n : Int) (ds : List Df) (ws : List Int) (H0 : AHeap) (x : AV) (H' : AHeap) : Prop where
  len : H0.length ≤ H'.length
  same : ∀ i, i < H0.length → AHeap.obj H' i = AHeap.obj H0 i
  cas : (bestE n ds ws ≠ 0 ∧ x = .tuple [.nilSlice, .bool false, I (bestE n ds ws)]) ∨
    (bestE n ds ws = 0 ∧ ∃ m : Nat, n = m ∧ Sol m ds ∧ ((x = .tuple [.nilSlice, .bool false, I 0] ∧ ∃ y, Ray m ds (wg ws) y) ∨
      ∃ (h : Nat) (F : Nat → Int), x = .tuple [.own h ds.length 0 ds.length, .bool true, I 0] ∧ H0.length ≤ h ∧ AHeap.obj H' h = some ⟨3, 1, ic (li ds.length F)⟩ ∧ Opt m ds (wg ws) F ∧ ∀ k, k < ds.length → 0 ≤ F k ∧ F k ≤ 65536))
/-- What Best hands back. -/
structure Bests (n : Int) (ds : List Df) (ws : List Int) (H0 : AHeap) (x : AV) (H' : AHeap) : Prop where
  len : H0.length ≤ H'.length
  same : ∀ i, i < H0.length → AHeap.obj H' i = AHeap.obj H0 i
  cas : (bestE n ds ws ≠ 0 ∧ x = .tuple [.nilSlice, .bool false, I (bestE n ds ws)]) ∨
    (bestE n ds ws = 0 ∧ ∃ m : Nat, n = m ∧ Sol m ds ∧ ((x = .tuple [.nilSlice, .bool false, I 0] ∧ ∃ y, Ray m ds (wg ws) y) ∨
      ∃ f : Nat → Int, x = .tuple [.ro true (ic (li m f)), .bool true, I 0] ∧ fulf m ds (li m f) = true ∧ f 0 = 0 ∧ (mostN m ds (wg ws)).2 = true ∧ dot m (wg ws) f = (mostN m ds (wg ws)).1))
end Go.Proofs.Ytepnijjgdhldeaa
