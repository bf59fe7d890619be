/- Close of the specification: what it hands back. -/
import Derived.Test.YtepnijjgdhldeaaQD20
namespace Go.Proofs.Ytepnijjgdhldeaa
open Go.Awp
set_option linter.unusedSimpArgs false
set_option linter.unusedVariables false
set_option maxRecDepth 10000
set_option maxHeartbeats 8000000
abbrev Two := (AV × Option Nat) × (AV × Option Nat)
structure CF (m : Nat) (ds : List Df) (c : Nat) (w : Two) (H : AHeap) : Prop where
  o0 : AHeap.obj H 0 = some ⟨24, 2, [[I m, .ro false (rows ds)]]⟩
  o1 : AHeap.obj H 1 = some ⟨73, 3, [[I 0, .nilSlice, .nilSlice]]⟩
  o2 : AHeap.obj H 2 = some ⟨73, 3, [[I m, w.1.1, w.2.1]]⟩
  a1 : AccS H w.1.1 3 1 (ic (li c (cellOf m ds))) w.1.2
  a2 : AccS H w.2.1 4 1 (bc (lb c (hasOf m ds))) w.2.2
structure CI (w : Two) : Prop where
  z1 : ∀ h, w.1.2 = some h → 3 ≤ h
  z2 : ∀ h, w.2.2 = some h → 3 ≤ h
  zd : ∀ h, w.1.2 = some h → w.2.2 ≠ some h
theorem AccS.lt {H : AHeap} {a : AV} {e s : Nat} {els : List (List AV)} {ho : Option Nat} (h : AccS H a e s els ho) : ∀ q, ho = some q → q < H.length := fun q hq => by
  rcases h with ⟨e, _⟩ | ⟨c, e, _, e3⟩
  · rw [e] at hq; cases hq
  · rw [e] at hq; cases hq; exact AHeap.obj_lt e3
end Go.Proofs.Ytepnijjgdhldeaa
