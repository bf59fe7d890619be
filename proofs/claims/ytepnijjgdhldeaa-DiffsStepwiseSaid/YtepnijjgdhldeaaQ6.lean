/- Lengths of the specification: what it hands back. -/
import Derived.Test.YtepnijjgdhldeaaQ5
namespace Go.Proofs.Ytepnijjgdhldeaa
open Go.Awp
set_option linter.unusedSimpArgs false
set_option linter.unusedVariables false
set_option maxRecDepth 10000
structure LF (h1 h2 n : Nat) (m : Int) (ds : List Df) (s : Gs) (H : AHeap) : Prop where
  o0 : AHeap.obj H 0 = some ⟨24, 2, [[I m, .ro false (rows ds)]]⟩
  o1 : AHeap.obj H h1 = some ⟨3, 1, ic (li n s.long)⟩
  o2 : AHeap.obj H h2 = some ⟨4, 1, bc (lb n s.has)⟩
theorem LF.other {h1 h2 n : Nat} {m : Int} {ds : List Df} {s : Gs} {H H1 : AHeap} (h : LF h1 h2 n m ds s H) (hk : ∀ q, q < H.length → AHeap.obj H1 q = AHeap.obj H q) : LF h1 h2 n m ds s H1 :=
  ⟨by rw [hk _ (AHeap.obj_lt h.o0)]; exact h.o0, by rw [hk _ (AHeap.obj_lt h.o1)]; exact h.o1, by rw [hk _ (AHeap.obj_lt h.o2)]; exact h.o2⟩
end Go.Proofs.Ytepnijjgdhldeaa
