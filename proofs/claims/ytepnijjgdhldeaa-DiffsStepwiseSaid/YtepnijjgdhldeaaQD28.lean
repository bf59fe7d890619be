/- Contracts: Narrow of the specification. -/
import Derived.Test.YtepnijjgdhldeaaQD27
namespace Go.Proofs.Ytepnijjgdhldeaa
open Go.Awp
set_option linter.unusedSimpArgs false
set_option linter.unusedVariables false
set_option linter.unusedSectionVars false
set_option maxRecDepth 10000
set_option maxHeartbeats 8000000
structure CN (N : Nat) (l : List Int) (m : List Bool) (u v : Nat) (w : Int) (c : Nat) (t : Two) (H : AHeap) : Prop where
  o0 : AHeap.obj H 0 = some ⟨73, 3, [[I N, .ro false (ic l), .ro false (bc m)]]⟩
  o1 : AHeap.obj H 1 = some ⟨39, 3, [[I u, I v, I w]]⟩
  o2 : AHeap.obj H 2 = some ⟨73, 3, [[I 0, .nilSlice, .nilSlice]]⟩
  o3 : AHeap.obj H 3 = some ⟨73, 3, [[I N, t.1.1, t.2.1]]⟩
  a1 : AccS H t.1.1 3 1 (ic (li c (nM N l m u v w))) t.1.2
  a2 : AccS H t.2.1 4 1 (bc (lb c (nH N l m u v w))) t.2.2
structure CJ (w : Two) : Prop where
  z1 : ∀ h, w.1.2 = some h → 4 ≤ h
  z2 : ∀ h, w.2.2 = some h → 4 ≤ h
  zd : ∀ h, w.1.2 = some h → w.2.2 ≠ some h
section
variable {N : Nat} {l : List Int} {m : List Bool} (hT : Tab N l m)
include hT
theorem Tab.bound {i j : Nat} (hi : i < N) (hj : j < N) : -68719476736 ≤ mg l (i * N + j) ∧ mg l (i * N + j) ≤ 68719476736 := by
  have := (hT.cell i j hi hj).2.1
  have := hT.most
  omega
theorem Tab.gl {i j : Nat} (hi : i < N) (hj : j < N) : (ic l)[i * N + j]? = some [I (mg l (i * N + j))] := ic_mg (by have := cell_lt hi hj; have := hT.ll; omega)
theorem Tab.gm {i j : Nat} (hi : i < N) (hj : j < N) : (bc m)[i * N + j]? = some [.bool (hq m (i * N + j))] := bc_hq (by have := cell_lt hi hj; have := hT.lm; omega)
end
end Go.Proofs.Ytepnijjgdhldeaa
