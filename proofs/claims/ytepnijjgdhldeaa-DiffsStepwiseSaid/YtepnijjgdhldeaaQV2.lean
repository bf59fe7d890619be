/- A use of differences: one walk more. -/
import Derived.Test.YtepnijjgdhldeaaQV1
namespace Go.Proofs.Ytepnijjgdhldeaa
open Go.Awp
set_option linter.unusedSimpArgs false
set_option linter.unusedVariables false
set_option maxRecDepth 10000
set_option maxHeartbeats 8000000
structure UF (hu hf hw n : Nat) (ds : List Df) (F W : Nat → Int) (H : AHeap) : Prop where
  ou : AHeap.obj H hu = some ⟨96, 4, [[I n, .ro false (rows ds), .own hf ds.length 0 ds.length, .own hw n 0 n]]⟩
  of : AHeap.obj H hf = some ⟨3, 1, ic (li ds.length F)⟩
  ow : AHeap.obj H hw = some ⟨3, 1, ic (li n W)⟩
theorem UF.car {hu hf hw n : Nat} {ds : List Df} {F W : Nat → Int} {H : AHeap} (h : UF hu hf hw n ds F W H) : carry false H 5 (.ptr hu 1 0 0) = some (.rop (useC n ds F W)) :=
  car_ptr (d := 4) (cells := [I n, .ro false (rows ds), .own hf ds.length 0 ds.length, .own hw n 0 n]) (by simp [deref, h.ou]) (carL_cons rfl (carL_cons (car_rowsF (d := 2)) (carL_cons (car_ownN (d := 2) h.of (by rw [ic_length, li_length]) (ic_simple _)) (carL_cons (car_ownN (d := 2) h.ow (by rw [ic_length, li_length]) (ic_simple _)) rfl))))
theorem UF.keep {hu hf hw n : Nat} {ds : List Df} {F W : Nat → Int} {H H' : AHeap} (h : UF hu hf hw n ds F W H) (hk : ∀ q, q < H.length → AHeap.obj H' q = AHeap.obj H q) : UF hu hf hw n ds F W H' :=
  ⟨(hk _ (AHeap.obj_lt h.ou)).trans h.ou, (hk _ (AHeap.obj_lt h.of)).trans h.of, (hk _ (AHeap.obj_lt h.ow)).trans h.ow⟩
structure Stepped (hu hf hw n : Nat) (ds : List Df) (w : Nat → Int) (T : Int) (F W : Nat → Int) (no : Bool) (H0 : AHeap) (x : AV) (H' : AHeap) : Prop where
  len : H0.length ≤ H'.length
  same : ∀ i, i < H0.length → i ≠ hf → i ≠ hw → AHeap.obj H' i = AHeap.obj H0 i
  cas : (x = .bool false ∧ no = true ∧ UF hu hf hw n ds F W H') ∨ (x = .bool true ∧ ∃ F' W', UF hu hf hw n ds F' W' H' ∧ Inv n ds w T F' W' ∧ phi n W' < phi n W ∧ ∀ v, 0 < v → (W v ≤ 0 → W' v ≤ 0) ∧ (W v = 0 → W' v = 0))
end Go.Proofs.Ytepnijjgdhldeaa
/- A use of differences: one walk more, part 2. -/
namespace Go.Proofs.Ytepnijjgdhldeaa
open Go.Awp
set_option linter.unusedSimpArgs false
set_option linter.unusedVariables false
set_option maxRecDepth 10000
set_option maxHeartbeats 8000000
def mmin (ds : List Df) (F : Nat → Int) (s : Gs) (a : Nat) (c : Int) : Nat → Int
  | 0 => c
  | t + 1 => if pth (lns ds F) s a t < ds.length then mmin ds F s a c t else min (mmin ds F s a c t) (F (jx ds F (pth (lns ds F) s a t)))
section
variable {n : Nat} {ds : List Df} {F : Nat → Int} {s : Gs} {S : Nat → Bool} {a q : Nat} {c : Int}
end
end Go.Proofs.Ytepnijjgdhldeaa
/- A use of differences: one walk more, part 3. -/
namespace Go.Proofs.Ytepnijjgdhldeaa
open Go.Awp
set_option linter.unusedSimpArgs false
set_option linter.unusedVariables false
set_option maxRecDepth 10000
set_option maxHeartbeats 8000000
end Go.Proofs.Ytepnijjgdhldeaa
