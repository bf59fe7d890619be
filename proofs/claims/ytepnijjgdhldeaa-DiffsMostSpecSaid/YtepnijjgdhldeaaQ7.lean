/- Top and Bottom: what they hand back. -/
import Derived.Test.YtepnijjgdhldeaaQ6
namespace Go.Proofs.Ytepnijjgdhldeaa
open Go.Awp
set_option linter.unusedSimpArgs false
set_option linter.unusedVariables false
set_option maxRecDepth 10000
def one (i : Nat) : Nat → Bool := fun x => decide (x = i)
/-- The greatest numbers of all, of a net that is valid. -/
def top (n : Nat) (ds : List Df) : List Int × Int :=
  if 0 ≤ (grown n ds (everyone n)).2 then ([], 41) else if (lb n (grown n ds (one 0)).1.has).all id then (li n (grown n ds (one 0)).1.long, 0) else ([], 42)
def Ended (H0 : AHeap) (n : Nat) (ds : List Df) (x : AV) (H : AHeap) : Prop :=
  Kept H0 H ∧ (((top n ds).2 ≠ 0 ∧ (top n ds).1 = [] ∧ x = .tuple [.nilSlice, I (top n ds).2]) ∨
    ((top n ds).2 = 0 ∧ (top n ds).1 = li n (grown n ds (one 0)).1.long ∧ ∃ h, H0.length ≤ h ∧ x = .tuple [.own h n 0 n, I 0] ∧ AHeap.obj H h = some ⟨3, 1, ic (li n (grown n ds (one 0)).1.long)⟩))
theorem good_of {n : Int} {ds : List Df} (hv : valid n ds = true) (hn : n ≤ 16) : ∃ m : Nat, n = m ∧ Good m ds ∧ m ≤ 16 := by
  obtain ⟨h1, h2, h3⟩ := valid_iff.1 hv
  have key : ∀ d, d ∈ ds → (0 ≤ d.1 ∧ d.1 < n) ∧ (0 ≤ d.2.1 ∧ d.2.1 < n) ∧ (-1073741824 ≤ d.2.2 ∧ d.2.2 ≤ 1073741824) := fun d hd => by
    have := h3 d hd
    simp [right] at this
    omega
  refine ⟨n.toNat, (Int.toNat_of_nonneg (by omega)).symm, ⟨by omega, by omega, by omega, ⟨fun d hd => (key d hd).1.1, fun d hd => (key d hd).2.1.1, fun d hd => ?_, fun d hd => ?_⟩, fun d hd => (key d hd).2.2⟩, by omega⟩
  · have := (key d hd).1; unfold fr; omega
  · have := (key d hd).2.1; unfold to; omega
def topV (n : Int) (ds : List Df) : List Int × Int := if valid n ds then top n.toNat ds else ([], 40)
end Go.Proofs.Ytepnijjgdhldeaa
/- Nets turned round. -/
namespace Go.Proofs.Ytepnijjgdhldeaa
open Go.Awp
set_option linter.unusedSimpArgs false
set_option linter.unusedVariables false
set_option maxRecDepth 10000
def turn (ds : List Df) : List Df := ds.map fun d => (d.2.1, d.1, d.2.2)
/-- Bottom, of a net that is valid. -/
def botV (n : Int) (ds : List Df) : List Int × Int := ((topV n (turn ds)).1.map (- ·), (topV n (turn ds)).2)
end Go.Proofs.Ytepnijjgdhldeaa
