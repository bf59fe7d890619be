/- Lengths from one node to another. -/
import Derived.Test.YtepnijjgdhldeaaQD12
namespace Go.Proofs.Ytepnijjgdhldeaa
theorem lens_under {n : Nat} {ds : List Df} {R : Nat → Prop} {ψ : Nat → Int} (hc : Calm ds R ψ) {S : Nat → Bool} (hS : ∀ v, S v = true → R v ∧ ψ v ≤ 0) : ∀ v, (lens n ds S).1.has v = true → R v ∧ ψ v ≤ (lens n ds S).1.long v := by
  obtain ⟨q, e⟩ := lens_iter (n := n) (ds := ds) (S := S)
  rw [e]
  exact under hc (s := startL S) (fun v hv => hS v hv) q
theorem calm_shift {ds : List Df} {R : Nat → Prop} {ψ : Nat → Int} (hc : Calm ds R ψ) (c : Int) : Calm ds R fun v => ψ v - c := fun d hd hr => by
  have := hc d hd hr
  exact ⟨this.1, by show ψ (to d) - c ≤ ψ (fr d) - c + d.2.2; omega⟩
/-- A net that has an assignment. -/
structure Sol (n : Nat) (ds : List Df) : Prop where
  good : Good n ds
  sol : (lens n ds (everyone n)).2 = true
theorem Sol.calm1 {n : Nat} {ds : List Df} (h : Sol n ds) {i : Nat} (hi : i < n) : Calm ds (fun v => (lens n ds (one i)).1.has v = true) (lens n ds (one i)).1.long :=
  (lens_grown h.good (solvable_one h.good h.sol hi)).2
theorem Sol.self {n : Nat} {ds : List Df} (h : Sol n ds) {i : Nat} (hi : i < n) : (lens n ds (one i)).1.has i = true ∧ (lens n ds (one i)).1.long i = 0 := by
  have h1 := lens_has (n := n) (ds := ds) (S := one i) (v := i) (by simp [one])
  have h2 := lens_under (n := n) (calm_shift (lens_grown h.good h.sol).2 ((lens n ds (everyone n)).1.long i)) (S := one i) (fun v hv => by
    have : v = i := by simpa [one] using hv
    subst this
    exact ⟨(lens_has (by simp [everyone, hi])).1, by omega⟩) i h1.1
  exact ⟨h1.1, by have := h2.2; omega⟩
theorem Sol.tri {n : Nat} {ds : List Df} (h : Sol n ds) {i j k : Nat} (hi : i < n) (h1 : (lens n ds (one i)).1.has j = true) (h2 : (lens n ds (one j)).1.has k = true) :
    (lens n ds (one i)).1.has k = true ∧ (lens n ds (one i)).1.long k ≤ (lens n ds (one i)).1.long j + (lens n ds (one j)).1.long k := by
  have := lens_under (n := n) (calm_shift (h.calm1 hi) ((lens n ds (one i)).1.long j)) (S := one j) (fun v hv => by
    have : v = j := by simpa [one] using hv
    subst this
    exact ⟨h1, by omega⟩) k h2
  exact ⟨this.1, by have := this.2; omega⟩
theorem Sol.round {n : Nat} {ds : List Df} (h : Sol n ds) {i j : Nat} (hi : i < n) (h1 : (lens n ds (one i)).1.has j = true) (h2 : (lens n ds (one j)).1.has i = true) :
    0 ≤ (lens n ds (one i)).1.long j + (lens n ds (one j)).1.long i := by
  have := (h.tri hi h1 h2).2
  have := (h.self hi).2
  omega
end Go.Proofs.Ytepnijjgdhldeaa
