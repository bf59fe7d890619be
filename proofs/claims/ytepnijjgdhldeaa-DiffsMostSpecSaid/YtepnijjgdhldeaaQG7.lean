/- A round is a clash; where there is an assignment, no list is one. -/
import Derived.Test.YtepnijjgdhldeaaQD16
namespace Go.Proofs.Ytepnijjgdhldeaa
set_option linter.unusedSimpArgs false
set_option linter.unusedVariables false
open Go.Awp
theorem Sol.all_calm {n : Nat} {ds : List Df} (h : Sol n ds) : ∀ d, d ∈ ds → (lens n ds (everyone n)).1.long (to d) ≤ (lens n ds (everyone n)).1.long (fr d) + d.2.2 := fun d hd =>
  ((lens_grown h.good h.sol).2 d hd (lens_has (by simp [everyone]; exact h.good.fit.fr d hd)).1).2
theorem solved_fulf {m : Nat} {ds : List Df} (h : Sol m ds) : solved m ds = (li m fun i => (lens m ds (everyone m)).1.long i - (lens m ds (everyone m)).1.long 0) ∧ fulf m ds (li m fun i => (lens m ds (everyone m)).1.long i - (lens m ds (everyone m)).1.long 0) = true := by
  obtain ⟨e, hc⟩ := lens_grown h.good h.sol
  constructor
  · unfold solved
    rw [e]
    rfl
  · obtain ⟨q, eq⟩ := lens_iter (n := m) (ds := ds) (S := everyone m)
    refine fulf_mk h.good (by omega) (fun v hv => ?_) fun d hd => ?_
    · rw [eq] at hc ⊢
      have b1 := label_bound h.good hc hv
      have b2 := label_bound h.good hc h.good.pos
      have := h.good.small
      omega
    · have := h.all_calm d hd; omega
end Go.Proofs.Ytepnijjgdhldeaa
