/- A use of differences: filled. -/
import Derived.Test.YtepnijjgdhldeaaQV2
namespace Go.Proofs.Ytepnijjgdhldeaa
open Go.Awp
set_option linter.unusedSimpArgs false
set_option linter.unusedVariables false
set_option maxRecDepth 10000
set_option maxHeartbeats 8000000
theorem givL_mem {W : Nat → Int} : ∀ (k : Nat) (x : Int), x ∈ givL W k ↔ x = 0 ∨ ∃ j : Nat, x = j ∧ 0 < j ∧ j < k ∧ W j < 0
  | 0, x => by simp [givL]
  | k + 1, x => by
    unfold givL
    split
    · rename_i h
      rw [List.mem_append, givL_mem k x, List.mem_singleton]
      constructor
      · rintro ((h1 | ⟨j, h1, h2, h3, h4⟩) | h1)
        · exact .inl h1
        · exact .inr ⟨j, h1, h2, by omega, h4⟩
        · exact .inr ⟨k, h1, h.1, by omega, h.2⟩
      · rintro (h1 | ⟨j, h1, h2, h3, h4⟩)
        · exact .inl (.inl h1)
        · by_cases e : j = k
          · subst e; exact .inr h1
          · exact .inl (.inr ⟨j, h1, h2, by omega, h4⟩)
    · rename_i h
      rw [givL_mem k x]
      constructor
      · rintro (h1 | ⟨j, h1, h2, h3, h4⟩)
        · exact .inl h1
        · exact .inr ⟨j, h1, h2, by omega, h4⟩
      · rintro (h1 | ⟨j, h1, h2, h3, h4⟩)
        · exact .inl h1
        · by_cases e : j = k
          · subst e; exact absurd ⟨h2, h4⟩ h
          · exact .inr ⟨j, h1, h2, by omega, h4⟩
theorem marks_giv {W : Nat → Int} {n v : Nat} : marksOf (givL W n) v = true ↔ v = 0 ∨ (0 < v ∧ v < n ∧ W v < 0) := by
  unfold marksOf
  rw [List.any_eq_true]
  constructor
  · rintro ⟨x, h1, h2⟩
    have hx : x = (v : Int) := by simpa using h2
    rcases (givL_mem n x).1 h1 with h | ⟨j, h3, h4, h5, h6⟩
    · exact .inl (by omega)
    · obtain rfl : j = v := by omega
      exact .inr ⟨h4, h5, h6⟩
  · rintro (h | ⟨h1, h2, h3⟩)
    · exact ⟨0, (givL_mem n 0).2 (.inl rfl), by simp [h]⟩
    · exact ⟨v, (givL_mem n v).2 (.inr ⟨v, rfl, h1, h2, h3⟩), by simp⟩
structure Filled (hu hf hw n : Nat) (ds : List Df) (w : Nat → Int) (T : Int) (H0 : AHeap) (x : AV) (H' : AHeap) : Prop where
  len : H0.length ≤ H'.length
  same : ∀ i, i < H0.length → i ≠ hf → i ≠ hw → AHeap.obj H' i = AHeap.obj H0 i
  cas : ∃ F W, UF hu hf hw n ds F W H' ∧ Inv n ds w T F W ∧ ((x = .bool true ∧ Opt n ds w F) ∨ (x = .bool false ∧ ∃ y, Ray n ds w y))
abbrev FW := (Nat → Int) × (Nat → Int)
structure FS (hu hf hw n : Nat) (ds : List Df) (H0 : AHeap) (s : FW) (H : AHeap) : Prop where
  uf : UF hu hf hw n ds s.1 s.2 H
  len : H0.length ≤ H.length
  kp : ∀ i, i < H0.length → i ≠ hf → i ≠ hw → AHeap.obj H i = AHeap.obj H0 i
end Go.Proofs.Ytepnijjgdhldeaa
