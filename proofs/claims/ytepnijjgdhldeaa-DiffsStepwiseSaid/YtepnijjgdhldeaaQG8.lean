/- The way back from a node that is led to. -/
import Derived.Test.YtepnijjgdhldeaaQG7
namespace Go.Proofs.Ytepnijjgdhldeaa
set_option linter.unusedSimpArgs false
set_option linter.unusedVariables false
open Go.Awp
/-- The way back from a node to a mark. -/
structure Chain (n : Nat) (ds : List Df) (s : Gs) (i a q : Nat) : Prop where
  node : a < n
  lt : q < n
  stop : s.last (itp ds s q a) < 0
  root : itp ds s q a = i
  led : ∀ t, t < q → ∃ (j : Nat) (d : Df), s.last (itp ds s t a) = j ∧ ds[j]? = some d ∧ to d = itp ds s t a ∧ fr d = itp ds s (t + 1) a
  sum : sumw ds s q a = s.long a
theorem Chain.distinct {n : Nat} {ds : List Df} {s : Gs} {i a q : Nat} (h : Chain n ds s i a q) {u v : Nat} (huv : u < v) (hv : v ≤ q) : itp ds s u a ≠ itp ds s v a := by
  intro e
  have : itp ds s (u + (q - v)) a = itp ds s q a := by
    rw [show u + (q - v) = (q - v) + u by omega, itp_add, e, ← itp_add]
    congr 1; omega
  obtain ⟨j, d, h1, _⟩ := h.led (u + (q - v)) (by omega)
  have := h.stop
  rw [← ‹itp ds s (u + (q - v)) a = itp ds s q a›] at this
  omega
/-- What is known of the list of the differences along the way. -/
theorem Chain.list {n : Nat} {ds : List Df} {s : Gs} {i a q : Nat} (h : Chain n ds s i a q) (hg : Good n ds) : idx ds (roundL ds s a q) = true ∧ (roundL ds s a q).length = q ∧ wk ds 0 i (roundL ds s a q) = some (s.long a, (a : Int)) ∧ ((i : Int) :: (roundL ds s a q).map fun k => (dd ds k).2.1).Nodup := by
  have hsm := hg.small
  have hlt := h.lt
  have each : ∀ t, t < q → ∃ (j : Nat) (d : Df), s.last (itp ds s (q - 1 - t) a) = j ∧ ds[j]? = some d ∧ to d = itp ds s (q - 1 - t) a := fun t ht => by
    obtain ⟨j, d, p1, p2, p3, _⟩ := h.led (q - 1 - t) (by omega)
    exact ⟨j, d, p1, p2, p3⟩
  refine ⟨?_, li_length, ?_, ?_⟩
  · unfold idx
    rw [List.all_eq_true]
    intro x hx
    obtain ⟨t, ht, rfl⟩ := List.mem_map.1 hx
    obtain ⟨j, d, p1, p2, _⟩ := each t (List.mem_range.1 ht)
    rw [p1]; exact (dd_some p2).2
  · have := wk_round (ds := ds) (s := s) (a := a) (p := q) hg.w (fun d hd => ⟨hg.fit.ge1 d hd, hg.fit.ge d hd⟩) h.led (by omega) q 0 (Nat.le_refl _) (by omega)
    rw [h.root, h.sum] at this
    unfold roundL
    rw [this]
    simp
  · have e : ((i : Int) :: (roundL ds s a q).map fun k => (dd ds k).2.1) = (List.range (q + 1)).map fun t => ((itp ds s (q - t) a : Nat) : Int) := by
      rw [List.range_succ_eq_map, List.map_cons, List.map_map]
      congr 1
      · rw [show q - 0 = q from rfl, h.root]
      · unfold roundL li
        rw [List.map_map]
        refine List.map_congr_left fun t ht => ?_
        obtain ⟨j, d, p1, p2, p3⟩ := each t (List.mem_range.1 ht)
        simp only [Function.comp, p1, (dd_some p2).1]
        have e2 : ((to d : Nat) : Int) = d.2.1 := Int.toNat_of_nonneg (hg.fit.ge d (List.mem_of_getElem? p2))
        rw [← e2, p3]
        congr 2; omega
    rw [e, List.Nodup, List.pairwise_map]
    refine List.Pairwise.imp_of_mem ?_ (List.pairwise_lt_range (n := q + 1))
    intro x y hx hy hxy he
    have hy' := List.mem_range.1 hy
    exact h.distinct (u := q - y) (v := q - x) (by omega) (by omega) (by omega)
end Go.Proofs.Ytepnijjgdhldeaa
