/- Assignments, and the greatest and the least ones. -/
import Derived.Test.YtepnijjgdhldeaaQG4
namespace Go.Proofs.Ytepnijjgdhldeaa
open Go.Awp
def inside (L : Nat) (d : Df) : Bool := (decide (0 ≤ d.1) && decide (d.1 < L)) && (decide (0 ≤ d.2.1) && decide (d.2.1 < L))
/-- An assignment of a net, as the laws test it. -/
def fulf (n : Int) (ds : List Df) (xs : List Int) : Bool :=
  ((decide ((xs.length : Int) = n) && !decide (xs.length = 0)) && decide (at0 xs 0 = 0)) && (xs.all (fun x => !far x) && ds.all fun d => inside xs.length d && !over xs d)
theorem fulf_iff {n : Int} {ds : List Df} {xs : List Int} : fulf n ds xs = true ↔ ((xs.length : Int) = n ∧ 0 < xs.length) ∧ at0 xs 0 = 0 ∧ (∀ x, x ∈ xs → far x = false) ∧ ∀ d, d ∈ ds → ((0 ≤ d.1 ∧ d.1 < xs.length) ∧ (0 ≤ d.2.1 ∧ d.2.1 < xs.length)) ∧ at0 xs d.2.1 - at0 xs d.1 ≤ d.2.2 := by
  unfold fulf inside over
  simp only [Bool.and_eq_true, decide_eq_true_eq, Bool.not_eq_true', decide_eq_false_iff_not, List.all_eq_true]
  constructor
  · rintro ⟨⟨⟨a, b⟩, c⟩, d, e⟩
    exact ⟨⟨a, by omega⟩, c, d, fun x hx => ⟨(e x hx).1, by have := (e x hx).2; omega⟩⟩
  · rintro ⟨⟨a, b⟩, c, d, e⟩
    exact ⟨⟨⟨a, by omega⟩, c⟩, d, fun x hx => ⟨(e x hx).1, by have := (e x hx).2; omega⟩⟩
theorem fulf_numbers {n : Int} {ds : List Df} {xs : List Int} (h : fulf n ds xs = true) : numbers n xs = true ∧ holds ds xs = true := by
  obtain ⟨⟨a, b⟩, c, d, e⟩ := fulf_iff.1 h
  constructor
  · simp only [numbers, Bool.and_eq_true, decide_eq_true_eq, Bool.not_eq_true', List.any_eq_false]
    exact ⟨a, fun x hx => by rw [d x hx]; simp⟩
  · simp only [holds, Bool.and_eq_true, decide_eq_true_eq, Bool.not_eq_true', List.any_eq_false]
    refine ⟨c, fun x hx => ?_⟩
    have := (e x hx).2
    simp only [over, decide_eq_true_eq]
    omega
theorem at0_li {n : Nat} {f : Nat → Int} {i : Int} (h0 : 0 ≤ i) (h : i < n) : at0 (li n f) i = f i.toNat := by
  have hk : i.toNat < n := by omega
  simp [at0, li, hk]
theorem fulf_mk {m : Nat} {ds : List Df} {f : Nat → Int} (hg : Good m ds) (h0 : f 0 = 0) (hb : ∀ v, v < m → -1099511627776 ≤ f v ∧ f v ≤ 1099511627776) (hd : ∀ d, d ∈ ds → f (to d) - f (fr d) ≤ d.2.2) : fulf m ds (li m f) = true := by
  have hm := hg.pos
  refine fulf_iff.2 ⟨⟨by rw [li_length], by rw [li_length]; exact hm⟩, ?_, ?_, fun d hdm => ?_⟩
  · rw [at0_li (Int.le_refl _) (by omega)]; exact h0
  · intro x hx
    obtain ⟨i, hi, rfl⟩ := List.mem_map.1 hx
    have := hb i (List.mem_range.1 hi)
    simp [far]; exact this
  · have h1 := hg.fit.ge1 d hdm
    have h2 := hg.fit.ge d hdm
    have h3 := hg.fit.fr d hdm
    have h4 := hg.fit.to d hdm
    unfold fr at h3; unfold to at h4
    rw [li_length]
    refine ⟨⟨⟨h1, by omega⟩, h2, by omega⟩, ?_⟩
    rw [at0_li h2 (by omega), at0_li h1 (by omega)]
    exact hd d hdm
/-- The numbers by which all nodes are led to are an assignment. -/
theorem Sol.top {m : Nat} {ds : List Df} (h : Sol m ds) (ha : ∀ v, v < m → (lens m ds (one 0)).1.has v = true) : fulf m ds (li m (lens m ds (one 0)).1.long) = true := by
  have hc := h.calm1 h.good.pos
  obtain ⟨q, e⟩ := lens_iter (n := m) (ds := ds) (S := one 0)
  refine fulf_mk h.good (h.self h.good.pos).2 (fun v hv => ?_) fun d hd => ?_
  · have hc' := hc
    rw [e] at hc' ⊢
    have := label_bound h.good hc' hv
    have := h.good.small
    omega
  · have := (hc d hd (ha _ (h.good.fit.fr d hd))).2; omega
end Go.Proofs.Ytepnijjgdhldeaa
