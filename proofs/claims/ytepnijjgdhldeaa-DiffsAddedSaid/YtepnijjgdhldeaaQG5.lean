/- Assignments, and the greatest and the least ones. -/
import Derived.Test.YtepnijjgdhldeaaQG4
namespace Go.Proofs.Ytepnijjgdhldeaa
open Go.Awp
def inside (L : Nat) (d : Df) : Bool := (decide (0 ≤ d.1) && decide (d.1 < L)) && (decide (0 ≤ d.2.1) && decide (d.2.1 < L))
/-- An assignment of a net, as the laws test it. -/
def fulf (n : Int) (ds : List Df) (xs : List Int) : Bool :=
  ((decide ((xs.length : Int) = n) && !decide (xs.length = 0)) && decide (at0 xs 0 = 0)) && (xs.all (fun x => !far x) && ds.all fun d => inside xs.length d && !over xs d)
theorem fulf_iff {n : Int} {ds : List Df} {xs : List Int} : fulf n ds xs = true ↔ ((xs.length : Int) = n ∧ 0 < xs.length) ∧ at0 xs 0 = 0 ∧ (∀ x, x ∈ xs → far x = false) ∧ ∀ d, d ∈ ds → ((0 ≤ d.1 ∧ d.1 < xs.length) ∧ (0 ≤ d.2.1 ∧ d.2.1 < xs.length)) ∧ at0 xs d.2.1 - at0 xs d.1 ≤ d.2.2 := by
  unfold fulf inside over
  simp only [Bool.and_eq_true, decide_eq_true_eq, Bool.not_eq_true', decide_eq_false_iff_not, List.all_eq_true]
  constructor
  · rintro ⟨⟨⟨a, b⟩, c⟩, d, e⟩
    exact ⟨⟨a, by omega⟩, c, d, fun x hx => ⟨(e x hx).1, by have := (e x hx).2; omega⟩⟩
  · rintro ⟨⟨a, b⟩, c, d, e⟩
    exact ⟨⟨⟨a, by omega⟩, c⟩, d, fun x hx => ⟨(e x hx).1, by have := (e x hx).2; omega⟩⟩
theorem fulf_numbers {n : Int} {ds : List Df} {xs : List Int} (h : fulf n ds xs = true) : numbers n xs = true ∧ holds ds xs = true := by
  obtain ⟨⟨a, b⟩, c, d, e⟩ := fulf_iff.1 h
  constructor
  · simp only [numbers, Bool.and_eq_true, decide_eq_true_eq, Bool.not_eq_true', List.any_eq_false]
    exact ⟨a, fun x hx => by rw [d x hx]; simp⟩
  · simp only [holds, Bool.and_eq_true, decide_eq_true_eq, Bool.not_eq_true', List.any_eq_false]
    refine ⟨c, fun x hx => ?_⟩
    have := (e x hx).2
    simp only [over, decide_eq_true_eq]
    omega
theorem at0_nat {xs : List Int} {i : Nat} (h : i < xs.length) : at0 xs i = xs[i] := by simp [at0, h]
theorem at0_li {n : Nat} {f : Nat → Int} {i : Int} (h0 : 0 ≤ i) (h : i < n) : at0 (li n f) i = f i.toNat := by
  have hk : i.toNat < n := by omega
  simp [at0, li, hk]
theorem fulf_calm {n : Int} {ds : List Df} {xs : List Int} (h : fulf n ds xs = true) : Calm ds (fun v => v < xs.length) fun v => at0 xs v := by
  obtain ⟨_, _, _, e⟩ := fulf_iff.1 h
  intro d hd _
  obtain ⟨⟨⟨h1, h2⟩, h3, h4⟩, h5⟩ := e d hd
  have e1 : ((fr d : Nat) : Int) = d.1 := Int.toNat_of_nonneg h1
  have e2 : ((to d : Nat) : Int) = d.2.1 := Int.toNat_of_nonneg h3
  refine ⟨by unfold to; omega, ?_⟩
  show at0 xs (to d) ≤ at0 xs (fr d) + d.2.2
  rw [e1, e2]; omega
theorem fulf_sol {m : Nat} {ds : List Df} {xs : List Int} (hg : Good m ds) (h : fulf m ds xs = true) : Sol m ds :=
  ⟨hg, lens_calm hg (fulf_calm h) fun v hv => by
    have := (fulf_iff.1 h).1.1
    have : v < m := by simpa [everyone] using hv
    omega⟩
theorem fulf_mk {m : Nat} {ds : List Df} {f : Nat → Int} (hg : Good m ds) (h0 : f 0 = 0) (hb : ∀ v, v < m → -1099511627776 ≤ f v ∧ f v ≤ 1099511627776) (hd : ∀ d, d ∈ ds → f (to d) - f (fr d) ≤ d.2.2) : fulf m ds (li m f) = true := by
  have hm := hg.pos
  refine fulf_iff.2 ⟨⟨by rw [li_length], by rw [li_length]; exact hm⟩, ?_, ?_, fun d hdm => ?_⟩
  · rw [at0_li (Int.le_refl _) (by omega)]; exact h0
  · intro x hx
    obtain ⟨i, hi, rfl⟩ := List.mem_map.1 hx
    have := hb i (List.mem_range.1 hi)
    simp [far]; exact this
  · have h1 := hg.fit.ge1 d hdm
    have h2 := hg.fit.ge d hdm
    have h3 := hg.fit.fr d hdm
    have h4 := hg.fit.to d hdm
    unfold fr at h3; unfold to at h4
    rw [li_length]
    refine ⟨⟨⟨h1, by omega⟩, h2, by omega⟩, ?_⟩
    rw [at0_li h2 (by omega), at0_li h1 (by omega)]
    exact hd d hdm
/-- The numbers by which all nodes are led to are an assignment. -/
theorem Sol.top {m : Nat} {ds : List Df} (h : Sol m ds) (ha : ∀ v, v < m → (lens m ds (one 0)).1.has v = true) : fulf m ds (li m (lens m ds (one 0)).1.long) = true := by
  have hc := h.calm1 h.good.pos
  obtain ⟨q, e⟩ := lens_iter (n := m) (ds := ds) (S := one 0)
  refine fulf_mk h.good (h.self h.good.pos).2 (fun v hv => ?_) fun d hd => ?_
  · have hc' := hc
    rw [e] at hc' ⊢
    have := label_bound h.good hc' hv
    have := h.good.small
    omega
  · have := (hc d hd (ha _ (h.good.fit.fr d hd))).2; omega
theorem Sol.low {m : Nat} {ds : List Df} (hg : Good m ds) (h : Sol m (turn ds)) (ha : ∀ v, v < m → (lens m (turn ds) (one 0)).1.has v = true) : fulf m ds (li m fun v => - (lens m (turn ds) (one 0)).1.long v) = true := by
  have hc := h.calm1 hg.pos
  obtain ⟨q, e⟩ := lens_iter (n := m) (ds := turn ds) (S := one 0)
  refine fulf_mk hg (by rw [(h.self hg.pos).2]; rfl) (fun v hv => ?_) fun d hd => ?_
  · have hc' := hc
    rw [e] at hc' ⊢
    have := label_bound h.good hc' hv
    have := hg.small
    omega
  · have := (hc (d.2.1, d.1, d.2.2) (List.mem_map.2 ⟨d, hd, rfl⟩) (ha _ (hg.fit.to d hd))).2
    have e1 : fr (d.2.1, d.1, d.2.2) = to d := rfl
    have e2 : to (d.2.1, d.1, d.2.2) = fr d := rfl
    rw [e1, e2] at this
    simp only at this
    omega
theorem fulf_le_top {m : Nat} {ds : List Df} {xs : List Int} (h : fulf m ds xs = true) (hm : 0 < m) {v : Nat} (hv : (lens m ds (one 0)).1.has v = true) : at0 xs v ≤ (lens m ds (one 0)).1.long v := by
  have := (fulf_iff.1 h).1.1
  refine (lens_under (n := m) (fulf_calm h) (S := one 0) (fun v hv => ?_) v hv).2
  have : v = 0 := by simpa [one] using hv
  subst this
  refine ⟨by omega, ?_⟩
  have := (fulf_iff.1 h).2.1
  show at0 xs ((0 : Nat) : Int) ≤ 0
  rw [show (((0 : Nat) : Int)) = 0 from rfl]; omega
theorem fulf_turn_calm {n : Int} {ds : List Df} {xs : List Int} (h : fulf n ds xs = true) : Calm (turn ds) (fun v => v < xs.length) fun v => - at0 xs v := by
  obtain ⟨_, _, _, e⟩ := fulf_iff.1 h
  intro d' hd' _
  obtain ⟨d, hd, rfl⟩ := List.mem_map.1 hd'
  obtain ⟨⟨⟨h1, h2⟩, h3, h4⟩, h5⟩ := e d hd
  have e1 : ((fr (d.2.1, d.1, d.2.2) : Nat) : Int) = d.2.1 := Int.toNat_of_nonneg h3
  have e2 : ((to (d.2.1, d.1, d.2.2) : Nat) : Int) = d.1 := Int.toNat_of_nonneg h1
  refine ⟨by unfold to; simp only; omega, ?_⟩
  show - at0 xs (to (d.2.1, d.1, d.2.2) : Nat) ≤ - at0 xs (fr (d.2.1, d.1, d.2.2) : Nat) + d.2.2
  rw [e1, e2]; omega
theorem fulf_turn_sol {m : Nat} {ds : List Df} {xs : List Int} (hg : Good m ds) (h : fulf m ds xs = true) : Sol m (turn ds) :=
  ⟨good_turn hg, lens_calm (good_turn hg) (fulf_turn_calm h) fun v hv => by
    have := (fulf_iff.1 h).1.1
    have : v < m := by simpa [everyone] using hv
    omega⟩
theorem fulf_ge_low {m : Nat} {ds : List Df} {xs : List Int} (h : fulf m ds xs = true) (hm : 0 < m) {v : Nat} (hv : (lens m (turn ds) (one 0)).1.has v = true) : - (lens m (turn ds) (one 0)).1.long v ≤ at0 xs v := by
  have := (fulf_iff.1 h).1.1
  have key := (lens_under (n := m) (fulf_turn_calm h) (S := one 0) (fun v hv => by
    have : v = 0 := by simpa [one] using hv
    subst this
    refine ⟨by omega, ?_⟩
    have := (fulf_iff.1 h).2.1
    show - at0 xs ((0 : Nat) : Int) ≤ 0
    rw [show (((0 : Nat) : Int)) = 0 from rfl]; omega) v hv).2
  omega
/-- The greater ones of two assignments' numbers. -/
theorem at0_zip {xs ys : List Int} (h : xs.length = ys.length) {i : Int} (h0 : 0 ≤ i) (hi : i < xs.length) : at0 (List.zipWith max xs ys) i = max (at0 xs i) (at0 ys i) := by
  have h1 : i.toNat < xs.length := by omega
  have h2 : i.toNat < ys.length := by omega
  simp [at0, List.getElem?_zipWith, h1, h2]
theorem fulf_max {n : Int} {ds : List Df} {xs ys : List Int} (hx : fulf n ds xs = true) (hy : fulf n ds ys = true) : fulf n ds (List.zipWith max xs ys) = true := by
  obtain ⟨⟨a1, a2⟩, a3, a4, a5⟩ := fulf_iff.1 hx
  obtain ⟨⟨b1, b2⟩, b3, b4, b5⟩ := fulf_iff.1 hy
  have hll : xs.length = ys.length := by omega
  have hl : (List.zipWith max xs ys).length = xs.length := by simp; omega
  refine fulf_iff.2 ⟨⟨by rw [hl]; exact a1, by rw [hl]; exact a2⟩, ?_, ?_, fun d hd => ?_⟩
  · rw [at0_zip hll (Int.le_refl _) (by omega), a3, b3]; rfl
  · intro x hx
    obtain ⟨i, hi, rfl⟩ := List.mem_iff_getElem.1 hx
    rw [List.getElem_zipWith]
    have h1 := far_le (a4 _ (List.getElem_mem (show i < xs.length by omega)))
    have h2 := far_le (b4 _ (List.getElem_mem (show i < ys.length by omega)))
    simp [far]; omega
  · obtain ⟨⟨c1, c2⟩, c3⟩ := a5 d hd
    obtain ⟨_, c4⟩ := b5 d hd
    rw [hl]
    refine ⟨⟨c1, c2⟩, ?_⟩
    rw [at0_zip hll c2.1 c2.2, at0_zip hll c1.1 c1.2]
    omega
theorem higher_fulf {n : Int} {ds : List Df} {xs ys : List Int} (hv : valid n ds = true) (hx : fulf n ds xs = true) (hy : fulf n ds ys = true) : higher n ds xs ys = (List.zipWith max xs ys, 0) := by
  obtain ⟨a, b⟩ := fulf_numbers hx
  obtain ⟨c, d⟩ := fulf_numbers hy
  simp [higher, hv, a, b, c, d]
/-- What Top answers where there is an assignment. -/
theorem topV_fulf {m : Nat} {ds : List Df} {xs : List Int} (hs : valid m ds = true → (m : Int) ≤ 16) (hv : valid m ds = true) (hg : Good m ds) (h : fulf m ds xs = true) :
    (topV m ds).2 = 42 ∨ (topV m ds = (li m (lens m ds (one 0)).1.long, 0) ∧ ∀ v, v < m → (lens m ds (one 0)).1.has v = true) := by
  have hsol := (fulf_sol hg h).sol
  rw [← top_same hs]
  simp only [rtopV, hv, if_true, Int.toNat_natCast, hsol]
  split
  · rename_i ha
    refine .inr ⟨rfl, fun v hv => ?_⟩
    have := List.all_eq_true.1 ha _ (List.mem_map.2 ⟨v, List.mem_range.2 hv, rfl⟩)
    exact this
  · exact .inl rfl
theorem topV_turn {m : Nat} {ds : List Df} {xs : List Int} (hs : valid m ds = true → (m : Int) ≤ 16) (hv : valid m ds = true) (hg : Good m ds) (h : fulf m ds xs = true) :
    (botV m ds).2 = 42 ∨ (botV m ds = (li m (fun v => - (lens m (turn ds) (one 0)).1.long v), 0) ∧ ∀ v, v < m → (lens m (turn ds) (one 0)).1.has v = true) := by
  have hsol := (fulf_turn_sol hg h).sol
  have hv' : valid m (turn ds) = true := by rw [valid_turn]; exact hv
  unfold botV
  rw [← top_same (by rw [valid_turn]; exact hs)]
  simp only [rtopV, hv', if_true, Int.toNat_natCast, hsol]
  split
  · rename_i ha
    refine .inr ⟨by rw [li_neg], fun v hv => ?_⟩
    have := List.all_eq_true.1 ha _ (List.mem_map.2 ⟨v, List.mem_range.2 hv, rfl⟩)
    exact this
  · exact .inl rfl
end Go.Proofs.Ytepnijjgdhldeaa
