/- Plain facts about packs: slopes, melts, order. -/
import Derived.Test.YtmcndbldbemebaaDoorQG3
import Derived.Test.YtmcndbldbemebaaDoorQC13
import Derived.Test.YtmcndbldbemebaaDoorQC10
set_option linter.unusedVariables false
set_option linter.unusedSimpArgs false
set_option linter.unusedSectionVars false
namespace Go.Proofs.YtmcndbldbemebaaDoor
open Go.Awp Go.Snow
set_option linter.unusedSimpArgs false
set_option linter.unusedVariables false
theorem str_pos {l : Lay} (h : right l = true) : 1 ≤ str l := by
  have := right_iff.1 h
  unfold str; omega
theorem layAt_right {ls : List Lay} (h : ∀ l, l ∈ ls → right l = true) {k : Nat} (hk : k < ls.length) : right (layAt ls k) = true := by
  rw [layAt_lt hk]; exact h _ (List.getElem_mem hk)
/-- The weakest layer bears the most for its strength. -/
theorem wk_most {ls : List Lay} (hR : ∀ l, l ∈ ls → right l = true) (h0 : 0 < ls.length) : ∀ k, k ≤ ls.length → ∀ j, j < k → loadAt ls j * str (layAt ls (wk ls k).1) ≤ (wk ls k).2 * str (layAt ls j)
  | 0, _, j, hj => absurd hj (Nat.not_lt_zero _)
  | k + 1, hk, j, hj => by
    have ih := wk_most hR h0 k (by omega)
    obtain ⟨w1, w2⟩ := wk_lt (ls := ls) h0 k (by omega)
    have pk := str_pos (layAt_right hR (k := k) (by omega))
    have pw := str_pos (layAt_right hR w1)
    simp only [wk]
    split
    · rename_i hlt
      simp only
      rcases Nat.lt_or_ge j k with hjk | hjk
      · have pj := str_pos (layAt_right hR (k := j) (by omega))
        have h1 := ih j hjk
        have h2 : (loadAt ls j * str (layAt ls k)) * str (layAt ls (wk ls k).1) ≤ (loadAt ls k * str (layAt ls j)) * str (layAt ls (wk ls k).1) := by
          have a1 := Int.mul_le_mul_of_nonneg_right h1 (show 0 ≤ str (layAt ls k) by omega)
          have a2 := Int.mul_le_mul_of_nonneg_right (Int.le_of_lt hlt) (show 0 ≤ str (layAt ls j) by omega)
          have e1 : loadAt ls j * str (layAt ls k) * str (layAt ls (wk ls k).1) = loadAt ls j * str (layAt ls (wk ls k).1) * str (layAt ls k) := by ac_rfl
          have e2 : (wk ls k).2 * str (layAt ls j) * str (layAt ls k) = (wk ls k).2 * str (layAt ls k) * str (layAt ls j) := by ac_rfl
          have e3 : loadAt ls k * str (layAt ls j) * str (layAt ls (wk ls k).1) = loadAt ls k * str (layAt ls (wk ls k).1) * str (layAt ls j) := by ac_rfl
          rw [e1, e3]
          rw [e2] at a1
          exact Int.le_trans a1 a2
        exact Int.le_of_mul_le_mul_right h2 (by omega)
      · obtain rfl : j = k := by omega
        exact Int.le_refl _
    · rename_i hlt
      rcases Nat.lt_or_ge j k with hjk | hjk
      · exact ih j hjk
      · obtain rfl : j = k := by omega
        omega
theorem bAt_weak {ls : List Lay} {s : Int} (hR : ∀ l, l ∈ ls → right l = true) (h0 : 0 < ls.length) : brk ls s = bAt ls s (wk ls ls.length).1 := by
  obtain ⟨w1, w2⟩ := wk_lt (ls := ls) h0 ls.length (Nat.le_refl _)
  cases hw : bAt ls s (wk ls ls.length).1 with
  | true =>
    rw [brk, List.any_eq_true]
    exact ⟨_, List.mem_range.2 w1, hw⟩
  | false =>
    rw [brk, List.any_eq_false]
    intro k hk hb
    have hk' := List.mem_range.1 hk
    have hm := wk_most hR h0 ls.length (Nat.le_refl _) k hk'
    have pk := str_pos (layAt_right hR hk')
    have pw := str_pos (layAt_right hR w1)
    have hb' : 3 * str (layAt ls k) < loadAt ls k * (s - 25) := of_decide_eq_true hb
    have hw' : ¬ 3 * str (layAt ls (wk ls ls.length).1) < loadAt ls (wk ls ls.length).1 * (s - 25) := of_decide_eq_false hw
    rw [← w2] at hw'
    apply hw'
    have l1 := loadAt_le hR k (by omega)
    have hs : 0 ≤ s - 25 := by
      rcases Int.lt_or_le (s - 25) 0 with h | h
      · have := Int.mul_le_mul_of_nonneg_left (Int.le_of_lt h) l1.1
        rw [Int.mul_zero] at this
        omega
      · exact h
    have b1 := Int.mul_le_mul_of_nonneg_right hm hs
    have b2 : 3 * str (layAt ls k) * str (layAt ls (wk ls ls.length).1) < loadAt ls k * (s - 25) * str (layAt ls (wk ls ls.length).1) := Int.mul_lt_mul_of_pos_right hb' (by omega)
    have e1 : loadAt ls k * (s - 25) * str (layAt ls (wk ls ls.length).1) = loadAt ls k * str (layAt ls (wk ls ls.length).1) * (s - 25) := by ac_rfl
    have e2 : (wk ls ls.length).2 * str (layAt ls k) * (s - 25) = (wk ls ls.length).2 * (s - 25) * str (layAt ls k) := by ac_rfl
    have e3 : 3 * str (layAt ls k) * str (layAt ls (wk ls ls.length).1) = 3 * str (layAt ls (wk ls ls.length).1) * str (layAt ls k) := by ac_rfl
    rw [e1, e3] at b2
    rw [e2] at b1
    exact Int.lt_of_mul_lt_mul_right (Int.lt_of_lt_of_le b2 b1) (by omega)
theorem brk_mono {ls : List Lay} {s t : Int} (hR : ∀ l, l ∈ ls → right l = true) (hst : s ≤ t) (h : brk ls s = true) : brk ls t = true := by
  rw [brk, List.any_eq_true] at h ⊢
  obtain ⟨k, hk, hb⟩ := h
  refine ⟨k, hk, ?_⟩
  have hb' : 3 * str (layAt ls k) < loadAt ls k * (s - 25) := of_decide_eq_true hb
  have l1 := loadAt_le hR k (by have := List.mem_range.1 hk; omega)
  have := Int.mul_le_mul_of_nonneg_left (show s - 25 ≤ t - 25 by omega) l1.1
  exact decide_eq_true (Int.lt_of_lt_of_le hb' this)
theorem brk_flat {ls : List Lay} {s : Int} (hR : ∀ l, l ∈ ls → right l = true) (hs : s ≤ 25) : brk ls s = false := by
  rw [brk, List.any_eq_false]
  intro k hk hb
  have hk' := List.mem_range.1 hk
  have hb' : 3 * str (layAt ls k) < loadAt ls k * (s - 25) := of_decide_eq_true hb
  have l1 := loadAt_le hR k (by omega)
  have pk := str_pos (layAt_right hR hk')
  have := Int.mul_le_mul_of_nonneg_left (show s - 25 ≤ 0 by omega) l1.1
  rw [Int.mul_zero] at this
  omega
theorem down_le (f : Nat → Bool) : ∀ n, down f n ≤ n
  | 0 => Nat.le_refl _
  | n + 1 => by
    have := down_le f n
    simp only [down]; split <;> omega
theorem down_at (f : Nat → Bool) : ∀ n, down f n = 0 ∨ f (down f n) = false
  | 0 => .inl rfl
  | n + 1 => by
    simp only [down]
    split
    · exact down_at f n
    · rename_i h; exact .inr (by simpa using h)
theorem down_above (f : Nat → Bool) : ∀ n m, down f n < m → m ≤ n → f m = true
  | 0, m, h1, h2 => by omega
  | n + 1, m, h1, h2 => by
    simp only [down] at h1
    split at h1
    · rename_i h
      rcases Nat.lt_or_ge n m with h3 | h3
      · obtain rfl : m = n + 1 := by omega
        exact h
      · exact down_above f n m h1 h3
    · omega
theorem down_ge (f : Nat → Bool) {k : Nat} (hk : f k = false) : ∀ n, k ≤ n → k ≤ down f n
  | 0, h => h
  | n + 1, h => by
    simp only [down]
    split
    · rename_i h2
      rcases Nat.lt_or_ge n k with h3 | h3
      · obtain rfl : k = n + 1 := by omega
        rw [hk] at h2; cases h2
      · exact down_ge f hk n h3
    · exact h
theorem steep_at {ls : List Lay} {s : Int} (hR : ∀ l, l ∈ ls → right l = true) (hs : 0 ≤ s ∧ s ≤ 60) : (25 ≤ down (fun n => brk ls n) 60 ∧ down (fun n => brk ls n) 60 ≤ 60) ∧ brk ls s = decide (s > (down (fun n => brk ls n) 60 : Nat)) := by
  have h1 := down_le (fun n => brk ls n) 60
  have h2 := down_ge (fun n => brk ls n) (k := 25) (brk_flat hR (by omega)) 60 (by omega)
  refine ⟨⟨h2, h1⟩, ?_⟩
  obtain ⟨k, rfl⟩ : ∃ k : Nat, s = k := ⟨s.toNat, by omega⟩
  by_cases h3 : (k : Int) > (down (fun n => brk ls n) 60 : Nat)
  · rw [decide_eq_true h3]
    exact down_above (fun n => brk ls n) 60 k (by omega) (by omega)
  · rw [decide_eq_false h3]
    cases hb : brk ls k with
    | false => rfl
    | true =>
      have := brk_mono (t := (down (fun n => brk ls n) 60 : Nat)) hR (by omega) hb
      rcases down_at (fun n => brk ls n) 60 with h4 | h4
      · omega
      · rw [this] at h4; cases h4
end Go.Proofs.YtmcndbldbemebaaDoor
