/- Contracts: Standing of the specification. -/
import Derived.Test.YtgadlckkmhhmbaaDoorQC20
set_option linter.unusedVariables false
set_option linter.unusedSimpArgs false
set_option linter.unusedSectionVars false
namespace Go.Proofs.YtgadlckkmhhmbaaDoor
open Go.Awp Go.Grams
set_option linter.unusedSimpArgs false
set_option linter.unusedVariables false
set_option linter.unusedSectionVars false
set_option maxRecDepth 10000
def zeroS : Sht := ⟨0, 0, 0, 0, 0, 0, 0, 0, []⟩
def shAt (l : List Sht) (k : Nat) : Sht := (l[k]?).getD zeroS
theorem shAt_eq {l : List Sht} {k : Nat} (h : k < l.length) : shAt l k = l[k] := by
  unfold shAt; rw [List.getElem?_eq_getElem h]; rfl
/-- Whether the first sheet is replaced by the second one. -/
def repl (l : List Sht) (known : Int) (i j : Nat) : Bool := (shAt l i).no == (shAt l j).no && decide ((shAt l j).known ≤ known) && (decide ((shAt l j).known > (shAt l i).known) || ((shAt l j).known == (shAt l i).known && decide ((j : Int) > (i : Int))))
def lasts (l : List Sht) (known : Int) (i m : Nat) : Bool := !((List.range m).any (repl l known i))
theorem lasts_succ {l : List Sht} {known : Int} {i m : Nat} : lasts l known i (m + 1) = (lasts l known i m && !repl l known i m) := by
  simp [lasts, List.range_succ, List.any_append, Bool.not_or]
def stq (l : List Sht) (wd : List Int) (known : Int) (i : Nat) : Bool := !wd.contains (shAt l i).no && decide ((shAt l i).known ≤ known) && lasts l known i l.length
def stE (l : List Sht) (wd : List Int) (known : Int) : Int := if shsE l ≠ 0 then shsE l else if numsV wd = true ∧ okDay known = true then 0 else 1
def stL (l : List Sht) (wd : List Int) (known : Int) : List Int := if stE l wd known = 0 then idxs (stq l wd known) l.length else []
def stV (l : List Sht) (wd : List Int) (known : Int) : AV := .tuple [.ro true (ic (stL l wd known)), I (stE l wd known)]
theorem st_bad {l : List Sht} {wd : List Int} {known e : Int} (he : stE l wd known = e) (h0 : e ≠ 0) (H : AHeap) : Out H (.tuple [.nilSlice, I e]) (stV l wd known) := by
  have : stL l wd known = [] := by unfold stL; rw [he, if_neg h0]
  unfold stV; rw [this, he]; exact out_two out_nil out_int
end Go.Proofs.YtgadlckkmhhmbaaDoor
/- Sheets that stand: at most one of each number, and the last one; what is left out if it does not stand. -/
namespace Go.Proofs.YtgadlckkmhhmbaaDoor
open Go.Awp Go.Grams
set_option linter.unusedSimpArgs false
set_option linter.unusedVariables false
set_option linter.unusedSectionVars false
def lt (l : List Sht) (i j : Nat) : Prop := (shAt l j).known > (shAt l i).known ∨ ((shAt l j).known = (shAt l i).known ∧ j > i)
theorem repl_iff {l : List Sht} {d : Int} {i j : Nat} : repl l d i j = true ↔ (shAt l i).no = (shAt l j).no ∧ (shAt l j).known ≤ d ∧ lt l i j := by
  unfold repl lt
  simp only [Bool.and_eq_true, Bool.or_eq_true, beq_iff_eq, decide_eq_true_eq]
  constructor
  · rintro ⟨⟨h1, h2⟩, h3⟩
    exact ⟨h1, h2, by omega⟩
  · rintro ⟨h1, h2, h3⟩
    exact ⟨⟨h1, h2⟩, by omega⟩
theorem repl_trans {l : List Sht} {d : Int} {i j k : Nat} (h1 : repl l d i j = true) (h2 : repl l d j k = true) : repl l d i k = true := by
  rw [repl_iff] at *
  unfold lt at *
  exact ⟨h1.1.trans h2.1, h2.2.1, by omega⟩
theorem repl_irr {l : List Sht} {d : Int} {i : Nat} : repl l d i i = false := by
  rw [← Bool.not_eq_true, repl_iff]; unfold lt; omega
theorem lasts_iff {l : List Sht} {d : Int} {i m : Nat} : lasts l d i m = true ↔ ∀ j, j < m → repl l d i j = false := by
  simp [lasts]
theorem exists_last {l : List Sht} {d : Int} {i : Nat} (hi : (shAt l i).known ≤ d) : ∀ m, ∃ j, (j = i ∨ j < m) ∧ (shAt l j).no = (shAt l i).no ∧ (shAt l j).known ≤ d ∧ lasts l d j m = true
  | 0 => ⟨i, .inl rfl, rfl, hi, by simp [lasts]⟩
  | m + 1 => by
    obtain ⟨j, h1, h2, h3, h4⟩ := exists_last hi m
    rw [lasts_iff] at h4
    by_cases h : repl l d j m = true
    · refine ⟨m, .inr (Nat.lt_succ_self _), ((repl_iff.1 h).1.symm.trans h2), (repl_iff.1 h).2.1, ?_⟩
      rw [lasts_iff]
      intro j' hj'
      rw [← Bool.not_eq_true]
      intro hr
      rcases Nat.lt_succ_iff_lt_or_eq.1 hj' with h5 | h5
      · have := repl_trans h hr
        rw [h4 j' h5] at this; cases this
      · subst h5; rw [repl_irr] at hr; cases hr
    · refine ⟨j, by omega, h2, h3, ?_⟩
      rw [lasts_iff]
      intro j' hj'
      rcases Nat.lt_succ_iff_lt_or_eq.1 hj' with h5 | h5
      · exact h4 j' h5
      · subst h5; simpa using h
theorem stq_iff {l : List Sht} {wd : List Int} {d : Int} {i : Nat} : stq l wd d i = true ↔ wd.contains (shAt l i).no = false ∧ (shAt l i).known ≤ d ∧ ∀ j, j < l.length → repl l d i j = false := by
  unfold stq
  rw [Bool.and_eq_true, Bool.and_eq_true, lasts_iff]
  simp [and_assoc]
theorem mem_idxs {q : Nat → Bool} {m : Nat} {x : Int} : x ∈ idxs q m ↔ ∃ k, k < m ∧ q k = true ∧ (k : Int) = x := by
  simp [idxs, and_assoc]
theorem idxs_get_lt {q : Nat → Bool} {m i : Nat} (h : i < (idxs q m).length) : ∃ k : Nat, (idxs q m)[i] = (k : Int) ∧ k < m ∧ q k = true := by
  obtain ⟨k, h1, h2, h3⟩ := mem_idxs.1 (List.getElem_mem h)
  exact ⟨k, h3.symm, h1, h2⟩
theorem idxs_up {q : Nat → Bool} : ∀ {m i : Nat} (h : i + 1 < (idxs q m).length), (idxs q m)[i]'(by omega) < (idxs q m)[i + 1]
  | 0, i, h => by simp [idxs] at h
  | m + 1, i, h => by
    by_cases hq : q m = true
    · have e := idxs_t hq
      by_cases hl : i + 1 < (idxs q m).length
      · have := idxs_up hl
        simp only [e] at h ⊢
        rw [List.getElem_append_left (by omega), List.getElem_append_left hl]
        exact this
      · have hL : (idxs q (m + 1)).length = (idxs q m).length + 1 := by rw [e]; simp
        have hi : i + 1 = (idxs q m).length := by omega
        obtain ⟨k, h1, h2, h3⟩ := idxs_get_lt (q := q) (m := m) (i := i) (by omega)
        simp only [e]
        rw [List.getElem_append_left (by omega), List.getElem_append_right (by omega), h1]
        simp only [hi, Nat.sub_self, List.getElem_cons_zero]
        omega
    · have e := idxs_f (q := q) (k := m) (by simpa using hq)
      simp only [e] at h ⊢
      exact idxs_up h
theorem stands_any {l : List Sht} {wd : List Int} {d n : Int} : (idxs (stq l wd d) l.length).any (fun k => (shAt l k.toNat).no == n) = (!wd.contains n && l.any fun x => x.no == n && decide (x.known ≤ d)) := by
  rw [Bool.eq_iff_iff, List.any_eq_true]
  constructor
  · rintro ⟨x, hx, hn⟩
    obtain ⟨k, h1, h2, rfl⟩ := mem_idxs.1 hx
    have hn : (shAt l k).no = n := by simpa using hn
    obtain ⟨g1, g2, g3⟩ := stq_iff.1 h2
    rw [hn] at g1
    rw [g1, Bool.not_false, Bool.true_and, List.any_eq_true]
    rw [shAt_eq h1] at hn g2
    exact ⟨l[k], List.getElem_mem h1, by simp [hn, g2]⟩
  · intro h
    rw [Bool.and_eq_true, List.any_eq_true] at h
    obtain ⟨h1, x, hx, h2⟩ := h
    obtain ⟨i, hi, rfl⟩ := List.getElem_of_mem hx
    have e := shAt_eq hi
    rw [← e] at h2
    have h2 : (shAt l i).no = n ∧ (shAt l i).known ≤ d := by simpa using h2
    obtain ⟨j, g1, g2, g3, g4⟩ := exists_last h2.2 l.length
    rw [lasts_iff] at g4
    refine ⟨(j : Int), mem_idxs.2 ⟨j, by omega, stq_iff.2 ⟨?_, g3, g4⟩, rfl⟩, ?_⟩
    · rw [g2, h2.1]; simpa using h1
    · simp [g2, h2.1]
/-- The list without its element m: where its elements were. -/
def rk (m k : Nat) : Nat := if k < m then k else k + 1
theorem shAt_erase {l : List Sht} {m k : Nat} : shAt (l.eraseIdx m) k = shAt l (rk m k) := by
  unfold shAt rk
  rw [List.getElem?_eraseIdx]
  split <;> rfl
theorem rk_lt {m i j : Nat} : rk m j > rk m i ↔ j > i := by unfold rk; split <;> split <;> omega
theorem repl_erase {l : List Sht} {d : Int} {m i j : Nat} : repl (l.eraseIdx m) d i j = repl l d (rk m i) (rk m j) := by
  rw [Bool.eq_iff_iff, repl_iff, repl_iff]
  unfold lt
  rw [shAt_erase, shAt_erase, rk_lt]
theorem rk_onto {m j n : Nat} (h : j ≠ m) (hj : j < n + 1) (hm : m < n + 1) : ∃ j', j' < n ∧ rk m j' = j := by
  unfold rk
  by_cases h1 : j < m
  · exact ⟨j, by omega, by rw [if_pos h1]⟩
  · exact ⟨j - 1, by omega, by rw [if_neg (by omega)]; omega⟩
theorem stq_erase {l : List Sht} {wd : List Int} {d : Int} {m k : Nat} (hm : m < l.length) (hs : stq l wd d m = false) (hk : k < l.length - 1) : stq (l.eraseIdx m) wd d k = stq l wd d (rk m k) := by
  have hlen : (l.eraseIdx m).length = l.length - 1 := List.length_eraseIdx_of_lt hm
  rw [Bool.eq_iff_iff, stq_iff, stq_iff, shAt_erase, hlen]
  constructor
  · rintro ⟨h1, h2, h3⟩
    refine ⟨h1, h2, ?_⟩
    have other : ∀ j, j < l.length → j ≠ m → repl l d (rk m k) j = false := fun j hj hne => by
      obtain ⟨j', g1, g2⟩ := rk_onto (n := l.length - 1) hne (by omega) (by omega)
      have := h3 j' g1
      rwa [repl_erase, g2] at this
    intro j hj
    by_cases hjm : j = m
    · subst hjm
      rw [← Bool.not_eq_true]
      intro hr
      have hr' := repl_iff.1 hr
      apply absurd hs
      rw [Bool.not_eq_false, stq_iff]
      refine ⟨by rw [← hr'.1]; exact h1, hr'.2.1, fun q hq => ?_⟩
      rw [← Bool.not_eq_true]
      intro hrq
      have hne : q ≠ j := fun e => by rw [e, repl_irr] at hrq; cases hrq
      have := repl_trans hr hrq
      rw [other q hq hne] at this; cases this
    · exact other j hj hjm
  · rintro ⟨h1, h2, h3⟩
    refine ⟨h1, h2, fun j hj => ?_⟩
    rw [repl_erase]
    refine h3 _ ?_
    unfold rk; split <;> omega
/-- An index behind the one left out comes one earlier. -/
def back (m : Nat) (k : Int) : Int := if k > m then k - 1 else k
theorem idxs_shift {q q' : Nat → Bool} {m : Nat} (hq : q m = false) : ∀ n, (∀ k, k < n → q' k = q (rk m k)) → idxs q' n = (idxs q (if n ≤ m then n else n + 1)).map (back m)
  | 0, _ => by simp [idxs]
  | n + 1, h => by
    have ih := idxs_shift (q := q) (q' := q') hq n fun k hk => h k (by omega)
    have hn := h n (Nat.lt_succ_self _)
    unfold rk at hn
    have step : ∀ p, q' n = q p → back m (p : Int) = (n : Int) → idxs q' n = (idxs q p).map (back m) → idxs q' (n + 1) = (idxs q (p + 1)).map (back m) := fun p h1 h2 h3 => by
      cases hb : q p
      · rw [idxs_f hb, idxs_f (h1.trans hb), h3]
      · rw [idxs_t hb, idxs_t (h1.trans hb), h3, List.map_append, List.map_cons, List.map_nil, h2]
    rcases Nat.lt_trichotomy n m with h1 | h1 | h1
    · rw [if_pos h1] at hn
      rw [if_pos (by omega)] at ih
      rw [if_pos (by omega)]
      exact step n hn (by unfold back; rw [if_neg (by omega)]) ih
    · subst h1
      rw [if_neg (by omega)] at hn
      rw [if_pos (Nat.le_refl _)] at ih
      rw [if_neg (by omega)]
      refine step (n + 1) hn (by unfold back; rw [if_pos (by omega)]; omega) ?_
      rw [idxs_f hq]; exact ih
    · rw [if_neg (by omega)] at hn
      rw [if_neg (by omega)] at ih
      rw [if_neg (by omega)]
      exact step (n + 1) hn (by unfold back; rw [if_pos (by omega)]; omega) ih
theorem st_erase {l : List Sht} {wd : List Int} {d : Int} {m : Nat} (hm : m < l.length) (hs : stq l wd d m = false) : idxs (stq (l.eraseIdx m) wd d) (l.eraseIdx m).length = (idxs (stq l wd d) l.length).map (back m) := by
  have hlen : (l.eraseIdx m).length = l.length - 1 := List.length_eraseIdx_of_lt hm
  rw [hlen, idxs_shift hs (l.length - 1) fun k hk => stq_erase hm hs hk]
  by_cases h : l.length - 1 ≤ m
  · rw [if_pos h]
    have e : l.length = m + 1 := by omega
    rw [e, idxs_f hs]; rfl
  · rw [if_neg h, show l.length - 1 + 1 = l.length by omega]
end Go.Proofs.YtgadlckkmhhmbaaDoor
