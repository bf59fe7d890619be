/- How labels lead back to the marks, and how great they are in the end. -/
import Derived.Test.YtepnijjgdhldeaaQG3
namespace Go.Proofs.Ytepnijjgdhldeaa
/-- What stands of a node that no difference has led to. -/
theorem root_iter {ds : List Df} {S : Nat → Bool} (r : Nat) : ∀ v, (iter ds (startL S) r).last v = -1 → (iter ds (startL S) r).long v = 0 ∧ ((iter ds (startL S) r).has v = true → S v = true) :=
  iter_inv (P := fun s => ∀ v, s.last v = -1 → s.long v = 0 ∧ (s.has v = true → S v = true)) (fun v _ => ⟨rfl, fun h => h⟩) (fun s k d hd hb h v hv => by
    by_cases e : v = to d
    · subst e; simp only [gstep, upd_eq] at hv; omega
    · simp only [gstep, upd_ne e] at hv ⊢; exact h v hv) r
/-- A node that a difference has led to: the difference, and the label. -/
theorem led_calm {ds : List Df} {S : Nat → Bool} {r : Nat} (hc : Calm ds (fun v => (iter ds (startL S) r).has v = true) (iter ds (startL S) r).long) {v : Nat} (h : ¬ (iter ds (startL S) r).last v = -1) :
    ∃ (j : Nat) (d : Df), (iter ds (startL S) r).last v = j ∧ ds[j]? = some d ∧ to d = v ∧ pre ds (iter ds (startL S) r) v = fr d ∧ (iter ds (startL S) r).has (fr d) = true ∧ (iter ds (startL S) r).has v = true ∧ (iter ds (startL S) r).long v = (iter ds (startL S) r).long (fr d) + d.2.2 := by
  have hi := InvT.iter (ds := ds) (s := startL S) (fun _ => rfl) r
  have hT : 0 < iterT ds (startL S) r v := by
    rcases Nat.eq_zero_or_pos (iterT ds (startL S) r v) with e | e
    · exact absurd (hi.zero v e) h
    · exact e
  obtain ⟨j, d, p1, p2, p3, p4, p5, p6, _⟩ := hi.pos v hT
  have hp : pre ds (iter ds (startL S) r) v = fr d := by unfold pre; rw [p1]; simp only [Int.toNat_natCast, p2]
  have := (hc d (List.mem_of_getElem? p2) p4).2
  rw [p3] at this
  exact ⟨j, d, p1, p2, p3, hp, p4, p5, by omega⟩
theorem steps_bound {ds : List Df} {S : Nat → Bool} {r : Nat} (hc : Calm ds (fun v => (iter ds (startL S) r).has v = true) (iter ds (startL S) r).long) (hw : ∀ d, d ∈ ds → -1073741824 ≤ d.2.2 ∧ d.2.2 ≤ 1073741824) :
    ∀ (i : Nat) v, (-(1073741824 * (i : Int)) ≤ (iter ds (startL S) r).long v ∧ (iter ds (startL S) r).long v ≤ 1073741824 * (i : Int)) ∨ 0 ≤ bk ds (iter ds (startL S) r) (i + 1) v
  | i, v => by
    by_cases hl : (iter ds (startL S) r).last v = -1
    · have := (root_iter (ds := ds) (S := S) r v hl).1
      left; omega
    · obtain ⟨j, d, p1, p2, p3, hp, p4, p5, p6⟩ := led_calm hc hl
      have e : bk ds (iter ds (startL S) r) (i + 1) v = bk ds (iter ds (startL S) r) i (fr d) := by
        rw [show bk ds (iter ds (startL S) r) (i + 1) v = if (iter ds (startL S) r).last v < 0 then -1 else bk ds (iter ds (startL S) r) i (pre ds (iter ds (startL S) r) v) from rfl, if_neg (by omega), hp]
      rw [e]
      cases i with
      | zero => right; simp [bk]
      | succ i =>
        have hw' := hw d (List.mem_of_getElem? p2)
        rcases steps_bound hc hw i (fr d) with h | h
        · left; omega
        · right; exact h
theorem label_bound {ds : List Df} {n : Nat} (hg : Good n ds) {S : Nat → Bool} {r : Nat} (hc : Calm ds (fun v => (iter ds (startL S) r).has v = true) (iter ds (startL S) r).long) {v : Nat} (hv : v < n) :
    -(1073741824 * (n : Int)) ≤ (iter ds (startL S) r).long v ∧ (iter ds (startL S) r).long v ≤ 1073741824 * (n : Int) := by
  obtain ⟨m, rfl⟩ : ∃ m, n = m + 1 := ⟨n - 1, by have := hg.pos; omega⟩
  rcases steps_bound hc hg.w m v with h | h
  · omega
  · have := calm_no_loop hc (s := startL S) (fun _ => rfl) (fun v hv => (falls (ds := ds) (s := startL S) ⟨hv, Int.le_refl _⟩ r).1) hg.fit.fr hv r
    omega
end Go.Proofs.Ytepnijjgdhldeaa
