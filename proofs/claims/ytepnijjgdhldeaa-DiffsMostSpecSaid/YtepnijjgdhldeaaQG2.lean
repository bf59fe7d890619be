/- Both ways of growing end alike. -/
import Derived.Test.YtepnijjgdhldeaaQ7
namespace Go.Proofs.Ytepnijjgdhldeaa
def lens (n : Nat) (ds : List Df) (S : Nat → Bool) : Gs × Bool := lenR ds (startL S) (n + 1) 0
theorem lens_grown {n : Nat} {ds : List Df} (hg : Good n ds) {S : Nat → Bool} (h : (lens n ds S).2 = true) : grown n ds S = ((lens n ds S).1, -1) ∧ Calm ds (fun v => (lens n ds S).1.has v = true) (lens n ds S).1.long :=
  have := grow_ok hg.pos hg.fit (s := startL S) (t := (lens n ds S).1) (fun _ => rfl) (by rw [← h]; rfl)
  ⟨this.1, this.2.1⟩
theorem lens_grown_bad {n : Nat} {ds : List Df} (hg : Good n ds) {S : Nat → Bool} (h : (lens n ds S).2 = false) : 0 ≤ (grown n ds S).2 := by
  obtain ⟨h1, _⟩ := lenR_bad _ _ h
  obtain ⟨q, _, _, _, h5, h6⟩ := grow_bad (ds := ds) hg.pos (s := startL S) (fun _ => rfl) n 0 (by omega) (fun p _ hp => h1 p (by omega) (by omega)) hg.pos
  show 0 ≤ (growR ds n (startL S) n 0).2
  rw [h6]; exact h5
theorem lens_iter {n : Nat} {ds : List Df} {S : Nat → Bool} : ∃ q, (lens n ds S).1 = iter ds (startL S) q := by
  cases h : (lens n ds S).2 with
  | true =>
    obtain ⟨q, _, _, _, e, _⟩ := lenR_ok (ds := ds) (s := startL S) (t := (lens n ds S).1) (n + 1) 0 (by rw [← h]; rfl)
    exact ⟨_, e⟩
  | false => exact ⟨_, (lenR_bad _ _ h).2⟩
theorem lens_has {n : Nat} {ds : List Df} {S : Nat → Bool} {v : Nat} (h : S v = true) : (lens n ds S).1.has v = true ∧ (lens n ds S).1.long v ≤ 0 := by
  obtain ⟨q, e⟩ := lens_iter (n := n) (ds := ds) (S := S)
  rw [e]
  exact falls ⟨h, Int.le_refl _⟩ q
/-- Where labels can be calm at the marks, growing ends. -/
theorem lens_calm {n : Nat} {ds : List Df} (hg : Good n ds) {R : Nat → Prop} {φ : Nat → Int} (hc : Calm ds R φ) {S : Nat → Bool} (hS : ∀ v, S v = true → R v) : (lens n ds S).2 = true := by
  cases h : (lens n ds S).2 with
  | true => rfl
  | false =>
    obtain ⟨h1, _⟩ := lenR_bad _ _ h
    have hp := h1 (n - 1) (by omega) (by have := hg.pos; omega)
    have a := late_loops (ds := ds) (s := startL S) (fun _ => rfl) (n := n) (r := n - 1) (by omega) hp
    have b := calm_no_loop hc (s := startL S) (fun _ => rfl) hS hg.fit.fr (chg_lt hg.fit hp) (n - 1 + 1)
    omega
theorem solvable_one {n : Nat} {ds : List Df} (hg : Good n ds) (h : (lens n ds (everyone n)).2 = true) {i : Nat} (hi : i < n) : (lens n ds (one i)).2 = true := by
  refine lens_calm hg (lens_grown hg h).2 fun v hv => ?_
  have : v = i := by simpa [one] using hv
  subst this
  exact (lens_has (by simp [everyone, hi])).1
theorem solvable_iff {n : Nat} {ds : List Df} (hg : Good n ds) : (0 ≤ (grown n ds (everyone n)).2) ↔ (lens n ds (everyone n)).2 = false := by
  constructor
  · intro h
    cases hl : (lens n ds (everyone n)).2 with
    | false => rfl
    | true => rw [(lens_grown hg hl).1] at h; simp at h
  · exact lens_grown_bad hg
/-- Top of the specification. -/
def rtopV (n : Int) (ds : List Df) : List Int × Int :=
  if valid n ds then (if (lens n.toNat ds (everyone n.toNat)).2 then (if (lb n.toNat (lens n.toNat ds (one 0)).1.has).all id then (li n.toNat (lens n.toNat ds (one 0)).1.long, 0) else ([], 42)) else ([], 41)) else ([], 40)
end Go.Proofs.Ytepnijjgdhldeaa
