/- Differences that are multiplied. -/
import Derived.Test.YtepnijjgdhldeaaQV5
namespace Go.Proofs.Ytepnijjgdhldeaa
open Go.Awp
set_option linter.unusedSimpArgs false
set_option linter.unusedVariables false
def scl (c : Int) (ds : List Df) : List Df := ds.map fun d => (d.1, d.2.1, d.2.2 * c)
def sclG (c : Int) (s : Gs) : Gs := ⟨fun v => s.long v * c, s.has, s.last⟩
theorem scl_length {c : Int} {ds : List Df} : (scl c ds).length = ds.length := by simp [scl]
theorem scl_get {c : Int} {ds : List Df} {k : Nat} : (scl c ds)[k]? = (ds[k]?).map fun d => (d.1, d.2.1, d.2.2 * c) := by simp [scl]
theorem ed_scl {c : Int} {ds : List Df} {k : Nat} (h : k < ds.length) : ed (scl c ds) k = ((ed ds k).1, (ed ds k).2.1, (ed ds k).2.2 * c) := by
  have e := scl_get (c := c) (ds := ds) (k := k)
  rw [ed_get? h, ed_get? (by rw [scl_length]; exact h)] at e
  simpa using e
theorem inn_scl {c : Int} {ds : List Df} {F : Nat → Int} {v : Nat} : inn (scl c ds) F v = inn ds F v := by
  unfold inn innc
  rw [scl_length]
  exact sumN_congr _ fun k hk => by rw [ed_scl hk]; rfl
theorem Opt.scl {c : Int} (hc : 0 < c) {n : Nat} {ds : List Df} {w F : Nat → Int} (h : Opt n ds w F) : Opt n (scl c ds) w F := by
  obtain ⟨⟨h1, h2⟩, x, h3, h4⟩ := h
  refine ⟨⟨fun k hk => h1 k (by rw [scl_length] at hk; exact hk), fun v a b => by rw [inn_scl]; exact h2 v a b⟩, fun v => x v * c, fun k hk => ?_, fun k hk hp => ?_⟩ <;> rw [scl_length] at hk <;> rw [ed_scl hk]
  · have := Int.mul_le_mul_of_nonneg_right (h3 k hk) (Int.le_of_lt hc)
    rw [Int.add_mul] at this; exact this
  · have := Int.mul_le_mul_of_nonneg_right (h4 k hk hp) (Int.le_of_lt hc)
    rw [Int.add_mul] at this; exact this
theorem Ray.scl {c : Int} {n : Nat} {ds : List Df} {w y : Nat → Int} (h : Ray n ds w y) : Ray n (scl c ds) w y :=
  ⟨h.zero, fun k hk => by rw [scl_length] at hk; rw [ed_scl hk]; exact h.down k hk, h.up⟩
end Go.Proofs.Ytepnijjgdhldeaa
