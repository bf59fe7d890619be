/- A round is a clash; where there is an assignment, no list is one. -/
import Derived.Test.YtepnijjgdhldeaaQD16
namespace Go.Proofs.Ytepnijjgdhldeaa
set_option linter.unusedSimpArgs false
set_option linter.unusedVariables false
open Go.Awp
theorem sumw_snoc {ds : List Df} {s : Gs} : ∀ (i a : Nat), sumw ds s (i + 1) a = sumw ds s i a + wt ds s (itp ds s i a)
  | 0, a => by simp [sumw, itp]
  | i + 1, a => by
    have := sumw_snoc (ds := ds) (s := s) i (pre ds s a)
    show wt ds s a + sumw ds s (i + 1) (pre ds s a) = (wt ds s a + sumw ds s i (pre ds s a)) + wt ds s (itp ds s i (pre ds s a))
    omega
theorem li_cons {k : Nat} {f : Nat → Int} : li (k + 1) f = f 0 :: li k fun t => f (t + 1) := by
  unfold li
  rw [List.range_succ_eq_map, List.map_cons, List.map_map]
  rfl
theorem dd_some {ds : List Df} {j : Nat} {d : Df} (h : ds[j]? = some d) : dd ds (j : Int) = d ∧ isIdx ds (j : Int) = true := by
  have hj := (List.getElem?_eq_some_iff.1 h).1
  constructor
  · simp [dd, List.getD, h]
  · simp [isIdx]; omega
/-- The way along the last differences, from its end on. -/
theorem wk_round {ds : List Df} {s : Gs} {a p : Nat} (hw : ∀ d, d ∈ ds → -1073741824 ≤ d.2.2 ∧ d.2.2 ≤ 1073741824) (hge : ∀ d, d ∈ ds → 0 ≤ d.1 ∧ 0 ≤ d.2.1)
    (led : ∀ t, t < p → ∃ (j : Nat) (d : Df), s.last (itp ds s t a) = j ∧ ds[j]? = some d ∧ to d = itp ds s t a ∧ fr d = itp ds s (t + 1) a) (hp : p ≤ 1024) :
    ∀ (k : Nat) (S : Int), k ≤ p → -(1073741824 * ((p - k : Nat) : Int)) ≤ S ∧ S ≤ 1073741824 * ((p - k : Nat) : Int) → wk ds S (itp ds s k a) (li k fun t => s.last (itp ds s (k - 1 - t) a)) = some (S + sumw ds s k a, (a : Int))
  | 0, S, _, _ => by simp [wk, li, itp, sumw]
  | k + 1, S, hk, hS => by
    obtain ⟨j, d, p1, p2, p3, p4⟩ := led k (by omega)
    have hm := List.mem_of_getElem? p2
    have h1 := hge d hm
    have h2 := hw d hm
    have e1 : ((fr d : Nat) : Int) = d.1 := Int.toNat_of_nonneg h1.1
    have e2 : ((to d : Nat) : Int) = d.2.1 := Int.toNat_of_nonneg h1.2
    have hwt : wt ds s (itp ds s k a) = d.2.2 := by unfold wt; rw [p1]; simp only [Int.toNat_natCast, p2]
    have hl : (li (k + 1) fun t => s.last (itp ds s (k + 1 - 1 - t) a)) = (j : Int) :: li k fun t => s.last (itp ds s (k - 1 - t) a) := by
      rw [li_cons]
      congr 1
      · unfold li
        refine List.map_congr_left fun t ht => ?_
        have := List.mem_range.1 ht
        congr 2; omega
    rw [hl]
    show (if (dd ds j).1 = ((itp ds s (k + 1) a : Nat) : Int) then wk ds (IntKind.i64.wrap (S + (dd ds j).2.2)) (dd ds j).2.1 (li k fun t => s.last (itp ds s (k - 1 - t) a)) else none) = _
    rw [(dd_some p2).1, if_pos (by rw [← e1, p4]), wrap_id (by omega) (by omega), ← e2, p3, wk_round hw hge led hp k (S + d.2.2) (by omega) (by omega), sumw_snoc, hwt]
    congr 2; omega
end Go.Proofs.Ytepnijjgdhldeaa
