/- The way back from a node that is led to. -/
import Derived.Test.YtepnijjgdhldeaaQG7
namespace Go.Proofs.Ytepnijjgdhldeaa
set_option linter.unusedSimpArgs false
set_option linter.unusedVariables false
open Go.Awp
theorem chain_end {ds : List Df} {s : Gs} : ∀ (i a : Nat), bk ds s i a < 0 → ∃ q, q < i ∧ s.last (itp ds s q a) < 0 ∧ ∀ u, u < q → ¬ s.last (itp ds s u a) < 0
  | 0, a, h => by simp [bk] at h; omega
  | i + 1, a, h => by
    have e : bk ds s (i + 1) a = if s.last a < 0 then -1 else bk ds s i (pre ds s a) := rfl
    rw [e] at h
    split at h
    · exact ⟨0, by omega, ‹_›, fun u hu => by omega⟩
    · rename_i hl
      obtain ⟨q, q1, q2, q3⟩ := chain_end i (pre ds s a) h
      refine ⟨q + 1, by omega, q2, fun u hu => ?_⟩
      cases u with
      | zero => exact hl
      | succ u => exact q3 u (by omega)
/-- The way back from a node to a mark. -/
structure Chain (n : Nat) (ds : List Df) (s : Gs) (i a q : Nat) : Prop where
  node : a < n
  lt : q < n
  stop : s.last (itp ds s q a) < 0
  root : itp ds s q a = i
  led : ∀ t, t < q → ∃ (j : Nat) (d : Df), s.last (itp ds s t a) = j ∧ ds[j]? = some d ∧ to d = itp ds s t a ∧ fr d = itp ds s (t + 1) a
  sum : sumw ds s q a = s.long a
theorem Sol.chain {n : Nat} {ds : List Df} (h : Sol n ds) {i a : Nat} (hi : i < n) (ha : a < n) (hh : (lens n ds (one i)).1.has a = true) : ∃ q, Chain n ds (lens n ds (one i)).1 i a q := by
  have hc := h.calm1 hi
  have hself := (h.self hi).2
  obtain ⟨r, e⟩ := lens_iter (n := n) (ds := ds) (S := one i)
  rw [e] at hc hself hh ⊢
  have hb := calm_no_loop hc (s := startL (one i)) (fun _ => rfl) (fun v hv => (falls (ds := ds) (s := startL (one i)) ⟨hv, Int.le_refl _⟩ r).1) h.good.fit.fr ha r
  obtain ⟨q, q1, q2, q3⟩ := chain_end n a hb
  have lead : ∀ v, ¬ (iter ds (startL (one i)) r).last v < 0 → ∃ (j : Nat) (d : Df), (iter ds (startL (one i)) r).last v = j ∧ ds[j]? = some d ∧ to d = v ∧ pre ds (iter ds (startL (one i)) r) v = fr d ∧ (iter ds (startL (one i)) r).has (fr d) = true ∧ (iter ds (startL (one i)) r).long v = (iter ds (startL (one i)) r).long (fr d) + d.2.2 := fun v hv => by
    obtain ⟨j, d, a1, a2, a3, a4, a5, _, a7⟩ := led_calm hc (v := v) (by omega)
    exact ⟨j, d, a1, a2, a3, a4, a5, a7⟩
  have has : ∀ t, t ≤ q → (iter ds (startL (one i)) r).has (itp ds (iter ds (startL (one i)) r) t a) = true := fun t ht => by
    cases t with
    | zero => exact hh
    | succ t =>
      obtain ⟨j, d, _, _, _, a4, a5, _⟩ := lead _ (q3 t (by omega))
      rw [itp_succ, a4]; exact a5
  have sums : ∀ t, t ≤ q → sumw ds (iter ds (startL (one i)) r) t a = (iter ds (startL (one i)) r).long a - (iter ds (startL (one i)) r).long (itp ds (iter ds (startL (one i)) r) t a) := by
    intro t
    induction t with
    | zero => intro _; simp [sumw, itp]
    | succ t ih =>
      intro ht
      obtain ⟨j, d, a1, a2, a3, a4, a5, a6⟩ := lead _ (q3 t (by omega))
      have hwt : wt ds (iter ds (startL (one i)) r) (itp ds (iter ds (startL (one i)) r) t a) = d.2.2 := by unfold wt; rw [a1]; simp only [Int.toNat_natCast, a2]
      rw [sumw_snoc, ih (by omega), itp_succ, a4, hwt]
      omega
  have hlast : (iter ds (startL (one i)) r).last (itp ds (iter ds (startL (one i)) r) q a) = -1 := by
    rcases led_iter (ds := ds) (s := startL (one i)) (fun _ => rfl) r (itp ds (iter ds (startL (one i)) r) q a) with h | ⟨j, d, h, _⟩
    · exact h
    · omega
  have hroot : itp ds (iter ds (startL (one i)) r) q a = i := by
    have := (root_iter (ds := ds) (S := one i) r _ hlast).2 (has q (Nat.le_refl _))
    simpa [one] using this
  refine ⟨q, ha, q1, q2, hroot, fun t ht => ?_, ?_⟩
  · obtain ⟨j, d, a1, a2, a3, a4, _⟩ := lead _ (q3 t ht)
    exact ⟨j, d, a1, a2, a3, by rw [itp_succ, a4]⟩
  · rw [sums q (Nat.le_refl _), hroot, hself]; omega
theorem Chain.distinct {n : Nat} {ds : List Df} {s : Gs} {i a q : Nat} (h : Chain n ds s i a q) {u v : Nat} (huv : u < v) (hv : v ≤ q) : itp ds s u a ≠ itp ds s v a := by
  intro e
  have : itp ds s (u + (q - v)) a = itp ds s q a := by
    rw [show u + (q - v) = (q - v) + u by omega, itp_add, e, ← itp_add]
    congr 1; omega
  obtain ⟨j, d, h1, _⟩ := h.led (u + (q - v)) (by omega)
  have := h.stop
  rw [← ‹itp ds s (u + (q - v)) a = itp ds s q a›] at this
  omega
/-- What is known of the list of the differences along the way. -/
theorem Chain.list {n : Nat} {ds : List Df} {s : Gs} {i a q : Nat} (h : Chain n ds s i a q) (hg : Good n ds) : idx ds (roundL ds s a q) = true ∧ (roundL ds s a q).length = q ∧ wk ds 0 i (roundL ds s a q) = some (s.long a, (a : Int)) ∧ ((i : Int) :: (roundL ds s a q).map fun k => (dd ds k).2.1).Nodup := by
  have hsm := hg.small
  have hlt := h.lt
  have each : ∀ t, t < q → ∃ (j : Nat) (d : Df), s.last (itp ds s (q - 1 - t) a) = j ∧ ds[j]? = some d ∧ to d = itp ds s (q - 1 - t) a := fun t ht => by
    obtain ⟨j, d, p1, p2, p3, _⟩ := h.led (q - 1 - t) (by omega)
    exact ⟨j, d, p1, p2, p3⟩
  refine ⟨?_, li_length, ?_, ?_⟩
  · unfold idx
    rw [List.all_eq_true]
    intro x hx
    obtain ⟨t, ht, rfl⟩ := List.mem_map.1 hx
    obtain ⟨j, d, p1, p2, _⟩ := each t (List.mem_range.1 ht)
    rw [p1]; exact (dd_some p2).2
  · have := wk_round (ds := ds) (s := s) (a := a) (p := q) hg.w (fun d hd => ⟨hg.fit.ge1 d hd, hg.fit.ge d hd⟩) h.led (by omega) q 0 (Nat.le_refl _) (by omega)
    rw [h.root, h.sum] at this
    unfold roundL
    rw [this]
    simp
  · have e : ((i : Int) :: (roundL ds s a q).map fun k => (dd ds k).2.1) = (List.range (q + 1)).map fun t => ((itp ds s (q - t) a : Nat) : Int) := by
      rw [List.range_succ_eq_map, List.map_cons, List.map_map]
      congr 1
      · rw [show q - 0 = q from rfl, h.root]
      · unfold roundL li
        rw [List.map_map]
        refine List.map_congr_left fun t ht => ?_
        obtain ⟨j, d, p1, p2, p3⟩ := each t (List.mem_range.1 ht)
        simp only [Function.comp, p1, (dd_some p2).1]
        have e2 : ((to d : Nat) : Int) = d.2.1 := Int.toNat_of_nonneg (hg.fit.ge d (List.mem_of_getElem? p2))
        rw [← e2, p3]
        congr 2; omega
    rw [e, List.Nodup, List.pairwise_map]
    refine List.Pairwise.imp_of_mem ?_ (List.pairwise_lt_range (n := q + 1))
    intro x y hx hy hxy he
    have hy' := List.mem_range.1 hy
    exact h.distinct (u := q - y) (v := q - x) (by omega) (by omega) (by omega)
end Go.Proofs.Ytepnijjgdhldeaa
