/- A round is a clash; where there is an assignment, no list is one. -/
import Derived.Test.YtepnijjgdhldeaaQD16
namespace Go.Proofs.Ytepnijjgdhldeaa
set_option linter.unusedSimpArgs false
set_option linter.unusedVariables false
open Go.Awp
theorem sumw_snoc {ds : List Df} {s : Gs} : ∀ (i a : Nat), sumw ds s (i + 1) a = sumw ds s i a + wt ds s (itp ds s i a)
  | 0, a => by simp [sumw, itp]
  | i + 1, a => by
    have := sumw_snoc (ds := ds) (s := s) i (pre ds s a)
    show wt ds s a + sumw ds s (i + 1) (pre ds s a) = (wt ds s a + sumw ds s i (pre ds s a)) + wt ds s (itp ds s i (pre ds s a))
    omega
theorem li_cons {k : Nat} {f : Nat → Int} : li (k + 1) f = f 0 :: li k fun t => f (t + 1) := by
  unfold li
  rw [List.range_succ_eq_map, List.map_cons, List.map_map]
  rfl
theorem dd_some {ds : List Df} {j : Nat} {d : Df} (h : ds[j]? = some d) : dd ds (j : Int) = d ∧ isIdx ds (j : Int) = true := by
  have hj := (List.getElem?_eq_some_iff.1 h).1
  constructor
  · simp [dd, List.getD, h]
  · simp [isIdx]; omega
/-- The way along the last differences, from its end on. -/
theorem wk_round {ds : List Df} {s : Gs} {a p : Nat} (hw : ∀ d, d ∈ ds → -1073741824 ≤ d.2.2 ∧ d.2.2 ≤ 1073741824) (hge : ∀ d, d ∈ ds → 0 ≤ d.1 ∧ 0 ≤ d.2.1)
    (led : ∀ t, t < p → ∃ (j : Nat) (d : Df), s.last (itp ds s t a) = j ∧ ds[j]? = some d ∧ to d = itp ds s t a ∧ fr d = itp ds s (t + 1) a) (hp : p ≤ 1024) :
    ∀ (k : Nat) (S : Int), k ≤ p → -(1073741824 * ((p - k : Nat) : Int)) ≤ S ∧ S ≤ 1073741824 * ((p - k : Nat) : Int) → wk ds S (itp ds s k a) (li k fun t => s.last (itp ds s (k - 1 - t) a)) = some (S + sumw ds s k a, (a : Int))
  | 0, S, _, _ => by simp [wk, li, itp, sumw]
  | k + 1, S, hk, hS => by
    obtain ⟨j, d, p1, p2, p3, p4⟩ := led k (by omega)
    have hm := List.mem_of_getElem? p2
    have h1 := hge d hm
    have h2 := hw d hm
    have e1 : ((fr d : Nat) : Int) = d.1 := Int.toNat_of_nonneg h1.1
    have e2 : ((to d : Nat) : Int) = d.2.1 := Int.toNat_of_nonneg h1.2
    have hwt : wt ds s (itp ds s k a) = d.2.2 := by unfold wt; rw [p1]; simp only [Int.toNat_natCast, p2]
    have hl : (li (k + 1) fun t => s.last (itp ds s (k + 1 - 1 - t) a)) = (j : Int) :: li k fun t => s.last (itp ds s (k - 1 - t) a) := by
      rw [li_cons]
      congr 1
      · unfold li
        refine List.map_congr_left fun t ht => ?_
        have := List.mem_range.1 ht
        congr 2; omega
    rw [hl]
    show (if (dd ds j).1 = ((itp ds s (k + 1) a : Nat) : Int) then wk ds (IntKind.i64.wrap (S + (dd ds j).2.2)) (dd ds j).2.1 (li k fun t => s.last (itp ds s (k - 1 - t) a)) else none) = _
    rw [(dd_some p2).1, if_pos (by rw [← e1, p4]), wrap_id (by omega) (by omega), ← e2, p3, wk_round hw hge led hp k (S + d.2.2) (by omega) (by omega), sumw_snoc, hwt]
    congr 2; omega
theorem roundL_clash {m : Nat} {ds : List Df} {s : Gs} {a p : Nat} (hv : valid m ds = true) (hg : Good m ds) (hr : Round m ds s a p) : clash m ds (roundL ds s a p) = 0 := by
  have hpos := hr.pos
  have hple := hr.le
  have hsm := hg.small
  have hlen : (roundL ds s a p).length = p := li_length
  have each : ∀ t, t < p → ∃ (j : Nat) (d : Df), s.last (itp ds s (p - 1 - t) a) = j ∧ ds[j]? = some d ∧ fr d = itp ds s (p - t) a := fun t ht => by
    obtain ⟨j, d, p1, p2, _, p4⟩ := hr.led (p - 1 - t) (by omega)
    exact ⟨j, d, p1, p2, by rw [p4]; congr 1; omega⟩
  have hidx : idx ds (roundL ds s a p) = true := by
    unfold idx
    rw [List.all_eq_true]
    intro x hx
    obtain ⟨t, ht, rfl⟩ := List.mem_map.1 hx
    obtain ⟨j, d, p1, p2, _⟩ := each t (List.mem_range.1 ht)
    rw [p1]; exact (dd_some p2).2
  have hfr : froms ds (roundL ds s a p) = (List.range p).map fun t => ((itp ds s (p - t) a : Nat) : Int) := by
    unfold froms roundL li
    rw [List.map_map]
    refine List.map_congr_left fun t ht => ?_
    obtain ⟨j, d, p1, p2, p4⟩ := each t (List.mem_range.1 ht)
    simp only [Function.comp, p1, (dd_some p2).1]
    rw [← p4]
    exact (Int.toNat_of_nonneg (hg.fit.ge1 d (List.mem_of_getElem? p2))).symm
  have hnd : (froms ds (roundL ds s a p)).Nodup := by
    rw [hfr, List.Nodup, List.pairwise_map]
    refine List.Pairwise.imp_of_mem ?_ (List.pairwise_lt_range (n := p))
    intro i j hi hj hij e
    have hj' := List.mem_range.1 hj
    exact hr.distinct (i := p - j) (j := p - i) (by omega) (by omega) (by omega) (by omega)
  have hfirst : (dd ds ((roundL ds s a p).getD 0 0)).1 = (a : Int) := by
    obtain ⟨j, d, p1, p2, p4⟩ := each 0 hpos
    have : (roundL ds s a p).getD 0 0 = (j : Int) := by
      obtain ⟨q, rfl⟩ : ∃ q, p = q + 1 := ⟨p - 1, by omega⟩
      unfold roundL
      rw [li_cons]
      show s.last (itp ds s (q + 1 - 1 - 0) a) = _
      exact p1
    rw [this, (dd_some p2).1]
    have e1 : ((fr d : Nat) : Int) = d.1 := Int.toNat_of_nonneg (hg.fit.ge1 d (List.mem_of_getElem? p2))
    rw [← e1, p4, show p - 0 = p from rfl, hr.back]
  have hwk : wkV ds a a (roundL ds s a p) = (sumw ds s p a, true) := by
    have := wk_round (ds := ds) (s := s) (a := a) (p := p) hg.w (fun d hd => ⟨hg.fit.ge1 d hd, hg.fit.ge d hd⟩) hr.led (by omega) p 0 (Nat.le_refl _) (by omega)
    rw [hr.back] at this
    unfold wkV roundL
    rw [this]
    simp
  simp only [clash, hv, hidx, if_true, if_pos hnd, hlen, if_neg (show ¬ (p = 0 ∨ (p : Int) > m) by omega), hfirst, hwk, if_pos (show True ∧ sumw ds s p a < 0 from ⟨trivial, hr.neg⟩)]
/-- Along a walk labels that are calm tell how small the sum can be. -/
theorem wk_calm {m : Nat} {ds : List Df} {φ : Nat → Int} (hg : Good m ds) (hc : ∀ d, d ∈ ds → φ (to d) ≤ φ (fr d) + d.2.2) : ∀ (l : List Int) (S : Int) (at' : Nat) (c : Nat) (S' b : Int), idx ds l = true → c + l.length ≤ 1048576 → -(1073741824 * (c : Int)) ≤ S ∧ S ≤ 1073741824 * (c : Int) →
    wk ds S at' l = some (S', b) → ∃ b' : Nat, b = b' ∧ S + φ b' - φ at' ≤ S'
  | [], S, at', c, S', b, _, _, _, h => by
    cases h; exact ⟨at', rfl, by omega⟩
  | k :: r, S, at', c, S', b, hi, hcl, hS, h => by
    have hk : isIdx ds k = true := List.all_eq_true.1 hi k (by simp)
    have hi' : idx ds r = true := List.all_eq_true.2 fun x hx => List.all_eq_true.1 hi x (by simp [hx])
    obtain ⟨_, _, _, hm⟩ := dd_get hk
    have hw := hg.w _ hm
    have h1 : wk ds S at' (k :: r) = if (dd ds k).1 = at' then wk ds (IntKind.i64.wrap (S + (dd ds k).2.2)) (dd ds k).2.1 r else none := rfl
    rw [h1] at h
    split at h
    · rename_i hat
      simp only [List.length_cons] at hcl
      have e1 : ((fr (dd ds k) : Nat) : Int) = (dd ds k).1 := Int.toNat_of_nonneg (hg.fit.ge1 _ hm)
      have e2 : ((to (dd ds k) : Nat) : Int) = (dd ds k).2.1 := Int.toNat_of_nonneg (hg.fit.ge _ hm)
      rw [wrap_id (by omega) (by omega), ← e2] at h
      obtain ⟨b', hb, hle⟩ := wk_calm hg hc r _ _ (c + 1) S' b hi' (by omega) (by omega) h
      have hcd := hc _ hm
      have : fr (dd ds k) = at' := by omega
      rw [this] at hcd
      exact ⟨b', hb, by omega⟩
    · cases h
theorem Sol.all_calm {n : Nat} {ds : List Df} (h : Sol n ds) : ∀ d, d ∈ ds → (lens n ds (everyone n)).1.long (to d) ≤ (lens n ds (everyone n)).1.long (fr d) + d.2.2 := fun d hd =>
  ((lens_grown h.good h.sol).2 d hd (lens_has (by simp [everyone]; exact h.good.fit.fr d hd)).1).2
theorem no_clash {m : Nat} {ds : List Df} (h : Sol m ds) (l : List Int) : clash m ds l ≠ 0 := by
  unfold clash
  split
  · split
    · rename_i hi
      split
      · decide
      · rename_i hl
        split
        · split
          · rename_i hw
            exfalso
            have hp : 0 < l.length := by omega
            have h00 : l.getD 0 0 = l[0] := by simp [hp]
            rw [h00] at hw
            obtain ⟨_, _, _, hm⟩ := dd_get (List.all_eq_true.1 hi _ (List.getElem_mem hp))
            have e1 : ((fr (dd ds l[0]) : Nat) : Int) = (dd ds l[0]).1 := Int.toNat_of_nonneg (h.good.fit.ge1 _ hm)
            rw [← e1] at hw
            unfold wkV at hw
            have hsm := h.good.small
            cases hwk : wk ds 0 ((fr (dd ds l[0]) : Nat) : Int) l with
            | none => rw [hwk] at hw; simp at hw
            | some r =>
              obtain ⟨s, a⟩ := r
              rw [hwk] at hw
              obtain ⟨b', hb, hle⟩ := wk_calm h.good h.all_calm l 0 _ 0 s a hi (by omega) (by omega) hwk
              simp only [beq_iff_eq] at hw
              have : b' = fr (dd ds l[0]) := by omega
              subst this
              omega
          · decide
        · decide
    · decide
  · decide
theorem solved_fulf {m : Nat} {ds : List Df} (h : Sol m ds) : solved m ds = (li m fun i => (lens m ds (everyone m)).1.long i - (lens m ds (everyone m)).1.long 0) ∧ fulf m ds (li m fun i => (lens m ds (everyone m)).1.long i - (lens m ds (everyone m)).1.long 0) = true := by
  obtain ⟨e, hc⟩ := lens_grown h.good h.sol
  constructor
  · unfold solved
    rw [e]
    rfl
  · obtain ⟨q, eq⟩ := lens_iter (n := m) (ds := ds) (S := everyone m)
    refine fulf_mk h.good (by omega) (fun v hv => ?_) fun d hd => ?_
    · rw [eq] at hc ⊢
      have b1 := label_bound h.good hc hv
      have b2 := label_bound h.good hc h.good.pos
      have := h.good.small
      omega
    · have := h.all_calm d hd; omega
end Go.Proofs.Ytepnijjgdhldeaa
