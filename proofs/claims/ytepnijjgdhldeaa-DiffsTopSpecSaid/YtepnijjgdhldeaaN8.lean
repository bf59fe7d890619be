/- Both ways of growing end alike. -/
import Derived.Test.YtepnijjgdhldeaaN7
namespace Go.Proofs.Ytepnijjgdhldeaa
def lens (n : Nat) (ds : List Df) (S : Nat → Bool) : Gs × Bool := lenR ds (startL S) (n + 1) 0
theorem lens_grown {n : Nat} {ds : List Df} (hg : Good n ds) {S : Nat → Bool} (h : (lens n ds S).2 = true) : grown n ds S = ((lens n ds S).1, -1) ∧ Calm ds (fun v => (lens n ds S).1.has v = true) (lens n ds S).1.long :=
  have := grow_ok hg.pos hg.fit (s := startL S) (t := (lens n ds S).1) (fun _ => rfl) (by rw [← h]; rfl)
  ⟨this.1, this.2.1⟩
theorem lens_grown_bad {n : Nat} {ds : List Df} (hg : Good n ds) {S : Nat → Bool} (h : (lens n ds S).2 = false) : 0 ≤ (grown n ds S).2 := by
  obtain ⟨h1, _⟩ := lenR_bad _ _ h
  obtain ⟨q, _, _, _, h5, h6⟩ := grow_bad (ds := ds) hg.pos (s := startL S) (fun _ => rfl) n 0 (by omega) (fun p _ hp => h1 p (by omega) (by omega)) hg.pos
  show 0 ≤ (growR ds n (startL S) n 0).2
  rw [h6]; exact h5
theorem lens_iter {n : Nat} {ds : List Df} {S : Nat → Bool} : ∃ q, (lens n ds S).1 = iter ds (startL S) q := by
  cases h : (lens n ds S).2 with
  | true =>
    obtain ⟨q, _, _, _, e, _⟩ := lenR_ok (ds := ds) (s := startL S) (t := (lens n ds S).1) (n + 1) 0 (by rw [← h]; rfl)
    exact ⟨_, e⟩
  | false => exact ⟨_, (lenR_bad _ _ h).2⟩
theorem lens_has {n : Nat} {ds : List Df} {S : Nat → Bool} {v : Nat} (h : S v = true) : (lens n ds S).1.has v = true ∧ (lens n ds S).1.long v ≤ 0 := by
  obtain ⟨q, e⟩ := lens_iter (n := n) (ds := ds) (S := S)
  rw [e]
  exact falls ⟨h, Int.le_refl _⟩ q
/-- Where labels can be calm at the marks, growing ends. -/
theorem lens_calm {n : Nat} {ds : List Df} (hg : Good n ds) {R : Nat → Prop} {φ : Nat → Int} (hc : Calm ds R φ) {S : Nat → Bool} (hS : ∀ v, S v = true → R v) : (lens n ds S).2 = true := by
  cases h : (lens n ds S).2 with
  | true => rfl
  | false =>
    obtain ⟨h1, _⟩ := lenR_bad _ _ h
    have hp := h1 (n - 1) (by omega) (by have := hg.pos; omega)
    have a := late_loops (ds := ds) (s := startL S) (fun _ => rfl) (n := n) (r := n - 1) (by omega) hp
    have b := calm_no_loop hc (s := startL S) (fun _ => rfl) hS hg.fit.fr (chg_lt hg.fit hp) (n - 1 + 1)
    omega
theorem solvable_one {n : Nat} {ds : List Df} (hg : Good n ds) (h : (lens n ds (everyone n)).2 = true) {i : Nat} (hi : i < n) : (lens n ds (one i)).2 = true := by
  refine lens_calm hg (lens_grown hg h).2 fun v hv => ?_
  have : v = i := by simpa [one] using hv
  subst this
  exact (lens_has (by simp [everyone, hi])).1
theorem solvable_iff {n : Nat} {ds : List Df} (hg : Good n ds) : (0 ≤ (grown n ds (everyone n)).2) ↔ (lens n ds (everyone n)).2 = false := by
  constructor
  · intro h
    cases hl : (lens n ds (everyone n)).2 with
    | false => rfl
    | true => rw [(lens_grown hg hl).1] at h; simp at h
  · exact lens_grown_bad hg
/-- Top of the specification. -/
def rtopV (n : Int) (ds : List Df) : List Int × Int :=
  if valid n ds then (if (lens n.toNat ds (everyone n.toNat)).2 then (if (lb n.toNat (lens n.toNat ds (one 0)).1.has).all id then (li n.toNat (lens n.toNat ds (one 0)).1.long, 0) else ([], 42)) else ([], 41)) else ([], 40)
theorem top_same {n : Int} {ds : List Df} (hs : valid n ds = true → n ≤ 16) : rtopV n ds = topV n ds := by
  unfold rtopV topV
  cases hv : valid n ds with
  | false => rfl
  | true =>
    obtain ⟨m, rfl, hg, hm⟩ := good_of hv (hs hv)
    rw [if_pos rfl, if_pos rfl, Int.toNat_natCast]
    unfold top
    cases hl : (lens m ds (everyone m)).2 with
    | false =>
      rw [if_pos ((solvable_iff hg).2 hl)]; rfl
    | true =>
      have hng : ¬ 0 ≤ (grown m ds (everyone m)).2 := fun h => by rw [(solvable_iff hg).1 h] at hl; cases hl
      rw [if_pos rfl, if_neg hng]
      have := (lens_grown hg (solvable_one hg hl hg.pos)).1
      rw [this]
end Go.Proofs.Ytepnijjgdhldeaa
/- Top and Bottom of the specification, and the law DiffsTopSpec. -/
namespace Go.Proofs.Ytepnijjgdhldeaa
open Go.Awp
set_option linter.unusedSimpArgs false
set_option linter.unusedVariables false
set_option maxRecDepth 10000
theorem lb_all {n : Nat} : lb n (fun v => true || ((v : Int) == 0)) = lb n (everyone n) := by
  unfold lb everyone
  refine List.map_congr_left fun i hi => ?_
  simp [List.mem_range.1 hi]
theorem lb_one {n i : Nat} : lb n (fun v => false || ((v : Int) == (i : Int))) = lb n (one i) := by
  unfold lb one
  refine List.map_congr_left fun j _ => ?_
  rw [Bool.eq_iff_iff]; simp; omega
theorem Solvable_ok {n : Nat} {ds : List Df} (hg : Good n ds) : PCall Try.prog 36 [.agg [I n, .ro false (rows ds)]] (.bool (lens n ds (everyone n)).2) := by
  refine PCall.intro text36 (by simp) ?_
  unfold ir36
  simp only [walkS, rgets, retv, argsEnv, ev, cst, cst1, cstL, AEnv.get, AEnv.trim, envput, qstep, abin, aun, evs, evo, deref, qload, target, if_true, if_false, Nat.reduceEqDiff, reduceIte, Nat.reduceAdd, Bool.not_true, Bool.not_false, true_and, and_true, List.nil_append, List.cons_append, List.drop_zero, List.drop_succ_cons, List.drop_nil, List.take_succ_cons, List.take_zero, List.take_nil, List.getElem?_cons_zero, List.getElem?_cons_succ, List.getElem?_nil, List.length_cons, List.length_nil, Bool.false_eq_true, List.set_cons_zero, List.set_cons_succ, AV.cells, AV.isTuple, setMany, alen, aiaddr, afill, Nat.reduceLeDiff, Nat.reduceMul, Nat.zero_add, Option.getD_some, Option.getD_none, Int.toNat_natCast, Int.natCast_nonneg, List.append_assoc, List.length_append, and_self, Nat.reduceLT, afillE, List.replicate]
  refine dcall_pure (marks_ok (ds := ds) (all := true) (one := 0) (by have := hg.small; omega)) (frzL_of (d := 4) (carL_cons car_netF rfl)) ?_
  rw [lb_all]
  simp only [walkS, rgets, retv, argsEnv, ev, cst, cst1, cstL, AEnv.get, AEnv.trim, envput, qstep, abin, aun, evs, evo, deref, qload, target, if_true, if_false, Nat.reduceEqDiff, reduceIte, Nat.reduceAdd, Bool.not_true, Bool.not_false, true_and, and_true, List.nil_append, List.cons_append, List.drop_zero, List.drop_succ_cons, List.drop_nil, List.take_succ_cons, List.take_zero, List.take_nil, List.getElem?_cons_zero, List.getElem?_cons_succ, List.getElem?_nil, List.length_cons, List.length_nil, Bool.false_eq_true, List.set_cons_zero, List.set_cons_succ, AV.cells, AV.isTuple, setMany, alen, aiaddr, afill, Nat.reduceLeDiff, Nat.reduceMul, Nat.zero_add, Option.getD_some, Option.getD_none, Int.toNat_natCast, Int.natCast_nonneg, List.append_assoc, List.length_append, and_self, Nat.reduceLT, afillE, List.replicate]
  refine dcall_pure (Lengths_ok hg (S := everyone n) (b := false)) (frzL_of (d := 4) (carL_cons car_netF (carL_cons (car_ro_false (bc_simple _)) rfl))) ?_
  simp only [walkS, rgets, retv, argsEnv, ev, cst, cst1, cstL, AEnv.get, AEnv.trim, envput, qstep, abin, aun, evs, evo, deref, qload, target, if_true, if_false, Nat.reduceEqDiff, reduceIte, Nat.reduceAdd, Bool.not_true, Bool.not_false, true_and, and_true, List.nil_append, List.cons_append, List.drop_zero, List.drop_succ_cons, List.drop_nil, List.take_succ_cons, List.take_zero, List.take_nil, List.getElem?_cons_zero, List.getElem?_cons_succ, List.getElem?_nil, List.length_cons, List.length_nil, Bool.false_eq_true, List.set_cons_zero, List.set_cons_succ, AV.cells, AV.isTuple, setMany, alen, aiaddr, afill, Nat.reduceLeDiff, Nat.reduceMul, Nat.zero_add, Option.getD_some, Option.getD_none, Int.toNat_natCast, Int.natCast_nonneg, List.append_assoc, List.length_append, and_self, Nat.reduceLT, afillE, List.replicate]
  exact out_bool
theorem refTop_ok {n : Int} {ds : List Df} (hs : valid n ds = true → n ≤ 16) : PCall Try.prog 25 [.agg [I n, .ro false (rows ds)]] (.tuple [.ro true (ic (rtopV n ds).1), I (rtopV n ds).2]) := by
  refine PCall.intro text25 (by simp) ?_
  unfold ir25
  simp only [walkS, rgets, retv, argsEnv, ev, cst, cst1, cstL, AEnv.get, AEnv.trim, envput, qstep, abin, aun, evs, evo, deref, qload, target, if_true, if_false, Nat.reduceEqDiff, reduceIte, Nat.reduceAdd, Bool.not_true, Bool.not_false, true_and, and_true, List.nil_append, List.cons_append, List.drop_zero, List.drop_succ_cons, List.drop_nil, List.take_succ_cons, List.take_zero, List.take_nil, List.getElem?_cons_zero, List.getElem?_cons_succ, List.getElem?_nil, List.length_cons, List.length_nil, Bool.false_eq_true, List.set_cons_zero, List.set_cons_succ, AV.cells, AV.isTuple, setMany, alen, aiaddr, afill, Nat.reduceLeDiff, Nat.reduceMul, Nat.zero_add, Option.getD_some, Option.getD_none, Int.toNat_natCast, Int.natCast_nonneg, List.append_assoc, List.length_append, and_self, Nat.reduceLT, afillE, List.replicate]
  refine call_pure (refCheck_ok n ds) (frzL_of' (d := 4) (carL_cons car_netF rfl)) ?_
  simp only [walkS, rgets, retv, argsEnv, ev, cst, cst1, cstL, AEnv.get, AEnv.trim, envput, qstep, abin, aun, evs, evo, deref, qload, target, if_true, if_false, Nat.reduceEqDiff, reduceIte, Nat.reduceAdd, Bool.not_true, Bool.not_false, true_and, and_true, List.nil_append, List.cons_append, List.drop_zero, List.drop_succ_cons, List.drop_nil, List.take_succ_cons, List.take_zero, List.take_nil, List.getElem?_cons_zero, List.getElem?_cons_succ, List.getElem?_nil, List.length_cons, List.length_nil, Bool.false_eq_true, List.set_cons_zero, List.set_cons_succ, AV.cells, AV.isTuple, setMany, alen, aiaddr, afill, Nat.reduceLeDiff, Nat.reduceMul, Nat.zero_add, Option.getD_some, Option.getD_none, Int.toNat_natCast, Int.natCast_nonneg, List.append_assoc, List.length_append, and_self, Nat.reduceLT, afillE, List.replicate]
  refine withBool_intro ?_ ?_ <;> intro h <;> simp only [walkS, rgets, retv, argsEnv, ev, cst, cst1, cstL, AEnv.get, AEnv.trim, envput, qstep, abin, aun, evs, evo, deref, qload, target, if_true, if_false, Nat.reduceEqDiff, reduceIte, Nat.reduceAdd, Bool.not_true, Bool.not_false, true_and, and_true, List.nil_append, List.cons_append, List.drop_zero, List.drop_succ_cons, List.drop_nil, List.take_succ_cons, List.take_zero, List.take_nil, List.getElem?_cons_zero, List.getElem?_cons_succ, List.getElem?_nil, List.length_cons, List.length_nil, Bool.false_eq_true, List.set_cons_zero, List.set_cons_succ, AV.cells, AV.isTuple, setMany, alen, aiaddr, afill, Nat.reduceLeDiff, Nat.reduceMul, Nat.zero_add, Option.getD_some, Option.getD_none, Int.toNat_natCast, Int.natCast_nonneg, List.append_assoc, List.length_append, and_self, Nat.reduceLT, afillE, List.replicate]
  · have hv := check_ne (by simpa using h)
    have e : rtopV n ds = ([], 40) := by simp [rtopV, hv]
    rw [e]; exact out_noneL
  · have hv := check_eq (by simpa using h)
    obtain ⟨m, rfl, hg, hm⟩ := good_of hv (hs hv)
    have hn1 := hg.pos
    refine call_pure (Solvable_ok hg) (frzL_of' (d := 4) (carL_cons car_netF rfl)) ?_
    simp only [walkS, rgets, retv, argsEnv, ev, cst, cst1, cstL, AEnv.get, AEnv.trim, envput, qstep, abin, aun, evs, evo, deref, qload, target, if_true, if_false, Nat.reduceEqDiff, reduceIte, Nat.reduceAdd, Bool.not_true, Bool.not_false, true_and, and_true, List.nil_append, List.cons_append, List.drop_zero, List.drop_succ_cons, List.drop_nil, List.take_succ_cons, List.take_zero, List.take_nil, List.getElem?_cons_zero, List.getElem?_cons_succ, List.getElem?_nil, List.length_cons, List.length_nil, Bool.false_eq_true, List.set_cons_zero, List.set_cons_succ, AV.cells, AV.isTuple, setMany, alen, aiaddr, afill, Nat.reduceLeDiff, Nat.reduceMul, Nat.zero_add, Option.getD_some, Option.getD_none, Int.toNat_natCast, Int.natCast_nonneg, List.append_assoc, List.length_append, and_self, Nat.reduceLT, afillE, List.replicate]
    refine withBool_intro ?_ ?_ <;> intro h2 <;> simp only [walkS, rgets, retv, argsEnv, ev, cst, cst1, cstL, AEnv.get, AEnv.trim, envput, qstep, abin, aun, evs, evo, deref, qload, target, if_true, if_false, Nat.reduceEqDiff, reduceIte, Nat.reduceAdd, Bool.not_true, Bool.not_false, true_and, and_true, List.nil_append, List.cons_append, List.drop_zero, List.drop_succ_cons, List.drop_nil, List.take_succ_cons, List.take_zero, List.take_nil, List.getElem?_cons_zero, List.getElem?_cons_succ, List.getElem?_nil, List.length_cons, List.length_nil, Bool.false_eq_true, List.set_cons_zero, List.set_cons_succ, AV.cells, AV.isTuple, setMany, alen, aiaddr, afill, Nat.reduceLeDiff, Nat.reduceMul, Nat.zero_add, Option.getD_some, Option.getD_none, Int.toNat_natCast, Int.natCast_nonneg, List.append_assoc, List.length_append, and_self, Nat.reduceLT, afillE, List.replicate]
    · have e : rtopV m ds = ([], 41) := by
        have : (lens m ds (everyone m)).2 = false := by simpa using h2
        simp [rtopV, hv, this]
      rw [e]; exact out_noneL
    · have hsol : (lens m ds (everyone m)).2 = true := by simpa using h2
      refine dcall_pure (marks_ok (ds := ds) (all := false) (one := 0) (by omega)) (frzL_of (d := 4) (carL_cons car_netF rfl)) ?_
      rw [show lb m (fun v => false || ((v : Int) == 0)) = lb m (one 0) from lb_one (i := 0)]
      simp only [walkS, rgets, retv, argsEnv, ev, cst, cst1, cstL, AEnv.get, AEnv.trim, envput, qstep, abin, aun, evs, evo, deref, qload, target, if_true, if_false, Nat.reduceEqDiff, reduceIte, Nat.reduceAdd, Bool.not_true, Bool.not_false, true_and, and_true, List.nil_append, List.cons_append, List.drop_zero, List.drop_succ_cons, List.drop_nil, List.take_succ_cons, List.take_zero, List.take_nil, List.getElem?_cons_zero, List.getElem?_cons_succ, List.getElem?_nil, List.length_cons, List.length_nil, Bool.false_eq_true, List.set_cons_zero, List.set_cons_succ, AV.cells, AV.isTuple, setMany, alen, aiaddr, afill, Nat.reduceLeDiff, Nat.reduceMul, Nat.zero_add, Option.getD_some, Option.getD_none, Int.toNat_natCast, Int.natCast_nonneg, List.append_assoc, List.length_append, and_self, Nat.reduceLT, afillE, List.replicate]
      refine dcall_pure (Lengths_ok hg (S := one 0) (b := false)) (frzL_of (d := 4) (carL_cons car_netF (carL_cons (car_ro_false (bc_simple _)) rfl))) ?_
      have hl : lenR ds (startL (one 0)) (m + 1) 0 = lens m ds (one 0) := rfl
      rw [hl]
      simp only [walkS, rgets, retv, argsEnv, ev, cst, cst1, cstL, AEnv.get, AEnv.trim, envput, qstep, abin, aun, evs, evo, deref, qload, target, if_true, if_false, Nat.reduceEqDiff, reduceIte, Nat.reduceAdd, Bool.not_true, Bool.not_false, true_and, and_true, List.nil_append, List.cons_append, List.drop_zero, List.drop_succ_cons, List.drop_nil, List.take_succ_cons, List.take_zero, List.take_nil, List.getElem?_cons_zero, List.getElem?_cons_succ, List.getElem?_nil, List.length_cons, List.length_nil, Bool.false_eq_true, List.set_cons_zero, List.set_cons_succ, AV.cells, AV.isTuple, setMany, alen, aiaddr, afill, Nat.reduceLeDiff, Nat.reduceMul, Nat.zero_add, Option.getD_some, Option.getD_none, Int.toNat_natCast, Int.natCast_nonneg, List.append_assoc, List.length_append, and_self, Nat.reduceLT, afillE, List.replicate]
      refine awp_loop (σ := Nat) (fun k => [(1, .ptr 0 1 0 0), (4, .ro true (ic (li m (lens m ds (one 0)).1.long))), (5, .ro true (bc (lb m (lens m ds (one 0)).1.has))), (7, I k)]) (fun _ H => ∃ X, H = some ⟨24, 2, [[I m, .ro false (rows ds)]]⟩ :: X) (fun k => k ≤ m ∧ ((lb m (lens m ds (one 0)).1.has).take k).all id = true) (fun k => m - k) 0 ⟨Nat.zero_le _, rfl⟩ rfl ⟨_, rfl⟩ ?_
      rintro k H ⟨hk, hall⟩ ⟨X, rfl⟩
      simp only [walkS, rgets, retv, argsEnv, ev, cst, cst1, cstL, AEnv.get, AEnv.trim, envput, qstep, abin, aun, evs, evo, deref, qload, target, if_true, if_false, Nat.reduceEqDiff, reduceIte, Nat.reduceAdd, Bool.not_true, Bool.not_false, true_and, and_true, List.nil_append, List.cons_append, List.drop_zero, List.drop_succ_cons, List.drop_nil, List.take_succ_cons, List.take_zero, List.take_nil, List.getElem?_cons_zero, List.getElem?_cons_succ, List.getElem?_nil, List.length_cons, List.length_nil, Bool.false_eq_true, List.set_cons_zero, List.set_cons_succ, AV.cells, AV.isTuple, setMany, alen, aiaddr, afill, Nat.reduceLeDiff, Nat.reduceMul, Nat.zero_add, Option.getD_some, Option.getD_none, Int.toNat_natCast, Int.natCast_nonneg, List.append_assoc, List.length_append, and_self, Nat.reduceLT, afillE, List.replicate]
      refine withBool_intro ?_ ?_ <;> intro hb <;> simp only [walkS, rgets, retv, argsEnv, ev, cst, cst1, cstL, AEnv.get, AEnv.trim, envput, qstep, abin, aun, evs, evo, deref, qload, target, if_true, if_false, Nat.reduceEqDiff, reduceIte, Nat.reduceAdd, Bool.not_true, Bool.not_false, true_and, and_true, List.nil_append, List.cons_append, List.drop_zero, List.drop_succ_cons, List.drop_nil, List.take_succ_cons, List.take_zero, List.take_nil, List.getElem?_cons_zero, List.getElem?_cons_succ, List.getElem?_nil, List.length_cons, List.length_nil, Bool.false_eq_true, List.set_cons_zero, List.set_cons_succ, AV.cells, AV.isTuple, setMany, alen, aiaddr, afill, Nat.reduceLeDiff, Nat.reduceMul, Nat.zero_add, Option.getD_some, Option.getD_none, Int.toNat_natCast, Int.natCast_nonneg, List.append_assoc, List.length_append, and_self, Nat.reduceLT, afillE, List.replicate]
      · have hlt : k < m := by simpa using hb
        simp only [walkS, rgets, retv, argsEnv, ev, cst, cst1, cstL, AEnv.get, AEnv.trim, envput, qstep, abin, aun, evs, evo, deref, qload, target, if_true, if_false, Nat.reduceEqDiff, reduceIte, Nat.reduceAdd, Bool.not_true, Bool.not_false, true_and, and_true, List.nil_append, List.cons_append, List.drop_zero, List.drop_succ_cons, List.drop_nil, List.take_succ_cons, List.take_zero, List.take_nil, List.getElem?_cons_zero, List.getElem?_cons_succ, List.getElem?_nil, List.length_cons, List.length_nil, Bool.false_eq_true, List.set_cons_zero, List.set_cons_succ, AV.cells, AV.isTuple, setMany, alen, aiaddr, afill, Nat.reduceLeDiff, Nat.reduceMul, Nat.zero_add, Option.getD_some, Option.getD_none, Int.toNat_natCast, Int.natCast_nonneg, List.append_assoc, List.length_append, and_self, Nat.reduceLT, afillE, List.replicate, lb_get hlt, bc_length, lb_length, if_pos (show (k : Int) < m by omega)]
        refine withBool_intro ?_ ?_ <;> intro hr <;> simp only [walkS, rgets, retv, argsEnv, ev, cst, cst1, cstL, AEnv.get, AEnv.trim, envput, qstep, abin, aun, evs, evo, deref, qload, target, if_true, if_false, Nat.reduceEqDiff, reduceIte, Nat.reduceAdd, Bool.not_true, Bool.not_false, true_and, and_true, List.nil_append, List.cons_append, List.drop_zero, List.drop_succ_cons, List.drop_nil, List.take_succ_cons, List.take_zero, List.take_nil, List.getElem?_cons_zero, List.getElem?_cons_succ, List.getElem?_nil, List.length_cons, List.length_nil, Bool.false_eq_true, List.set_cons_zero, List.set_cons_succ, AV.cells, AV.isTuple, setMany, alen, aiaddr, afill, Nat.reduceLeDiff, Nat.reduceMul, Nat.zero_add, Option.getD_some, Option.getD_none, Int.toNat_natCast, Int.natCast_nonneg, List.append_assoc, List.length_append, and_self, Nat.reduceLT, afillE, List.replicate]
        · have e : rtopV m ds = ([], 42) := by
            have h0 : (lens m ds (one 0)).1.has k = false := by simpa using hr
            have : ¬ (lb m (lens m ds (one 0)).1.has).all id = true := fun h => by
              have := List.all_eq_true.1 h _ (List.mem_map.2 ⟨k, List.mem_range.2 hlt, rfl⟩)
              simp [h0] at this
            simp only [rtopV, hv, Int.toNat_natCast, hsol, if_true, if_neg this]
          rw [e]; exact out_noneL
        · rw [wrap_id (by omega) (by omega)]
          have h0 : (lens m ds (one 0)).1.has k = true := by simpa using hr
          refine loop_end (k + 1) ⟨hlt, ?_⟩ (by omega) rfl ⟨_, rfl⟩
          have hlen : k < (lb m (lens m ds (one 0)).1.has).length := by rw [lb_length]; exact hlt
          rw [List.take_succ_eq_append_getElem hlen, List.all_append, hall]
          simp [lb, h0]
      · have hk' : k = m := by simp at hb; omega
        subst hk'
        have hall' : (lb k (lens k ds (one 0)).1.has).all id = true := by
          rw [List.take_of_length_le (by rw [lb_length]; omega)] at hall; exact hall
        have e : rtopV k ds = (li k (lens k ds (one 0)).1.long, 0) := by
          simp only [rtopV, hv, Int.toNat_natCast, hsol, if_true, if_pos hall']
        rw [e]
        exact out_two (out_of (d := 2) (car_ro_true (ic_simple _))) out_int
theorem rtop_bound {n : Int} {ds : List Df} (hs : valid n ds = true → n ≤ 16) : (rtopV n ds).1.length ≤ 16 ∧ ∀ x, x ∈ (rtopV n ds).1 → -175921860444160 ≤ x ∧ x ≤ 175921860444160 := by
  rw [top_same hs]
  unfold topV
  split
  · rename_i hv
    obtain ⟨m, rfl, hg, hm⟩ := good_of hv (hs hv)
    rw [Int.toNat_natCast]
    unfold top
    split
    · simp
    · split
      · refine ⟨by rw [li_length]; exact hm, fun x hx => ?_⟩
        obtain ⟨i, _, rfl⟩ := List.mem_map.1 hx
        exact grown_bound hg (s := startL (one 0)) (fun _ => rfl) i
      · simp
  · simp
def rbotV (n : Int) (ds : List Df) : List Int × Int := if (rtopV n (turn ds)).2 = 0 then ((rtopV n (turn ds)).1.map (- ·), 0) else ([], (rtopV n (turn ds)).2)
theorem bot_same {n : Int} {ds : List Df} (hs : valid n ds = true → n ≤ 16) : rbotV n ds = botV n ds := by
  unfold rbotV botV
  rw [top_same (by rw [valid_turn]; exact hs)]
  split
  · rename_i h; rw [h]
  · rename_i h
    have : (topV n (turn ds)).1 = [] := by
      unfold topV at h ⊢
      split
      · rename_i hv
        rw [if_pos hv] at h
        unfold top at h ⊢
        split
        · rfl
        · rename_i h1
          rw [if_neg h1] at h
          split
          · rename_i h2; rw [if_pos h2] at h; exact absurd rfl h
          · rfl
      · rfl
    rw [this]; rfl
theorem refBottom_ok {n : Int} {ds : List Df} (hb0 : ds.length * 24 ≤ 140737488355328) (hs : valid n ds = true → n ≤ 16) : PCall Try.prog 27 [.agg [I n, .ro false (rows ds)]] (.tuple [.ro true (ic (rbotV n ds).1), I (rbotV n ds).2]) := by
  refine PCall.intro text27 (by simp) ?_
  unfold ir27
  simp only [walkS, rgets, retv, argsEnv, ev, cst, cst1, cstL, AEnv.get, AEnv.trim, envput, qstep, abin, aun, evs, evo, deref, qload, target, if_true, if_false, Nat.reduceEqDiff, reduceIte, Nat.reduceAdd, Bool.not_true, Bool.not_false, true_and, and_true, List.nil_append, List.cons_append, List.drop_zero, List.drop_succ_cons, List.drop_nil, List.take_succ_cons, List.take_zero, List.take_nil, List.getElem?_cons_zero, List.getElem?_cons_succ, List.getElem?_nil, List.length_cons, List.length_nil, Bool.false_eq_true, List.set_cons_zero, List.set_cons_succ, AV.cells, AV.isTuple, setMany, alen, aiaddr, afill, Nat.reduceLeDiff, Nat.reduceMul, Nat.zero_add, Option.getD_some, Option.getD_none, Int.toNat_natCast, Int.natCast_nonneg, List.append_assoc, List.length_append, and_self, Nat.reduceLT, afillE, List.replicate]
  refine call_pure (Turned_ok (n := n) (ds := ds) (b := false) hb0) (frzL_of' (d := 4) (carL_cons car_netF rfl)) ?_
  simp only [walkS, rgets, retv, argsEnv, ev, cst, cst1, cstL, AEnv.get, AEnv.trim, envput, qstep, abin, aun, evs, evo, deref, qload, target, if_true, if_false, Nat.reduceEqDiff, reduceIte, Nat.reduceAdd, Bool.not_true, Bool.not_false, true_and, and_true, List.nil_append, List.cons_append, List.drop_zero, List.drop_succ_cons, List.drop_nil, List.take_succ_cons, List.take_zero, List.take_nil, List.getElem?_cons_zero, List.getElem?_cons_succ, List.getElem?_nil, List.length_cons, List.length_nil, Bool.false_eq_true, List.set_cons_zero, List.set_cons_succ, AV.cells, AV.isTuple, setMany, alen, aiaddr, afill, Nat.reduceLeDiff, Nat.reduceMul, Nat.zero_add, Option.getD_some, Option.getD_none, Int.toNat_natCast, Int.natCast_nonneg, List.append_assoc, List.length_append, and_self, Nat.reduceLT, afillE, List.replicate]
  have hs' : valid n (turn ds) = true → n ≤ 16 := by rw [valid_turn]; exact hs
  refine call_pure (refTop_ok (n := n) (ds := turn ds) hs') (frzL_of' (d := 4) (carL_cons car_netF rfl)) ?_
  have hbd := rtop_bound hs'
  generalize hr : rtopV n (turn ds) = r at hbd ⊢
  obtain ⟨l, e⟩ := r
  simp only at hbd
  simp only [walkS, rgets, retv, argsEnv, ev, cst, cst1, cstL, AEnv.get, AEnv.trim, envput, qstep, abin, aun, evs, evo, deref, qload, target, if_true, if_false, Nat.reduceEqDiff, reduceIte, Nat.reduceAdd, Bool.not_true, Bool.not_false, true_and, and_true, List.nil_append, List.cons_append, List.drop_zero, List.drop_succ_cons, List.drop_nil, List.take_succ_cons, List.take_zero, List.take_nil, List.getElem?_cons_zero, List.getElem?_cons_succ, List.getElem?_nil, List.length_cons, List.length_nil, Bool.false_eq_true, List.set_cons_zero, List.set_cons_succ, AV.cells, AV.isTuple, setMany, alen, aiaddr, afill, Nat.reduceLeDiff, Nat.reduceMul, Nat.zero_add, Option.getD_some, Option.getD_none, Int.toNat_natCast, Int.natCast_nonneg, List.append_assoc, List.length_append, and_self, Nat.reduceLT, afillE, List.replicate]
  refine withBool_intro ?_ ?_ <;> intro h <;> simp only [walkS, rgets, retv, argsEnv, ev, cst, cst1, cstL, AEnv.get, AEnv.trim, envput, qstep, abin, aun, evs, evo, deref, qload, target, if_true, if_false, Nat.reduceEqDiff, reduceIte, Nat.reduceAdd, Bool.not_true, Bool.not_false, true_and, and_true, List.nil_append, List.cons_append, List.drop_zero, List.drop_succ_cons, List.drop_nil, List.take_succ_cons, List.take_zero, List.take_nil, List.getElem?_cons_zero, List.getElem?_cons_succ, List.getElem?_nil, List.length_cons, List.length_nil, Bool.false_eq_true, List.set_cons_zero, List.set_cons_succ, AV.cells, AV.isTuple, setMany, alen, aiaddr, afill, Nat.reduceLeDiff, Nat.reduceMul, Nat.zero_add, Option.getD_some, Option.getD_none, Int.toNat_natCast, Int.natCast_nonneg, List.append_assoc, List.length_append, and_self, Nat.reduceLT, afillE, List.replicate]
  · have e2 : rbotV n ds = ([], e) := by
      have : e ≠ 0 := by simpa using h
      simp [rbotV, hr, this]
    rw [e2]; exact out_noneL
  · have e2 : rbotV n ds = (l.map (- ·), 0) := by
      have : e = 0 := by simpa using h
      simp [rbotV, hr, this]
    rw [e2]
    refine awp_loop (σ := Nat × AV) (fun s => [(4, .ro true (ic l)), (6, s.2), (7, I s.1)]) (fun s H => Acc 0 H s.2 3 1 (ic ((l.take s.1).map (- ·)))) (fun s => s.1 ≤ l.length) (fun s => l.length - s.1) (0, .nilSlice) (Nat.zero_le _) rfl (.inl ⟨rfl, rfl⟩) ?_
    rintro ⟨k, a⟩ H hk hacc
    simp only at hk hacc
    simp only [walkS, rgets, retv, argsEnv, ev, cst, cst1, cstL, AEnv.get, AEnv.trim, envput, qstep, abin, aun, evs, evo, deref, qload, target, if_true, if_false, Nat.reduceEqDiff, reduceIte, Nat.reduceAdd, Bool.not_true, Bool.not_false, true_and, and_true, List.nil_append, List.cons_append, List.drop_zero, List.drop_succ_cons, List.drop_nil, List.take_succ_cons, List.take_zero, List.take_nil, List.getElem?_cons_zero, List.getElem?_cons_succ, List.getElem?_nil, List.length_cons, List.length_nil, Bool.false_eq_true, List.set_cons_zero, List.set_cons_succ, AV.cells, AV.isTuple, setMany, alen, aiaddr, afill, Nat.reduceLeDiff, Nat.reduceMul, Nat.zero_add, Option.getD_some, Option.getD_none, Int.toNat_natCast, Int.natCast_nonneg, List.append_assoc, List.length_append, and_self, Nat.reduceLT, afillE, List.replicate, ic_length]
    refine withBool_intro ?_ ?_ <;> intro hb <;> simp only [walkS, rgets, retv, argsEnv, ev, cst, cst1, cstL, AEnv.get, AEnv.trim, envput, qstep, abin, aun, evs, evo, deref, qload, target, if_true, if_false, Nat.reduceEqDiff, reduceIte, Nat.reduceAdd, Bool.not_true, Bool.not_false, true_and, and_true, List.nil_append, List.cons_append, List.drop_zero, List.drop_succ_cons, List.drop_nil, List.take_succ_cons, List.take_zero, List.take_nil, List.getElem?_cons_zero, List.getElem?_cons_succ, List.getElem?_nil, List.length_cons, List.length_nil, Bool.false_eq_true, List.set_cons_zero, List.set_cons_succ, AV.cells, AV.isTuple, setMany, alen, aiaddr, afill, Nat.reduceLeDiff, Nat.reduceMul, Nat.zero_add, Option.getD_some, Option.getD_none, Int.toNat_natCast, Int.natCast_nonneg, List.append_assoc, List.length_append, and_self, Nat.reduceLT, afillE, List.replicate]
    · have hlt : k < l.length := by simpa using hb
      have b := hbd.2 _ (List.getElem_mem hlt)
      simp only [walkS, rgets, retv, argsEnv, ev, cst, cst1, cstL, AEnv.get, AEnv.trim, envput, qstep, abin, aun, evs, evo, deref, qload, target, if_true, if_false, Nat.reduceEqDiff, reduceIte, Nat.reduceAdd, Bool.not_true, Bool.not_false, true_and, and_true, List.nil_append, List.cons_append, List.drop_zero, List.drop_succ_cons, List.drop_nil, List.take_succ_cons, List.take_zero, List.take_nil, List.getElem?_cons_zero, List.getElem?_cons_succ, List.getElem?_nil, List.length_cons, List.length_nil, Bool.false_eq_true, List.set_cons_zero, List.set_cons_succ, AV.cells, AV.isTuple, setMany, alen, aiaddr, afill, Nat.reduceLeDiff, Nat.reduceMul, Nat.zero_add, Option.getD_some, Option.getD_none, Int.toNat_natCast, Int.natCast_nonneg, List.append_assoc, List.length_append, and_self, Nat.reduceLT, afillE, List.replicate, ic_get hlt, ic_length, if_pos (show (k : Int) < l.length by omega)]
      rw [wrap_id (by omega) (by omega)]
      refine acc_append (lo := 0) (by simp) (hacc.push _) rfl rfl AHeap.obj_push_eq (by simp [ic_length]; omega) fun a' H' hl' hacc' hkeep => ?_
      simp only [walkS, rgets, retv, argsEnv, ev, cst, cst1, cstL, AEnv.get, AEnv.trim, envput, qstep, abin, aun, evs, evo, deref, qload, target, if_true, if_false, Nat.reduceEqDiff, reduceIte, Nat.reduceAdd, Bool.not_true, Bool.not_false, true_and, and_true, List.nil_append, List.cons_append, List.drop_zero, List.drop_succ_cons, List.drop_nil, List.take_succ_cons, List.take_zero, List.take_nil, List.getElem?_cons_zero, List.getElem?_cons_succ, List.getElem?_nil, List.length_cons, List.length_nil, Bool.false_eq_true, List.set_cons_zero, List.set_cons_succ, AV.cells, AV.isTuple, setMany, alen, aiaddr, afill, Nat.reduceLeDiff, Nat.reduceMul, Nat.zero_add, Option.getD_some, Option.getD_none, Int.toNat_natCast, Int.natCast_nonneg, List.append_assoc, List.length_append, and_self, Nat.reduceLT, afillE, List.replicate]
      rw [wrap_id (by omega) (by omega)]
      refine loop_end (k + 1, a') hlt (by simp only; omega) rfl ?_
      simp only
      rw [List.take_succ_eq_append_getElem hlt, List.map_append, List.map_cons, List.map_nil, ic_snoc]
      rw [show (0 : Int) - l[k] = - l[k] by omega] at hacc'
      exact hacc'
    · have hk' : k = l.length := by simp at hb; omega
      subst hk'
      rw [List.take_length] at hacc
      exact out_two (hacc.out (ic_simple _)) out_int
end Go.Proofs.Ytepnijjgdhldeaa
