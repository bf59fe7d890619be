/- CheckPath of the program and of the specification; Apart and Simple of the specification. -/
import Derived.Test.YtepnijjgdhldeaaQG8
namespace Go.Proofs.Ytepnijjgdhldeaa
open Go.Awp
set_option linter.unusedSimpArgs false
set_option linter.unusedVariables false
set_option maxRecDepth 10000
set_option maxHeartbeats 8000000
/-- CheckPath, as both programs answer. -/
def ckPath (n : Int) (ds : List Df) (f t most : Int) (l : List Int) : Int :=
  if valid n ds then (if (isNode f n && isNode t n) && idx ds l then (if (l.length : Int) > n - 1 then 43 else if (wkV ds f t l).2 = true ∧ (wkV ds f t l).1 ≤ most then 0 else 43) else 1) else 40
theorem refApart_ok {n : Int} {ds : List Df} (hs : valid n ds = true → n ≤ 16) (i j : Int) : PCall Try.prog 40 [.agg [I n, .ro false (rows ds)], I i, I j] (apartV (apart n ds i j)) := by
  refine PCall.intro text40 (by simp) ?_
  unfold ir40
  simp only [walkS, wl, rgets, retv, argsEnv, ev, cst, cst1, cstL, AEnv.get, AEnv.trim, envput, qstep, abin, aun, evs, evo, deref, qload, target, if_true, if_false, Nat.reduceEqDiff, reduceIte, Nat.reduceAdd, AV.cells, AV.isTuple, setMany, alen, aiaddr, afill, Nat.reduceLeDiff, Nat.reduceMul, Nat.reduceLT, afillE, List.replicate]
  refine call_pure (refCheck_ok n ds) (frzL_of' (d := 4) (carL_cons car_netF rfl)) ?_
  simp only [walkS, wl, rgets, retv, argsEnv, ev, cst, cst1, cstL, AEnv.get, AEnv.trim, envput, qstep, abin, aun, evs, evo, deref, qload, target, if_true, if_false, Nat.reduceEqDiff, reduceIte, Nat.reduceAdd, AV.cells, AV.isTuple, setMany, alen, aiaddr, afill, Nat.reduceLeDiff, Nat.reduceMul, Nat.reduceLT, afillE, List.replicate]
  refine withBool_intro ?_ ?_ <;> intro h <;> simp only [walkS, wl, rgets, retv, argsEnv, ev, cst, cst1, cstL, AEnv.get, AEnv.trim, envput, qstep, abin, aun, evs, evo, deref, qload, target, if_true, if_false, Nat.reduceEqDiff, reduceIte, Nat.reduceAdd, AV.cells, AV.isTuple, setMany, alen, aiaddr, afill, Nat.reduceLeDiff, Nat.reduceMul, Nat.reduceLT, afillE, List.replicate]
  · have hv := check_ne (by simpa using h)
    have e2 : apart n ds i j = (0, false, 40) := by simp [apart, hv]
    rw [e2]; exact out_apart
  · have hv := check_eq (by simpa using h)
    have bad : (isNode i n && isNode j n) = false → apart n ds i j = (0, false, 1) := fun hb' => by simp only [apart, hv, hb', if_true, Bool.false_eq_true, if_false]
    refine call_pure (node_ok i n) (frzL_of' (d := 4) rfl) ?_
    rw [show (decide (0 ≤ i) && decide (i < n)) = isNode i n from rfl]
    cases h1 : isNode i n with
    | false =>
      simp only [walkS, wl, rgets, retv, argsEnv, ev, cst, cst1, cstL, AEnv.get, AEnv.trim, envput, qstep, abin, aun, evs, evo, deref, qload, target, if_true, if_false, Nat.reduceEqDiff, reduceIte, Nat.reduceAdd, AV.cells, AV.isTuple, setMany, alen, aiaddr, afill, Nat.reduceLeDiff, Nat.reduceMul, Nat.reduceLT, afillE, List.replicate]
      rw [bad (by rw [h1]; rfl)]; exact out_apart
    | true =>
      simp only [walkS, wl, rgets, retv, argsEnv, ev, cst, cst1, cstL, AEnv.get, AEnv.trim, envput, qstep, abin, aun, evs, evo, deref, qload, target, if_true, if_false, Nat.reduceEqDiff, reduceIte, Nat.reduceAdd, AV.cells, AV.isTuple, setMany, alen, aiaddr, afill, Nat.reduceLeDiff, Nat.reduceMul, Nat.reduceLT, afillE, List.replicate]
      refine call_pure (node_ok j n) (frzL_of' (d := 4) rfl) ?_
      rw [show (decide (0 ≤ j) && decide (j < n)) = isNode j n from rfl]
      cases h2 : isNode j n with
      | false =>
        simp only [walkS, wl, rgets, retv, argsEnv, ev, cst, cst1, cstL, AEnv.get, AEnv.trim, envput, qstep, abin, aun, evs, evo, deref, qload, target, if_true, if_false, Nat.reduceEqDiff, reduceIte, Nat.reduceAdd, AV.cells, AV.isTuple, setMany, alen, aiaddr, afill, Nat.reduceLeDiff, Nat.reduceMul, Nat.reduceLT, afillE, List.replicate]
        rw [bad (by rw [h1, h2]; rfl)]; exact out_apart
      | true =>
        have hb' : (isNode i n && isNode j n) = true := by rw [h1, h2]; rfl
        obtain ⟨m, rfl, hg, hm⟩ := good_of hv (hs hv)
        have hij : (0 ≤ i ∧ i < m) ∧ (0 ≤ j ∧ j < m) := by simpa [isNode] using hb'
        obtain ⟨i, rfl⟩ : ∃ k : Nat, i = k := ⟨i.toNat, (Int.toNat_of_nonneg hij.1.1).symm⟩
        obtain ⟨j, rfl⟩ : ∃ k : Nat, j = k := ⟨j.toNat, (Int.toNat_of_nonneg hij.2.1).symm⟩
        have hj : j < m := by omega
        simp only [walkS, wl, rgets, retv, argsEnv, ev, cst, cst1, cstL, AEnv.get, AEnv.trim, envput, qstep, abin, aun, evs, evo, deref, qload, target, if_true, if_false, Nat.reduceEqDiff, reduceIte, Nat.reduceAdd, AV.cells, AV.isTuple, setMany, alen, aiaddr, afill, Nat.reduceLeDiff, Nat.reduceMul, Nat.reduceLT, afillE, List.replicate]
        refine call_pure (Solvable_ok hg) (frzL_of' (d := 4) (carL_cons car_netF rfl)) ?_
        cases hl : (lens m ds (everyone m)).2 with
        | false =>
          simp only [walkS, wl, rgets, retv, argsEnv, ev, cst, cst1, cstL, AEnv.get, AEnv.trim, envput, qstep, abin, aun, evs, evo, deref, qload, target, if_true, if_false, Nat.reduceEqDiff, reduceIte, Nat.reduceAdd, AV.cells, AV.isTuple, setMany, alen, aiaddr, afill, Nat.reduceLeDiff, Nat.reduceMul, Nat.reduceLT, afillE, List.replicate]
          have e2 : apart m ds i j = (0, false, 41) := by simp only [apart, hv, hb', hl, if_true, Bool.false_eq_true, if_false, Int.toNat_natCast]
          rw [e2]; exact out_apart
        | true =>
          simp only [walkS, wl, rgets, retv, argsEnv, ev, cst, cst1, cstL, AEnv.get, AEnv.trim, envput, qstep, abin, aun, evs, evo, deref, qload, target, if_true, if_false, Nat.reduceEqDiff, reduceIte, Nat.reduceAdd, AV.cells, AV.isTuple, setMany, alen, aiaddr, afill, Nat.reduceLeDiff, Nat.reduceMul, Nat.reduceLT, afillE, List.replicate]
          refine dcall_pure (marks_ok (ds := ds) (all := false) (one := i) (by omega)) (frzL_of (d := 4) (carL_cons car_netF rfl)) ?_
          rw [lb_one]
          simp only [walkS, wl, rgets, retv, argsEnv, ev, cst, cst1, cstL, AEnv.get, AEnv.trim, envput, qstep, abin, aun, evs, evo, deref, qload, target, if_true, if_false, Nat.reduceEqDiff, reduceIte, Nat.reduceAdd, AV.cells, AV.isTuple, setMany, alen, aiaddr, afill, Nat.reduceLeDiff, Nat.reduceMul, Nat.reduceLT, afillE, List.replicate]
          refine dcall_pure (Lengths_ok hg (S := one i) (b := false)) (frzL_of (d := 4) (carL_cons car_netF (carL_cons (car_ro_false (bc_simple _)) rfl))) ?_
          rw [show lenR ds (startL (one i)) (m + 1) 0 = lens m ds (one i) from rfl]
          simp only [walkS, wl, rgets, retv, argsEnv, ev, cst, cst1, cstL, AEnv.get, AEnv.trim, envput, qstep, abin, aun, evs, evo, deref, qload, target, if_true, if_false, Nat.reduceEqDiff, reduceIte, Nat.reduceAdd, AV.cells, AV.isTuple, setMany, alen, aiaddr, afill, Nat.reduceLeDiff, Nat.reduceMul, Nat.reduceLT, afillE, List.replicate, lb_get hj, li_get hj, ic_length, li_length, bc_length, lb_length]
          cases hh : (lens m ds (one i)).1.has j with
          | false =>
            simp only [walkS, wl, rgets, retv, argsEnv, ev, cst, cst1, cstL, AEnv.get, AEnv.trim, envput, qstep, abin, aun, evs, evo, deref, qload, target, if_true, if_false, Nat.reduceEqDiff, reduceIte, Nat.reduceAdd, AV.cells, AV.isTuple, setMany, alen, aiaddr, afill, Nat.reduceLeDiff, Nat.reduceMul, Nat.reduceLT, afillE, List.replicate]
            have e2 : apart m ds i j = (0, false, 0) := by simp only [apart, hv, hb', hl, hh, if_true, Bool.false_eq_true, if_false, Int.toNat_natCast]
            rw [e2]; exact out_apart
          | true =>
            simp only [walkS, wl, rgets, retv, argsEnv, ev, cst, cst1, cstL, AEnv.get, AEnv.trim, envput, qstep, abin, aun, evs, evo, deref, qload, target, if_true, if_false, Nat.reduceEqDiff, reduceIte, Nat.reduceAdd, AV.cells, AV.isTuple, setMany, alen, aiaddr, afill, Nat.reduceLeDiff, Nat.reduceMul, Nat.reduceLT, afillE, List.replicate, lb_get hj, li_get hj, ic_length, li_length, bc_length, lb_length]
            have e2 : apart m ds i j = ((lens m ds (one i)).1.long j, true, 0) := by simp only [apart, hv, hb', hl, hh, if_true, Int.toNat_natCast]
            rw [e2]; exact out_apart
/-- Where a list of differences leads. -/
def tos (ds : List Df) (l : List Int) : List Int := l.map fun k => (dd ds k).2.1
end Go.Proofs.Ytepnijjgdhldeaa
