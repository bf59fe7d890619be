/- Top and Bottom of the specification, and the law DiffsTopSpec. -/
import Derived.Test.YtepnijjgdhldeaaQG2
namespace Go.Proofs.Ytepnijjgdhldeaa
open Go.Awp
set_option linter.unusedSimpArgs false
set_option linter.unusedVariables false
set_option maxRecDepth 10000
theorem lb_all {n : Nat} : lb n (fun v => true || ((v : Int) == 0)) = lb n (everyone n) := by
  unfold lb everyone
  refine List.map_congr_left fun i hi => ?_
  simp [List.mem_range.1 hi]
theorem lb_one {n i : Nat} : lb n (fun v => false || ((v : Int) == (i : Int))) = lb n (one i) := by
  unfold lb one
  refine List.map_congr_left fun j _ => ?_
  rw [Bool.eq_iff_iff]; simp; omega
theorem Solvable_ok {n : Nat} {ds : List Df} (hg : Good n ds) : PCall Try.prog 36 [.agg [I n, .ro false (rows ds)]] (.bool (lens n ds (everyone n)).2) := by
  refine PCall.intro text36 (by simp) ?_
  unfold ir36
  simp only [walkS, wl, rgets, retv, argsEnv, ev, cst, cst1, cstL, AEnv.get, AEnv.trim, envput, qstep, abin, aun, evs, evo, deref, qload, target, if_true, if_false, Nat.reduceEqDiff, reduceIte, Nat.reduceAdd, AV.cells, AV.isTuple, setMany, alen, aiaddr, afill, Nat.reduceLeDiff, Nat.reduceMul, Nat.reduceLT, afillE, List.replicate]
  refine dcall_pure (marks_ok (ds := ds) (all := true) (one := 0) (by have := hg.small; omega)) (frzL_of (d := 4) (carL_cons car_netF rfl)) ?_
  rw [lb_all]
  simp only [walkS, wl, rgets, retv, argsEnv, ev, cst, cst1, cstL, AEnv.get, AEnv.trim, envput, qstep, abin, aun, evs, evo, deref, qload, target, if_true, if_false, Nat.reduceEqDiff, reduceIte, Nat.reduceAdd, AV.cells, AV.isTuple, setMany, alen, aiaddr, afill, Nat.reduceLeDiff, Nat.reduceMul, Nat.reduceLT, afillE, List.replicate]
  refine dcall_pure (Lengths_ok hg (S := everyone n) (b := false)) (frzL_of (d := 4) (carL_cons car_netF (carL_cons (car_ro_false (bc_simple _)) rfl))) ?_
  simp only [walkS, wl, rgets, retv, argsEnv, ev, cst, cst1, cstL, AEnv.get, AEnv.trim, envput, qstep, abin, aun, evs, evo, deref, qload, target, if_true, if_false, Nat.reduceEqDiff, reduceIte, Nat.reduceAdd, AV.cells, AV.isTuple, setMany, alen, aiaddr, afill, Nat.reduceLeDiff, Nat.reduceMul, Nat.reduceLT, afillE, List.replicate]
  exact out_bool
def rbotV (n : Int) (ds : List Df) : List Int × Int := if (rtopV n (turn ds)).2 = 0 then ((rtopV n (turn ds)).1.map (- ·), 0) else ([], (rtopV n (turn ds)).2)
end Go.Proofs.Ytepnijjgdhldeaa
