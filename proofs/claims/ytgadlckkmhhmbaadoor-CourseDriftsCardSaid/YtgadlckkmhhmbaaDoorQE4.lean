/- CourseDrifts holds. -/
import Derived.Test.YtgadlckkmhhmbaaDoorQT4
import Derived.Test.YtgadlckkmhhmbaaDoorQE0
set_option linter.unusedVariables false
set_option linter.unusedSimpArgs false
set_option linter.unusedSectionVars false
namespace Go.Proofs.YtgadlckkmhhmbaaDoor
open Go.Awp Go.Grams
set_option linter.unusedSimpArgs false
set_option linter.unusedVariables false
set_option linter.unusedSectionVars false
set_option maxRecDepth 10000
theorem CourseDrifts_ok (no rate : Int) (ts : List Tst) (a b c : Int) : PCall Tryd.prog 4 [sc no rate ts, .agg [I a, I b, I c]] (.bool true) := by
  refine PCall.intro text4 (by simp) ?_
  unfold ir4
  simp only [walk, wl, rgets, retv, argsEnv, ev, cst, cst1, cstL, AEnv.get, AEnv.trim, envput, qstep, abin, aun, evs, evo, deref, qload, target, if_true, if_false, Nat.reduceEqDiff, reduceIte, Nat.reduceAdd, AV.cells, AV.isTuple, setMany, alen, aiaddr, afill, Nat.reduceLeDiff, Nat.reduceMul, Nat.reduceLT, afillE, List.replicate]
  refine call_pure sane_ok .nil ?_
  simp only [walk, wl, rgets, retv, argsEnv, ev, cst, cst1, cstL, AEnv.get, AEnv.trim, envput, qstep, abin, aun, evs, evo, deref, qload, target, if_true, if_false, Nat.reduceEqDiff, reduceIte, Nat.reduceAdd, AV.cells, AV.isTuple, setMany, alen, aiaddr, afill, Nat.reduceLeDiff, Nat.reduceMul, Nat.reduceLT, afillE, List.replicate, trows_length]
  refine withBool_intro ?_ ?_ <;> intro hf <;> simp only [walk, wl, rgets, retv, argsEnv, ev, cst, cst1, cstL, AEnv.get, AEnv.trim, envput, qstep, abin, aun, evs, evo, deref, qload, target, if_true, if_false, Nat.reduceEqDiff, reduceIte, Nat.reduceAdd, AV.cells, AV.isTuple, setMany, alen, aiaddr, afill, Nat.reduceLeDiff, Nat.reduceMul, Nat.reduceLT, afillE, List.replicate]
  · exact out_bool
  · have p03 : (0 : Int) < ((3 : Nat) : Int) := by decide
    have p13 : (1 : Int) < ((3 : Nat) : Int) := by decide
    have p23 : (2 : Int) < ((3 : Nat) : Int) := by decide
    simp only [walk, wl, rgets, retv, argsEnv, ev, cst, cst1, cstL, AEnv.get, AEnv.trim, envput, qstep, abin, aun, evs, evo, deref, qload, target, if_true, if_false, Nat.reduceEqDiff, reduceIte, Nat.reduceAdd, AV.cells, AV.isTuple, setMany, alen, aiaddr, afill, Nat.reduceLeDiff, Nat.reduceMul, Nat.reduceLT, afillE, List.replicate, Int.reduceLE, p03, p13, p23, Int.toNat_zero, Int.reduceToNat, Nat.add_zero, Nat.zero_mul, Nat.reduceMul, Nat.reduceAdd]
    refine call_pure (Drift_ok no rate ts a c) (frzL_of' (d := 4) (carL_cons car_sc rfl)) ?_
    unfold dvV
    simp only [walk, wl, rgets, retv, argsEnv, ev, cst, cst1, cstL, AEnv.get, AEnv.trim, envput, qstep, abin, aun, evs, evo, deref, qload, target, if_true, if_false, Nat.reduceEqDiff, reduceIte, Nat.reduceAdd, AV.cells, AV.isTuple, setMany, alen, aiaddr, afill, Nat.reduceLeDiff, Nat.reduceMul, Nat.reduceLT, afillE, List.replicate, Int.reduceLE, p03, p13, p23, Int.toNat_zero, Int.reduceToNat, Nat.add_zero, Nat.zero_mul, Nat.reduceMul, Nat.reduceAdd]
    refine call_pure (rDrift_ok no rate ts a c) (frzL_of' (d := 4) (carL_cons car_sc rfl)) ?_
    unfold dvV
    simp only [walk, wl, rgets, retv, argsEnv, ev, cst, cst1, cstL, AEnv.get, AEnv.trim, envput, qstep, abin, aun, evs, evo, deref, qload, target, if_true, if_false, Nat.reduceEqDiff, reduceIte, Nat.reduceAdd, AV.cells, AV.isTuple, setMany, alen, aiaddr, afill, Nat.reduceLeDiff, Nat.reduceMul, Nat.reduceLT, afillE, List.replicate, Int.reduceLE, p03, p13, p23, Int.toNat_zero, Int.reduceToNat, Nat.add_zero, Nat.zero_mul, Nat.reduceMul, Nat.reduceAdd]
    refine call_pure (Turn_ok no rate ts a b c) (frzL_of' (d := 4) (carL_cons car_sc rfl)) ?_
    unfold tvV
    simp only [walk, wl, rgets, retv, argsEnv, ev, cst, cst1, cstL, AEnv.get, AEnv.trim, envput, qstep, abin, aun, evs, evo, deref, qload, target, if_true, if_false, Nat.reduceEqDiff, reduceIte, Nat.reduceAdd, AV.cells, AV.isTuple, setMany, alen, aiaddr, afill, Nat.reduceLeDiff, Nat.reduceMul, Nat.reduceLT, afillE, List.replicate, Int.reduceLE, p03, p13, p23, Int.toNat_zero, Int.reduceToNat, Nat.add_zero, Nat.zero_mul, Nat.reduceMul, Nat.reduceAdd]
    refine call_pure (rTurn_ok no rate ts a b c) (frzL_of' (d := 4) (carL_cons car_sc rfl)) ?_
    unfold tvV
    simp only [walk, wl, rgets, retv, argsEnv, ev, cst, cst1, cstL, AEnv.get, AEnv.trim, envput, qstep, abin, aun, evs, evo, deref, qload, target, if_true, if_false, Nat.reduceEqDiff, reduceIte, Nat.reduceAdd, AV.cells, AV.isTuple, setMany, alen, aiaddr, afill, Nat.reduceLeDiff, Nat.reduceMul, Nat.reduceLT, afillE, List.replicate, beq_self_eq_true, aeqO, Nat.reduceAdd, Bool.and_self, Bool.and_true]
    exact out_bool
end Go.Proofs.YtgadlckkmhhmbaaDoor
