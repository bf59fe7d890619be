/- The chapter's examples hold: 'sane' hands back true. -/
import Derived.Test.YtomejgikdelgkaaGreatDoorQC16
import Derived.Test.YtomejgikdelgkaaGreatDoorQC15
import Derived.Test.YtomejgikdelgkaaGreatDoorQC13
set_option linter.unusedVariables false
set_option linter.unusedSimpArgs false
set_option linter.unusedSectionVars false
namespace Go.Proofs.YtomejgikdelgkaaGreatDoor
open Go.Awp Go.Snow
set_option linter.unusedSimpArgs false
set_option linter.unusedVariables false
set_option linter.unusedSectionVars false
set_option maxRecDepth 10000
def ex : List Lay := [(40, 2, 0), (100, 0, 5)]
theorem example_ok : PCall Tryz.prog 15 [] (.agg [.ro true (rows ex)]) := by
  refine PCall.intro text15 (by simp) ?_
  unfold ir15
  simp only [walk, wl, rgets, retv, argsEnv, ev, cst, cst1, cstL, AEnv.get, AEnv.trim, envput, qstep, abin, aun, evs, evo, deref, qload, target, if_true, if_false, Nat.reduceEqDiff, reduceIte, Nat.reduceAdd, AV.cells, AV.isTuple, setMany, alen, aiaddr, afill, Nat.reduceLeDiff, Nat.reduceMul, Nat.reduceLT, afillE, List.replicate]
  exact out_agg1 (out_of (d := 2) rfl) rfl
theorem text_ex : printV ex = (ByteArray.mk (Array.mk [112, 97, 99, 107, 32, 52, 48, 47, 50, 47, 48, 32, 49, 48, 48, 47, 48, 47, 53]), 0) := by
  have n40 := (itoaT_eq (n := 40) (s := ⟨#[52, 48]⟩) (by decide +kernel)).1
  have n2 := (itoaT_eq (n := 2) (s := ⟨#[50]⟩) (by decide +kernel)).1
  have n0 := (itoaT_eq (n := 0) (s := ⟨#[48]⟩) (by decide +kernel)).1
  have n100 := (itoaT_eq (n := 100) (s := ⟨#[49, 48, 48]⟩) (by decide +kernel)).1
  have n5 := (itoaT_eq (n := 5) (s := ⟨#[53]⟩) (by decide +kernel)).1
  have hok : okP ex = true := by decide +kernel
  simp only [printV, hok, if_true, textV, ex, List.map_cons, List.map_nil, wordV, ← n40, ← n2, ← n0, ← n100, ← n5]
  decide +kernel
theorem sane_ok : PCall Tryz.prog 4 [] (.bool true) := by
  refine PCall.intro text4 (by simp) ?_
  unfold ir4
  have a1 : waterV ex = (142, 0) := by decide +kernel
  have a2 : readyV ex = (10, 0) := by decide +kernel
  have a3 : applyV ex 3 21 0 = ([(19, 0, 0), (105, 5, 0)], 13, 0) := by decide +kernel
  have a4 : applyV ex 5 50 0 = ([(92, 0, 3)], 0, 0) := by decide +kernel
  have a5 : weakestV ex = (1, 42, 0) := by decide +kernel
  have a6 : steepV [(300, 0, 0), (20, 0, 0)] = (27, 0) := by decide +kernel
  have a7 : joinedV ex 1 = ([(142, 0, 3)], 0) := by decide +kernel
  have a8 : weakestV [] = (0, 0, 4) := by decide +kernel
  have hb : (ByteArray.mk (Array.mk [112, 97, 99, 107, 32, 52, 48, 47, 50, 47, 48, 32, 49, 48, 48, 47, 48, 47, 53]) == ByteArray.mk (Array.mk [112, 97, 99, 107, 32, 52, 48, 47, 50, 47, 48, 32, 49, 48, 48, 47, 48, 47, 53])) = true := by decide +kernel
  simp only [walk, wl, rgets, retv, argsEnv, ev, cst, cst1, cstL, AEnv.get, AEnv.trim, envput, qstep, abin, aun, evs, evo, deref, qload, target, if_true, if_false, Nat.reduceEqDiff, reduceIte, Nat.reduceAdd, AV.cells, AV.isTuple, setMany, alen, aiaddr, afill, Nat.reduceLeDiff, Nat.reduceMul, Nat.reduceLT, afillE, List.replicate]
  refine call_pure example_ok (frzL_of' (d := 4) rfl) ?_
  simp only [walk, wl, rgets, retv, argsEnv, ev, cst, cst1, cstL, AEnv.get, AEnv.trim, envput, qstep, abin, aun, evs, evo, deref, qload, target, if_true, if_false, Nat.reduceEqDiff, reduceIte, Nat.reduceAdd, AV.cells, AV.isTuple, setMany, alen, aiaddr, afill, Nat.reduceLeDiff, Nat.reduceMul, Nat.reduceLT, afillE, List.replicate]
  refine call_pure (Water_ok ex) (frzL_of' (d := 4) car_pkL) ?_
  rw [a1]
  simp only [walk, wl, rgets, retv, argsEnv, ev, cst, cst1, cstL, AEnv.get, AEnv.trim, envput, qstep, abin, aun, evs, evo, deref, qload, target, if_true, if_false, Nat.reduceEqDiff, reduceIte, Nat.reduceAdd, AV.cells, AV.isTuple, setMany, alen, aiaddr, afill, Nat.reduceLeDiff, Nat.reduceMul, Nat.reduceLT, afillE, List.replicate]
  refine call_pure (Ready_ok ex) (frzL_of' (d := 4) car_pkL) ?_
  rw [a2]
  simp only [walk, wl, rgets, retv, argsEnv, ev, cst, cst1, cstL, AEnv.get, AEnv.trim, envput, qstep, abin, aun, evs, evo, deref, qload, target, if_true, if_false, Nat.reduceEqDiff, reduceIte, Nat.reduceAdd, AV.cells, AV.isTuple, setMany, alen, aiaddr, afill, Nat.reduceLeDiff, Nat.reduceMul, Nat.reduceLT, afillE, List.replicate]
  refine call_pure (Apply_ok ex 3 21 0) (frzL_of' (d := 4) (carL_cons car_pk rfl)) ?_
  unfold pkV
  rw [a3]
  simp only [walk, wl, rgets, retv, argsEnv, ev, cst, cst1, cstL, AEnv.get, AEnv.trim, envput, qstep, abin, aun, evs, evo, deref, qload, target, if_true, if_false, Nat.reduceEqDiff, reduceIte, Nat.reduceAdd, AV.cells, AV.isTuple, setMany, alen, aiaddr, afill, Nat.reduceLeDiff, Nat.reduceMul, Nat.reduceLT, afillE, List.replicate]
  refine call_pure (Apply_ok ex 5 50 0) (frzL_of' (d := 4) (carL_cons car_pk rfl)) ?_
  unfold pkV
  rw [a4]
  simp only [walk, wl, rgets, retv, argsEnv, ev, cst, cst1, cstL, AEnv.get, AEnv.trim, envput, qstep, abin, aun, evs, evo, deref, qload, target, if_true, if_false, Nat.reduceEqDiff, reduceIte, Nat.reduceAdd, AV.cells, AV.isTuple, setMany, alen, aiaddr, afill, Nat.reduceLeDiff, Nat.reduceMul, Nat.reduceLT, afillE, List.replicate]
  refine call_pure (Weakest_ok ex) (frzL_of' (d := 4) car_pkL) ?_
  rw [a5]
  simp only [walk, wl, rgets, retv, argsEnv, ev, cst, cst1, cstL, AEnv.get, AEnv.trim, envput, qstep, abin, aun, evs, evo, deref, qload, target, if_true, if_false, Nat.reduceEqDiff, reduceIte, Nat.reduceAdd, AV.cells, AV.isTuple, setMany, alen, aiaddr, afill, Nat.reduceLeDiff, Nat.reduceMul, Nat.reduceLT, afillE, List.replicate]
  refine call_pure (Steepest_ok [(300, 0, 0), (20, 0, 0)]) (frzL_of' (d := 4) rfl) ?_
  rw [a6]
  simp only [walk, wl, rgets, retv, argsEnv, ev, cst, cst1, cstL, AEnv.get, AEnv.trim, envput, qstep, abin, aun, evs, evo, deref, qload, target, if_true, if_false, Nat.reduceEqDiff, reduceIte, Nat.reduceAdd, AV.cells, AV.isTuple, setMany, alen, aiaddr, afill, Nat.reduceLeDiff, Nat.reduceMul, Nat.reduceLT, afillE, List.replicate]
  refine call_pure (Joined_ok ex 1) (frzL_of' (d := 4) (carL_cons car_pk rfl)) ?_
  rw [a7]
  simp only [walk, wl, rgets, retv, argsEnv, ev, cst, cst1, cstL, AEnv.get, AEnv.trim, envput, qstep, abin, aun, evs, evo, deref, qload, target, if_true, if_false, Nat.reduceEqDiff, reduceIte, Nat.reduceAdd, AV.cells, AV.isTuple, setMany, alen, aiaddr, afill, Nat.reduceLeDiff, Nat.reduceMul, Nat.reduceLT, afillE, List.replicate]
  refine call_pure (Print_ok ex) (frzL_of' (d := 4) car_pkL) ?_
  rw [text_ex]
  simp only [walk, wl, rgets, retv, argsEnv, ev, cst, cst1, cstL, AEnv.get, AEnv.trim, envput, qstep, abin, aun, evs, evo, deref, qload, target, if_true, if_false, Nat.reduceEqDiff, reduceIte, Nat.reduceAdd, AV.cells, AV.isTuple, setMany, alen, aiaddr, afill, Nat.reduceLeDiff, Nat.reduceMul, Nat.reduceLT, afillE, List.replicate]
  refine call_pure (Weakest_ok []) (.cons (frz_agg1 frz_nil rfl) .nil) ?_
  rw [a8]
  simp only [walk, wl, rgets, retv, argsEnv, ev, cst, cst1, cstL, AEnv.get, AEnv.trim, envput, qstep, abin, aun, evs, evo, deref, qload, target, if_true, if_false, Nat.reduceEqDiff, reduceIte, Nat.reduceAdd, AV.cells, AV.isTuple, setMany, alen, aiaddr, afill, Nat.reduceLeDiff, Nat.reduceMul, Nat.reduceLT, afillE, List.replicate, bne_self_eq_false, beq_self_eq_true, Int.reduceBEq, Int.reduceBNe, hb]
  refine call_pure (Same_ok [(19, 0, 0), (105, 5, 0)] [(19, 0, 0), (105, 5, 0)] (by simp)) (frzL_of' (d := 4) ?_) ?_
  · exact carL_cons car_pk rfl
  simp only [walk, wl, rgets, retv, argsEnv, ev, cst, cst1, cstL, AEnv.get, AEnv.trim, envput, qstep, abin, aun, evs, evo, deref, qload, target, if_true, if_false, Nat.reduceEqDiff, reduceIte, Nat.reduceAdd, AV.cells, AV.isTuple, setMany, alen, aiaddr, afill, Nat.reduceLeDiff, Nat.reduceMul, Nat.reduceLT, afillE, List.replicate, decide_true]
  refine call_pure (Same_ok [(92, 0, 3)] [(92, 0, 3)] (by simp)) (frzL_of' (d := 4) ?_) ?_
  · exact carL_cons car_pk rfl
  simp only [walk, wl, rgets, retv, argsEnv, ev, cst, cst1, cstL, AEnv.get, AEnv.trim, envput, qstep, abin, aun, evs, evo, deref, qload, target, if_true, if_false, Nat.reduceEqDiff, reduceIte, Nat.reduceAdd, AV.cells, AV.isTuple, setMany, alen, aiaddr, afill, Nat.reduceLeDiff, Nat.reduceMul, Nat.reduceLT, afillE, List.replicate, decide_true]
  refine call_pure (Same_ok [(142, 0, 3)] [(142, 0, 3)] (by simp)) (frzL_of' (d := 4) ?_) ?_
  · exact carL_cons car_pk rfl
  simp only [walk, wl, rgets, retv, argsEnv, ev, cst, cst1, cstL, AEnv.get, AEnv.trim, envput, qstep, abin, aun, evs, evo, deref, qload, target, if_true, if_false, Nat.reduceEqDiff, reduceIte, Nat.reduceAdd, AV.cells, AV.isTuple, setMany, alen, aiaddr, afill, Nat.reduceLeDiff, Nat.reduceMul, Nat.reduceLT, afillE, List.replicate, decide_true]
  exact out_bool
end Go.Proofs.YtomejgikdelgkaaGreatDoor
