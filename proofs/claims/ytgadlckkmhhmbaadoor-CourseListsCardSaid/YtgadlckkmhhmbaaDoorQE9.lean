/- CourseLists holds. -/
import Derived.Test.YtgadlckkmhhmbaaDoorQT9
import Derived.Test.YtgadlckkmhhmbaaDoorQE0
import Derived.Test.YtgadlckkmhhmbaaDoorQC26
import Derived.Test.YtgadlckkmhhmbaaDoorQC21
set_option linter.unusedVariables false
set_option linter.unusedSimpArgs false
set_option linter.unusedSectionVars false
namespace Go.Proofs.YtgadlckkmhhmbaaDoor
open Go.Awp Go.Grams
set_option linter.unusedSimpArgs false
set_option linter.unusedVariables false
set_option linter.unusedSectionVars false
set_option maxRecDepth 10000
theorem idxs_length_le {q : Nat → Bool} {k : Nat} (h : k ≤ 300) : (idxs q k).length ≤ 1000000 := by
  have := idxs_len (q := q) (k := k); omega
theorem CourseLists_ok (no rate : Int) (ts : List Tst) (l : List Sht) (wd : List Int) (d0 d1 d2 : Int) : PCall Tryd.prog 9 [sc no rate ts, .ro false (srows l), .ro false (ic wd), .agg [I d0, I d1, I d2]] (.bool true) := by
  refine PCall.intro text9 (by simp) ?_
  unfold ir9
  simp only [walk, wl, rgets, retv, argsEnv, ev, cst, cst1, cstL, AEnv.get, AEnv.trim, envput, qstep, abin, aun, evs, evo, deref, qload, target, if_true, if_false, Nat.reduceEqDiff, reduceIte, Nat.reduceAdd, AV.cells, AV.isTuple, setMany, alen, aiaddr, afill, Nat.reduceLeDiff, Nat.reduceMul, Nat.reduceLT, afillE, List.replicate]
  refine call_pure sane_ok .nil ?_
  simp only [walk, wl, rgets, retv, argsEnv, ev, cst, cst1, cstL, AEnv.get, AEnv.trim, envput, qstep, abin, aun, evs, evo, deref, qload, target, if_true, if_false, Nat.reduceEqDiff, reduceIte, Nat.reduceAdd, AV.cells, AV.isTuple, setMany, alen, aiaddr, afill, Nat.reduceLeDiff, Nat.reduceMul, Nat.reduceLT, afillE, List.replicate, trows_length]
  refine withGuard_intro ?_ ?_ <;> intro h1 <;> simp only [walk, wl, rgets, retv, argsEnv, ev, cst, cst1, cstL, AEnv.get, AEnv.trim, envput, qstep, abin, aun, evs, evo, deref, qload, target, if_true, if_false, Nat.reduceEqDiff, reduceIte, Nat.reduceAdd, AV.cells, AV.isTuple, setMany, alen, aiaddr, afill, Nat.reduceLeDiff, Nat.reduceMul, Nat.reduceLT, afillE, List.replicate, h1]
  · refine call_pure (short_ok l) (frzL_of' (d := 5) (carL_cons car_srows rfl)) ?_
    simp only [walk, wl, rgets, retv, argsEnv, ev, cst, cst1, cstL, AEnv.get, AEnv.trim, envput, qstep, abin, aun, evs, evo, deref, qload, target, if_true, if_false, Nat.reduceEqDiff, reduceIte, Nat.reduceAdd, AV.cells, AV.isTuple, setMany, alen, aiaddr, afill, Nat.reduceLeDiff, Nat.reduceMul, Nat.reduceLT, afillE, List.replicate, ic_length]
    refine withGuard_intro ?_ ?_ <;> intro h2 <;> simp only [walk, wl, rgets, retv, argsEnv, ev, cst, cst1, cstL, AEnv.get, AEnv.trim, envput, qstep, abin, aun, evs, evo, deref, qload, target, if_true, if_false, Nat.reduceEqDiff, reduceIte, Nat.reduceAdd, AV.cells, AV.isTuple, setMany, alen, aiaddr, afill, Nat.reduceLeDiff, Nat.reduceMul, Nat.reduceLT, afillE, List.replicate, h2, ic_length]
    · refine withBool_intro ?_ ?_ <;> intro h3 <;> simp only [walk, wl, rgets, retv, argsEnv, ev, cst, cst1, cstL, AEnv.get, AEnv.trim, envput, qstep, abin, aun, evs, evo, deref, qload, target, if_true, if_false, Nat.reduceEqDiff, reduceIte, Nat.reduceAdd, AV.cells, AV.isTuple, setMany, alen, aiaddr, afill, Nat.reduceLeDiff, Nat.reduceMul, Nat.reduceLT, afillE, List.replicate]
      · exact out_bool
      · have hwd : wd.length ≤ 100000 := by simp at h3; omega
        have hl : l.length ≤ 300 := by simp [shortV] at h2; omega
        have f1 : (stL l wd d0).length ≤ 1000000 := by unfold stL; split; exact idxs_length_le hl; simp
        have f2 : (crL no rate ts l d1 d2).length ≤ 1000000 := by unfold crL; split; exact idxs_length_le hl; simp
        refine call_pure (Standing_ok l wd d0 hwd) (frzL_of' (d := 5) (carL_cons car_srows (carL_cons car_ic rfl))) ?_
        unfold stV
        simp only [walk, wl, rgets, retv, argsEnv, ev, cst, cst1, cstL, AEnv.get, AEnv.trim, envput, qstep, abin, aun, evs, evo, deref, qload, target, if_true, if_false, Nat.reduceEqDiff, reduceIte, Nat.reduceAdd, AV.cells, AV.isTuple, setMany, alen, aiaddr, afill, Nat.reduceLeDiff, Nat.reduceMul, Nat.reduceLT, afillE, List.replicate]
        refine call_pure (rStanding_ok l wd d0 hwd) (frzL_of' (d := 5) (carL_cons car_srows (carL_cons car_ic rfl))) ?_
        unfold stV
        simp only [walk, wl, rgets, retv, argsEnv, ev, cst, cst1, cstL, AEnv.get, AEnv.trim, envput, qstep, abin, aun, evs, evo, deref, qload, target, if_true, if_false, Nat.reduceEqDiff, reduceIte, Nat.reduceAdd, AV.cells, AV.isTuple, setMany, alen, aiaddr, afill, Nat.reduceLeDiff, Nat.reduceMul, Nat.reduceLT, afillE, List.replicate]
        refine call_pure (Corrected_ok no rate ts l d1 d2) (frzL_of' (d := 5) (carL_cons car_sc (carL_cons car_srows rfl))) ?_
        unfold crV
        simp only [walk, wl, rgets, retv, argsEnv, ev, cst, cst1, cstL, AEnv.get, AEnv.trim, envput, qstep, abin, aun, evs, evo, deref, qload, target, if_true, if_false, Nat.reduceEqDiff, reduceIte, Nat.reduceAdd, AV.cells, AV.isTuple, setMany, alen, aiaddr, afill, Nat.reduceLeDiff, Nat.reduceMul, Nat.reduceLT, afillE, List.replicate]
        refine call_pure (rCorrected_ok no rate ts l d1 d2) (frzL_of' (d := 5) (carL_cons car_sc (carL_cons car_srows rfl))) ?_
        unfold crV
        simp only [walk, wl, rgets, retv, argsEnv, ev, cst, cst1, cstL, AEnv.get, AEnv.trim, envput, qstep, abin, aun, evs, evo, deref, qload, target, if_true, if_false, Nat.reduceEqDiff, reduceIte, Nat.reduceAdd, AV.cells, AV.isTuple, setMany, alen, aiaddr, afill, Nat.reduceLeDiff, Nat.reduceMul, Nat.reduceLT, afillE, List.replicate]
        refine call_pure (Equal_ok _ _ f1) (frzL_of' (d := 4) (carL_cons car_ic (carL_cons car_ic rfl))) ?_
        simp only [walk, wl, rgets, retv, argsEnv, ev, cst, cst1, cstL, AEnv.get, AEnv.trim, envput, qstep, abin, aun, evs, evo, deref, qload, target, if_true, if_false, Nat.reduceEqDiff, reduceIte, Nat.reduceAdd, AV.cells, AV.isTuple, setMany, alen, aiaddr, afill, Nat.reduceLeDiff, Nat.reduceMul, Nat.reduceLT, afillE, List.replicate, beq_self_eq_true, decide_true]
        refine call_pure (Equal_ok _ _ f2) (frzL_of' (d := 4) (carL_cons car_ic (carL_cons car_ic rfl))) ?_
        simp only [walk, wl, rgets, retv, argsEnv, ev, cst, cst1, cstL, AEnv.get, AEnv.trim, envput, qstep, abin, aun, evs, evo, deref, qload, target, if_true, if_false, Nat.reduceEqDiff, reduceIte, Nat.reduceAdd, AV.cells, AV.isTuple, setMany, alen, aiaddr, afill, Nat.reduceLeDiff, Nat.reduceMul, Nat.reduceLT, afillE, List.replicate, beq_self_eq_true, decide_true]
        exact out_bool
    · exact out_bool
  · exact out_bool
end Go.Proofs.YtgadlckkmhhmbaaDoor
