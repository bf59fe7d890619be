/- PackLess holds. -/
import Derived.Test.YtmcndbldbemebaaDoorQT16
import Derived.Test.YtmcndbldbemebaaDoorQE2
import Derived.Test.YtmcndbldbemebaaDoorQG5
set_option linter.unusedVariables false
set_option linter.unusedSimpArgs false
set_option linter.unusedSectionVars false
namespace Go.Proofs.YtmcndbldbemebaaDoor
open Go.Awp Go.Snow
set_option linter.unusedSimpArgs false
set_option linter.unusedVariables false
set_option linter.unusedSectionVars false
set_option maxRecDepth 10000
set_option maxHeartbeats 16000000 in
theorem PackLess_ok (p q r : List Lay) (k m c : Int) : PCall Tryd.prog 16 [.agg [.ro false (rows p)], .agg [.ro false (rows q)], .agg [.ro false (rows r)], .agg (dc (k, m, c))] (.bool true) := by
  refine PCall.intro text16 (by simp) ?_
  unfold ir16
  simp only [walk, wl, rgets, retv, argsEnv, ev, cst, cst1, cstL, AEnv.get, AEnv.trim, envput, qstep, abin, aun, evs, evo, deref, qload, target, if_true, if_false, Nat.reduceEqDiff, reduceIte, Nat.reduceAdd, AV.cells, AV.isTuple, setMany, alen, aiaddr, afill, Nat.reduceLeDiff, Nat.reduceMul, Nat.reduceLT, afillE, List.replicate, dc]
  refine call_pure sane_ok (frzL_of' (d := 4) rfl) ?_
  simp only [walk, wl, rgets, retv, argsEnv, ev, cst, cst1, cstL, AEnv.get, AEnv.trim, envput, qstep, abin, aun, evs, evo, deref, qload, target, if_true, if_false, Nat.reduceEqDiff, reduceIte, Nat.reduceAdd, AV.cells, AV.isTuple, setMany, alen, aiaddr, afill, Nat.reduceLeDiff, Nat.reduceMul, Nat.reduceLT, afillE, List.replicate]
  refine call_pure (Check_ok p) (frzL_of' (d := 4) car_pkL) ?_
  cases hp : okP p with
  | false => rw [chk_no' hp]; simp only [walk, wl, rgets, retv, argsEnv, ev, cst, cst1, cstL, AEnv.get, AEnv.trim, envput, qstep, abin, aun, evs, evo, deref, qload, target, if_true, if_false, Nat.reduceEqDiff, reduceIte, Nat.reduceAdd, AV.cells, AV.isTuple, setMany, alen, aiaddr, afill, Nat.reduceLeDiff, Nat.reduceMul, Nat.reduceLT, afillE, List.replicate, Int.reduceBNe]; exact out_bool
  | true =>
    rw [chk_yes' hp]
    simp only [walk, wl, rgets, retv, argsEnv, ev, cst, cst1, cstL, AEnv.get, AEnv.trim, envput, qstep, abin, aun, evs, evo, deref, qload, target, if_true, if_false, Nat.reduceEqDiff, reduceIte, Nat.reduceAdd, AV.cells, AV.isTuple, setMany, alen, aiaddr, afill, Nat.reduceLeDiff, Nat.reduceMul, Nat.reduceLT, afillE, List.replicate, bne_self_eq_false]
    refine call_pure (Check_ok q) (frzL_of' (d := 4) car_pkL) ?_
    cases hq : okP q with
    | false => rw [chk_no' hq]; simp only [walk, wl, rgets, retv, argsEnv, ev, cst, cst1, cstL, AEnv.get, AEnv.trim, envput, qstep, abin, aun, evs, evo, deref, qload, target, if_true, if_false, Nat.reduceEqDiff, reduceIte, Nat.reduceAdd, AV.cells, AV.isTuple, setMany, alen, aiaddr, afill, Nat.reduceLeDiff, Nat.reduceMul, Nat.reduceLT, afillE, List.replicate, Int.reduceBNe]; exact out_bool
    | true =>
      rw [chk_yes' hq]
      simp only [walk, wl, rgets, retv, argsEnv, ev, cst, cst1, cstL, AEnv.get, AEnv.trim, envput, qstep, abin, aun, evs, evo, deref, qload, target, if_true, if_false, Nat.reduceEqDiff, reduceIte, Nat.reduceAdd, AV.cells, AV.isTuple, setMany, alen, aiaddr, afill, Nat.reduceLeDiff, Nat.reduceMul, Nat.reduceLT, afillE, List.replicate, bne_self_eq_false]
      refine call_pure (Check_ok r) (frzL_of' (d := 4) car_pkL) ?_
      cases hr : okP r with
      | false => rw [chk_no' hr]; simp only [walk, wl, rgets, retv, argsEnv, ev, cst, cst1, cstL, AEnv.get, AEnv.trim, envput, qstep, abin, aun, evs, evo, deref, qload, target, if_true, if_false, Nat.reduceEqDiff, reduceIte, Nat.reduceAdd, AV.cells, AV.isTuple, setMany, alen, aiaddr, afill, Nat.reduceLeDiff, Nat.reduceMul, Nat.reduceLT, afillE, List.replicate, Int.reduceBNe]; exact out_bool
      | true =>
        rw [chk_yes' hr]
        simp only [walk, wl, rgets, retv, argsEnv, ev, cst, cst1, cstL, AEnv.get, AEnv.trim, envput, qstep, abin, aun, evs, evo, deref, qload, target, if_true, if_false, Nat.reduceEqDiff, reduceIte, Nat.reduceAdd, AV.cells, AV.isTuple, setMany, alen, aiaddr, afill, Nat.reduceLeDiff, Nat.reduceMul, Nat.reduceLT, afillE, List.replicate, bne_self_eq_false]
        have lv : ∀ {a b : List Lay}, okP a = true → okP b = true → lessV a b = (lessB a b, 0) := fun h1 h2 => by simp [lessV, h1, h2]
        refine call_pure (Less_ok p p) (frzL_of' (d := 4) (carL_cons car_pk car_pkL)) ?_
        rw [lv hp hp, lessB_refl]
        simp only [walk, wl, rgets, retv, argsEnv, ev, cst, cst1, cstL, AEnv.get, AEnv.trim, envput, qstep, abin, aun, evs, evo, deref, qload, target, if_true, if_false, Nat.reduceEqDiff, reduceIte, Nat.reduceAdd, AV.cells, AV.isTuple, setMany, alen, aiaddr, afill, Nat.reduceLeDiff, Nat.reduceMul, Nat.reduceLT, afillE, List.replicate]
        refine call_pure (Less_ok p q) (frzL_of' (d := 4) (carL_cons car_pk car_pkL)) ?_
        rw [lv hp hq]
        simp only [walk, wl, rgets, retv, argsEnv, ev, cst, cst1, cstL, AEnv.get, AEnv.trim, envput, qstep, abin, aun, evs, evo, deref, qload, target, if_true, if_false, Nat.reduceEqDiff, reduceIte, Nat.reduceAdd, AV.cells, AV.isTuple, setMany, alen, aiaddr, afill, Nat.reduceLeDiff, Nat.reduceMul, Nat.reduceLT, afillE, List.replicate]
        refine call_pure (Less_ok q p) (frzL_of' (d := 4) (carL_cons car_pk car_pkL)) ?_
        rw [lv hq hp]
        simp only [walk, wl, rgets, retv, argsEnv, ev, cst, cst1, cstL, AEnv.get, AEnv.trim, envput, qstep, abin, aun, evs, evo, deref, qload, target, if_true, if_false, Nat.reduceEqDiff, reduceIte, Nat.reduceAdd, AV.cells, AV.isTuple, setMany, alen, aiaddr, afill, Nat.reduceLeDiff, Nat.reduceMul, Nat.reduceLT, afillE, List.replicate]
        refine call_pure (Less_ok q r) (frzL_of' (d := 4) (carL_cons car_pk car_pkL)) ?_
        rw [lv hq hr]
        simp only [walk, wl, rgets, retv, argsEnv, ev, cst, cst1, cstL, AEnv.get, AEnv.trim, envput, qstep, abin, aun, evs, evo, deref, qload, target, if_true, if_false, Nat.reduceEqDiff, reduceIte, Nat.reduceAdd, AV.cells, AV.isTuple, setMany, alen, aiaddr, afill, Nat.reduceLeDiff, Nat.reduceMul, Nat.reduceLT, afillE, List.replicate]
        refine call_pure (Less_ok p r) (frzL_of' (d := 4) (carL_cons car_pk car_pkL)) ?_
        rw [lv hp hr]
        have hsame := Same_ok p q (by have := (okP_iff.1 hp).1; omega)
        rw [← lessB_anti] at hsame
        have htr : lessB p q = true → lessB q r = true → lessB p r = true := lessB_trans
        have hsum : lessB p q = true → decide (water p > water q) = false ∧ decide (cold p > cold q) = false := fun h => by
          have := lessB_sums hq h
          exact ⟨decide_eq_false (by omega), decide_eq_false (by omega)⟩
        have hmore : (applyV p k m c).2.2 = 0 → k = 1 → lessV p (applyV p k m c).1 = (true, 0) := fun h1 h2 => by
          obtain ⟨-, -, o3, o4⟩ := applyV_ok h1
          rw [o4, lv hp o3]
          subst h2
          simp only [doS, if_true]
          split
          · rw [lessB_cons]
          · rw [lessB_refl]
        obtain ⟨a, ha⟩ : ∃ a, a = lessB p q := ⟨_, rfl⟩
        obtain ⟨b, hb⟩ : ∃ b, b = lessB q p := ⟨_, rfl⟩
        obtain ⟨d, hd⟩ : ∃ d, d = lessB q r := ⟨_, rfl⟩
        obtain ⟨e, he⟩ : ∃ e, e = lessB p r := ⟨_, rfl⟩
        rw [← ha, ← hb] at hsame
        rw [← ha, ← hd, ← he] at htr
        rw [← ha] at hsum
        rw [← ha, ← hb, ← hd, ← he]
        clear ha hb hd he
        simp only [walk, wl, rgets, retv, argsEnv, ev, cst, cst1, cstL, AEnv.get, AEnv.trim, envput, qstep, abin, aun, evs, evo, deref, qload, target, if_true, if_false, Nat.reduceEqDiff, reduceIte, Nat.reduceAdd, AV.cells, AV.isTuple, setMany, alen, aiaddr, afill, Nat.reduceLeDiff, Nat.reduceMul, Nat.reduceLT, afillE, List.replicate, bne_self_eq_false, Bool.not_true]
        cases a <;> cases b <;> cases d <;> cases e
        all_goals try (exact absurd (htr rfl rfl) (by decide))
        all_goals
          simp only [walk, wl, rgets, retv, argsEnv, ev, cst, cst1, cstL, AEnv.get, AEnv.trim, envput, qstep, abin, aun, evs, evo, deref, qload, target, if_true, if_false, Nat.reduceEqDiff, reduceIte, Nat.reduceAdd, AV.cells, AV.isTuple, setMany, alen, aiaddr, afill, Nat.reduceLeDiff, Nat.reduceMul, Nat.reduceLT, afillE, List.replicate, Bool.not_true, Bool.not_false]
          refine call_pure hsame (frzL_of' (d := 4) (carL_cons car_pk car_pkL)) ?_
          simp only [Bool.and_self, Bool.and_true, Bool.true_and, Bool.and_false, Bool.false_and]
          simp only [walk, wl, rgets, retv, argsEnv, ev, cst, cst1, cstL, AEnv.get, AEnv.trim, envput, qstep, abin, aun, evs, evo, deref, qload, target, if_true, if_false, Nat.reduceEqDiff, reduceIte, Nat.reduceAdd, AV.cells, AV.isTuple, setMany, alen, aiaddr, afill, Nat.reduceLeDiff, Nat.reduceMul, Nat.reduceLT, afillE, List.replicate, beq_self_eq_true, Bool.not_true, Bool.not_false]
          refine call_pure (Water_ok p) (frzL_of' (d := 4) car_pkL) ?_
          rw [show waterV p = (water p, 0) by simp [waterV, hp]]
          simp only [walk, wl, rgets, retv, argsEnv, ev, cst, cst1, cstL, AEnv.get, AEnv.trim, envput, qstep, abin, aun, evs, evo, deref, qload, target, if_true, if_false, Nat.reduceEqDiff, reduceIte, Nat.reduceAdd, AV.cells, AV.isTuple, setMany, alen, aiaddr, afill, Nat.reduceLeDiff, Nat.reduceMul, Nat.reduceLT, afillE, List.replicate]
          refine call_pure (Water_ok q) (frzL_of' (d := 4) car_pkL) ?_
          rw [show waterV q = (water q, 0) by simp [waterV, hq]]
          simp only [walk, wl, rgets, retv, argsEnv, ev, cst, cst1, cstL, AEnv.get, AEnv.trim, envput, qstep, abin, aun, evs, evo, deref, qload, target, if_true, if_false, Nat.reduceEqDiff, reduceIte, Nat.reduceAdd, AV.cells, AV.isTuple, setMany, alen, aiaddr, afill, Nat.reduceLeDiff, Nat.reduceMul, Nat.reduceLT, afillE, List.replicate]
          refine call_pure (Cold_ok p) (frzL_of' (d := 4) car_pkL) ?_
          rw [show coldV p = (cold p, 0) by simp [coldV, hp]]
          simp only [walk, wl, rgets, retv, argsEnv, ev, cst, cst1, cstL, AEnv.get, AEnv.trim, envput, qstep, abin, aun, evs, evo, deref, qload, target, if_true, if_false, Nat.reduceEqDiff, reduceIte, Nat.reduceAdd, AV.cells, AV.isTuple, setMany, alen, aiaddr, afill, Nat.reduceLeDiff, Nat.reduceMul, Nat.reduceLT, afillE, List.replicate]
          refine call_pure (Cold_ok q) (frzL_of' (d := 4) car_pkL) ?_
          rw [show coldV q = (cold q, 0) by simp [coldV, hq]]
          simp only [walk, wl, rgets, retv, argsEnv, ev, cst, cst1, cstL, AEnv.get, AEnv.trim, envput, qstep, abin, aun, evs, evo, deref, qload, target, if_true, if_false, Nat.reduceEqDiff, reduceIte, Nat.reduceAdd, AV.cells, AV.isTuple, setMany, alen, aiaddr, afill, Nat.reduceLeDiff, Nat.reduceMul, Nat.reduceLT, afillE, List.replicate, bne_self_eq_false]
          try simp only [walk, wl, rgets, retv, argsEnv, ev, cst, cst1, cstL, AEnv.get, AEnv.trim, envput, qstep, abin, aun, evs, evo, deref, qload, target, if_true, if_false, Nat.reduceEqDiff, reduceIte, Nat.reduceAdd, AV.cells, AV.isTuple, setMany, alen, aiaddr, afill, Nat.reduceLeDiff, Nat.reduceMul, Nat.reduceLT, afillE, List.replicate, (hsum rfl).1, (hsum rfl).2]
          refine withBool_intro ?_ ?_ <;> intro hk <;> simp only [walk, wl, rgets, retv, argsEnv, ev, cst, cst1, cstL, AEnv.get, AEnv.trim, envput, qstep, abin, aun, evs, evo, deref, qload, target, if_true, if_false, Nat.reduceEqDiff, reduceIte, Nat.reduceAdd, AV.cells, AV.isTuple, setMany, alen, aiaddr, afill, Nat.reduceLeDiff, Nat.reduceMul, Nat.reduceLT, afillE, List.replicate]
          · exact out_bool
          · have hk1 : k = 1 := by simpa using hk
            refine call_pure (Apply_ok p k m c) (frzL_of' (d := 4) (carL_cons car_pk rfl)) ?_
            unfold pkV
            simp only [walk, wl, rgets, retv, argsEnv, ev, cst, cst1, cstL, AEnv.get, AEnv.trim, envput, qstep, abin, aun, evs, evo, deref, qload, target, if_true, if_false, Nat.reduceEqDiff, reduceIte, Nat.reduceAdd, AV.cells, AV.isTuple, setMany, alen, aiaddr, afill, Nat.reduceLeDiff, Nat.reduceMul, Nat.reduceLT, afillE, List.replicate]
            refine withBool_intro ?_ ?_ <;> intro hj <;> simp only [walk, wl, rgets, retv, argsEnv, ev, cst, cst1, cstL, AEnv.get, AEnv.trim, envput, qstep, abin, aun, evs, evo, deref, qload, target, if_true, if_false, Nat.reduceEqDiff, reduceIte, Nat.reduceAdd, AV.cells, AV.isTuple, setMany, alen, aiaddr, afill, Nat.reduceLeDiff, Nat.reduceMul, Nat.reduceLT, afillE, List.replicate]
            · exact out_bool
            · refine call_pure (Less_ok p (applyV p k m c).1) (frzL_of' (d := 4) (carL_cons car_pk car_pkL)) ?_
              rw [hmore (by simpa using hj) hk1]
              simp only [walk, wl, rgets, retv, argsEnv, ev, cst, cst1, cstL, AEnv.get, AEnv.trim, envput, qstep, abin, aun, evs, evo, deref, qload, target, if_true, if_false, Nat.reduceEqDiff, reduceIte, Nat.reduceAdd, AV.cells, AV.isTuple, setMany, alen, aiaddr, afill, Nat.reduceLeDiff, Nat.reduceMul, Nat.reduceLT, afillE, List.replicate, beq_self_eq_true]
              exact out_bool
end Go.Proofs.YtmcndbldbemebaaDoor
