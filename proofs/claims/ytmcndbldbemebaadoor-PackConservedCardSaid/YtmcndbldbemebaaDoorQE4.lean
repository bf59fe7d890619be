/- PackConserved holds. -/
import Derived.Test.YtmcndbldbemebaaDoorQT4
import Derived.Test.YtmcndbldbemebaaDoorQE2
import Derived.Test.YtmcndbldbemebaaDoorQG3
set_option linter.unusedVariables false
set_option linter.unusedSimpArgs false
set_option linter.unusedSectionVars false
namespace Go.Proofs.YtmcndbldbemebaaDoor
open Go.Awp Go.Snow
set_option linter.unusedSimpArgs false
set_option linter.unusedVariables false
set_option linter.unusedSectionVars false
set_option maxRecDepth 10000
theorem PackConserved_ok (p : List Lay) (k m c : Int) : PCall Tryd.prog 4 [.agg [.ro false (rows p)], .agg (dc (k, m, c))] (.bool true) := by
  refine PCall.intro text4 (by simp) ?_
  unfold ir4
  simp only [walk, wl, rgets, retv, argsEnv, ev, cst, cst1, cstL, AEnv.get, AEnv.trim, envput, qstep, abin, aun, evs, evo, deref, qload, target, if_true, if_false, Nat.reduceEqDiff, reduceIte, Nat.reduceAdd, AV.cells, AV.isTuple, setMany, alen, aiaddr, afill, Nat.reduceLeDiff, Nat.reduceMul, Nat.reduceLT, afillE, List.replicate, dc]
  refine call_pure sane_ok (frzL_of' (d := 4) rfl) ?_
  simp only [walk, wl, rgets, retv, argsEnv, ev, cst, cst1, cstL, AEnv.get, AEnv.trim, envput, qstep, abin, aun, evs, evo, deref, qload, target, if_true, if_false, Nat.reduceEqDiff, reduceIte, Nat.reduceAdd, AV.cells, AV.isTuple, setMany, alen, aiaddr, afill, Nat.reduceLeDiff, Nat.reduceMul, Nat.reduceLT, afillE, List.replicate]
  refine call_pure (Apply_ok p k m c) (frzL_of' (d := 4) (carL_cons car_pk rfl)) ?_
  unfold pkV
  obtain ⟨r, hr⟩ : ∃ r, r = applyV p k m c := ⟨_, rfl⟩
  rw [← hr]
  simp only [walk, wl, rgets, retv, argsEnv, ev, cst, cst1, cstL, AEnv.get, AEnv.trim, envput, qstep, abin, aun, evs, evo, deref, qload, target, if_true, if_false, Nat.reduceEqDiff, reduceIte, Nat.reduceAdd, AV.cells, AV.isTuple, setMany, alen, aiaddr, afill, Nat.reduceLeDiff, Nat.reduceMul, Nat.reduceLT, afillE, List.replicate]
  refine withBool_intro ?_ ?_ <;> intro h <;> simp only [walk, wl, rgets, retv, argsEnv, ev, cst, cst1, cstL, AEnv.get, AEnv.trim, envput, qstep, abin, aun, evs, evo, deref, qload, target, if_true, if_false, Nat.reduceEqDiff, reduceIte, Nat.reduceAdd, AV.cells, AV.isTuple, setMany, alen, aiaddr, afill, Nat.reduceLeDiff, Nat.reduceMul, Nat.reduceLT, afillE, List.replicate]
  · have h1 : r.2.2 ≠ 0 := by simpa using h
    obtain ⟨e1, e2⟩ := applyV_fail (p := p) (k := k) (m := m) (c := c) (by rw [← hr]; exact h1)
    rw [← hr] at e1 e2
    rw [e1, e2]
    simp only [walk, wl, rgets, retv, argsEnv, ev, cst, cst1, cstL, AEnv.get, AEnv.trim, envput, qstep, abin, aun, evs, evo, deref, qload, target, if_true, if_false, Nat.reduceEqDiff, reduceIte, Nat.reduceAdd, AV.cells, AV.isTuple, setMany, alen, aiaddr, afill, Nat.reduceLeDiff, Nat.reduceMul, Nat.reduceLT, afillE, List.replicate, rows, List.map_nil, List.length_nil, beq_self_eq_true, Int.ofNat_zero]
    exact out_bool
  · have h1 : r.2.2 = 0 := by simpa using h
    obtain ⟨o1, o2, o3, o4⟩ := applyV_ok (p := p) (k := k) (m := m) (c := c) (by rw [← hr]; exact h1)
    rw [← hr] at o4
    obtain ⟨s1, s2, s3⟩ := okS_iff.1 o2
    have hf : Firm 1000000 p := firm_mono (okP_good o1) (by omega)
    obtain ⟨w0, w1, w2, w3, w4, w5⟩ := doS_water (k := k) (m := m) (c := c) hf ⟨s1.1, s1.2, s2.1⟩
    obtain ⟨D, hD⟩ : ∃ D, D = doS k m c p := ⟨_, rfl⟩
    rw [← hD] at o3 o4 w0 w1 w2 w3 w4 w5
    have n1 := water_nonneg' hf
    have n2 := water_nonneg' (okP_good o3)
    have b1 := (okP_iff.1 o1).2.2.1
    have b2 := (okP_iff.1 o3).2.2.1
    have e1 : waterV p = (water p, 0) := by simp only [waterV, o1, if_true]
    have e2 : waterV D.1 = (water D.1, 0) := by simp only [waterV, o3, if_true]
    rw [o4]
    simp only [walk, wl, rgets, retv, argsEnv, ev, cst, cst1, cstL, AEnv.get, AEnv.trim, envput, qstep, abin, aun, evs, evo, deref, qload, target, if_true, if_false, Nat.reduceEqDiff, reduceIte, Nat.reduceAdd, AV.cells, AV.isTuple, setMany, alen, aiaddr, afill, Nat.reduceLeDiff, Nat.reduceMul, Nat.reduceLT, afillE, List.replicate]
    refine call_pure (Water_ok p) (frzL_of' (d := 4) car_pkL) ?_
    rw [e1]
    simp only [walk, wl, rgets, retv, argsEnv, ev, cst, cst1, cstL, AEnv.get, AEnv.trim, envput, qstep, abin, aun, evs, evo, deref, qload, target, if_true, if_false, Nat.reduceEqDiff, reduceIte, Nat.reduceAdd, AV.cells, AV.isTuple, setMany, alen, aiaddr, afill, Nat.reduceLeDiff, Nat.reduceMul, Nat.reduceLT, afillE, List.replicate]
    refine call_pure (Water_ok D.1) (frzL_of' (d := 4) car_pkL) ?_
    rw [e2]
    simp only [walk, wl, rgets, retv, argsEnv, ev, cst, cst1, cstL, AEnv.get, AEnv.trim, envput, qstep, abin, aun, evs, evo, deref, qload, target, if_true, if_false, Nat.reduceEqDiff, reduceIte, Nat.reduceAdd, AV.cells, AV.isTuple, setMany, alen, aiaddr, afill, Nat.reduceLeDiff, Nat.reduceMul, Nat.reduceLT, afillE, List.replicate, bne_self_eq_false]
    refine call_pure (Check_ok D.1) (frzL_of' (d := 4) car_pkL) ?_
    rw [chk_yes' o3]
    have hran : decide (D.2.1 < 0) = false := decide_eq_false (by omega)
    simp only [walk, wl, rgets, retv, argsEnv, ev, cst, cst1, cstL, AEnv.get, AEnv.trim, envput, qstep, abin, aun, evs, evo, deref, qload, target, if_true, if_false, Nat.reduceEqDiff, reduceIte, Nat.reduceAdd, AV.cells, AV.isTuple, setMany, alen, aiaddr, afill, Nat.reduceLeDiff, Nat.reduceMul, Nat.reduceLT, afillE, List.replicate, bne_self_eq_false, hran]
    have hk : k = 1 ∨ k = 2 ∨ k = 3 ∨ k = 4 ∨ k = 5 ∨ k = 6 := by omega
    rcases hk with rfl | rfl | rfl | rfl | hk
    · obtain ⟨g1, g2⟩ := w1 rfl
      have x1 : IntKind.i64.wrap (water p + m) = water p + m := wrap_id (by omega) (by omega)
      simp only [walk, wl, rgets, retv, argsEnv, ev, cst, cst1, cstL, AEnv.get, AEnv.trim, envput, qstep, abin, aun, evs, evo, deref, qload, target, if_true, if_false, Nat.reduceEqDiff, reduceIte, Nat.reduceAdd, AV.cells, AV.isTuple, setMany, alen, aiaddr, afill, Nat.reduceLeDiff, Nat.reduceMul, Nat.reduceLT, afillE, List.replicate, x1, g1, g2, beq_self_eq_true, Int.reduceBEq]
      exact out_bool
    · have g1 := w2 rfl
      have x1 : IntKind.i64.wrap (water p + m) = water p + m := wrap_id (by omega) (by omega)
      have x2 : IntKind.i64.wrap (water D.1 + D.2.1) = water p + m := by rw [g1]; exact x1
      simp only [walk, wl, rgets, retv, argsEnv, ev, cst, cst1, cstL, AEnv.get, AEnv.trim, envput, qstep, abin, aun, evs, evo, deref, qload, target, if_true, if_false, Nat.reduceEqDiff, reduceIte, Nat.reduceAdd, AV.cells, AV.isTuple, setMany, alen, aiaddr, afill, Nat.reduceLeDiff, Nat.reduceMul, Nat.reduceLT, afillE, List.replicate, x1, x2, beq_self_eq_true, Int.reduceBEq]
      exact out_bool
    · have g1 := w3 rfl
      have x2 : IntKind.i64.wrap (water D.1 + D.2.1) = water p := by rw [g1]; exact wrap_id (by omega) (by omega)
      simp only [walk, wl, rgets, retv, argsEnv, ev, cst, cst1, cstL, AEnv.get, AEnv.trim, envput, qstep, abin, aun, evs, evo, deref, qload, target, if_true, if_false, Nat.reduceEqDiff, reduceIte, Nat.reduceAdd, AV.cells, AV.isTuple, setMany, alen, aiaddr, afill, Nat.reduceLeDiff, Nat.reduceMul, Nat.reduceLT, afillE, List.replicate, x2, beq_self_eq_true, Int.reduceBEq]
      exact out_bool
    · obtain ⟨g1, g2⟩ := w4 rfl
      simp only [walk, wl, rgets, retv, argsEnv, ev, cst, cst1, cstL, AEnv.get, AEnv.trim, envput, qstep, abin, aun, evs, evo, deref, qload, target, if_true, if_false, Nat.reduceEqDiff, reduceIte, Nat.reduceAdd, AV.cells, AV.isTuple, setMany, alen, aiaddr, afill, Nat.reduceLeDiff, Nat.reduceMul, Nat.reduceLT, afillE, List.replicate, g1, g2, beq_self_eq_true, Int.reduceBEq]
      exact out_bool
    · have g1 := w5 hk
      have k1 : (k == 1) = false := by rcases hk with rfl | rfl <;> rfl
      have k2 : (k == 2) = false := by rcases hk with rfl | rfl <;> rfl
      have k3 : (k == 3) = false := by rcases hk with rfl | rfl <;> rfl
      have k4 : (k == 4) = false := by rcases hk with rfl | rfl <;> rfl
      have x1 : IntKind.i64.wrap (water p - water D.1) = water p - water D.1 := wrap_id (by omega) (by omega)
      have x2 : IntKind.i64.wrap (water p - water D.1 - D.2.1) = water p - water D.1 - D.2.1 := wrap_id (by omega) (by omega)
      simp only [walk, wl, rgets, retv, argsEnv, ev, cst, cst1, cstL, AEnv.get, AEnv.trim, envput, qstep, abin, aun, evs, evo, deref, qload, target, if_true, if_false, Nat.reduceEqDiff, reduceIte, Nat.reduceAdd, AV.cells, AV.isTuple, setMany, alen, aiaddr, afill, Nat.reduceLeDiff, Nat.reduceMul, Nat.reduceLT, afillE, List.replicate, k1, k2, k3, k4, x1, x2]
      rcases g1 with g1 | ⟨g1, g2, g3⟩
      · simp only [walk, wl, rgets, retv, argsEnv, ev, cst, cst1, cstL, AEnv.get, AEnv.trim, envput, qstep, abin, aun, evs, evo, deref, qload, target, if_true, if_false, Nat.reduceEqDiff, reduceIte, Nat.reduceAdd, AV.cells, AV.isTuple, setMany, alen, aiaddr, afill, Nat.reduceLeDiff, Nat.reduceMul, Nat.reduceLT, afillE, List.replicate, g1, beq_self_eq_true]
        exact out_bool
      · have y1 : (water p - water D.1 - D.2.1 == m) = false := by simp; omega
        have y2 : decide (water p - water D.1 - D.2.1 ≥ 0) = true := decide_eq_true g1
        have y3 : decide (water p - water D.1 - D.2.1 < m) = true := decide_eq_true g2
        simp only [walk, wl, rgets, retv, argsEnv, ev, cst, cst1, cstL, AEnv.get, AEnv.trim, envput, qstep, abin, aun, evs, evo, deref, qload, target, if_true, if_false, Nat.reduceEqDiff, reduceIte, Nat.reduceAdd, AV.cells, AV.isTuple, setMany, alen, aiaddr, afill, Nat.reduceLeDiff, Nat.reduceMul, Nat.reduceLT, afillE, List.replicate, y1, y2, y3]
        rw [g3]
        simp only [walk, wl, rgets, retv, argsEnv, ev, cst, cst1, cstL, AEnv.get, AEnv.trim, envput, qstep, abin, aun, evs, evo, deref, qload, target, if_true, if_false, Nat.reduceEqDiff, reduceIte, Nat.reduceAdd, AV.cells, AV.isTuple, setMany, alen, aiaddr, afill, Nat.reduceLeDiff, Nat.reduceMul, Nat.reduceLT, afillE, List.replicate, rows, List.map_nil, List.length_nil, beq_self_eq_true, Int.ofNat_zero]
        exact out_bool
end Go.Proofs.YtmcndbldbemebaaDoor
