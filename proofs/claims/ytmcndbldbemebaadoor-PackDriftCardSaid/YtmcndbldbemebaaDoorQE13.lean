/- PackDrift holds. -/
import Derived.Test.YtmcndbldbemebaaDoorQT13
import Derived.Test.YtmcndbldbemebaaDoorQE2
import Derived.Test.YtmcndbldbemebaaDoorQE5
set_option linter.unusedVariables false
set_option linter.unusedSimpArgs false
set_option linter.unusedSectionVars false
namespace Go.Proofs.YtmcndbldbemebaaDoor
open Go.Awp Go.Snow
set_option linter.unusedSimpArgs false
set_option linter.unusedVariables false
set_option linter.unusedSectionVars false
set_option maxRecDepth 10000
theorem driftV_fail {p q : List Lay} {m : Int} (h : (driftV p q m).2.2 ≠ 0) : (driftV p q m).1 = [] ∧ (driftV p q m).2.1 = [] := by
  unfold driftV at h ⊢
  by_cases c1 : (okP p && okP q) = true
  · rw [if_pos c1] at h ⊢
    by_cases c2 : 0 ≤ m ∧ m ≤ 65536
    · rw [if_pos c2] at h ⊢
      by_cases c3 : okP (times loss1 m.toNat p).1 = true
      · rw [if_pos c3] at h ⊢
        by_cases c4 : (applyV q 1 (taken loss1 m.toNat p) 0).2.2 = 0
        · rw [if_pos c4] at h
          exact absurd rfl h
        · rw [if_neg c4]; exact ⟨rfl, rfl⟩
      · rw [if_neg c3]; exact ⟨rfl, rfl⟩
    · rw [if_neg c2]; exact ⟨rfl, rfl⟩
  · rw [if_neg c1]; exact ⟨rfl, rfl⟩
theorem driftV_ok {p q : List Lay} {m : Int} (h : (driftV p q m).2.2 = 0) : okP p = true ∧ okP q = true ∧ (0 ≤ m ∧ m ≤ 65536) ∧ okP (times loss1 m.toNat p).1 = true ∧ (applyV q 1 (taken loss1 m.toNat p) 0).2.2 = 0 ∧
    driftV p q m = ((times loss1 m.toNat p).1, (applyV q 1 (taken loss1 m.toNat p) 0).1, 0) := by
  unfold driftV at h ⊢
  repeat' split at h
  all_goals simp_all
theorem PackDrift_ok (p q : List Lay) (m : Int) : PCall Tryd.prog 13 [.agg [.ro false (rows p)], .agg [.ro false (rows q)], I m] (.bool true) := by
  refine PCall.intro text13 (by simp) ?_
  unfold ir13
  simp only [walk, wl, rgets, retv, argsEnv, ev, cst, cst1, cstL, AEnv.get, AEnv.trim, envput, qstep, abin, aun, evs, evo, deref, qload, target, if_true, if_false, Nat.reduceEqDiff, reduceIte, Nat.reduceAdd, AV.cells, AV.isTuple, setMany, alen, aiaddr, afill, Nat.reduceLeDiff, Nat.reduceMul, Nat.reduceLT, afillE, List.replicate]
  refine call_pure sane_ok (frzL_of' (d := 4) rfl) ?_
  simp only [walk, wl, rgets, retv, argsEnv, ev, cst, cst1, cstL, AEnv.get, AEnv.trim, envput, qstep, abin, aun, evs, evo, deref, qload, target, if_true, if_false, Nat.reduceEqDiff, reduceIte, Nat.reduceAdd, AV.cells, AV.isTuple, setMany, alen, aiaddr, afill, Nat.reduceLeDiff, Nat.reduceMul, Nat.reduceLT, afillE, List.replicate]
  refine call_pure (Drift_ok p q m) (frzL_of' (d := 4) (carL_cons car_pk (carL_cons car_pk rfl))) ?_
  obtain ⟨r, hr⟩ : ∃ r, r = driftV p q m := ⟨_, rfl⟩
  rw [← hr]
  simp only [walk, wl, rgets, retv, argsEnv, ev, cst, cst1, cstL, AEnv.get, AEnv.trim, envput, qstep, abin, aun, evs, evo, deref, qload, target, if_true, if_false, Nat.reduceEqDiff, reduceIte, Nat.reduceAdd, AV.cells, AV.isTuple, setMany, alen, aiaddr, afill, Nat.reduceLeDiff, Nat.reduceMul, Nat.reduceLT, afillE, List.replicate]
  refine withBool_intro ?_ ?_ <;> intro h <;> simp only [walk, wl, rgets, retv, argsEnv, ev, cst, cst1, cstL, AEnv.get, AEnv.trim, envput, qstep, abin, aun, evs, evo, deref, qload, target, if_true, if_false, Nat.reduceEqDiff, reduceIte, Nat.reduceAdd, AV.cells, AV.isTuple, setMany, alen, aiaddr, afill, Nat.reduceLeDiff, Nat.reduceMul, Nat.reduceLT, afillE, List.replicate]
  · have h1 : r.2.2 ≠ 0 := by simpa using h
    obtain ⟨e1, e2⟩ := driftV_fail (hr ▸ h1)
    rw [← hr] at e1 e2
    rw [e1, e2]
    simp only [walk, wl, rgets, retv, argsEnv, ev, cst, cst1, cstL, AEnv.get, AEnv.trim, envput, qstep, abin, aun, evs, evo, deref, qload, target, if_true, if_false, Nat.reduceEqDiff, reduceIte, Nat.reduceAdd, AV.cells, AV.isTuple, setMany, alen, aiaddr, afill, Nat.reduceLeDiff, Nat.reduceMul, Nat.reduceLT, afillE, List.replicate, rows, List.map_nil, List.length_nil, beq_self_eq_true, Int.ofNat_zero]
    exact out_bool
  · have h1 : r.2.2 = 0 := by simpa using h
    obtain ⟨o1, o2, hm, o3, o4, o5⟩ := driftV_ok (hr ▸ h1)
    rw [← hr] at o5
    obtain ⟨T, hT⟩ : ∃ T, T = (times loss1 m.toNat p).1 := ⟨_, rfl⟩
    obtain ⟨t, ht⟩ : ∃ t, t = taken loss1 m.toNat p := ⟨_, rfl⟩
    obtain ⟨f, hf⟩ : ∃ f, f = (times loss1 m.toNat p).2 := ⟨_, rfl⟩
    have hfp : Firm 1000000 p := firm_mono (okP_good o1) (by omega)
    obtain ⟨w1, w2, -⟩ := times_loss_water m.toNat hfp
    have tl := taken_le loss1 m.toNat p
    rw [← ht] at o4 o5 w1 tl
    rw [← hT] at o3 o5 w1
    rw [← hf] at w1 w2
    obtain ⟨-, a2, a3, a4⟩ := applyV_ok o4
    have hfq : Firm 1000000 q := firm_mono (okP_good o2) (by omega)
    obtain ⟨-, v1, -⟩ := doS_water (k := 1) (m := t) (c := 0) hfq ⟨by omega, by omega, by omega⟩
    have v1 := (v1 rfl).1
    obtain ⟨Q, hQ⟩ : ∃ Q, Q = (doS 1 t 0 q).1 := ⟨_, rfl⟩
    rw [a4] at o5
    rw [← hQ] at a3 o5 v1
    rw [o5]
    have b1 := (okP_iff.1 o1).2.2.1
    have b2 := (okP_iff.1 o2).2.2.1
    have b3 := (okP_iff.1 o3).2.2.1
    have b4 := (okP_iff.1 a3).2.2.1
    have n1 := water_nonneg' (okP_good o1)
    have n2 := water_nonneg' (okP_good o2)
    have n3 := water_nonneg' (okP_good o3)
    have n4 := water_nonneg' (okP_good a3)
    have ea : applyV p 6 m 0 = (T, f, 0) := by
      have hs : okS 6 m 0 = true := okS_iff.2 ⟨by omega, hm, by omega⟩
      have hd : doS 6 m 0 p = (T, f, t) := by simp [doS, ← hT, ← hf, ← ht]
      simp only [applyV, o1, hs, hd, o3, if_true]
    simp only [walk, wl, rgets, retv, argsEnv, ev, cst, cst1, cstL, AEnv.get, AEnv.trim, envput, qstep, abin, aun, evs, evo, deref, qload, target, if_true, if_false, Nat.reduceEqDiff, reduceIte, Nat.reduceAdd, AV.cells, AV.isTuple, setMany, alen, aiaddr, afill, Nat.reduceLeDiff, Nat.reduceMul, Nat.reduceLT, afillE, List.replicate]
    refine call_pure (Apply_ok p 6 m 0) (frzL_of' (d := 4) (carL_cons car_pk rfl)) ?_
    unfold pkV
    rw [ea]
    simp only [walk, wl, rgets, retv, argsEnv, ev, cst, cst1, cstL, AEnv.get, AEnv.trim, envput, qstep, abin, aun, evs, evo, deref, qload, target, if_true, if_false, Nat.reduceEqDiff, reduceIte, Nat.reduceAdd, AV.cells, AV.isTuple, setMany, alen, aiaddr, afill, Nat.reduceLeDiff, Nat.reduceMul, Nat.reduceLT, afillE, List.replicate]
    refine call_pure (Water_ok p) (frzL_of' (d := 4) car_pkL) ?_
    rw [show waterV p = (water p, 0) by simp [waterV, o1]]
    simp only [walk, wl, rgets, retv, argsEnv, ev, cst, cst1, cstL, AEnv.get, AEnv.trim, envput, qstep, abin, aun, evs, evo, deref, qload, target, if_true, if_false, Nat.reduceEqDiff, reduceIte, Nat.reduceAdd, AV.cells, AV.isTuple, setMany, alen, aiaddr, afill, Nat.reduceLeDiff, Nat.reduceMul, Nat.reduceLT, afillE, List.replicate]
    refine call_pure (Water_ok q) (frzL_of' (d := 4) car_pkL) ?_
    rw [show waterV q = (water q, 0) by simp [waterV, o2]]
    simp only [walk, wl, rgets, retv, argsEnv, ev, cst, cst1, cstL, AEnv.get, AEnv.trim, envput, qstep, abin, aun, evs, evo, deref, qload, target, if_true, if_false, Nat.reduceEqDiff, reduceIte, Nat.reduceAdd, AV.cells, AV.isTuple, setMany, alen, aiaddr, afill, Nat.reduceLeDiff, Nat.reduceMul, Nat.reduceLT, afillE, List.replicate]
    refine call_pure (Water_ok T) (frzL_of' (d := 4) car_pkL) ?_
    rw [show waterV T = (water T, 0) by simp [waterV, o3]]
    simp only [walk, wl, rgets, retv, argsEnv, ev, cst, cst1, cstL, AEnv.get, AEnv.trim, envput, qstep, abin, aun, evs, evo, deref, qload, target, if_true, if_false, Nat.reduceEqDiff, reduceIte, Nat.reduceAdd, AV.cells, AV.isTuple, setMany, alen, aiaddr, afill, Nat.reduceLeDiff, Nat.reduceMul, Nat.reduceLT, afillE, List.replicate]
    refine call_pure (Water_ok Q) (frzL_of' (d := 4) car_pkL) ?_
    rw [show waterV Q = (water Q, 0) by simp [waterV, a3]]
    simp only [walk, wl, rgets, retv, argsEnv, ev, cst, cst1, cstL, AEnv.get, AEnv.trim, envput, qstep, abin, aun, evs, evo, deref, qload, target, if_true, if_false, Nat.reduceEqDiff, reduceIte, Nat.reduceAdd, AV.cells, AV.isTuple, setMany, alen, aiaddr, afill, Nat.reduceLeDiff, Nat.reduceMul, Nat.reduceLT, afillE, List.replicate, beq_self_eq_true]
    refine call_pure (same_t (a := T) (by have := (okP_iff.1 o3).1; omega)) (frzL_of' (d := 4) (carL_cons car_pk car_pkL)) ?_
    have x1 : IntKind.i64.wrap (water T + water Q) = water T + water Q := wrap_id (by omega) (by omega)
    have x2 : IntKind.i64.wrap (water T + water Q + f) = water p + water q := by rw [wrap_id (by omega) (by omega)]; omega
    have x3 : IntKind.i64.wrap (water p + water q) = water p + water q := wrap_id (by omega) (by omega)
    simp only [walk, wl, rgets, retv, argsEnv, ev, cst, cst1, cstL, AEnv.get, AEnv.trim, envput, qstep, abin, aun, evs, evo, deref, qload, target, if_true, if_false, Nat.reduceEqDiff, reduceIte, Nat.reduceAdd, AV.cells, AV.isTuple, setMany, alen, aiaddr, afill, Nat.reduceLeDiff, Nat.reduceMul, Nat.reduceLT, afillE, List.replicate, x1, x2, x3, beq_self_eq_true]
    exact out_bool
end Go.Proofs.YtmcndbldbemebaaDoor
