/- PackParts holds. -/
import Derived.Test.YtmcndbldbemebaaDoorQT5
import Derived.Test.YtmcndbldbemebaaDoorQE2
import Derived.Test.YtmcndbldbemebaaDoorQG3
set_option linter.unusedVariables false
set_option linter.unusedSimpArgs false
set_option linter.unusedSectionVars false
namespace Go.Proofs.YtmcndbldbemebaaDoor
open Go.Awp Go.Snow
set_option linter.unusedSimpArgs false
set_option linter.unusedVariables false
set_option linter.unusedSectionVars false
set_option maxRecDepth 10000
theorem applyV_small {p : List Lay} {k m c : Int} : 0 ≤ (applyV p k m c).2.1 ∧ (applyV p k m c).2.1 ≤ 200000 := by
  by_cases h : (applyV p k m c).2.2 = 0
  · obtain ⟨o1, o2, o3, o4⟩ := applyV_ok h
    obtain ⟨s1, s2, s3⟩ := okS_iff.1 o2
    have hf : Firm 1000000 p := firm_mono (okP_good o1) (by omega)
    obtain ⟨w0, w1, w2, w3, w4, w5⟩ := doS_water (k := k) (m := m) (c := c) hf ⟨s1.1, s1.2, s2.1⟩
    have b1 := (okP_iff.1 o1).2.2.1
    have n2 := water_nonneg' (okP_good o3)
    rw [o4]
    simp only
    have hk : k = 1 ∨ k = 2 ∨ k = 3 ∨ k = 4 ∨ (k = 5 ∨ k = 6) := by omega
    rcases hk with hk | hk | hk | hk | hk
    · have := w1 hk; omega
    · have := w2 hk; omega
    · have := w3 hk; omega
    · have := w4 hk; omega
    · have := w5 hk; omega
  · rw [(applyV_fail h).2]; omega
theorem PackParts_ok (p : List Lay) (k a b : Int) : PCall Tryd.prog 5 [.agg [.ro false (rows p)], I k, I a, I b] (.bool true) := by
  refine PCall.intro text5 (by simp) ?_
  unfold ir5
  simp only [walk, wl, rgets, retv, argsEnv, ev, cst, cst1, cstL, AEnv.get, AEnv.trim, envput, qstep, abin, aun, evs, evo, deref, qload, target, if_true, if_false, Nat.reduceEqDiff, reduceIte, Nat.reduceAdd, AV.cells, AV.isTuple, setMany, alen, aiaddr, afill, Nat.reduceLeDiff, Nat.reduceMul, Nat.reduceLT, afillE, List.replicate]
  refine call_pure sane_ok (frzL_of' (d := 4) rfl) ?_
  simp only [walk, wl, rgets, retv, argsEnv, ev, cst, cst1, cstL, AEnv.get, AEnv.trim, envput, qstep, abin, aun, evs, evo, deref, qload, target, if_true, if_false, Nat.reduceEqDiff, reduceIte, Nat.reduceAdd, AV.cells, AV.isTuple, setMany, alen, aiaddr, afill, Nat.reduceLeDiff, Nat.reduceMul, Nat.reduceLT, afillE, List.replicate]
  refine withGuard_intro ?_ ?_ <;> intro g1 <;> simp only [walk, wl, rgets, retv, argsEnv, ev, cst, cst1, cstL, AEnv.get, AEnv.trim, envput, qstep, abin, aun, evs, evo, deref, qload, target, if_true, if_false, Nat.reduceEqDiff, reduceIte, Nat.reduceAdd, AV.cells, AV.isTuple, setMany, alen, aiaddr, afill, Nat.reduceLeDiff, Nat.reduceMul, Nat.reduceLT, afillE, List.replicate, g1]
  · refine withGuard_intro ?_ ?_ <;> intro g2 <;> simp only [walk, wl, rgets, retv, argsEnv, ev, cst, cst1, cstL, AEnv.get, AEnv.trim, envput, qstep, abin, aun, evs, evo, deref, qload, target, if_true, if_false, Nat.reduceEqDiff, reduceIte, Nat.reduceAdd, AV.cells, AV.isTuple, setMany, alen, aiaddr, afill, Nat.reduceLeDiff, Nat.reduceMul, Nat.reduceLT, afillE, List.replicate, g2]
    · refine withGuard_intro ?_ ?_ <;> intro g3 <;> simp only [walk, wl, rgets, retv, argsEnv, ev, cst, cst1, cstL, AEnv.get, AEnv.trim, envput, qstep, abin, aun, evs, evo, deref, qload, target, if_true, if_false, Nat.reduceEqDiff, reduceIte, Nat.reduceAdd, AV.cells, AV.isTuple, setMany, alen, aiaddr, afill, Nat.reduceLeDiff, Nat.reduceMul, Nat.reduceLT, afillE, List.replicate, g3]
      · refine withGuard_intro ?_ ?_ <;> intro g4 <;> simp only [walk, wl, rgets, retv, argsEnv, ev, cst, cst1, cstL, AEnv.get, AEnv.trim, envput, qstep, abin, aun, evs, evo, deref, qload, target, if_true, if_false, Nat.reduceEqDiff, reduceIte, Nat.reduceAdd, AV.cells, AV.isTuple, setMany, alen, aiaddr, afill, Nat.reduceLeDiff, Nat.reduceMul, Nat.reduceLT, afillE, List.replicate, g4]
        · refine withGuard_intro ?_ ?_ <;> intro g5 <;> simp only [walk, wl, rgets, retv, argsEnv, ev, cst, cst1, cstL, AEnv.get, AEnv.trim, envput, qstep, abin, aun, evs, evo, deref, qload, target, if_true, if_false, Nat.reduceEqDiff, reduceIte, Nat.reduceAdd, AV.cells, AV.isTuple, setMany, alen, aiaddr, afill, Nat.reduceLeDiff, Nat.reduceMul, Nat.reduceLT, afillE, List.replicate, g5]
          · refine withBool_intro ?_ ?_ <;> intro g6 <;> simp only [walk, wl, rgets, retv, argsEnv, ev, cst, cst1, cstL, AEnv.get, AEnv.trim, envput, qstep, abin, aun, evs, evo, deref, qload, target, if_true, if_false, Nat.reduceEqDiff, reduceIte, Nat.reduceAdd, AV.cells, AV.isTuple, setMany, alen, aiaddr, afill, Nat.reduceLeDiff, Nat.reduceMul, Nat.reduceLT, afillE, List.replicate, g6]
            · exact out_bool
            · have h1 := of_decide_eq_false g1
              have h2 := of_decide_eq_false g2
              have h3 := of_decide_eq_false g3
              have h4 := of_decide_eq_false g4
              have h5 := of_decide_eq_false g5
              have h6 := of_decide_eq_false g6
              refine call_pure (Apply_ok p k a 0) (frzL_of' (d := 4) (carL_cons car_pk rfl)) ?_
              unfold pkV
              obtain ⟨x, hx⟩ : ∃ x, x = applyV p k a 0 := ⟨_, rfl⟩
              rw [← hx]
              simp only [walk, wl, rgets, retv, argsEnv, ev, cst, cst1, cstL, AEnv.get, AEnv.trim, envput, qstep, abin, aun, evs, evo, deref, qload, target, if_true, if_false, Nat.reduceEqDiff, reduceIte, Nat.reduceAdd, AV.cells, AV.isTuple, setMany, alen, aiaddr, afill, Nat.reduceLeDiff, Nat.reduceMul, Nat.reduceLT, afillE, List.replicate]
              refine withBool_intro ?_ ?_ <;> intro q1 <;> simp only [walk, wl, rgets, retv, argsEnv, ev, cst, cst1, cstL, AEnv.get, AEnv.trim, envput, qstep, abin, aun, evs, evo, deref, qload, target, if_true, if_false, Nat.reduceEqDiff, reduceIte, Nat.reduceAdd, AV.cells, AV.isTuple, setMany, alen, aiaddr, afill, Nat.reduceLeDiff, Nat.reduceMul, Nat.reduceLT, afillE, List.replicate]
              · exact out_bool
              · have q1' : x.2.2 = 0 := by simpa using q1
                refine call_pure (Apply_ok x.1 k b 0) (frzL_of' (d := 4) (carL_cons car_pk rfl)) ?_
                unfold pkV
                obtain ⟨y, hy⟩ : ∃ y, y = applyV x.1 k b 0 := ⟨_, rfl⟩
                rw [← hy]
                have e1 : IntKind.i64.wrap (a + b) = a + b := wrap_id (by omega) (by omega)
                simp only [walk, wl, rgets, retv, argsEnv, ev, cst, cst1, cstL, AEnv.get, AEnv.trim, envput, qstep, abin, aun, evs, evo, deref, qload, target, if_true, if_false, Nat.reduceEqDiff, reduceIte, Nat.reduceAdd, AV.cells, AV.isTuple, setMany, alen, aiaddr, afill, Nat.reduceLeDiff, Nat.reduceMul, Nat.reduceLT, afillE, List.replicate, e1]
                refine call_pure (Apply_ok p k (a + b) 0) (frzL_of' (d := 4) (carL_cons car_pk rfl)) ?_
                unfold pkV
                obtain ⟨z, hz⟩ : ∃ z, z = applyV p k (a + b) 0 := ⟨_, rfl⟩
                rw [← hz]
                simp only [walk, wl, rgets, retv, argsEnv, ev, cst, cst1, cstL, AEnv.get, AEnv.trim, envput, qstep, abin, aun, evs, evo, deref, qload, target, if_true, if_false, Nat.reduceEqDiff, reduceIte, Nat.reduceAdd, AV.cells, AV.isTuple, setMany, alen, aiaddr, afill, Nat.reduceLeDiff, Nat.reduceMul, Nat.reduceLT, afillE, List.replicate]
                refine withGuard_intro ?_ ?_ <;> intro q2 <;> simp only [walk, wl, rgets, retv, argsEnv, ev, cst, cst1, cstL, AEnv.get, AEnv.trim, envput, qstep, abin, aun, evs, evo, deref, qload, target, if_true, if_false, Nat.reduceEqDiff, reduceIte, Nat.reduceAdd, AV.cells, AV.isTuple, setMany, alen, aiaddr, afill, Nat.reduceLeDiff, Nat.reduceMul, Nat.reduceLT, afillE, List.replicate, q2]
                · refine withBool_intro ?_ ?_ <;> intro q3 <;> simp only [walk, wl, rgets, retv, argsEnv, ev, cst, cst1, cstL, AEnv.get, AEnv.trim, envput, qstep, abin, aun, evs, evo, deref, qload, target, if_true, if_false, Nat.reduceEqDiff, reduceIte, Nat.reduceAdd, AV.cells, AV.isTuple, setMany, alen, aiaddr, afill, Nat.reduceLeDiff, Nat.reduceMul, Nat.reduceLT, afillE, List.replicate]
                  · exact out_bool
                  · have q2' : y.2.2 = 0 := by simpa using q2
                    have q3' : z.2.2 = 0 := by simpa using q3
                    obtain ⟨-, -, -, f1⟩ := applyV_ok (hx ▸ q1')
                    obtain ⟨-, -, -, f2⟩ := applyV_ok (hy ▸ q2')
                    obtain ⟨-, -, -, f3⟩ := applyV_ok (hz ▸ q3')
                    have l3 := @applyV_len k (a + b) 0 p
                    have s1 := @applyV_small p k a 0
                    have s2 := @applyV_small x.1 k b 0
                    rw [← hx] at f1 s1
                    rw [← hy] at f2 s2
                    rw [← hz] at f3 l3
                    obtain ⟨d1, d2⟩ := doS_add (k := k) (a := a) (b := b) p ⟨by omega, by omega⟩ (by omega) (by omega)
                    have exy : y.1 = z.1 := by rw [f3, f2, f1]; exact d1.symm
                    have exr : x.2.1 + y.2.1 = z.2.1 := by rw [f3, f2, f1]; exact d2.symm
                    rw [exy]
                    refine call_pure (same_t (a := z.1) (by omega)) (frzL_of' (d := 4) (carL_cons car_pk car_pkL)) ?_
                    have e2 : IntKind.i64.wrap (x.2.1 + y.2.1) = z.2.1 := by rw [← exr]; exact wrap_id (by omega) (by omega)
                    simp only [walk, wl, rgets, retv, argsEnv, ev, cst, cst1, cstL, AEnv.get, AEnv.trim, envput, qstep, abin, aun, evs, evo, deref, qload, target, if_true, if_false, Nat.reduceEqDiff, reduceIte, Nat.reduceAdd, AV.cells, AV.isTuple, setMany, alen, aiaddr, afill, Nat.reduceLeDiff, Nat.reduceMul, Nat.reduceLT, afillE, List.replicate, e2, beq_self_eq_true]
                    exact out_bool
                · exact out_bool
          · exact out_bool
        · exact out_bool
      · exact out_bool
    · exact out_bool
  · exact out_bool
end Go.Proofs.YtmcndbldbemebaaDoor
