/- PackReady holds. -/
import Derived.Test.YtmcndbldbemebaaDoorQT6
import Derived.Test.YtmcndbldbemebaaDoorQE2
import Derived.Test.YtmcndbldbemebaaDoorQG3
set_option linter.unusedVariables false
set_option linter.unusedSimpArgs false
set_option linter.unusedSectionVars false
namespace Go.Proofs.YtmcndbldbemebaaDoor
open Go.Awp Go.Snow
set_option linter.unusedSimpArgs false
set_option linter.unusedVariables false
set_option linter.unusedSectionVars false
set_option maxRecDepth 10000
theorem amax' {a b : Int} : (if a < b then b else a) = max a b := by rw [Int.max_def]; split <;> split <;> omega
theorem PackReady_ok (p : List Lay) (m : Int) : PCall Tryd.prog 6 [.agg [.ro false (rows p)], I m] (.bool true) := by
  refine PCall.intro text6 (by simp) ?_
  unfold ir6
  simp only [walk, wl, rgets, retv, argsEnv, ev, cst, cst1, cstL, AEnv.get, AEnv.trim, envput, qstep, abin, aun, evs, evo, deref, qload, target, if_true, if_false, Nat.reduceEqDiff, reduceIte, Nat.reduceAdd, AV.cells, AV.isTuple, setMany, alen, aiaddr, afill, Nat.reduceLeDiff, Nat.reduceMul, Nat.reduceLT, afillE, List.replicate]
  refine call_pure sane_ok (frzL_of' (d := 4) rfl) ?_
  simp only [walk, wl, rgets, retv, argsEnv, ev, cst, cst1, cstL, AEnv.get, AEnv.trim, envput, qstep, abin, aun, evs, evo, deref, qload, target, if_true, if_false, Nat.reduceEqDiff, reduceIte, Nat.reduceAdd, AV.cells, AV.isTuple, setMany, alen, aiaddr, afill, Nat.reduceLeDiff, Nat.reduceMul, Nat.reduceLT, afillE, List.replicate]
  refine call_pure (Ready_ok p) (frzL_of' (d := 4) car_pkL) ?_
  cases hp : okP p with
  | false =>
    have e : readyV p = (0, 20) := by simp [readyV, hp]
    rw [e]
    simp only [walk, wl, rgets, retv, argsEnv, ev, cst, cst1, cstL, AEnv.get, AEnv.trim, envput, qstep, abin, aun, evs, evo, deref, qload, target, if_true, if_false, Nat.reduceEqDiff, reduceIte, Nat.reduceAdd, AV.cells, AV.isTuple, setMany, alen, aiaddr, afill, Nat.reduceLeDiff, Nat.reduceMul, Nat.reduceLT, afillE, List.replicate, Int.reduceBNe, beq_self_eq_true]
    refine call_pure (Check_ok p) (frzL_of' (d := 4) car_pkL) ?_
    rw [chk_no' hp]
    simp only [walk, wl, rgets, retv, argsEnv, ev, cst, cst1, cstL, AEnv.get, AEnv.trim, envput, qstep, abin, aun, evs, evo, deref, qload, target, if_true, if_false, Nat.reduceEqDiff, reduceIte, Nat.reduceAdd, AV.cells, AV.isTuple, setMany, alen, aiaddr, afill, Nat.reduceLeDiff, Nat.reduceMul, Nat.reduceLT, afillE, List.replicate, Int.reduceBNe]
    exact out_bool
  | true =>
    have e : readyV p = (roomL p, 0) := by simp [readyV, hp]
    have hf : Firm 1000000 p := firm_mono (okP_good hp) (by omega)
    have hr0 := roomL_nonneg hf.1
    obtain ⟨hlen, hR, -, -⟩ := okP_iff.1 hp
    have hr1 := (roomL_small hR p.length (Nat.le_refl _)).2
    rw [List.take_length] at hr1
    rw [e]
    simp only [walk, wl, rgets, retv, argsEnv, ev, cst, cst1, cstL, AEnv.get, AEnv.trim, envput, qstep, abin, aun, evs, evo, deref, qload, target, if_true, if_false, Nat.reduceEqDiff, reduceIte, Nat.reduceAdd, AV.cells, AV.isTuple, setMany, alen, aiaddr, afill, Nat.reduceLeDiff, Nat.reduceMul, Nat.reduceLT, afillE, List.replicate, bne_self_eq_false]
    refine call_pure (Apply_ok p 2 m 0) (frzL_of' (d := 4) (carL_cons car_pk rfl)) ?_
    unfold pkV
    obtain ⟨x, hx⟩ : ∃ x, x = applyV p 2 m 0 := ⟨_, rfl⟩
    rw [← hx]
    simp only [walk, wl, rgets, retv, argsEnv, ev, cst, cst1, cstL, AEnv.get, AEnv.trim, envput, qstep, abin, aun, evs, evo, deref, qload, target, if_true, if_false, Nat.reduceEqDiff, reduceIte, Nat.reduceAdd, AV.cells, AV.isTuple, setMany, alen, aiaddr, afill, Nat.reduceLeDiff, Nat.reduceMul, Nat.reduceLT, afillE, List.replicate]
    refine withBool_intro ?_ ?_ <;> intro q1 <;> simp only [walk, wl, rgets, retv, argsEnv, ev, cst, cst1, cstL, AEnv.get, AEnv.trim, envput, qstep, abin, aun, evs, evo, deref, qload, target, if_true, if_false, Nat.reduceEqDiff, reduceIte, Nat.reduceAdd, AV.cells, AV.isTuple, setMany, alen, aiaddr, afill, Nat.reduceLeDiff, Nat.reduceMul, Nat.reduceLT, afillE, List.replicate]
    · have q : x.2.2 = 2 ∨ x.2.2 = 21 := by
        have q1' : x.2.2 ≠ 0 := by simpa using q1
        rw [hx] at q1' ⊢
        simp only [applyV, hp, if_true] at q1' ⊢
        split at q1'
        · split at q1'
          · simp at q1'
          · rename_i h1 h2; simp [h1, h2]
        · rename_i h1; simp [h1]
      rcases q with q | q
      · rw [q]
        simp only [walk, wl, rgets, retv, argsEnv, ev, cst, cst1, cstL, AEnv.get, AEnv.trim, envput, qstep, abin, aun, evs, evo, deref, qload, target, if_true, if_false, Nat.reduceEqDiff, reduceIte, Nat.reduceAdd, AV.cells, AV.isTuple, setMany, alen, aiaddr, afill, Nat.reduceLeDiff, Nat.reduceMul, Nat.reduceLT, afillE, List.replicate, beq_self_eq_true]
        exact out_bool
      · rw [q]
        simp only [walk, wl, rgets, retv, argsEnv, ev, cst, cst1, cstL, AEnv.get, AEnv.trim, envput, qstep, abin, aun, evs, evo, deref, qload, target, if_true, if_false, Nat.reduceEqDiff, reduceIte, Nat.reduceAdd, AV.cells, AV.isTuple, setMany, alen, aiaddr, afill, Nat.reduceLeDiff, Nat.reduceMul, Nat.reduceLT, afillE, List.replicate, Int.reduceBEq]
        exact out_bool
    · have q1' : x.2.2 = 0 := by simpa using q1
      obtain ⟨-, o2, -, f1⟩ := applyV_ok (hx ▸ q1')
      rw [← hx] at f1
      obtain ⟨s1, s2, s3⟩ := okS_iff.1 o2
      have hran : x.2.1 = max 0 (m - roomL p) := by
        rw [f1]
        have := pour_out hf.1 m.toNat
        rw [Int.toNat_of_nonneg s2.1] at this
        simp [doS, this]
      have e1 : IntKind.i64.wrap (m - roomL p) = m - roomL p := wrap_id (by omega) (by omega)
      have e2 : decide (roomL p ≥ 0) = true := decide_eq_true hr0
      simp only [walk, wl, rgets, retv, argsEnv, ev, cst, cst1, cstL, AEnv.get, AEnv.trim, envput, qstep, abin, aun, evs, evo, deref, qload, target, if_true, if_false, Nat.reduceEqDiff, reduceIte, Nat.reduceAdd, AV.cells, AV.isTuple, setMany, alen, aiaddr, afill, Nat.reduceLeDiff, Nat.reduceMul, Nat.reduceLT, afillE, List.replicate, e1, e2, amm, amm.go, amax', hran, beq_self_eq_true]
      exact out_bool
end Go.Proofs.YtmcndbldbemebaaDoor
