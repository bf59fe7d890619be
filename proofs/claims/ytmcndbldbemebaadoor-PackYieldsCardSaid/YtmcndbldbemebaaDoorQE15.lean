/- PackYields holds. -/
import Derived.Test.YtmcndbldbemebaaDoorQT15
import Derived.Test.YtmcndbldbemebaaDoorQE2
import Derived.Test.YtmcndbldbemebaaDoorQG5
set_option linter.unusedVariables false
set_option linter.unusedSimpArgs false
set_option linter.unusedSectionVars false
namespace Go.Proofs.YtmcndbldbemebaaDoor
open Go.Awp Go.Snow
set_option linter.unusedSimpArgs false
set_option linter.unusedVariables false
set_option linter.unusedSectionVars false
set_option maxRecDepth 10000
theorem yieldV_ok {p : List Lay} {m : Int} (hp : okP p = true) (hm : 0 ≤ m ∧ m ≤ 65536) : yieldV p m = ((times melt1 m.toNat p).2, 0) := by simp [yieldV, hp, hm]
theorem yieldV_nat {p : List Lay} {k : Nat} (hp : okP p = true) (hm : k ≤ 65536) : yieldV p (k : Int) = ((times melt1 k p).2, 0) := by
  rw [yieldV_ok hp (by omega)]; simp
theorem yieldV_err {p : List Lay} {m : Int} (h : ¬ (okP p = true ∧ (0 ≤ m ∧ m ≤ 65536))) : (yieldV p m).1 = 0 ∧ (yieldV p m).2 ≠ 0 := by
  unfold yieldV
  by_cases c1 : okP p = true
  · rw [if_pos c1, if_neg fun h2 => h ⟨c1, h2⟩]; simp
  · rw [if_neg c1]; simp
set_option maxHeartbeats 8000000 in
theorem PackYields_ok (p : List Lay) (m mo o : Int) : PCall Tryd.prog 15 [.agg [.ro false (rows p)], I m, I mo, I o] (.bool true) := by
  refine PCall.intro text15 (by simp) ?_
  unfold ir15
  simp only [walk, wl, rgets, retv, argsEnv, ev, cst, cst1, cstL, AEnv.get, AEnv.trim, envput, qstep, abin, aun, evs, evo, deref, qload, target, if_true, if_false, Nat.reduceEqDiff, reduceIte, Nat.reduceAdd, AV.cells, AV.isTuple, setMany, alen, aiaddr, afill, Nat.reduceLeDiff, Nat.reduceMul, Nat.reduceLT, afillE, List.replicate]
  refine call_pure sane_ok (frzL_of' (d := 4) rfl) ?_
  simp only [walk, wl, rgets, retv, argsEnv, ev, cst, cst1, cstL, AEnv.get, AEnv.trim, envput, qstep, abin, aun, evs, evo, deref, qload, target, if_true, if_false, Nat.reduceEqDiff, reduceIte, Nat.reduceAdd, AV.cells, AV.isTuple, setMany, alen, aiaddr, afill, Nat.reduceLeDiff, Nat.reduceMul, Nat.reduceLT, afillE, List.replicate]
  refine call_pure (Yield_ok p m) (frzL_of' (d := 4) (carL_cons car_pk rfl)) ?_
  by_cases hok : okP p = true ∧ (0 ≤ m ∧ m ≤ 65536)
  · obtain ⟨hp, hm⟩ := hok
    have hf : Firm 1000000 p := firm_mono (okP_good hp) (by omega)
    have hw := times_melt_water m.toNat hf
    have hQ := melt_okP hp m.toNat
    have hQw := water_nonneg' (okP_good hQ)
    obtain ⟨n, hn⟩ : ∃ n, n = (times melt1 m.toNat p).2 := ⟨_, rfl⟩
    obtain ⟨Q, eQ⟩ : ∃ Q, Q = (times melt1 m.toNat p).1 := ⟨_, rfl⟩
    have hap : applyV p 3 m 0 = (Q, n, 0) := by
      have hs : okS 3 m 0 = true := okS_iff.2 ⟨by omega, hm, by omega⟩
      have hd : doS 3 m 0 p = (Q, n, 0) := by simp [doS, ← hn, ← eQ]
      rw [← eQ] at hQ
      simp only [applyV, hp, hs, hd, hQ, if_true]
    rw [yieldV_ok hp hm, ← hn]
    rw [← hn, ← eQ] at hw
    rw [← eQ] at hQ hQw
    simp only [walk, wl, rgets, retv, argsEnv, ev, cst, cst1, cstL, AEnv.get, AEnv.trim, envput, qstep, abin, aun, evs, evo, deref, qload, target, if_true, if_false, Nat.reduceEqDiff, reduceIte, Nat.reduceAdd, AV.cells, AV.isTuple, setMany, alen, aiaddr, afill, Nat.reduceLeDiff, Nat.reduceMul, Nat.reduceLT, afillE, List.replicate, bne_self_eq_false]
    refine call_pure (Apply_ok p 3 m 0) (frzL_of' (d := 4) (carL_cons car_pk rfl)) ?_
    unfold pkV
    rw [hap]
    simp only [walk, wl, rgets, retv, argsEnv, ev, cst, cst1, cstL, AEnv.get, AEnv.trim, envput, qstep, abin, aun, evs, evo, deref, qload, target, if_true, if_false, Nat.reduceEqDiff, reduceIte, Nat.reduceAdd, AV.cells, AV.isTuple, setMany, alen, aiaddr, afill, Nat.reduceLeDiff, Nat.reduceMul, Nat.reduceLT, afillE, List.replicate]
    refine call_pure (Water_ok p) (frzL_of' (d := 4) car_pkL) ?_
    rw [show waterV p = (water p, 0) by simp [waterV, hp]]
    have d1 : decide (n > water p) = false := decide_eq_false (by omega)
    have cases3 : (((yieldV p mo).2 == 0) = false ∧ True ∧ True ∧ True ∧ True) ∨ (((yieldV p mo).2 == 0) = true ∧ decide (mo ≥ m) = true ∧ decide ((yieldV p mo).1 < n) = false ∧ decide (mo ≤ m) = true ∧ decide ((yieldV p mo).1 > n) = false) ∨
        (((yieldV p mo).2 == 0) = true ∧ decide (mo ≥ m) = true ∧ decide ((yieldV p mo).1 < n) = false ∧ decide (mo ≤ m) = false ∧ True) ∨ (((yieldV p mo).2 == 0) = true ∧ decide (mo ≥ m) = false ∧ True ∧ decide (mo ≤ m) = true ∧ decide ((yieldV p mo).1 > n) = false) := by
      by_cases ho : 0 ≤ mo ∧ mo ≤ 65536
      · right
        rw [yieldV_ok hp ho, hn]
        have a1 : m ≤ mo → (times melt1 m.toNat p).2 ≤ (times melt1 mo.toNat p).2 := fun h => melt_mono hp (by omega)
        have a2 : mo ≤ m → (times melt1 mo.toNat p).2 ≤ (times melt1 m.toNat p).2 := fun h => melt_mono hp (by omega)
        by_cases g1 : mo ≥ m
        · have b1 := a1 g1
          by_cases g2 : mo ≤ m
          · have b2 := a2 g2
            exact .inl ⟨rfl, decide_eq_true g1, decide_eq_false (by omega), decide_eq_true g2, decide_eq_false (by omega)⟩
          · exact .inr (.inl ⟨rfl, decide_eq_true g1, decide_eq_false (by omega), decide_eq_false g2, trivial⟩)
        · have b2 := a2 (by omega)
          exact .inr (.inr ⟨rfl, decide_eq_false g1, trivial, decide_eq_true (by omega), decide_eq_false (by omega)⟩)
      · refine .inl ⟨?_, trivial, trivial, trivial, trivial⟩
        have := (yieldV_err (p := p) (m := mo) fun h => ho h.2).2
        simpa using this
    have dl : (((Q.length : Nat) : Int) == 0) = false ∧ True ∨ (((Q.length : Nat) : Int) == 0) = true ∧ (n != water p) = false := by
      cases hq : (((Q.length : Nat) : Int) == 0) with
      | false => exact .inl ⟨rfl, trivial⟩
      | true =>
        have hq0 : Q = [] := List.eq_nil_of_length_eq_zero (by simpa using hq)
        rw [hq0] at hw
        simp only [water] at hw
        refine .inr ⟨rfl, ?_⟩
        simp; omega
    rcases dl with ⟨k1, k2⟩ | ⟨k1, k2⟩
    all_goals
      simp only [walk, wl, rgets, retv, argsEnv, ev, cst, cst1, cstL, AEnv.get, AEnv.trim, envput, qstep, abin, aun, evs, evo, deref, qload, target, if_true, if_false, Nat.reduceEqDiff, reduceIte, Nat.reduceAdd, AV.cells, AV.isTuple, setMany, alen, aiaddr, afill, Nat.reduceLeDiff, Nat.reduceMul, Nat.reduceLT, afillE, List.replicate, bne_self_eq_false, d1, rows_length, k1, k2]
      refine call_pure (Yield_ok p mo) (frzL_of' (d := 4) (carL_cons car_pk rfl)) ?_
      simp only [walk, wl, rgets, retv, argsEnv, ev, cst, cst1, cstL, AEnv.get, AEnv.trim, envput, qstep, abin, aun, evs, evo, deref, qload, target, if_true, if_false, Nat.reduceEqDiff, reduceIte, Nat.reduceAdd, AV.cells, AV.isTuple, setMany, alen, aiaddr, afill, Nat.reduceLeDiff, Nat.reduceMul, Nat.reduceLT, afillE, List.replicate]
      rcases cases3 with ⟨c1, c2, c3, c4, c5⟩ | ⟨c1, c2, c3, c4, c5⟩ | ⟨c1, c2, c3, c4, c5⟩ | ⟨c1, c2, c3, c4, c5⟩
    all_goals
      simp only [walk, wl, rgets, retv, argsEnv, ev, cst, cst1, cstL, AEnv.get, AEnv.trim, envput, qstep, abin, aun, evs, evo, deref, qload, target, if_true, if_false, Nat.reduceEqDiff, reduceIte, Nat.reduceAdd, AV.cells, AV.isTuple, setMany, alen, aiaddr, afill, Nat.reduceLeDiff, Nat.reduceMul, Nat.reduceLT, afillE, List.replicate, c1, c2, c3, c4, c5]
      refine call_pure (Enough_ok p o) (frzL_of' (d := 4) (carL_cons car_pk rfl)) ?_
      by_cases ho : 0 ≤ o ∧ o ≤ 65536
      · have he : enoughV p o = ((search p o 65537 0).1, (search p o 65537 0).2, 0) := by simp only [enoughV, hp, ho, if_true, and_self]
        rcases search_spec (ls := p) (out := o) 65537 0 (fun m hm => absurd hm (Nat.not_lt_zero _)) with ⟨k, e1, e2, e3, e4⟩ | ⟨e1, e2⟩
        · rw [he, e1]
          simp only [walk, wl, rgets, retv, argsEnv, ev, cst, cst1, cstL, AEnv.get, AEnv.trim, envput, qstep, abin, aun, evs, evo, deref, qload, target, if_true, if_false, Nat.reduceEqDiff, reduceIte, Nat.reduceAdd, AV.cells, AV.isTuple, setMany, alen, aiaddr, afill, Nat.reduceLeDiff, Nat.reduceMul, Nat.reduceLT, afillE, List.replicate, bne_self_eq_false, Bool.not_true]
          refine call_pure (Yield_ok p k) (frzL_of' (d := 4) (carL_cons car_pk rfl)) ?_
          rw [yieldV_nat hp (by omega)]
          have y1 : decide ((times melt1 k p).2 < o) = false := decide_eq_false (by omega)
          simp only [walk, wl, rgets, retv, argsEnv, ev, cst, cst1, cstL, AEnv.get, AEnv.trim, envput, qstep, abin, aun, evs, evo, deref, qload, target, if_true, if_false, Nat.reduceEqDiff, reduceIte, Nat.reduceAdd, AV.cells, AV.isTuple, setMany, alen, aiaddr, afill, Nat.reduceLeDiff, Nat.reduceMul, Nat.reduceLT, afillE, List.replicate, bne_self_eq_false, y1]
          refine withBool_intro ?_ ?_ <;> intro hk0 <;> simp only [walk, wl, rgets, retv, argsEnv, ev, cst, cst1, cstL, AEnv.get, AEnv.trim, envput, qstep, abin, aun, evs, evo, deref, qload, target, if_true, if_false, Nat.reduceEqDiff, reduceIte, Nat.reduceAdd, AV.cells, AV.isTuple, setMany, alen, aiaddr, afill, Nat.reduceLeDiff, Nat.reduceMul, Nat.reduceLT, afillE, List.replicate]
          · exact out_bool
          · have hk1 : k ≠ 0 := fun e => by subst e; simp at hk0
            have x1 : IntKind.i64.wrap ((k : Int) - 1) = ((k - 1 : Nat) : Int) := by rw [wrap_id (by omega) (by omega)]; omega
            simp only [walk, wl, rgets, retv, argsEnv, ev, cst, cst1, cstL, AEnv.get, AEnv.trim, envput, qstep, abin, aun, evs, evo, deref, qload, target, if_true, if_false, Nat.reduceEqDiff, reduceIte, Nat.reduceAdd, AV.cells, AV.isTuple, setMany, alen, aiaddr, afill, Nat.reduceLeDiff, Nat.reduceMul, Nat.reduceLT, afillE, List.replicate, x1]
            refine call_pure (Yield_ok p (k - 1 : Nat)) (frzL_of' (d := 4) (carL_cons car_pk rfl)) ?_
            rw [yieldV_nat hp (by omega)]
            have y2 : decide ((times melt1 (k - 1) p).2 < o) = true := decide_eq_true (e4 _ (by omega))
            simp only [walk, wl, rgets, retv, argsEnv, ev, cst, cst1, cstL, AEnv.get, AEnv.trim, envput, qstep, abin, aun, evs, evo, deref, qload, target, if_true, if_false, Nat.reduceEqDiff, reduceIte, Nat.reduceAdd, AV.cells, AV.isTuple, setMany, alen, aiaddr, afill, Nat.reduceLeDiff, Nat.reduceMul, Nat.reduceLT, afillE, List.replicate, beq_self_eq_true, y2]
            exact out_bool
        · rw [he, e1]
          simp only [walk, wl, rgets, retv, argsEnv, ev, cst, cst1, cstL, AEnv.get, AEnv.trim, envput, qstep, abin, aun, evs, evo, deref, qload, target, if_true, if_false, Nat.reduceEqDiff, reduceIte, Nat.reduceAdd, AV.cells, AV.isTuple, setMany, alen, aiaddr, afill, Nat.reduceLeDiff, Nat.reduceMul, Nat.reduceLT, afillE, List.replicate, bne_self_eq_false, Bool.not_false]
          refine call_pure (Yield_ok p 65536) (frzL_of' (d := 4) (carL_cons car_pk rfl)) ?_
          rw [show (65536 : Int) = ((65536 : Nat) : Int) from rfl, yieldV_nat hp (by omega)]
          have y1 : decide ((times melt1 65536 p).2 < o) = true := decide_eq_true (e2 _ (by omega))
          simp only [walk, wl, rgets, retv, argsEnv, ev, cst, cst1, cstL, AEnv.get, AEnv.trim, envput, qstep, abin, aun, evs, evo, deref, qload, target, if_true, if_false, Nat.reduceEqDiff, reduceIte, Nat.reduceAdd, AV.cells, AV.isTuple, setMany, alen, aiaddr, afill, Nat.reduceLeDiff, Nat.reduceMul, Nat.reduceLT, afillE, List.replicate, beq_self_eq_true, y1]
          exact out_bool
      · have he : enoughV p o = (0, false, 1) := by simp only [enoughV, hp, ho, if_true, if_false]
        rw [he]
        simp only [walk, wl, rgets, retv, argsEnv, ev, cst, cst1, cstL, AEnv.get, AEnv.trim, envput, qstep, abin, aun, evs, evo, deref, qload, target, if_true, if_false, Nat.reduceEqDiff, reduceIte, Nat.reduceAdd, AV.cells, AV.isTuple, setMany, alen, aiaddr, afill, Nat.reduceLeDiff, Nat.reduceMul, Nat.reduceLT, afillE, List.replicate, Int.reduceBNe, beq_self_eq_true]
        by_cases h1 : o < 0
        · have y1 : decide (o < 0) = true := decide_eq_true h1
          simp only [walk, wl, rgets, retv, argsEnv, ev, cst, cst1, cstL, AEnv.get, AEnv.trim, envput, qstep, abin, aun, evs, evo, deref, qload, target, if_true, if_false, Nat.reduceEqDiff, reduceIte, Nat.reduceAdd, AV.cells, AV.isTuple, setMany, alen, aiaddr, afill, Nat.reduceLeDiff, Nat.reduceMul, Nat.reduceLT, afillE, List.replicate, y1, beq_self_eq_true, Bool.not_false]
          exact out_bool
        · have y1 : decide (o < 0) = false := decide_eq_false h1
          have y2 : decide (o > 65536) = true := decide_eq_true (by omega)
          simp only [walk, wl, rgets, retv, argsEnv, ev, cst, cst1, cstL, AEnv.get, AEnv.trim, envput, qstep, abin, aun, evs, evo, deref, qload, target, if_true, if_false, Nat.reduceEqDiff, reduceIte, Nat.reduceAdd, AV.cells, AV.isTuple, setMany, alen, aiaddr, afill, Nat.reduceLeDiff, Nat.reduceMul, Nat.reduceLT, afillE, List.replicate, y1, y2, beq_self_eq_true, Bool.not_false]
          exact out_bool
  · obtain ⟨e1, e2⟩ := yieldV_err hok
    have e3 : ((yieldV p m).2 != 0) = true := by simpa using e2
    simp only [walk, wl, rgets, retv, argsEnv, ev, cst, cst1, cstL, AEnv.get, AEnv.trim, envput, qstep, abin, aun, evs, evo, deref, qload, target, if_true, if_false, Nat.reduceEqDiff, reduceIte, Nat.reduceAdd, AV.cells, AV.isTuple, setMany, alen, aiaddr, afill, Nat.reduceLeDiff, Nat.reduceMul, Nat.reduceLT, afillE, List.replicate, e3, e1, beq_self_eq_true]
    exact out_bool
end Go.Proofs.YtmcndbldbemebaaDoor
