/- The laws DiffsSolveSpec and DiffsRounds, walked. -/
import Derived.Test.YtepnijjgdhldeaaQG7
import Derived.Test.YtepnijjgdhldeaaQE4
namespace Go.Proofs.Ytepnijjgdhldeaa
open Go.Awp
set_option linter.unusedSimpArgs false
set_option linter.unusedVariables false
set_option maxRecDepth 10000
set_option maxHeartbeats 8000000
theorem sol_none {m : Nat} {ds : List Df} (h : Sol m ds) : ¬ 0 ≤ (grown m ds (everyone m)).2 := by
  rw [(lens_grown h.good h.sol).1]; simp
theorem law8_ok {n : Int} {ds : List Df} {l : List Int} (hd : ds.length ≤ big) (hl : l.length ≤ big) : PCall Try.prog 8 [.agg [I n, .ro false (rows ds)], .ro false (ic l)] (.bool true) := by
  refine PCall.intro text8 (by simp) ?_
  unfold ir8
  simp only [walkS, wl, rgets, retv, argsEnv, ev, cst, cst1, cstL, AEnv.get, AEnv.trim, envput, qstep, abin, aun, evs, evo, deref, qload, target, if_true, if_false, Nat.reduceEqDiff, reduceIte, Nat.reduceAdd, AV.cells, AV.isTuple, setMany, alen, aiaddr, afill, Nat.reduceLeDiff, Nat.reduceMul, Nat.reduceLT, afillE, List.replicate]
  refine call_pure sane_ok (frzL_of' (d := 4) rfl) ?_
  simp only [walkS, wl, rgets, retv, argsEnv, ev, cst, cst1, cstL, AEnv.get, AEnv.trim, envput, qstep, abin, aun, evs, evo, deref, qload, target, if_true, if_false, Nat.reduceEqDiff, reduceIte, Nat.reduceAdd, AV.cells, AV.isTuple, setMany, alen, aiaddr, afill, Nat.reduceLeDiff, Nat.reduceMul, Nat.reduceLT, afillE, List.replicate]
  refine dcall_pure (CheckClash_ok (n := n) hd hl) (frzL_of (d := 4) (carL_cons car_netF (carL_cons car_icF rfl))) ?_
  simp only [walkS, wl, rgets, retv, argsEnv, ev, cst, cst1, cstL, AEnv.get, AEnv.trim, envput, qstep, abin, aun, evs, evo, deref, qload, target, if_true, if_false, Nat.reduceEqDiff, reduceIte, Nat.reduceAdd, AV.cells, AV.isTuple, setMany, alen, aiaddr, afill, Nat.reduceLeDiff, Nat.reduceMul, Nat.reduceLT, afillE, List.replicate]
  refine call_pure (refCheckClash_ok (n := n) (ds := ds) hl) (frzL_of' (d := 4) (carL_cons car_netF (carL_cons car_icF rfl))) ?_
  simp only [walkS, wl, rgets, retv, argsEnv, ev, cst, cst1, cstL, AEnv.get, AEnv.trim, envput, qstep, abin, aun, evs, evo, deref, qload, target, if_true, if_false, Nat.reduceEqDiff, reduceIte, Nat.reduceAdd, AV.cells, AV.isTuple, setMany, alen, aiaddr, afill, Nat.reduceLeDiff, Nat.reduceMul, Nat.reduceLT, afillE, List.replicate, bne_self_eq_false]
  refine call_pure (refCheck_ok n ds) (frzL_of' (d := 4) (carL_cons car_netF rfl)) ?_
  cases hv : valid n ds with
  | false =>
    have e : check n ds = 40 := by simp [check, hv]
    have e2 : solveV n ds = ([], 40) := by simp [solveV, hv]
    rw [e]
    simp only [walkS, wl, rgets, retv, argsEnv, ev, cst, cst1, cstL, AEnv.get, AEnv.trim, envput, qstep, abin, aun, evs, evo, deref, qload, target, if_true, if_false, Nat.reduceEqDiff, reduceIte, Nat.reduceAdd, AV.cells, AV.isTuple, setMany, alen, aiaddr, afill, Nat.reduceLeDiff, Nat.reduceMul, Nat.reduceLT, afillE, List.replicate, Int.reduceBEq]
    refine call_pure (Solve_ok (n := n) (ds := ds) (fun h => by rw [hv] at h; cases h)) (frzL_of' (d := 4) (carL_cons car_netF rfl)) ?_
    rw [e2]
    simp only [walkS, wl, rgets, retv, argsEnv, ev, cst, cst1, cstL, AEnv.get, AEnv.trim, envput, qstep, abin, aun, evs, evo, deref, qload, target, if_true, if_false, Nat.reduceEqDiff, reduceIte, Nat.reduceAdd, AV.cells, AV.isTuple, setMany, alen, aiaddr, afill, Nat.reduceLeDiff, Nat.reduceMul, Nat.reduceLT, afillE, List.replicate]
    refine call_pure (Clash_bad hv) (frzL_of' (d := 4) (carL_cons car_netF rfl)) ?_
    simp only [walkS, wl, rgets, retv, argsEnv, ev, cst, cst1, cstL, AEnv.get, AEnv.trim, envput, qstep, abin, aun, evs, evo, deref, qload, target, if_true, if_false, Nat.reduceEqDiff, reduceIte, Nat.reduceAdd, AV.cells, AV.isTuple, setMany, alen, aiaddr, afill, Nat.reduceLeDiff, Nat.reduceMul, Nat.reduceLT, afillE, List.replicate, clashV]
    refine call_pure (refCheck_ok n ds) (frzL_of' (d := 4) (carL_cons car_netF rfl)) ?_
    rw [e]
    simp only [walkS, wl, rgets, retv, argsEnv, ev, cst, cst1, cstL, AEnv.get, AEnv.trim, envput, qstep, abin, aun, evs, evo, deref, qload, target, if_true, if_false, Nat.reduceEqDiff, reduceIte, Nat.reduceAdd, AV.cells, AV.isTuple, setMany, alen, aiaddr, afill, Nat.reduceLeDiff, Nat.reduceMul, Nat.reduceLT, afillE, List.replicate, Int.reduceBNe, ic_length, List.length_nil, beq_self_eq_true, Int.reduceBEq, Int.natCast_zero, Int.cast_ofNat_Int]
    exact out_bool
  | true =>
    have e : check n ds = 0 := by simp [check, hv]
    rw [e]
    simp only [walkS, wl, rgets, retv, argsEnv, ev, cst, cst1, cstL, AEnv.get, AEnv.trim, envput, qstep, abin, aun, evs, evo, deref, qload, target, if_true, if_false, Nat.reduceEqDiff, reduceIte, Nat.reduceAdd, AV.cells, AV.isTuple, setMany, alen, aiaddr, afill, Nat.reduceLeDiff, Nat.reduceMul, Nat.reduceLT, afillE, List.replicate, Int.reduceBEq]
    refine call_pure (small_ok (n := n) (ds := ds)) (frzL_of' (d := 4) (carL_cons car_netF rfl)) ?_
    cases hsm : (decide (n ≤ 16) && decide (ds.length ≤ 60)) with
    | false =>
      simp only [walkS, wl, rgets, retv, argsEnv, ev, cst, cst1, cstL, AEnv.get, AEnv.trim, envput, qstep, abin, aun, evs, evo, deref, qload, target, if_true, if_false, Nat.reduceEqDiff, reduceIte, Nat.reduceAdd, AV.cells, AV.isTuple, setMany, alen, aiaddr, afill, Nat.reduceLeDiff, Nat.reduceMul, Nat.reduceLT, afillE, List.replicate, Int.reduceBEq]
      exact out_bool
    | true =>
      have hs : valid n ds = true → n ≤ 16 := fun _ => by simp at hsm; exact hsm.1
      obtain ⟨m, rfl, hg, hm⟩ := good_of hv (hs hv)
      simp only [walkS, wl, rgets, retv, argsEnv, ev, cst, cst1, cstL, AEnv.get, AEnv.trim, envput, qstep, abin, aun, evs, evo, deref, qload, target, if_true, if_false, Nat.reduceEqDiff, reduceIte, Nat.reduceAdd, AV.cells, AV.isTuple, setMany, alen, aiaddr, afill, Nat.reduceLeDiff, Nat.reduceMul, Nat.reduceLT, afillE, List.replicate, Int.reduceBEq]
      refine call_pure (Solve_ok hs) (frzL_of' (d := 4) (carL_cons car_netF rfl)) ?_
      cases hsol : (lens m ds (everyone m)).2 with
      | true =>
        have S : Sol m ds := ⟨hg, hsol⟩
        obtain ⟨se, sf⟩ := solved_fulf S
        have e2 : solveV m ds = (solved m ds, 0) := by simp only [solveV, hv, if_true, Int.toNat_natCast, if_neg (sol_none S)]
        rw [e2, se]
        generalize (li m fun i => (lens m ds (everyone m)).1.long i - (lens m ds (everyone m)).1.long 0) = x at sf ⊢
        have hxl : x.length ≤ big := by have := (fulf_iff.1 sf).1.1; unfold big; omega
        obtain ⟨f1, f2⟩ := fulf_numbers sf
        simp only [walkS, wl, rgets, retv, argsEnv, ev, cst, cst1, cstL, AEnv.get, AEnv.trim, envput, qstep, abin, aun, evs, evo, deref, qload, target, if_true, if_false, Nat.reduceEqDiff, reduceIte, Nat.reduceAdd, AV.cells, AV.isTuple, setMany, alen, aiaddr, afill, Nat.reduceLeDiff, Nat.reduceMul, Nat.reduceLT, afillE, List.replicate]
        refine call_pure (Clash_none hv hg (sol_none S)) (frzL_of' (d := 4) (carL_cons car_netF rfl)) ?_
        simp only [walkS, wl, rgets, retv, argsEnv, ev, cst, cst1, cstL, AEnv.get, AEnv.trim, envput, qstep, abin, aun, evs, evo, deref, qload, target, if_true, if_false, Nat.reduceEqDiff, reduceIte, Nat.reduceAdd, AV.cells, AV.isTuple, setMany, alen, aiaddr, afill, Nat.reduceLeDiff, Nat.reduceMul, Nat.reduceLT, afillE, List.replicate, clashV]
        refine call_pure (refCheck_ok m ds) (frzL_of' (d := 4) (carL_cons car_netF rfl)) ?_
        rw [e]
        simp only [walkS, wl, rgets, retv, argsEnv, ev, cst, cst1, cstL, AEnv.get, AEnv.trim, envput, qstep, abin, aun, evs, evo, deref, qload, target, if_true, if_false, Nat.reduceEqDiff, reduceIte, Nat.reduceAdd, AV.cells, AV.isTuple, setMany, alen, aiaddr, afill, Nat.reduceLeDiff, Nat.reduceMul, Nat.reduceLT, afillE, List.replicate, Int.reduceBNe]
        refine call_pure (Solvable_ok hg) (frzL_of' (d := 4) (carL_cons car_netF rfl)) ?_
        rw [hsol]
        simp only [walkS, wl, rgets, retv, argsEnv, ev, cst, cst1, cstL, AEnv.get, AEnv.trim, envput, qstep, abin, aun, evs, evo, deref, qload, target, if_true, if_false, Nat.reduceEqDiff, reduceIte, Nat.reduceAdd, AV.cells, AV.isTuple, setMany, alen, aiaddr, afill, Nat.reduceLeDiff, Nat.reduceMul, Nat.reduceLT, afillE, List.replicate, Int.reduceBEq, beq_self_eq_true]
        refine call_pure (Fulfils_ok m ds x hv hxl) (frzL_of' (d := 4) (carL_cons car_netF (carL_cons car_icF rfl))) ?_
        rw [f1, f2, Bool.true_and]
        simp only [walkS, wl, rgets, retv, argsEnv, ev, cst, cst1, cstL, AEnv.get, AEnv.trim, envput, qstep, abin, aun, evs, evo, deref, qload, target, if_true, if_false, Nat.reduceEqDiff, reduceIte, Nat.reduceAdd, AV.cells, AV.isTuple, setMany, alen, aiaddr, afill, Nat.reduceLeDiff, Nat.reduceMul, Nat.reduceLT, afillE, List.replicate, Int.reduceBNe, ic_length, List.length_nil, beq_self_eq_true, Int.reduceBEq, Int.natCast_zero, Int.cast_ofNat_Int]
        exact out_bool
      | false =>
        have hb := (solvable_iff hg).2 hsol
        obtain ⟨a, p, hba, hr⟩ := grown_round hg hb
        have e2 : solveV m ds = ([], 41) := by simp only [solveV, hv, if_true, Int.toNat_natCast, if_pos hb]
        have hrl : (roundL ds (grown m ds (everyone m)).1 a p).length ≤ big := by
          have : (roundL ds (grown m ds (everyone m)).1 a p).length = p := li_length
          have := hr.le
          unfold big; omega
        rw [e2]
        simp only [walkS, wl, rgets, retv, argsEnv, ev, cst, cst1, cstL, AEnv.get, AEnv.trim, envput, qstep, abin, aun, evs, evo, deref, qload, target, if_true, if_false, Nat.reduceEqDiff, reduceIte, Nat.reduceAdd, AV.cells, AV.isTuple, setMany, alen, aiaddr, afill, Nat.reduceLeDiff, Nat.reduceMul, Nat.reduceLT, afillE, List.replicate]
        refine call_pure (Clash_round hv hg hba hr) (frzL_of' (d := 4) (carL_cons car_netF rfl)) ?_
        have hck := roundL_clash hv hg hr
        generalize roundL ds (grown m ds (everyone m)).1 a p = c at hck hrl ⊢
        simp only [walkS, wl, rgets, retv, argsEnv, ev, cst, cst1, cstL, AEnv.get, AEnv.trim, envput, qstep, abin, aun, evs, evo, deref, qload, target, if_true, if_false, Nat.reduceEqDiff, reduceIte, Nat.reduceAdd, AV.cells, AV.isTuple, setMany, alen, aiaddr, afill, Nat.reduceLeDiff, Nat.reduceMul, Nat.reduceLT, afillE, List.replicate, clashV]
        refine call_pure (refCheck_ok m ds) (frzL_of' (d := 4) (carL_cons car_netF rfl)) ?_
        rw [e]
        simp only [walkS, wl, rgets, retv, argsEnv, ev, cst, cst1, cstL, AEnv.get, AEnv.trim, envput, qstep, abin, aun, evs, evo, deref, qload, target, if_true, if_false, Nat.reduceEqDiff, reduceIte, Nat.reduceAdd, AV.cells, AV.isTuple, setMany, alen, aiaddr, afill, Nat.reduceLeDiff, Nat.reduceMul, Nat.reduceLT, afillE, List.replicate, Int.reduceBNe]
        refine call_pure (Solvable_ok hg) (frzL_of' (d := 4) (carL_cons car_netF rfl)) ?_
        rw [hsol]
        simp only [walkS, wl, rgets, retv, argsEnv, ev, cst, cst1, cstL, AEnv.get, AEnv.trim, envput, qstep, abin, aun, evs, evo, deref, qload, target, if_true, if_false, Nat.reduceEqDiff, reduceIte, Nat.reduceAdd, AV.cells, AV.isTuple, setMany, alen, aiaddr, afill, Nat.reduceLeDiff, Nat.reduceMul, Nat.reduceLT, afillE, List.replicate, Int.reduceBNe, ic_length, List.length_nil, beq_self_eq_true, Int.reduceBEq, Int.natCast_zero, Int.cast_ofNat_Int]
        refine call_pure (refCheckClash_ok (n := m) (ds := ds) (l := c) hrl) (frzL_of' (d := 4) (carL_cons car_netF (carL_cons car_icF rfl))) ?_
        rw [hck]
        simp only [walkS, wl, rgets, retv, argsEnv, ev, cst, cst1, cstL, AEnv.get, AEnv.trim, envput, qstep, abin, aun, evs, evo, deref, qload, target, if_true, if_false, Nat.reduceEqDiff, reduceIte, Nat.reduceAdd, AV.cells, AV.isTuple, setMany, alen, aiaddr, afill, Nat.reduceLeDiff, Nat.reduceMul, Nat.reduceLT, afillE, List.replicate, Int.reduceBNe, beq_self_eq_true, Int.reduceBEq]
        exact out_bool
theorem fulf_of_holds {n : Int} {ds : List Df} {xs : List Int} (hv : valid n ds = true) (h1 : numbers n xs = true) (h2 : holds ds xs = true) : fulf n ds xs = true := by
  obtain ⟨v1, v2, v3⟩ := valid_iff.1 hv
  simp only [numbers, Bool.and_eq_true, decide_eq_true_eq, Bool.not_eq_true', List.any_eq_false] at h1
  simp only [holds, Bool.and_eq_true, decide_eq_true_eq, Bool.not_eq_true', List.any_eq_false] at h2
  refine fulf_iff.2 ⟨⟨h1.1, by omega⟩, h2.1, fun x hx => by simpa using h1.2 x hx, fun d hd => ?_⟩
  have hr := right_lt (v3 d hd)
  have hov := h2.2 d hd
  simp only [over, decide_eq_true_eq] at hov
  exact ⟨⟨⟨hr.1.1, by omega⟩, hr.2.1.1, by omega⟩, by omega⟩
theorem law14_ok {n : Int} {ds : List Df} {l xs : List Int} (hd : ds.length ≤ big) (hl : l.length ≤ big) (hx : xs.length ≤ big) : PCall Try.prog 14 [.agg [I n, .ro false (rows ds)], .ro false (ic l), .ro false (ic xs)] (.bool true) := by
  refine PCall.intro text14 (by simp) ?_
  unfold ir14
  simp only [walkS, wl, rgets, retv, argsEnv, ev, cst, cst1, cstL, AEnv.get, AEnv.trim, envput, qstep, abin, aun, evs, evo, deref, qload, target, if_true, if_false, Nat.reduceEqDiff, reduceIte, Nat.reduceAdd, AV.cells, AV.isTuple, setMany, alen, aiaddr, afill, Nat.reduceLeDiff, Nat.reduceMul, Nat.reduceLT, afillE, List.replicate]
  refine call_pure sane_ok (frzL_of' (d := 4) rfl) ?_
  simp only [walkS, wl, rgets, retv, argsEnv, ev, cst, cst1, cstL, AEnv.get, AEnv.trim, envput, qstep, abin, aun, evs, evo, deref, qload, target, if_true, if_false, Nat.reduceEqDiff, reduceIte, Nat.reduceAdd, AV.cells, AV.isTuple, setMany, alen, aiaddr, afill, Nat.reduceLeDiff, Nat.reduceMul, Nat.reduceLT, afillE, List.replicate]
  refine call_pure (check_ok n ds) (frzL_of' (d := 4) (carL_cons car_netF rfl)) ?_
  cases hv : valid n ds with
  | false =>
    have e : check n ds = 40 := by simp [check, hv]
    rw [e]
    simp only [walkS, wl, rgets, retv, argsEnv, ev, cst, cst1, cstL, AEnv.get, AEnv.trim, envput, qstep, abin, aun, evs, evo, deref, qload, target, if_true, if_false, Nat.reduceEqDiff, reduceIte, Nat.reduceAdd, AV.cells, AV.isTuple, setMany, alen, aiaddr, afill, Nat.reduceLeDiff, Nat.reduceMul, Nat.reduceLT, afillE, List.replicate, Int.reduceBNe]
    exact out_bool
  | true =>
    have e : check n ds = 0 := by simp [check, hv]
    rw [e]
    simp only [walkS, wl, rgets, retv, argsEnv, ev, cst, cst1, cstL, AEnv.get, AEnv.trim, envput, qstep, abin, aun, evs, evo, deref, qload, target, if_true, if_false, Nat.reduceEqDiff, reduceIte, Nat.reduceAdd, AV.cells, AV.isTuple, setMany, alen, aiaddr, afill, Nat.reduceLeDiff, Nat.reduceMul, Nat.reduceLT, afillE, List.replicate, Int.reduceBNe]
    refine call_pure (small_ok (n := n) (ds := ds)) (frzL_of' (d := 4) (carL_cons car_netF rfl)) ?_
    cases hsm : (decide (n ≤ 16) && decide (ds.length ≤ 60)) with
    | false =>
      simp only [walkS, wl, rgets, retv, argsEnv, ev, cst, cst1, cstL, AEnv.get, AEnv.trim, envput, qstep, abin, aun, evs, evo, deref, qload, target, if_true, if_false, Nat.reduceEqDiff, reduceIte, Nat.reduceAdd, AV.cells, AV.isTuple, setMany, alen, aiaddr, afill, Nat.reduceLeDiff, Nat.reduceMul, Nat.reduceLT, afillE, List.replicate, Int.reduceBNe]
      exact out_bool
    | true =>
      have hs : valid n ds = true → n ≤ 16 := fun _ => by simp at hsm; exact hsm.1
      obtain ⟨m, rfl, hg, hm⟩ := good_of hv (hs hv)
      simp only [walkS, wl, rgets, retv, argsEnv, ev, cst, cst1, cstL, AEnv.get, AEnv.trim, envput, qstep, abin, aun, evs, evo, deref, qload, target, if_true, if_false, Nat.reduceEqDiff, reduceIte, Nat.reduceAdd, AV.cells, AV.isTuple, setMany, alen, aiaddr, afill, Nat.reduceLeDiff, Nat.reduceMul, Nat.reduceLT, afillE, List.replicate, Int.reduceBNe]
      refine call_pure (Solve_ok hs) (frzL_of' (d := 4) (carL_cons car_netF rfl)) ?_
      cases hsol : (lens m ds (everyone m)).2 with
      | true =>
        have S : Sol m ds := ⟨hg, hsol⟩
        obtain ⟨se, sf⟩ := solved_fulf S
        have e2 : solveV m ds = (solved m ds, 0) := by simp only [solveV, hv, if_true, Int.toNat_natCast, if_neg (sol_none S)]
        rw [e2, se]
        generalize (li m fun i => (lens m ds (everyone m)).1.long i - (lens m ds (everyone m)).1.long 0) = x at sf ⊢
        have hxl : x.length ≤ big := by have := (fulf_iff.1 sf).1.1; unfold big; omega
        simp only [walkS, wl, rgets, retv, argsEnv, ev, cst, cst1, cstL, AEnv.get, AEnv.trim, envput, qstep, abin, aun, evs, evo, deref, qload, target, if_true, if_false, Nat.reduceEqDiff, reduceIte, Nat.reduceAdd, AV.cells, AV.isTuple, setMany, alen, aiaddr, afill, Nat.reduceLeDiff, Nat.reduceMul, Nat.reduceLT, afillE, List.replicate]
        refine call_pure (Clash_none hv hg (sol_none S)) (frzL_of' (d := 4) (carL_cons car_netF rfl)) ?_
        simp only [walkS, wl, rgets, retv, argsEnv, ev, cst, cst1, cstL, AEnv.get, AEnv.trim, envput, qstep, abin, aun, evs, evo, deref, qload, target, if_true, if_false, Nat.reduceEqDiff, reduceIte, Nat.reduceAdd, AV.cells, AV.isTuple, setMany, alen, aiaddr, afill, Nat.reduceLeDiff, Nat.reduceMul, Nat.reduceLT, afillE, List.replicate, clashV, Int.reduceBNe, beq_self_eq_true, Int.reduceBEq, bne_self_eq_false, Bool.false_beq, Bool.true_beq, beq_true, beq_false, Bool.not_true, Bool.not_false]
        refine call_pure (fulfils_ok (n := m) (ds := ds) (xs := x) (b := false) hxl hd) (frzL_of' (d := 4) (carL_cons car_netF (carL_cons car_icF rfl))) ?_
        rw [sf]
        simp only [walkS, wl, rgets, retv, argsEnv, ev, cst, cst1, cstL, AEnv.get, AEnv.trim, envput, qstep, abin, aun, evs, evo, deref, qload, target, if_true, if_false, Nat.reduceEqDiff, reduceIte, Nat.reduceAdd, AV.cells, AV.isTuple, setMany, alen, aiaddr, afill, Nat.reduceLeDiff, Nat.reduceMul, Nat.reduceLT, afillE, List.replicate]
        refine call_pure (CheckClash_ok (n := m) hd hl) (frzL_of' (d := 4) (carL_cons car_netF (carL_cons car_icF rfl))) ?_
        simp only [walkS, wl, rgets, retv, argsEnv, ev, cst, cst1, cstL, AEnv.get, AEnv.trim, envput, qstep, abin, aun, evs, evo, deref, qload, target, if_true, if_false, Nat.reduceEqDiff, reduceIte, Nat.reduceAdd, AV.cells, AV.isTuple, setMany, alen, aiaddr, afill, Nat.reduceLeDiff, Nat.reduceMul, Nat.reduceLT, afillE, List.replicate, bne_of (no_clash S l)]
        exact out_bool
      | false =>
        have hb := (solvable_iff hg).2 hsol
        obtain ⟨a, p, hba, hr⟩ := grown_round hg hb
        have e2 : solveV m ds = ([], 41) := by simp only [solveV, hv, if_true, Int.toNat_natCast, if_pos hb]
        have hrl : (roundL ds (grown m ds (everyone m)).1 a p).length ≤ big := by
          have : (roundL ds (grown m ds (everyone m)).1 a p).length = p := li_length
          have := hr.le
          unfold big; omega
        have hnf : fulf m ds xs = false := by
          cases hf : fulf m ds xs with
          | false => rfl
          | true => have := (fulf_sol hg hf).sol; rw [hsol] at this; cases this
        have hnh : (Holds m ds xs).1 = false := by
          unfold Holds
          rw [hv, if_pos rfl]
          split
          · rename_i hnum
            cases hh : holds ds xs with
            | false => rfl
            | true => rw [fulf_of_holds hv hnum hh] at hnf; cases hnf
          · rfl
        rw [e2]
        simp only [walkS, wl, rgets, retv, argsEnv, ev, cst, cst1, cstL, AEnv.get, AEnv.trim, envput, qstep, abin, aun, evs, evo, deref, qload, target, if_true, if_false, Nat.reduceEqDiff, reduceIte, Nat.reduceAdd, AV.cells, AV.isTuple, setMany, alen, aiaddr, afill, Nat.reduceLeDiff, Nat.reduceMul, Nat.reduceLT, afillE, List.replicate]
        refine call_pure (Clash_round hv hg hba hr) (frzL_of' (d := 4) (carL_cons car_netF rfl)) ?_
        have hck := roundL_clash hv hg hr
        generalize roundL ds (grown m ds (everyone m)).1 a p = c at hck hrl ⊢
        simp only [walkS, wl, rgets, retv, argsEnv, ev, cst, cst1, cstL, AEnv.get, AEnv.trim, envput, qstep, abin, aun, evs, evo, deref, qload, target, if_true, if_false, Nat.reduceEqDiff, reduceIte, Nat.reduceAdd, AV.cells, AV.isTuple, setMany, alen, aiaddr, afill, Nat.reduceLeDiff, Nat.reduceMul, Nat.reduceLT, afillE, List.replicate, clashV, Int.reduceBNe, beq_self_eq_true, Int.reduceBEq, bne_self_eq_false, Bool.false_beq, Bool.true_beq, beq_true, beq_false, Bool.not_true, Bool.not_false]
        refine call_pure (Holds_ok m ds xs hx) (frzL_of' (d := 4) (carL_cons car_netF (carL_cons car_icF rfl))) ?_
        rw [hnh]
        simp only [walkS, wl, rgets, retv, argsEnv, ev, cst, cst1, cstL, AEnv.get, AEnv.trim, envput, qstep, abin, aun, evs, evo, deref, qload, target, if_true, if_false, Nat.reduceEqDiff, reduceIte, Nat.reduceAdd, AV.cells, AV.isTuple, setMany, alen, aiaddr, afill, Nat.reduceLeDiff, Nat.reduceMul, Nat.reduceLT, afillE, List.replicate]
        refine call_pure (CheckClash_ok (n := m) (ds := ds) (l := c) hd hrl) (frzL_of' (d := 4) (carL_cons car_netF (carL_cons car_icF rfl))) ?_
        rw [hck]
        simp only [walkS, wl, rgets, retv, argsEnv, ev, cst, cst1, cstL, AEnv.get, AEnv.trim, envput, qstep, abin, aun, evs, evo, deref, qload, target, if_true, if_false, Nat.reduceEqDiff, reduceIte, Nat.reduceAdd, AV.cells, AV.isTuple, setMany, alen, aiaddr, afill, Nat.reduceLeDiff, Nat.reduceMul, Nat.reduceLT, afillE, List.replicate, Int.reduceBNe, beq_self_eq_true, Int.reduceBEq]
        refine call_pure (fulfils_ok (n := m) (ds := ds) (xs := xs) (b := false) hx hd) (frzL_of' (d := 4) (carL_cons car_netF (carL_cons car_icF rfl))) ?_
        rw [hnf]
        simp only [walkS, wl, rgets, retv, argsEnv, ev, cst, cst1, cstL, AEnv.get, AEnv.trim, envput, qstep, abin, aun, evs, evo, deref, qload, target, if_true, if_false, Nat.reduceEqDiff, reduceIte, Nat.reduceAdd, AV.cells, AV.isTuple, setMany, alen, aiaddr, afill, Nat.reduceLeDiff, Nat.reduceMul, Nat.reduceLT, afillE, List.replicate]
        exact out_bool
end Go.Proofs.Ytepnijjgdhldeaa
