/- The law DiffsLattice, walked. -/
import Derived.Test.YtepnijjgdhldeaaQD13
import Derived.Test.YtepnijjgdhldeaaQE4
namespace Go.Proofs.Ytepnijjgdhldeaa
open Go.Awp
set_option linter.unusedSimpArgs false
set_option linter.unusedVariables false
set_option maxRecDepth 10000
set_option maxHeartbeats 16000000
theorem zip_get {xs ys : List Int} (h : xs.length = ys.length) {k : Nat} (hk : k < xs.length) : (ic (List.zipWith max xs ys))[k]? = some [I (max xs[k] (ys[k]'(by omega)))] := by
  rw [ic_get (by simp; omega), List.getElem_zipWith]
theorem law13_ok {n : Int} {ds : List Df} {xs ys : List Int} (hl : xs.length ≤ big) (hl' : ys.length ≤ big) (hd : ds.length ≤ big) : PCall Try.prog 13 [.agg [I n, .ro false (rows ds)], .ro false (ic xs), .ro false (ic ys)] (.bool true) := by
  refine PCall.intro text13 (by simp) ?_
  unfold ir13
  simp only [walkS, wl, rgets, retv, argsEnv, ev, cst, cst1, cstL, AEnv.get, AEnv.trim, envput, qstep, abin, aun, evs, evo, deref, qload, target, if_true, if_false, Nat.reduceEqDiff, reduceIte, Nat.reduceAdd, AV.cells, AV.isTuple, setMany, alen, aiaddr, afill, Nat.reduceLeDiff, Nat.reduceMul, Nat.reduceLT, afillE, List.replicate]
  refine call_pure sane_ok (frzL_of' (d := 4) rfl) ?_
  simp only [walkS, wl, rgets, retv, argsEnv, ev, cst, cst1, cstL, AEnv.get, AEnv.trim, envput, qstep, abin, aun, evs, evo, deref, qload, target, if_true, if_false, Nat.reduceEqDiff, reduceIte, Nat.reduceAdd, AV.cells, AV.isTuple, setMany, alen, aiaddr, afill, Nat.reduceLeDiff, Nat.reduceMul, Nat.reduceLT, afillE, List.replicate]
  refine call_pure (check_ok n ds) (frzL_of' (d := 4) (carL_cons car_netF rfl)) ?_
  simp only [walkS, wl, rgets, retv, argsEnv, ev, cst, cst1, cstL, AEnv.get, AEnv.trim, envput, qstep, abin, aun, evs, evo, deref, qload, target, if_true, if_false, Nat.reduceEqDiff, reduceIte, Nat.reduceAdd, AV.cells, AV.isTuple, setMany, alen, aiaddr, afill, Nat.reduceLeDiff, Nat.reduceMul, Nat.reduceLT, afillE, List.replicate]
  cases hv : valid n ds with
  | false =>
    have e : (check n ds != 0) = true := by simp [check, hv]
    simp only [walkS, wl, rgets, retv, argsEnv, ev, cst, cst1, cstL, AEnv.get, AEnv.trim, envput, qstep, abin, aun, evs, evo, deref, qload, target, if_true, if_false, Nat.reduceEqDiff, reduceIte, Nat.reduceAdd, AV.cells, AV.isTuple, setMany, alen, aiaddr, afill, Nat.reduceLeDiff, Nat.reduceMul, Nat.reduceLT, afillE, List.replicate, e]
    exact out_bool
  | true =>
    have e : (check n ds != 0) = false := by simp [check, hv]
    simp only [walkS, wl, rgets, retv, argsEnv, ev, cst, cst1, cstL, AEnv.get, AEnv.trim, envput, qstep, abin, aun, evs, evo, deref, qload, target, if_true, if_false, Nat.reduceEqDiff, reduceIte, Nat.reduceAdd, AV.cells, AV.isTuple, setMany, alen, aiaddr, afill, Nat.reduceLeDiff, Nat.reduceMul, Nat.reduceLT, afillE, List.replicate, e]
    refine call_pure (small_ok (n := n) (ds := ds)) (frzL_of' (d := 4) (carL_cons car_netF rfl)) ?_
    cases hsm : (decide (n ≤ 16) && decide (ds.length ≤ 60)) with
    | false =>
      simp only [walkS, wl, rgets, retv, argsEnv, ev, cst, cst1, cstL, AEnv.get, AEnv.trim, envput, qstep, abin, aun, evs, evo, deref, qload, target, if_true, if_false, Nat.reduceEqDiff, reduceIte, Nat.reduceAdd, AV.cells, AV.isTuple, setMany, alen, aiaddr, afill, Nat.reduceLeDiff, Nat.reduceMul, Nat.reduceLT, afillE, List.replicate, e]
      exact out_bool
    | true =>
      have hs : valid n ds = true → n ≤ 16 := fun _ => by simp at hsm; exact hsm.1
      obtain ⟨m, rfl, hg, hm⟩ := good_of hv (hs hv)
      simp only [walkS, wl, rgets, retv, argsEnv, ev, cst, cst1, cstL, AEnv.get, AEnv.trim, envput, qstep, abin, aun, evs, evo, deref, qload, target, if_true, if_false, Nat.reduceEqDiff, reduceIte, Nat.reduceAdd, AV.cells, AV.isTuple, setMany, alen, aiaddr, afill, Nat.reduceLeDiff, Nat.reduceMul, Nat.reduceLT, afillE, List.replicate, e]
      refine call_pure (fulfils_ok (n := m) (ds := ds) (xs := xs) (b := false) hl hd) (frzL_of' (d := 4) (carL_cons car_netF (carL_cons car_icF rfl))) ?_
      cases hx : fulf m ds xs with
      | false =>
        simp only [walkS, wl, rgets, retv, argsEnv, ev, cst, cst1, cstL, AEnv.get, AEnv.trim, envput, qstep, abin, aun, evs, evo, deref, qload, target, if_true, if_false, Nat.reduceEqDiff, reduceIte, Nat.reduceAdd, AV.cells, AV.isTuple, setMany, alen, aiaddr, afill, Nat.reduceLeDiff, Nat.reduceMul, Nat.reduceLT, afillE, List.replicate, e]
        exact out_bool
      | true =>
        simp only [walkS, wl, rgets, retv, argsEnv, ev, cst, cst1, cstL, AEnv.get, AEnv.trim, envput, qstep, abin, aun, evs, evo, deref, qload, target, if_true, if_false, Nat.reduceEqDiff, reduceIte, Nat.reduceAdd, AV.cells, AV.isTuple, setMany, alen, aiaddr, afill, Nat.reduceLeDiff, Nat.reduceMul, Nat.reduceLT, afillE, List.replicate, e]
        refine call_pure (fulfils_ok (n := m) (ds := ds) (xs := ys) (b := false) hl' hd) (frzL_of' (d := 4) (carL_cons car_netF (carL_cons car_icF rfl))) ?_
        cases hy : fulf m ds ys with
        | false =>
          simp only [walkS, wl, rgets, retv, argsEnv, ev, cst, cst1, cstL, AEnv.get, AEnv.trim, envput, qstep, abin, aun, evs, evo, deref, qload, target, if_true, if_false, Nat.reduceEqDiff, reduceIte, Nat.reduceAdd, AV.cells, AV.isTuple, setMany, alen, aiaddr, afill, Nat.reduceLeDiff, Nat.reduceMul, Nat.reduceLT, afillE, List.replicate, e]
          exact out_bool
        | true =>
          simp only [walkS, wl, rgets, retv, argsEnv, ev, cst, cst1, cstL, AEnv.get, AEnv.trim, envput, qstep, abin, aun, evs, evo, deref, qload, target, if_true, if_false, Nat.reduceEqDiff, reduceIte, Nat.reduceAdd, AV.cells, AV.isTuple, setMany, alen, aiaddr, afill, Nat.reduceLeDiff, Nat.reduceMul, Nat.reduceLT, afillE, List.replicate, e]
          have lx := (fulf_iff.1 hx).1.1
          have ly := (fulf_iff.1 hy).1.1
          have hll : xs.length = ys.length := by omega
          have hz := fulf_max hx hy
          have zl : (List.zipWith max xs ys).length = xs.length := by simp; omega
          refine call_pure (Higher_ok m ds xs ys hl hl') (frzL_of' (d := 4) (carL_cons car_netF (carL_cons car_icF (carL_cons car_icF rfl)))) ?_
          rw [higher_fulf hv hx hy]
          simp only [walkS, wl, rgets, retv, argsEnv, ev, cst, cst1, cstL, AEnv.get, AEnv.trim, envput, qstep, abin, aun, evs, evo, deref, qload, target, if_true, if_false, Nat.reduceEqDiff, reduceIte, Nat.reduceAdd, AV.cells, AV.isTuple, setMany, alen, aiaddr, afill, Nat.reduceLeDiff, Nat.reduceMul, Nat.reduceLT, afillE, List.replicate, Int.reduceBNe]
          refine call_pure (fulfils_ok (n := m) (ds := ds) (xs := List.zipWith max xs ys) (b := false) (by rw [zl]; exact hl) hd) (frzL_of' (d := 4) (carL_cons car_netF (carL_cons car_icF rfl))) ?_
          rw [hz]
          simp only [walkS, wl, rgets, retv, argsEnv, ev, cst, cst1, cstL, AEnv.get, AEnv.trim, envput, qstep, abin, aun, evs, evo, deref, qload, target, if_true, if_false, Nat.reduceEqDiff, reduceIte, Nat.reduceAdd, AV.cells, AV.isTuple, setMany, alen, aiaddr, afill, Nat.reduceLeDiff, Nat.reduceMul, Nat.reduceLT, afillE, List.replicate, Int.reduceBNe]
          refine call_pure (Top_ok hs) (frzL_of' (d := 4) (carL_cons car_netF rfl)) ?_
          simp only [walkS, wl, rgets, retv, argsEnv, ev, cst, cst1, cstL, AEnv.get, AEnv.trim, envput, qstep, abin, aun, evs, evo, deref, qload, target, if_true, if_false, Nat.reduceEqDiff, reduceIte, Nat.reduceAdd, AV.cells, AV.isTuple, setMany, alen, aiaddr, afill, Nat.reduceLeDiff, Nat.reduceMul, Nat.reduceLT, afillE, List.replicate]
          refine call_pure (Bottom_ok hs) (frzL_of' (d := 4) (carL_cons car_netF rfl)) ?_
          simp only [walkS, wl, rgets, retv, argsEnv, ev, cst, cst1, cstL, AEnv.get, AEnv.trim, envput, qstep, abin, aun, evs, evo, deref, qload, target, if_true, if_false, Nat.reduceEqDiff, reduceIte, Nat.reduceAdd, AV.cells, AV.isTuple, setMany, alen, aiaddr, afill, Nat.reduceLeDiff, Nat.reduceMul, Nat.reduceLT, afillE, List.replicate]
          have lm : xs.length = m := by omega
          rcases topV_fulf hs hv hg hx with et | ⟨et, hat⟩
          · rcases topV_turn hs hv hg hx with el | ⟨el, hal⟩
            · skip
              rw [et, el]
              simp only [walkS, wl, rgets, retv, argsEnv, ev, cst, cst1, cstL, AEnv.get, AEnv.trim, envput, qstep, abin, aun, evs, evo, deref, qload, target, if_true, if_false, Nat.reduceEqDiff, reduceIte, Nat.reduceAdd, AV.cells, AV.isTuple, setMany, alen, aiaddr, afill, Nat.reduceLeDiff, Nat.reduceMul, Nat.reduceLT, afillE, List.replicate, Int.reduceBNe, Int.reduceBEq]
              simp only [walkS, wl, rgets, retv, argsEnv, ev, cst, cst1, cstL, AEnv.get, AEnv.trim, envput, qstep, abin, aun, evs, evo, deref, qload, target, if_true, if_false, Nat.reduceEqDiff, reduceIte, Nat.reduceAdd, AV.cells, AV.isTuple, setMany, alen, aiaddr, afill, Nat.reduceLeDiff, Nat.reduceMul, Nat.reduceLT, afillE, List.replicate, ic_length]
              refine awp_loop (σ := Nat) (fun k => [(1, .ro false (ic xs)), (2, .ro false (ic ys)), (7, .ro true (ic (List.zipWith max xs ys))), (8, I 42), (9, .ro true (ic (topV m ds).1)), (10, .ro true (ic (botV m ds).1)), (11, I 42), (95, I xs.length), (96, I k)]) (fun _ _ => True) (fun k => k ≤ xs.length) (fun k => xs.length - k) 0 (Nat.zero_le _) rfl trivial ?_
              rintro k H hk -
              simp only [walkS, wl, rgets, retv, argsEnv, ev, cst, cst1, cstL, AEnv.get, AEnv.trim, envput, qstep, abin, aun, evs, evo, deref, qload, target, if_true, if_false, Nat.reduceEqDiff, reduceIte, Nat.reduceAdd, AV.cells, AV.isTuple, setMany, alen, aiaddr, afill, Nat.reduceLeDiff, Nat.reduceMul, Nat.reduceLT, afillE, List.replicate]
              refine withBool_intro ?_ ?_ <;> intro hb <;> simp only [walkS, wl, rgets, retv, argsEnv, ev, cst, cst1, cstL, AEnv.get, AEnv.trim, envput, qstep, abin, aun, evs, evo, deref, qload, target, if_true, if_false, Nat.reduceEqDiff, reduceIte, Nat.reduceAdd, AV.cells, AV.isTuple, setMany, alen, aiaddr, afill, Nat.reduceLeDiff, Nat.reduceMul, Nat.reduceLT, afillE, List.replicate]
              · have hlt : k < xs.length := by simpa using hb
                have hlm : k < m := by omega
                simp only [walkS, wl, rgets, retv, argsEnv, ev, cst, cst1, cstL, AEnv.get, AEnv.trim, envput, qstep, abin, aun, evs, evo, deref, qload, target, if_true, if_false, Nat.reduceEqDiff, reduceIte, Nat.reduceAdd, AV.cells, AV.isTuple, setMany, alen, aiaddr, afill, Nat.reduceLeDiff, Nat.reduceMul, Nat.reduceLT, afillE, List.replicate, zip_get hll hlt, ic_get hlt, ic_get (show k < ys.length by omega), amm_max, bne_self_eq_false, Int.reduceBNe, Int.reduceBEq]
                rw [wrap_id (by omega) (by omega)]
                exact loop_end (k + 1) hlt (by omega) rfl trivial
              · exact out_bool
            · skip
              have fl := Sol.low hg (fulf_turn_sol hg hx) hal
              rw [et, el]
              simp only [walkS, wl, rgets, retv, argsEnv, ev, cst, cst1, cstL, AEnv.get, AEnv.trim, envput, qstep, abin, aun, evs, evo, deref, qload, target, if_true, if_false, Nat.reduceEqDiff, reduceIte, Nat.reduceAdd, AV.cells, AV.isTuple, setMany, alen, aiaddr, afill, Nat.reduceLeDiff, Nat.reduceMul, Nat.reduceLT, afillE, List.replicate, Int.reduceBNe, Int.reduceBEq]
              refine call_pure (fulfils_ok (n := m) (ds := ds) (xs := li m fun v => - (lens m (turn ds) (one 0)).1.long v) (b := false) (by rw [li_length]; unfold big; omega) hd) (frzL_of' (d := 4) (carL_cons car_netF (carL_cons car_icF rfl))) ?_
              rw [fl]
              simp only [walkS, wl, rgets, retv, argsEnv, ev, cst, cst1, cstL, AEnv.get, AEnv.trim, envput, qstep, abin, aun, evs, evo, deref, qload, target, if_true, if_false, Nat.reduceEqDiff, reduceIte, Nat.reduceAdd, AV.cells, AV.isTuple, setMany, alen, aiaddr, afill, Nat.reduceLeDiff, Nat.reduceMul, Nat.reduceLT, afillE, List.replicate, Int.reduceBNe, Int.reduceBEq]
              simp only [walkS, wl, rgets, retv, argsEnv, ev, cst, cst1, cstL, AEnv.get, AEnv.trim, envput, qstep, abin, aun, evs, evo, deref, qload, target, if_true, if_false, Nat.reduceEqDiff, reduceIte, Nat.reduceAdd, AV.cells, AV.isTuple, setMany, alen, aiaddr, afill, Nat.reduceLeDiff, Nat.reduceMul, Nat.reduceLT, afillE, List.replicate, ic_length]
              refine awp_loop (σ := Nat) (fun k => [(1, .ro false (ic xs)), (2, .ro false (ic ys)), (7, .ro true (ic (List.zipWith max xs ys))), (8, I 42), (9, .ro true (ic (topV m ds).1)), (10, .ro true (ic (li m fun v => - (lens m (turn ds) (one 0)).1.long v))), (11, I 0), (95, I xs.length), (96, I k)]) (fun _ _ => True) (fun k => k ≤ xs.length) (fun k => xs.length - k) 0 (Nat.zero_le _) rfl trivial ?_
              rintro k H hk -
              simp only [walkS, wl, rgets, retv, argsEnv, ev, cst, cst1, cstL, AEnv.get, AEnv.trim, envput, qstep, abin, aun, evs, evo, deref, qload, target, if_true, if_false, Nat.reduceEqDiff, reduceIte, Nat.reduceAdd, AV.cells, AV.isTuple, setMany, alen, aiaddr, afill, Nat.reduceLeDiff, Nat.reduceMul, Nat.reduceLT, afillE, List.replicate]
              refine withBool_intro ?_ ?_ <;> intro hb <;> simp only [walkS, wl, rgets, retv, argsEnv, ev, cst, cst1, cstL, AEnv.get, AEnv.trim, envput, qstep, abin, aun, evs, evo, deref, qload, target, if_true, if_false, Nat.reduceEqDiff, reduceIte, Nat.reduceAdd, AV.cells, AV.isTuple, setMany, alen, aiaddr, afill, Nat.reduceLeDiff, Nat.reduceMul, Nat.reduceLT, afillE, List.replicate]
              · have hlt : k < xs.length := by simpa using hb
                have hlm : k < m := by omega
                have t2 := fulf_ge_low hx hg.pos (hal k hlm)
                rw [at0_nat hlt] at t2
                have d2 : decide (xs[k] < - (lens m (turn ds) (one 0)).1.long k) = false := by simpa using t2
                simp only [walkS, wl, rgets, retv, argsEnv, ev, cst, cst1, cstL, AEnv.get, AEnv.trim, envput, qstep, abin, aun, evs, evo, deref, qload, target, if_true, if_false, Nat.reduceEqDiff, reduceIte, Nat.reduceAdd, AV.cells, AV.isTuple, setMany, alen, aiaddr, afill, Nat.reduceLeDiff, Nat.reduceMul, Nat.reduceLT, afillE, List.replicate, zip_get hll hlt, ic_get hlt, ic_get (show k < ys.length by omega), amm_max, bne_self_eq_false, Int.reduceBNe, Int.reduceBEq, li_get hlm, d2]
                rw [wrap_id (by omega) (by omega)]
                exact loop_end (k + 1) hlt (by omega) rfl trivial
              · exact out_bool
          · rcases topV_turn hs hv hg hx with el | ⟨el, hal⟩
            · skip
              have ft := (fulf_sol hg hx).top hat
              rw [et, el]
              simp only [walkS, wl, rgets, retv, argsEnv, ev, cst, cst1, cstL, AEnv.get, AEnv.trim, envput, qstep, abin, aun, evs, evo, deref, qload, target, if_true, if_false, Nat.reduceEqDiff, reduceIte, Nat.reduceAdd, AV.cells, AV.isTuple, setMany, alen, aiaddr, afill, Nat.reduceLeDiff, Nat.reduceMul, Nat.reduceLT, afillE, List.replicate, Int.reduceBNe, Int.reduceBEq]
              refine call_pure (fulfils_ok (n := m) (ds := ds) (xs := li m (lens m ds (one 0)).1.long) (b := false) (by rw [li_length]; unfold big; omega) hd) (frzL_of' (d := 4) (carL_cons car_netF (carL_cons car_icF rfl))) ?_
              rw [ft]
              simp only [walkS, wl, rgets, retv, argsEnv, ev, cst, cst1, cstL, AEnv.get, AEnv.trim, envput, qstep, abin, aun, evs, evo, deref, qload, target, if_true, if_false, Nat.reduceEqDiff, reduceIte, Nat.reduceAdd, AV.cells, AV.isTuple, setMany, alen, aiaddr, afill, Nat.reduceLeDiff, Nat.reduceMul, Nat.reduceLT, afillE, List.replicate, Int.reduceBNe, Int.reduceBEq]
              simp only [walkS, wl, rgets, retv, argsEnv, ev, cst, cst1, cstL, AEnv.get, AEnv.trim, envput, qstep, abin, aun, evs, evo, deref, qload, target, if_true, if_false, Nat.reduceEqDiff, reduceIte, Nat.reduceAdd, AV.cells, AV.isTuple, setMany, alen, aiaddr, afill, Nat.reduceLeDiff, Nat.reduceMul, Nat.reduceLT, afillE, List.replicate, ic_length]
              refine awp_loop (σ := Nat) (fun k => [(1, .ro false (ic xs)), (2, .ro false (ic ys)), (7, .ro true (ic (List.zipWith max xs ys))), (8, I 0), (9, .ro true (ic (li m (lens m ds (one 0)).1.long))), (10, .ro true (ic (botV m ds).1)), (11, I 42), (95, I xs.length), (96, I k)]) (fun _ _ => True) (fun k => k ≤ xs.length) (fun k => xs.length - k) 0 (Nat.zero_le _) rfl trivial ?_
              rintro k H hk -
              simp only [walkS, wl, rgets, retv, argsEnv, ev, cst, cst1, cstL, AEnv.get, AEnv.trim, envput, qstep, abin, aun, evs, evo, deref, qload, target, if_true, if_false, Nat.reduceEqDiff, reduceIte, Nat.reduceAdd, AV.cells, AV.isTuple, setMany, alen, aiaddr, afill, Nat.reduceLeDiff, Nat.reduceMul, Nat.reduceLT, afillE, List.replicate]
              refine withBool_intro ?_ ?_ <;> intro hb <;> simp only [walkS, wl, rgets, retv, argsEnv, ev, cst, cst1, cstL, AEnv.get, AEnv.trim, envput, qstep, abin, aun, evs, evo, deref, qload, target, if_true, if_false, Nat.reduceEqDiff, reduceIte, Nat.reduceAdd, AV.cells, AV.isTuple, setMany, alen, aiaddr, afill, Nat.reduceLeDiff, Nat.reduceMul, Nat.reduceLT, afillE, List.replicate]
              · have hlt : k < xs.length := by simpa using hb
                have hlm : k < m := by omega
                have t1 := fulf_le_top hz hg.pos (hat k hlm)
                rw [at0_zip hll (by omega) (by omega), at0_nat hlt, at0_nat (show k < ys.length by omega)] at t1
                have d1 : decide (max xs[k] (ys[k]'(by omega)) > (lens m ds (one 0)).1.long k) = false := by simpa using t1
                simp only [walkS, wl, rgets, retv, argsEnv, ev, cst, cst1, cstL, AEnv.get, AEnv.trim, envput, qstep, abin, aun, evs, evo, deref, qload, target, if_true, if_false, Nat.reduceEqDiff, reduceIte, Nat.reduceAdd, AV.cells, AV.isTuple, setMany, alen, aiaddr, afill, Nat.reduceLeDiff, Nat.reduceMul, Nat.reduceLT, afillE, List.replicate, zip_get hll hlt, ic_get hlt, ic_get (show k < ys.length by omega), amm_max, bne_self_eq_false, Int.reduceBNe, Int.reduceBEq, li_get hlm, d1]
                rw [wrap_id (by omega) (by omega)]
                exact loop_end (k + 1) hlt (by omega) rfl trivial
              · exact out_bool
            · skip
              have ft := (fulf_sol hg hx).top hat
              have fl := Sol.low hg (fulf_turn_sol hg hx) hal
              rw [et, el]
              simp only [walkS, wl, rgets, retv, argsEnv, ev, cst, cst1, cstL, AEnv.get, AEnv.trim, envput, qstep, abin, aun, evs, evo, deref, qload, target, if_true, if_false, Nat.reduceEqDiff, reduceIte, Nat.reduceAdd, AV.cells, AV.isTuple, setMany, alen, aiaddr, afill, Nat.reduceLeDiff, Nat.reduceMul, Nat.reduceLT, afillE, List.replicate, Int.reduceBNe, Int.reduceBEq]
              refine call_pure (fulfils_ok (n := m) (ds := ds) (xs := li m (lens m ds (one 0)).1.long) (b := false) (by rw [li_length]; unfold big; omega) hd) (frzL_of' (d := 4) (carL_cons car_netF (carL_cons car_icF rfl))) ?_
              rw [ft]
              simp only [walkS, wl, rgets, retv, argsEnv, ev, cst, cst1, cstL, AEnv.get, AEnv.trim, envput, qstep, abin, aun, evs, evo, deref, qload, target, if_true, if_false, Nat.reduceEqDiff, reduceIte, Nat.reduceAdd, AV.cells, AV.isTuple, setMany, alen, aiaddr, afill, Nat.reduceLeDiff, Nat.reduceMul, Nat.reduceLT, afillE, List.replicate, Int.reduceBNe, Int.reduceBEq]
              refine call_pure (fulfils_ok (n := m) (ds := ds) (xs := li m fun v => - (lens m (turn ds) (one 0)).1.long v) (b := false) (by rw [li_length]; unfold big; omega) hd) (frzL_of' (d := 4) (carL_cons car_netF (carL_cons car_icF rfl))) ?_
              rw [fl]
              simp only [walkS, wl, rgets, retv, argsEnv, ev, cst, cst1, cstL, AEnv.get, AEnv.trim, envput, qstep, abin, aun, evs, evo, deref, qload, target, if_true, if_false, Nat.reduceEqDiff, reduceIte, Nat.reduceAdd, AV.cells, AV.isTuple, setMany, alen, aiaddr, afill, Nat.reduceLeDiff, Nat.reduceMul, Nat.reduceLT, afillE, List.replicate, Int.reduceBNe, Int.reduceBEq]
              simp only [walkS, wl, rgets, retv, argsEnv, ev, cst, cst1, cstL, AEnv.get, AEnv.trim, envput, qstep, abin, aun, evs, evo, deref, qload, target, if_true, if_false, Nat.reduceEqDiff, reduceIte, Nat.reduceAdd, AV.cells, AV.isTuple, setMany, alen, aiaddr, afill, Nat.reduceLeDiff, Nat.reduceMul, Nat.reduceLT, afillE, List.replicate, ic_length]
              refine awp_loop (σ := Nat) (fun k => [(1, .ro false (ic xs)), (2, .ro false (ic ys)), (7, .ro true (ic (List.zipWith max xs ys))), (8, I 0), (9, .ro true (ic (li m (lens m ds (one 0)).1.long))), (10, .ro true (ic (li m fun v => - (lens m (turn ds) (one 0)).1.long v))), (11, I 0), (95, I xs.length), (96, I k)]) (fun _ _ => True) (fun k => k ≤ xs.length) (fun k => xs.length - k) 0 (Nat.zero_le _) rfl trivial ?_
              rintro k H hk -
              simp only [walkS, wl, rgets, retv, argsEnv, ev, cst, cst1, cstL, AEnv.get, AEnv.trim, envput, qstep, abin, aun, evs, evo, deref, qload, target, if_true, if_false, Nat.reduceEqDiff, reduceIte, Nat.reduceAdd, AV.cells, AV.isTuple, setMany, alen, aiaddr, afill, Nat.reduceLeDiff, Nat.reduceMul, Nat.reduceLT, afillE, List.replicate]
              refine withBool_intro ?_ ?_ <;> intro hb <;> simp only [walkS, wl, rgets, retv, argsEnv, ev, cst, cst1, cstL, AEnv.get, AEnv.trim, envput, qstep, abin, aun, evs, evo, deref, qload, target, if_true, if_false, Nat.reduceEqDiff, reduceIte, Nat.reduceAdd, AV.cells, AV.isTuple, setMany, alen, aiaddr, afill, Nat.reduceLeDiff, Nat.reduceMul, Nat.reduceLT, afillE, List.replicate]
              · have hlt : k < xs.length := by simpa using hb
                have hlm : k < m := by omega
                have t1 := fulf_le_top hz hg.pos (hat k hlm)
                rw [at0_zip hll (by omega) (by omega), at0_nat hlt, at0_nat (show k < ys.length by omega)] at t1
                have d1 : decide (max xs[k] (ys[k]'(by omega)) > (lens m ds (one 0)).1.long k) = false := by simpa using t1
                have t2 := fulf_ge_low hx hg.pos (hal k hlm)
                rw [at0_nat hlt] at t2
                have d2 : decide (xs[k] < - (lens m (turn ds) (one 0)).1.long k) = false := by simpa using t2
                simp only [walkS, wl, rgets, retv, argsEnv, ev, cst, cst1, cstL, AEnv.get, AEnv.trim, envput, qstep, abin, aun, evs, evo, deref, qload, target, if_true, if_false, Nat.reduceEqDiff, reduceIte, Nat.reduceAdd, AV.cells, AV.isTuple, setMany, alen, aiaddr, afill, Nat.reduceLeDiff, Nat.reduceMul, Nat.reduceLT, afillE, List.replicate, zip_get hll hlt, ic_get hlt, ic_get (show k < ys.length by omega), amm_max, bne_self_eq_false, Int.reduceBNe, Int.reduceBEq, li_get hlm, d1, li_get hlm, d2]
                rw [wrap_id (by omega) (by omega)]
                exact loop_end (k + 1) hlt (by omega) rfl trivial
              · exact out_bool
end Go.Proofs.Ytepnijjgdhldeaa
