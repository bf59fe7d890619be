/- The law DiffsAdded, walked. -/
import Derived.Test.YtepnijjgdhldeaaQV5
import Derived.Test.YtepnijjgdhldeaaQT67
namespace Go.Proofs.Ytepnijjgdhldeaa
open Go.Awp
set_option linter.unusedSimpArgs false
set_option linter.unusedVariables false
set_option maxRecDepth 10000
set_option maxHeartbeats 4000000
theorem ic_wg {l : List Int} {x : Nat} (h : x < l.length) : (ic l)[x]? = some [I (wg l x)] := by rw [ic_get h, wg_eq]
theorem wg_li' {m : Nat} {f : Nat → Int} {v : Nat} (h : v < m) : wg (li m f) v = f v := by simp [wg, li, h]
theorem weighty_wg {m : Nat} {ws : List Int} (hl : ws.length = m) (h : ∀ v, v < m → -4096 ≤ wg ws v ∧ wg ws v ≤ 4096) : weightyB m ws = true := by
  simp only [weightyB, hl, Bool.and_eq_true, decide_eq_true_eq, Bool.not_eq_true', true_and]
  rw [List.any_eq_false]
  intro x hx
  obtain ⟨v, hv, rfl⟩ := List.mem_iff_getElem.1 hx
  have := h v (by omega)
  rw [wg_eq hv]
  simp [wfar]; omega
theorem mostV_sol {m : Nat} {ds : List Df} {ws : List Int} (hv : valid m ds = true) (hw : weightyB m ws = true) (h : Sol m ds) : mostV m ds ws = ((mostN m ds (wg ws)).1, (mostN m ds (wg ws)).2, 0) := by
  have e : bestE m ds ws = 0 := by simp [bestE, hv, hw, h.sol]
  unfold mostV
  rw [if_pos e]; rfl
theorem mostV_bad {m : Nat} {ds : List Df} {ws : List Int} (hv : valid m ds = true) (hw : weightyB m ws = true) (h : (lens m ds (everyone m)).2 = false) : mostV m ds ws = (0, false, 41) := by
  have e : bestE m ds ws = 41 := by simp [bestE, hv, hw, h]
  unfold mostV
  rw [e, if_neg (by decide)]
theorem law7_ok {n : Int} {ds : List Df} {ws vs : List Int} (hlw : ws.length ≤ big) (hlv : vs.length ≤ big) : PCall Try.prog 7 [.agg [I n, .ro false (rows ds)], .ro false (ic ws), .ro false (ic vs)] (.bool true) := by
  refine PCall.intro text7 (by simp) ?_
  unfold ir7
  simp only [walkS, wl, rgets, retv, argsEnv, ev, cst, cst1, cstL, AEnv.get, AEnv.trim, envput, qstep, abin, aun, evs, evo, deref, qload, target, if_true, if_false, Nat.reduceEqDiff, reduceIte, Nat.reduceAdd, AV.cells, AV.isTuple, setMany, alen, aiaddr, afill, Nat.reduceLeDiff, Nat.reduceMul, Nat.reduceLT, afillE, List.replicate]
  refine call_pure sane_ok (frzL_of' (d := 4) rfl) ?_
  simp only [walkS, wl, rgets, retv, argsEnv, ev, cst, cst1, cstL, AEnv.get, AEnv.trim, envput, qstep, abin, aun, evs, evo, deref, qload, target, if_true, if_false, Nat.reduceEqDiff, reduceIte, Nat.reduceAdd, AV.cells, AV.isTuple, setMany, alen, aiaddr, afill, Nat.reduceLeDiff, Nat.reduceMul, Nat.reduceLT, afillE, List.replicate]
  refine call_pure (check_ok n ds) (frzL_of' (d := 4) (carL_cons car_netF rfl)) ?_
  simp only [walkS, wl, rgets, retv, argsEnv, ev, cst, cst1, cstL, AEnv.get, AEnv.trim, envput, qstep, abin, aun, evs, evo, deref, qload, target, if_true, if_false, Nat.reduceEqDiff, reduceIte, Nat.reduceAdd, AV.cells, AV.isTuple, setMany, alen, aiaddr, afill, Nat.reduceLeDiff, Nat.reduceMul, Nat.reduceLT, afillE, List.replicate]
  refine withGuard_intro ?_ ?_ <;> intro h <;> simp only [walkS, wl, rgets, retv, argsEnv, ev, cst, cst1, cstL, AEnv.get, AEnv.trim, envput, qstep, abin, aun, evs, evo, deref, qload, target, if_true, if_false, Nat.reduceEqDiff, reduceIte, Nat.reduceAdd, AV.cells, AV.isTuple, setMany, alen, aiaddr, afill, Nat.reduceLeDiff, Nat.reduceMul, Nat.reduceLT, afillE, List.replicate, h]
  · have hv := check_eq (n := n) (ds := ds) (by simpa using h)
    refine call_pure (small_ok (n := n) (ds := ds)) (frzL_of' (d := 4) (carL_cons car_netF rfl)) ?_
    simp only [walkS, wl, rgets, retv, argsEnv, ev, cst, cst1, cstL, AEnv.get, AEnv.trim, envput, qstep, abin, aun, evs, evo, deref, qload, target, if_true, if_false, Nat.reduceEqDiff, reduceIte, Nat.reduceAdd, AV.cells, AV.isTuple, setMany, alen, aiaddr, afill, Nat.reduceLeDiff, Nat.reduceMul, Nat.reduceLT, afillE, List.replicate]
    generalize hsm : (decide (n ≤ 16) && decide (ds.length ≤ 60)) = sm
    cases sm with
    | false => simp only [walkS, wl, rgets, retv, argsEnv, ev, cst, cst1, cstL, AEnv.get, AEnv.trim, envput, qstep, abin, aun, evs, evo, deref, qload, target, if_true, if_false, Nat.reduceEqDiff, reduceIte, Nat.reduceAdd, AV.cells, AV.isTuple, setMany, alen, aiaddr, afill, Nat.reduceLeDiff, Nat.reduceMul, Nat.reduceLT, afillE, List.replicate, Bool.not_false]; exact out_bool
    | true =>
      simp at hsm
      obtain ⟨m, rfl, hg, hm⟩ := good_of hv hsm.1
      by_cases l1 : ws.length = m
      · by_cases l2 : vs.length = m
        · have e1 : ((ws.length : Int) != (m : Int)) = false := by simp [l1]
          have e2 : ((vs.length : Int) != (m : Int)) = false := by simp [l2]
          have hs : valid m ds = true → (m : Int) ≤ 16 ∧ ds.length ≤ 60 := fun _ => hsm
          have c1 : (m : Int) ≤ m ∧ ((8 : Nat) : Int) * m ≤ 281474976710656 ∧ (m : Int) ≤ 9223372036854775807 := by omega
          simp only [walkS, wl, rgets, retv, argsEnv, ev, cst, cst1, cstL, AEnv.get, AEnv.trim, envput, qstep, abin, aun, evs, evo, deref, qload, target, if_true, if_false, Nat.reduceEqDiff, reduceIte, Nat.reduceAdd, AV.cells, AV.isTuple, setMany, alen, aiaddr, afill, Nat.reduceLeDiff, Nat.reduceMul, Nat.reduceLT, afillE, List.replicate, Bool.not_true, ic_length, e1, e2, if_pos c1, li_const, li_length]
          refine awp_loop (σ := Nat) (fun k => [(1, .ro false (ic ws)), (2, .ro false (ic vs)), (3, .ptr 0 1 0 0), (7, .own 1 m 0 m), (46, I m), (47, I k)])
            (fun k H => AHeap.obj H 0 = some ⟨24, 2, [[I m, .ro false (rows ds)]]⟩ ∧ AHeap.obj H 1 = some ⟨3, 1, ic (li m fun i => if i < k then wg ws i + wg vs i else 0)⟩)
            (fun k => k ≤ m ∧ ∀ i, i < k → (-4096 ≤ wg ws i ∧ wg ws i ≤ 4096) ∧ (-4096 ≤ wg vs i ∧ wg vs i ≤ 4096) ∧ (-4096 ≤ wg ws i + wg vs i ∧ wg ws i + wg vs i ≤ 4096)) (fun k => m - k) 0 ⟨Nat.zero_le _, by simp⟩ rfl ⟨rfl, by simp; rfl⟩ ?_
          rintro k H ⟨hk, hall⟩ ⟨o0, o1⟩
          simp only [walkS, wl, rgets, retv, argsEnv, ev, cst, cst1, cstL, AEnv.get, AEnv.trim, envput, qstep, abin, aun, evs, evo, deref, qload, target, if_true, if_false, Nat.reduceEqDiff, reduceIte, Nat.reduceAdd, AV.cells, AV.isTuple, setMany, alen, aiaddr, afill, Nat.reduceLeDiff, Nat.reduceMul, Nat.reduceLT, afillE, List.replicate]
          refine withBool_intro ?_ ?_ <;> intro hb <;> simp only [walkS, wl, rgets, retv, argsEnv, ev, cst, cst1, cstL, AEnv.get, AEnv.trim, envput, qstep, abin, aun, evs, evo, deref, qload, target, if_true, if_false, Nat.reduceEqDiff, reduceIte, Nat.reduceAdd, AV.cells, AV.isTuple, setMany, alen, aiaddr, afill, Nat.reduceLeDiff, Nat.reduceMul, Nat.reduceLT, afillE, List.replicate]
          · have hlt : k < m := by simpa using hb
            have g1 := ic_wg (l := ws) (x := k) (by omega)
            have g2 := ic_wg (l := vs) (x := k) (by omega)
            have f1 : (k : Int) < (ws.length : Int) := by omega
            have f2 : (k : Int) < (vs.length : Int) := by omega
            by_cases q1 : min (wg ws k) (wg vs k) < -4096
            · simp only [walkS, wl, rgets, retv, argsEnv, ev, cst, cst1, cstL, AEnv.get, AEnv.trim, envput, qstep, abin, aun, evs, evo, deref, qload, target, if_true, if_false, Nat.reduceEqDiff, reduceIte, Nat.reduceAdd, AV.cells, AV.isTuple, setMany, alen, aiaddr, afill, Nat.reduceLeDiff, Nat.reduceMul, Nat.reduceLT, afillE, List.replicate, g1, g2, ic_length, if_pos f1, if_pos f2, amm_min, amm_max, decide_eq_true q1]; exact out_bool
            · by_cases q2 : max (wg ws k) (wg vs k) > 4096
              · simp only [walkS, wl, rgets, retv, argsEnv, ev, cst, cst1, cstL, AEnv.get, AEnv.trim, envput, qstep, abin, aun, evs, evo, deref, qload, target, if_true, if_false, Nat.reduceEqDiff, reduceIte, Nat.reduceAdd, AV.cells, AV.isTuple, setMany, alen, aiaddr, afill, Nat.reduceLeDiff, Nat.reduceMul, Nat.reduceLT, afillE, List.replicate, g1, g2, ic_length, if_pos f1, if_pos f2, amm_min, amm_max, decide_eq_false q1, decide_eq_true q2]; exact out_bool
              · have w1 : IntKind.i64.wrap (wg ws k + wg vs k) = wg ws k + wg vs k := wrap_id (by omega) (by omega)
                by_cases q3 : wg ws k + wg vs k < -4096
                · simp only [walkS, wl, rgets, retv, argsEnv, ev, cst, cst1, cstL, AEnv.get, AEnv.trim, envput, qstep, abin, aun, evs, evo, deref, qload, target, if_true, if_false, Nat.reduceEqDiff, reduceIte, Nat.reduceAdd, AV.cells, AV.isTuple, setMany, alen, aiaddr, afill, Nat.reduceLeDiff, Nat.reduceMul, Nat.reduceLT, afillE, List.replicate, g1, g2, ic_length, if_pos f1, if_pos f2, amm_min, amm_max, decide_eq_false q1, decide_eq_false q2, w1, decide_eq_true q3]; exact out_bool
                · by_cases q4 : wg ws k + wg vs k > 4096
                  · simp only [walkS, wl, rgets, retv, argsEnv, ev, cst, cst1, cstL, AEnv.get, AEnv.trim, envput, qstep, abin, aun, evs, evo, deref, qload, target, if_true, if_false, Nat.reduceEqDiff, reduceIte, Nat.reduceAdd, AV.cells, AV.isTuple, setMany, alen, aiaddr, afill, Nat.reduceLeDiff, Nat.reduceMul, Nat.reduceLT, afillE, List.replicate, g1, g2, ic_length, if_pos f1, if_pos f2, amm_min, amm_max, decide_eq_false q1, decide_eq_false q2, w1, decide_eq_false q3, decide_eq_true q4]; exact out_bool
                  · simp only [walkS, wl, rgets, retv, argsEnv, ev, cst, cst1, cstL, AEnv.get, AEnv.trim, envput, qstep, abin, aun, evs, evo, deref, qload, target, if_true, if_false, Nat.reduceEqDiff, reduceIte, Nat.reduceAdd, AV.cells, AV.isTuple, setMany, alen, aiaddr, afill, Nat.reduceLeDiff, Nat.reduceMul, Nat.reduceLT, afillE, List.replicate, g1, g2, ic_length, if_pos f1, if_pos f2, amm_min, amm_max, decide_eq_false q1, decide_eq_false q2, w1, decide_eq_false q3, decide_eq_false q4, o1, li_length, if_pos (show (k : Int) < m by omega)]
                    refine storeR rfl rfl o1 (li_get hlt) ⟨by simp [ic_length, li_length], rfl, rfl, by simp⟩ fun H1 y1 y2 y3 => ?_
                    simp only [AV.cells, setMany, List.set_cons_zero, li_set] at y2
                    simp only [walkS, wl, rgets, retv, argsEnv, ev, cst, cst1, cstL, AEnv.get, AEnv.trim, envput, qstep, abin, aun, evs, evo, deref, qload, target, if_true, if_false, Nat.reduceEqDiff, reduceIte, Nat.reduceAdd, AV.cells, AV.isTuple, setMany, alen, aiaddr, afill, Nat.reduceLeDiff, Nat.reduceMul, Nat.reduceLT, afillE, List.replicate]
                    rw [wrap_id (by omega) (by omega)]
                    refine loop_end (k + 1) ⟨hlt, fun i hi => ?_⟩ (by omega) rfl ⟨(y3 0 (by omega)).trans o0, ?_⟩
                    · by_cases e : i = k
                      · subst e; omega
                      · exact hall i (by omega)
                    · rw [y2]
                      congr 3
                      refine List.map_congr_left (l := List.range m) fun i _ => ?_
                      by_cases e : i = k
                      · subst e; rw [upd_eq, if_pos (by omega)]
                      · rw [upd_ne e]
                        by_cases h' : i < k
                        · rw [if_pos h', if_pos (by omega)]
                        · rw [if_neg h', if_neg (by omega)]
          · have hkm : k = m := by simp at hb; omega
            subst hkm
            have b1 := weighty_wg l1 fun v hv' => (hall v hv').1
            have b2 := weighty_wg l2 fun v hv' => (hall v hv').2.1
            have l3 : (li k fun i => if i < k then wg ws i + wg vs i else 0).length = k := li_length
            have ue : ∀ v, v < k → wg (li k fun i => if i < k then wg ws i + wg vs i else 0) v = wg ws v + wg vs v := fun v hv' => by rw [wg_li' hv', if_pos hv']
            have b3 := weighty_wg l3 fun v hv' => by rw [ue v hv']; exact (hall v hv').2.2
            have lu : (li k fun i => if i < k then wg ws i + wg vs i else 0).length ≤ big := by rw [l3]; unfold big; omega
            simp only [walkS, wl, rgets, retv, argsEnv, ev, cst, cst1, cstL, AEnv.get, AEnv.trim, envput, qstep, abin, aun, evs, evo, deref, qload, target, if_true, if_false, Nat.reduceEqDiff, reduceIte, Nat.reduceAdd, AV.cells, AV.isTuple, setMany, alen, aiaddr, afill, Nat.reduceLeDiff, Nat.reduceMul, Nat.reduceLT, afillE, List.replicate, o0]
            refine call_pure (Most_ok (n := k) (ds := ds) (ws := ws) hlw hs) (frzL_of' (d := 4) (carL_cons car_netF (carL_cons car_icF rfl))) ?_
            simp only [walkS, wl, rgets, retv, argsEnv, ev, cst, cst1, cstL, AEnv.get, AEnv.trim, envput, qstep, abin, aun, evs, evo, deref, qload, target, if_true, if_false, Nat.reduceEqDiff, reduceIte, Nat.reduceAdd, AV.cells, AV.isTuple, setMany, alen, aiaddr, afill, Nat.reduceLeDiff, Nat.reduceMul, Nat.reduceLT, afillE, List.replicate, o0]
            refine call_pure (Most_ok (n := k) (ds := ds) (ws := vs) hlv hs) (frzL_of' (d := 4) (carL_cons car_netF (carL_cons car_icF rfl))) ?_
            simp only [walkS, wl, rgets, retv, argsEnv, ev, cst, cst1, cstL, AEnv.get, AEnv.trim, envput, qstep, abin, aun, evs, evo, deref, qload, target, if_true, if_false, Nat.reduceEqDiff, reduceIte, Nat.reduceAdd, AV.cells, AV.isTuple, setMany, alen, aiaddr, afill, Nat.reduceLeDiff, Nat.reduceMul, Nat.reduceLT, afillE, List.replicate, o0]
            refine call_pure (Most_ok (n := k) (ds := ds) (ws := li k fun i => if i < k then wg ws i + wg vs i else 0) lu hs) (frzL_of' (d := 4) (carL_cons car_netF (carL_cons (car_ownN o1 (by rw [ic_length, li_length]) (ic_simple _)) rfl))) ?_
            cases hsol : (lens k ds (everyone k)).2 with
            | false =>
              rw [mostV_bad hv b1 hsol, mostV_bad hv b2 hsol, mostV_bad hv b3 hsol]
              simp only [walkS, wl, rgets, retv, argsEnv, ev, cst, cst1, cstL, AEnv.get, AEnv.trim, envput, qstep, abin, aun, evs, evo, deref, qload, target, if_true, if_false, Nat.reduceEqDiff, reduceIte, Nat.reduceAdd, AV.cells, AV.isTuple, setMany, alen, aiaddr, afill, Nat.reduceLeDiff, Nat.reduceMul, Nat.reduceLT, afillE, List.replicate, Int.reduceBNe, Bool.not_false]
              exact out_bool
            | true =>
              have sol : Sol k ds := ⟨hg, hsol⟩
              rw [mostV_sol hv b1 sol, mostV_sol hv b2 sol, mostV_sol hv b3 sol]
              have p1 := phi_le (n := k) (W := wg ws) (c := 4096) (weighty_get b1).2
              have p2 := phi_le (n := k) (W := wg vs) (c := 4096) (weighty_get b2).2
              have pk : k * 4096 ≤ 16 * 4096 := Nat.mul_le_mul_right _ hm
              have m1 := most_bound (w := wg ws) sol hsm.2 (by omega)
              have m2 := most_bound (w := wg vs) sol hsm.2 (by omega)
              cases h1 : (mostN k ds (wg ws)).2 with
              | false =>
                simp only [walkS, wl, rgets, retv, argsEnv, ev, cst, cst1, cstL, AEnv.get, AEnv.trim, envput, qstep, abin, aun, evs, evo, deref, qload, target, if_true, if_false, Nat.reduceEqDiff, reduceIte, Nat.reduceAdd, AV.cells, AV.isTuple, setMany, alen, aiaddr, afill, Nat.reduceLeDiff, Nat.reduceMul, Nat.reduceLT, afillE, List.replicate, Int.reduceBNe, Bool.not_false]
                exact out_bool
              | true =>
                cases h2 : (mostN k ds (wg vs)).2 with
                | false =>
                  simp only [walkS, wl, rgets, retv, argsEnv, ev, cst, cst1, cstL, AEnv.get, AEnv.trim, envput, qstep, abin, aun, evs, evo, deref, qload, target, if_true, if_false, Nat.reduceEqDiff, reduceIte, Nat.reduceAdd, AV.cells, AV.isTuple, setMany, alen, aiaddr, afill, Nat.reduceLeDiff, Nat.reduceMul, Nat.reduceLT, afillE, List.replicate, Int.reduceBNe, Bool.not_false, Bool.not_true]
                  exact out_bool
                | true =>
                  obtain ⟨h3, h4⟩ := most_add (w := wg ws) (v := wg vs) (u := wg (li k fun i => if i < k then wg ws i + wg vs i else 0)) sol (by omega) (fun i _ hi => ue i hi) h1 h2
                  rw [h3]
                  simp only [walkS, wl, rgets, retv, argsEnv, ev, cst, cst1, cstL, AEnv.get, AEnv.trim, envput, qstep, abin, aun, evs, evo, deref, qload, target, if_true, if_false, Nat.reduceEqDiff, reduceIte, Nat.reduceAdd, AV.cells, AV.isTuple, setMany, alen, aiaddr, afill, Nat.reduceLeDiff, Nat.reduceMul, Nat.reduceLT, afillE, List.replicate, Int.reduceBNe, Bool.not_false, Bool.not_true]
                  rw [wrap_id (by omega) (by omega), decide_eq_true h4]
                  exact out_bool
        · have e1 : ((ws.length : Int) != (m : Int)) = false := by simp [l1]
          have e2 : ((vs.length : Int) != (m : Int)) = true := by simp; omega
          simp only [walkS, wl, rgets, retv, argsEnv, ev, cst, cst1, cstL, AEnv.get, AEnv.trim, envput, qstep, abin, aun, evs, evo, deref, qload, target, if_true, if_false, Nat.reduceEqDiff, reduceIte, Nat.reduceAdd, AV.cells, AV.isTuple, setMany, alen, aiaddr, afill, Nat.reduceLeDiff, Nat.reduceMul, Nat.reduceLT, afillE, List.replicate, Bool.not_true, ic_length, e1, e2]
          exact out_bool
      · have e1 : ((ws.length : Int) != (m : Int)) = true := by simp; omega
        simp only [walkS, wl, rgets, retv, argsEnv, ev, cst, cst1, cstL, AEnv.get, AEnv.trim, envput, qstep, abin, aun, evs, evo, deref, qload, target, if_true, if_false, Nat.reduceEqDiff, reduceIte, Nat.reduceAdd, AV.cells, AV.isTuple, setMany, alen, aiaddr, afill, Nat.reduceLeDiff, Nat.reduceMul, Nat.reduceLT, afillE, List.replicate, Bool.not_true, ic_length, e1]
        exact out_bool
  · exact out_bool
end Go.Proofs.Ytepnijjgdhldeaa
