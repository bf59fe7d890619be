/- The law DiffsMostSpec, walked. -/
import Derived.Test.YtepnijjgdhldeaaQD37
import Derived.Test.YtepnijjgdhldeaaQE12
import Derived.Test.YtepnijjgdhldeaaQE3
import Derived.Test.YtepnijjgdhldeaaQT11
namespace Go.Proofs.Ytepnijjgdhldeaa
open Go.Awp
set_option linter.unusedSimpArgs false
set_option linter.unusedVariables false
set_option linter.unusedSectionVars false
set_option maxRecDepth 10000
set_option maxHeartbeats 8000000
theorem law11_rest {n most : Int} {ds : List Df} {ws fl : List Int} (hld : ds.length ≤ big) (hlw : ws.length ≤ big) (hlf : fl.length ≤ big) (hs : valid n ds = true → n ≤ 16 ∧ ds.length ≤ 60) :
    awp Try.prog ir11r (fnPost [.tmp 8] fun x H' => Out H' x (.bool true)) [(1, .ro false (ic ws)), (2, I most), (3, .ro false (ic fl)), (4, .ptr 0 1 0 0), (30, .bool false)] [some ⟨24, 2, [[I n, .ro false (rows ds)]]⟩] := by
  unfold ir11r
  simp only [walkS, wl, rgets, retv, argsEnv, ev, cst, cst1, cstL, AEnv.get, AEnv.trim, envput, qstep, abin, aun, evs, evo, deref, qload, target, if_true, if_false, Nat.reduceEqDiff, reduceIte, Nat.reduceAdd, AV.cells, AV.isTuple, setMany, alen, aiaddr, afill, Nat.reduceLeDiff, Nat.reduceMul, Nat.reduceLT, afillE, List.replicate]
  refine dcall_pure (CheckFlow_ok (n := n) (ds := ds) (most := most) hlw hlf) (frzL_of (d := 4) (carL_cons car_netF (carL_cons car_icF (carL_cons rfl (carL_cons car_icF rfl))))) ?_
  simp only [walkS, wl, rgets, retv, argsEnv, ev, cst, cst1, cstL, AEnv.get, AEnv.trim, envput, qstep, abin, aun, evs, evo, deref, qload, target, if_true, if_false, Nat.reduceEqDiff, reduceIte, Nat.reduceAdd, AV.cells, AV.isTuple, setMany, alen, aiaddr, afill, Nat.reduceLeDiff, Nat.reduceMul, Nat.reduceLT, afillE, List.replicate]
  refine call_pure (refCheckFlow_ok (n := n) (ds := ds) (most := most) hlw hlf hld hs) (frzL_of' (d := 4) (carL_cons car_netF (carL_cons car_icF (carL_cons rfl (carL_cons car_icF rfl))))) ?_
  simp only [walkS, wl, rgets, retv, argsEnv, ev, cst, cst1, cstL, AEnv.get, AEnv.trim, envput, qstep, abin, aun, evs, evo, deref, qload, target, if_true, if_false, Nat.reduceEqDiff, reduceIte, Nat.reduceAdd, AV.cells, AV.isTuple, setMany, alen, aiaddr, afill, Nat.reduceLeDiff, Nat.reduceMul, Nat.reduceLT, afillE, List.replicate, bne_self_eq_false]
  refine call_pure (Most_ok (n := n) (ds := ds) (ws := ws) hlw hs) (frzL_of' (d := 4) (carL_cons car_netF (carL_cons car_icF rfl))) ?_
  simp only [walkS, wl, rgets, retv, argsEnv, ev, cst, cst1, cstL, AEnv.get, AEnv.trim, envput, qstep, abin, aun, evs, evo, deref, qload, target, if_true, if_false, Nat.reduceEqDiff, reduceIte, Nat.reduceAdd, AV.cells, AV.isTuple, setMany, alen, aiaddr, afill, Nat.reduceLeDiff, Nat.reduceMul, Nat.reduceLT, afillE, List.replicate]
  refine call_pure (refMost_ok (n := n) (ds := ds) (ws := ws) hlw hs) (frzL_of' (d := 4) (carL_cons car_netF (carL_cons car_icF rfl))) ?_
  simp only [walkS, wl, rgets, retv, argsEnv, ev, cst, cst1, cstL, AEnv.get, AEnv.trim, envput, qstep, abin, aun, evs, evo, deref, qload, target, if_true, if_false, Nat.reduceEqDiff, reduceIte, Nat.reduceAdd, AV.cells, AV.isTuple, setMany, alen, aiaddr, afill, Nat.reduceLeDiff, Nat.reduceMul, Nat.reduceLT, afillE, List.replicate]
  refine (Best_at hlw hs _).mono fun x H1 hx => ?_
  obtain ⟨b1, b2, b3⟩ := hx
  have o1 : AHeap.obj H1 0 = some ⟨24, 2, [[I n, .ro false (rows ds)]]⟩ := by rw [b2 0 (by simp)]; rfl
  rcases b3 with ⟨he, rfl⟩ | ⟨he, m, rfl, sol, b3⟩
  · have hmv : mostV n ds ws = (0, false, bestE n ds ws) := if_neg he
    rw [hmv]
    simp only [walkS, wl, rgets, retv, argsEnv, ev, cst, cst1, cstL, AEnv.get, AEnv.trim, envput, qstep, abin, aun, evs, evo, deref, qload, target, if_true, if_false, Nat.reduceEqDiff, reduceIte, Nat.reduceAdd, AV.cells, AV.isTuple, setMany, alen, aiaddr, afill, Nat.reduceLeDiff, Nat.reduceMul, Nat.reduceLT, afillE, List.replicate, o1]
    refine (Flow_at hlw hs H1).mono fun y H2 hy => ?_
    rcases hy.cas with ⟨_, rfl⟩ | ⟨h, _⟩
    · simp only [walkS, wl, rgets, retv, argsEnv, ev, cst, cst1, cstL, AEnv.get, AEnv.trim, envput, qstep, abin, aun, evs, evo, deref, qload, target, if_true, if_false, Nat.reduceEqDiff, reduceIte, Nat.reduceAdd, AV.cells, AV.isTuple, setMany, alen, aiaddr, afill, Nat.reduceLeDiff, Nat.reduceMul, Nat.reduceLT, afillE, List.replicate, bne_self_eq_false, beq_self_eq_true, Bool.not_true, Bool.not_false, Int.reduceBEq]
      exact out_bool
    · exact absurd h he
  · have hmv : mostV m ds ws = ((mostN m ds (wg ws)).1, (mostN m ds (wg ws)).2, 0) := by unfold mostV; rw [if_pos he]; rfl
    have hfd : ∀ d, d ∈ ds → fr d < m ∧ to d < m := fun d hd => ⟨sol.good.fit.fr d hd, sol.good.fit.to d hd⟩
    obtain ⟨hv, hw, _⟩ := bestE_iff he
    obtain ⟨h16, hK⟩ := hs hv
    obtain ⟨hlw', hwb⟩ := weighty_w hw
    rw [hmv]
    rcases b3 with ⟨rfl, y, hray⟩ | ⟨f, rfl, bf, bf0, bt, bs⟩
    · rw [mostN_f hfd hray]
      simp only [walkS, wl, rgets, retv, argsEnv, ev, cst, cst1, cstL, AEnv.get, AEnv.trim, envput, qstep, abin, aun, evs, evo, deref, qload, target, if_true, if_false, Nat.reduceEqDiff, reduceIte, Nat.reduceAdd, AV.cells, AV.isTuple, setMany, alen, aiaddr, afill, Nat.reduceLeDiff, Nat.reduceMul, Nat.reduceLT, afillE, List.replicate, o1]
      refine (Flow_at hlw hs H1).mono fun y H2 hy => ?_
      rcases hy.cas with ⟨h, _⟩ | ⟨_, m', hm', _, c3⟩
      · exact absurd he h
      obtain rfl : m = m' := by omega
      rcases c3 with ⟨rfl, _⟩ | ⟨h', F, rfl, _, _, cO, _⟩
      · simp only [walkS, wl, rgets, retv, argsEnv, ev, cst, cst1, cstL, AEnv.get, AEnv.trim, envput, qstep, abin, aun, evs, evo, deref, qload, target, if_true, if_false, Nat.reduceEqDiff, reduceIte, Nat.reduceAdd, AV.cells, AV.isTuple, setMany, alen, aiaddr, afill, Nat.reduceLeDiff, Nat.reduceMul, Nat.reduceLT, afillE, List.replicate, bne_self_eq_false, beq_self_eq_true, Bool.not_true, Bool.not_false, Int.reduceBEq]
        exact out_bool
      · exact (hray.none hfd cO.brings).elim
    · simp only [walkS, wl, rgets, retv, argsEnv, ev, cst, cst1, cstL, AEnv.get, AEnv.trim, envput, qstep, abin, aun, evs, evo, deref, qload, target, if_true, if_false, Nat.reduceEqDiff, reduceIte, Nat.reduceAdd, AV.cells, AV.isTuple, setMany, alen, aiaddr, afill, Nat.reduceLeDiff, Nat.reduceMul, Nat.reduceLT, afillE, List.replicate, o1]
      refine (Flow_at hlw hs H1).mono fun y H2 hy => ?_
      have o2 : AHeap.obj H2 0 = some ⟨24, 2, [[I m, .ro false (rows ds)]]⟩ := by rw [hy.same 0 (AHeap.obj_lt o1)]; exact o1
      rcases hy.cas with ⟨h, _⟩ | ⟨_, m', hm', _, c3⟩
      · exact absurd he h
      obtain rfl : m = m' := by omega
      rcases c3 with ⟨rfl, y, hray⟩ | ⟨h', F, rfl, _, oF, cO, hF⟩
      · rw [mostN_f hfd hray] at bt; cases bt
      · have hmn := mostN_t hfd cO
        rw [hmn] at bs ⊢
        simp only [walkS, wl, rgets, retv, argsEnv, ev, cst, cst1, cstL, AEnv.get, AEnv.trim, envput, qstep, abin, aun, evs, evo, deref, qload, target, if_true, if_false, Nat.reduceEqDiff, reduceIte, Nat.reduceAdd, AV.cells, AV.isTuple, setMany, alen, aiaddr, afill, Nat.reduceLeDiff, Nat.reduceMul, Nat.reduceLT, afillE, List.replicate, bne_self_eq_false, beq_self_eq_true, Bool.not_true, Bool.not_false, Int.reduceBEq, o2]
        refine call_pure (Fulfils_ok m ds (li m f) hv (by rw [li_length]; unfold big; omega)) (frzL_of' (d := 4) (carL_cons car_netF (carL_cons car_icF rfl))) ?_
        obtain ⟨n1, n2⟩ := fulf_numbers bf
        rw [n1, n2]
        obtain ⟨g1, g2, g3, g4⟩ := fulf_feas hv bf
        have hsum := Sum_ok (ws := ws) (xs := li m f) (b := false) (c := false) (by rw [li_length]; omega) (by omega) hwb g4
        rw [show ws.length = m by omega, wg_li_bound hv bf (wg ws) bf0, bs] at hsum
        simp only [walkS, wl, rgets, retv, argsEnv, ev, cst, cst1, cstL, AEnv.get, AEnv.trim, envput, qstep, abin, aun, evs, evo, deref, qload, target, if_true, if_false, Nat.reduceEqDiff, reduceIte, Nat.reduceAdd, AV.cells, AV.isTuple, setMany, alen, aiaddr, afill, Nat.reduceLeDiff, Nat.reduceMul, Nat.reduceLT, afillE, List.replicate, Bool.and_self, o2]
        refine call_pure hsum (frzL_of' (d := 4) (carL_cons car_icF (carL_cons car_icF rfl))) ?_
        simp only [walkS, wl, rgets, retv, argsEnv, ev, cst, cst1, cstL, AEnv.get, AEnv.trim, envput, qstep, abin, aun, evs, evo, deref, qload, target, if_true, if_false, Nat.reduceEqDiff, reduceIte, Nat.reduceAdd, AV.cells, AV.isTuple, setMany, alen, aiaddr, afill, Nat.reduceLeDiff, Nat.reduceMul, Nat.reduceLT, afillE, List.replicate, bne_self_eq_false, beq_self_eq_true, Bool.not_true, Bool.not_false, Int.reduceBEq, o2]
        refine call_pure (refCheckFlow_ok (n := m) (ds := ds) (ws := ws) (most := costN ds F) (fl := li ds.length F) hlw (by rw [li_length]; exact hld) hld hs) (frzL_of' (d := 4) (carL_cons car_netF (carL_cons car_icF (carL_cons rfl (carL_cons (car_ownN (d := 2) oF (by rw [ic_length, li_length]) (ic_simple _)) rfl))))) ?_
        rw [ck_flow hv hw cO fun k hk => ⟨(hF k hk).1, by have := (hF k hk).2; omega⟩]
        simp only [walkS, wl, rgets, retv, argsEnv, ev, cst, cst1, cstL, AEnv.get, AEnv.trim, envput, qstep, abin, aun, evs, evo, deref, qload, target, if_true, if_false, Nat.reduceEqDiff, reduceIte, Nat.reduceAdd, AV.cells, AV.isTuple, setMany, alen, aiaddr, afill, Nat.reduceLeDiff, Nat.reduceMul, Nat.reduceLT, afillE, List.replicate, bne_self_eq_false, beq_self_eq_true, Bool.not_true, Bool.not_false, Int.reduceBEq]
        exact out_bool
theorem law11_ok {n most : Int} {ds : List Df} {ws fl : List Int} (hld : ds.length ≤ big) (hlw : ws.length ≤ big) (hlf : fl.length ≤ big) : PCall Try.prog 11 [.agg [I n, .ro false (rows ds)], .ro false (ic ws), I most, .ro false (ic fl)] (.bool true) := by
  refine PCall.intro text11 (by simp) ?_
  unfold ir11
  simp only [walkS, wl, rgets, retv, argsEnv, ev, cst, cst1, cstL, AEnv.get, AEnv.trim, envput, qstep, abin, aun, evs, evo, deref, qload, target, if_true, if_false, Nat.reduceEqDiff, reduceIte, Nat.reduceAdd, AV.cells, AV.isTuple, setMany, alen, aiaddr, afill, Nat.reduceLeDiff, Nat.reduceMul, Nat.reduceLT, afillE, List.replicate]
  refine call_pure sane_ok (frzL_of' (d := 4) rfl) ?_
  simp only [walkS, wl, rgets, retv, argsEnv, ev, cst, cst1, cstL, AEnv.get, AEnv.trim, envput, qstep, abin, aun, evs, evo, deref, qload, target, if_true, if_false, Nat.reduceEqDiff, reduceIte, Nat.reduceAdd, AV.cells, AV.isTuple, setMany, alen, aiaddr, afill, Nat.reduceLeDiff, Nat.reduceMul, Nat.reduceLT, afillE, List.replicate]
  refine call_pure (refCheck_ok n ds) (frzL_of' (d := 4) (carL_cons car_netF rfl)) ?_
  simp only [walkS, wl, rgets, retv, argsEnv, ev, cst, cst1, cstL, AEnv.get, AEnv.trim, envput, qstep, abin, aun, evs, evo, deref, qload, target, if_true, if_false, Nat.reduceEqDiff, reduceIte, Nat.reduceAdd, AV.cells, AV.isTuple, setMany, alen, aiaddr, afill, Nat.reduceLeDiff, Nat.reduceMul, Nat.reduceLT, afillE, List.replicate]
  refine withGuard_intro ?_ ?_ <;> intro h <;> simp only [walkS, wl, rgets, retv, argsEnv, ev, cst, cst1, cstL, AEnv.get, AEnv.trim, envput, qstep, abin, aun, evs, evo, deref, qload, target, if_true, if_false, Nat.reduceEqDiff, reduceIte, Nat.reduceAdd, AV.cells, AV.isTuple, setMany, alen, aiaddr, afill, Nat.reduceLeDiff, Nat.reduceMul, Nat.reduceLT, afillE, List.replicate, h]
  · refine call_pure (small_ok (n := n) (ds := ds)) (frzL_of' (d := 4) (carL_cons car_netF rfl)) ?_
    simp only [walkS, wl, rgets, retv, argsEnv, ev, cst, cst1, cstL, AEnv.get, AEnv.trim, envput, qstep, abin, aun, evs, evo, deref, qload, target, if_true, if_false, Nat.reduceEqDiff, reduceIte, Nat.reduceAdd, AV.cells, AV.isTuple, setMany, alen, aiaddr, afill, Nat.reduceLeDiff, Nat.reduceMul, Nat.reduceLT, afillE, List.replicate, h]
    refine withBool_intro ?_ ?_ <;> intro h2 <;> simp only [walkS, wl, rgets, retv, argsEnv, ev, cst, cst1, cstL, AEnv.get, AEnv.trim, envput, qstep, abin, aun, evs, evo, deref, qload, target, if_true, if_false, Nat.reduceEqDiff, reduceIte, Nat.reduceAdd, AV.cells, AV.isTuple, setMany, alen, aiaddr, afill, Nat.reduceLeDiff, Nat.reduceMul, Nat.reduceLT, afillE, List.replicate]
    · exact out_bool
    · rw [h2]
      exact law11_rest hld hlw hlf fun _ => by simp at h2; exact ⟨h2.1, h2.2⟩
  · exact law11_rest hld hlw hlf fun hv => by simp [check, hv] at h
end Go.Proofs.Ytepnijjgdhldeaa
