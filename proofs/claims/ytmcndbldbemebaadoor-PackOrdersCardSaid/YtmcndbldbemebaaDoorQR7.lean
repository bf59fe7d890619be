/- Contracts of the specification: Ready, Yield, Enough, Drift. -/
import Derived.Test.YtmcndbldbemebaaDoorQR5
set_option linter.unusedVariables false
set_option linter.unusedSimpArgs false
set_option linter.unusedSectionVars false
namespace Go.Proofs.YtmcndbldbemebaaDoor
open Go.Awp Go.Snow
set_option linter.unusedSimpArgs false
set_option linter.unusedVariables false
set_option linter.unusedSectionVars false
set_option maxRecDepth 10000
theorem rReady_ok (ls : List Lay) : PCall Tryd.prog 48 [.agg [.ro false (rows ls)]] (.tuple [I (readyV ls).1, I (readyV ls).2]) := by
  refine PCall.intro text48 (by simp) ?_
  unfold ir48
  simp only [walkS, wl, rgets, retv, argsEnv, ev, cst, cst1, cstL, AEnv.get, AEnv.trim, envput, qstep, abin, aun, evs, evo, deref, qload, target, if_true, if_false, Nat.reduceEqDiff, reduceIte, Nat.reduceAdd, AV.cells, AV.isTuple, setMany, alen, aiaddr, afill, Nat.reduceLeDiff, Nat.reduceMul, Nat.reduceLT, afillE, List.replicate]
  refine call_pure (rCheck_ok ls) (frzL_of' (d := 4) car_pkL) ?_
  simp only [walkS, wl, rgets, retv, argsEnv, ev, cst, cst1, cstL, AEnv.get, AEnv.trim, envput, qstep, abin, aun, evs, evo, deref, qload, target, if_true, if_false, Nat.reduceEqDiff, reduceIte, Nat.reduceAdd, AV.cells, AV.isTuple, setMany, alen, aiaddr, afill, Nat.reduceLeDiff, Nat.reduceMul, Nat.reduceLT, afillE, List.replicate]
  refine withBool_intro ?_ ?_ <;> intro h <;> simp only [walkS, wl, rgets, retv, argsEnv, ev, cst, cst1, cstL, AEnv.get, AEnv.trim, envput, qstep, abin, aun, evs, evo, deref, qload, target, if_true, if_false, Nat.reduceEqDiff, reduceIte, Nat.reduceAdd, AV.cells, AV.isTuple, setMany, alen, aiaddr, afill, Nat.reduceLeDiff, Nat.reduceMul, Nat.reduceLT, afillE, List.replicate]
  · obtain ⟨h1, h2⟩ := chk_ne (ls := ls) (by simpa using h)
    simp only [h2, readyV, h1, Bool.false_eq_true, if_false]; exact out_two out_int out_int
  · have h1 := chk_zero (ls := ls) (by simpa using h)
    obtain ⟨hlen, hR, -, -⟩ := okP_iff.1 h1
    refine awp_loop (σ := Nat) (fun k => [(1, .ptr 0 1 0 0), (5, I (roomL (ls.take k))), (6, I k)]) (fun _ H => AHeap.obj H 0 = some ⟨24, 1, [[.ro false (rows ls)]]⟩) (fun k => k ≤ ls.length) (fun k => ls.length - k) 0 (Nat.zero_le _) rfl rfl ?_
    rintro k H hk o0
    have hH := AHeap.obj_lt o0
    simp only [walkS, wl, rgets, retv, argsEnv, ev, cst, cst1, cstL, AEnv.get, AEnv.trim, envput, qstep, abin, aun, evs, evo, deref, qload, target, if_true, if_false, Nat.reduceEqDiff, reduceIte, Nat.reduceAdd, AV.cells, AV.isTuple, setMany, alen, aiaddr, afill, Nat.reduceLeDiff, Nat.reduceMul, Nat.reduceLT, afillE, List.replicate, o0, rows_length]
    refine withBool_intro ?_ ?_ <;> intro hb <;> simp only [walkS, wl, rgets, retv, argsEnv, ev, cst, cst1, cstL, AEnv.get, AEnv.trim, envput, qstep, abin, aun, evs, evo, deref, qload, target, if_true, if_false, Nat.reduceEqDiff, reduceIte, Nat.reduceAdd, AV.cells, AV.isTuple, setMany, alen, aiaddr, afill, Nat.reduceLeDiff, Nat.reduceMul, Nat.reduceLT, afillE, List.replicate]
    · have hlt : k < ls.length := by simpa using hb
      have h2 := roomL_small hR k hk
      have h3 := right_iff.1 (hR ls[k] (List.getElem_mem hlt))
      have h4 := room_small (hR ls[k] (List.getElem_mem hlt))
      simp only [walkS, wl, rgets, retv, argsEnv, ev, cst, cst1, cstL, AEnv.get, AEnv.trim, envput, qstep, abin, aun, evs, evo, deref, qload, target, if_true, if_false, Nat.reduceEqDiff, reduceIte, Nat.reduceAdd, AV.cells, AV.isTuple, setMany, alen, aiaddr, afill, Nat.reduceLeDiff, Nat.reduceMul, Nat.reduceLT, afillE, List.replicate, o0, rows_get hlt]
      refine storeR rfl rfl AHeap.obj_push_eq rfl ⟨rfl, rfl, rfl, by simp⟩ fun H1 y1 y2 y3 => ?_
      simp only [AV.cells, setMany, List.set_cons_zero, List.set_cons_succ] at y2
      have e1 : IntKind.i64.wrap (roomL (ls.take k) + ls[k].2.2) = roomL (ls.take k) + ls[k].2.2 := wrap_id (by omega) (by omega)
      have e3 : IntKind.i64.wrap (ls[k].1 + ls[k].2.2) = ls[k].1 + ls[k].2.2 := wrap_id (by omega) (by omega)
      have e6 := wrap_div (a := ls[k].1 + ls[k].2.2) (by omega) (by omega)
      have e7 : IntKind.i64.wrap (roomL (ls.take k) + ls[k].2.2 + (ls[k].1 + ls[k].2.2) / 20) = roomL (ls.take k) + ls[k].2.2 + (ls[k].1 + ls[k].2.2) / 20 := wrap_id (by omega) (by omega)
      have e4 : IntKind.i64.wrap (roomL (ls.take k) + ls[k].2.2 + (ls[k].1 + ls[k].2.2) / 20 - ls[k].2.1) = roomL (ls.take (k + 1)) := by
        rw [wrap_id (by omega) (by omega), roomL_take hlt]; unfold room; omega
      have e5 : IntKind.i64.wrap ((k : Int) + 1) = ((k + 1 : Nat) : Int) := by rw [wrap_id (by omega) (by omega)]; simp
      simp only [walkS, wl, rgets, retv, argsEnv, ev, cst, cst1, cstL, AEnv.get, AEnv.trim, envput, qstep, abin, aun, evs, evo, deref, qload, target, if_true, if_false, Nat.reduceEqDiff, reduceIte, Nat.reduceAdd, AV.cells, AV.isTuple, setMany, alen, aiaddr, afill, Nat.reduceLeDiff, Nat.reduceMul, Nat.reduceLT, afillE, List.replicate, y2, e1, e3, e6, e7, e4, e5, Int.reduceEq]
      refine loop_end (k + 1) hlt (by omega) rfl (by rw [y3 0 (by omega)]; exact obj_keep o0)
    · have hk' : k = ls.length := by simp at hb; omega
      subst hk'
      rw [List.take_length]
      simp only [readyV, h1, if_true]; exact out_two out_int out_int
theorem rYield_ok (ls : List Lay) (m : Int) : PCall Tryd.prog 50 [.agg [.ro false (rows ls)], I m] (.tuple [I (yieldV ls m).1, I (yieldV ls m).2]) := by
  refine PCall.intro text50 (by simp) ?_
  unfold ir50
  simp only [walkS, wl, rgets, retv, argsEnv, ev, cst, cst1, cstL, AEnv.get, AEnv.trim, envput, qstep, abin, aun, evs, evo, deref, qload, target, if_true, if_false, Nat.reduceEqDiff, reduceIte, Nat.reduceAdd, AV.cells, AV.isTuple, setMany, alen, aiaddr, afill, Nat.reduceLeDiff, Nat.reduceMul, Nat.reduceLT, afillE, List.replicate]
  refine call_pure (rCheck_ok ls) (frzL_of' (d := 4) car_pkL) ?_
  simp only [walkS, wl, rgets, retv, argsEnv, ev, cst, cst1, cstL, AEnv.get, AEnv.trim, envput, qstep, abin, aun, evs, evo, deref, qload, target, if_true, if_false, Nat.reduceEqDiff, reduceIte, Nat.reduceAdd, AV.cells, AV.isTuple, setMany, alen, aiaddr, afill, Nat.reduceLeDiff, Nat.reduceMul, Nat.reduceLT, afillE, List.replicate]
  refine withBool_intro ?_ ?_ <;> intro h <;> simp only [walkS, wl, rgets, retv, argsEnv, ev, cst, cst1, cstL, AEnv.get, AEnv.trim, envput, qstep, abin, aun, evs, evo, deref, qload, target, if_true, if_false, Nat.reduceEqDiff, reduceIte, Nat.reduceAdd, AV.cells, AV.isTuple, setMany, alen, aiaddr, afill, Nat.reduceLeDiff, Nat.reduceMul, Nat.reduceLT, afillE, List.replicate]
  · obtain ⟨h1, h2⟩ := chk_ne (ls := ls) (by simpa using h)
    simp only [h2, yieldV, h1, Bool.false_eq_true, if_false]; exact out_two out_int out_int
  · have h1 := chk_zero (ls := ls) (by simpa using h)
    by_cases hm : 0 ≤ m ∧ m ≤ 65536
    · refine call_pure (within_t hm) (frzL_of' (d := 4) rfl) ?_
      simp only [walkS, wl, rgets, retv, argsEnv, ev, cst, cst1, cstL, AEnv.get, AEnv.trim, envput, qstep, abin, aun, evs, evo, deref, qload, target, if_true, if_false, Nat.reduceEqDiff, reduceIte, Nat.reduceAdd, AV.cells, AV.isTuple, setMany, alen, aiaddr, afill, Nat.reduceLeDiff, Nat.reduceMul, Nat.reduceLT, afillE, List.replicate]
      refine call_pure (rDo_ok (k := 3) (m := m) (c := 0) (okS_iff.2 ⟨by omega, hm, by omega⟩) (firm_mono (okP_good h1) (by omega)) (okP_iff.1 h1).1) (frzL_of' (d := 4) (carL_cons (car_ro_false (rows_simple ls)) rfl)) ?_
      simp only [walkS, wl, rgets, retv, argsEnv, ev, cst, cst1, cstL, AEnv.get, AEnv.trim, envput, qstep, abin, aun, evs, evo, deref, qload, target, if_true, if_false, Nat.reduceEqDiff, reduceIte, Nat.reduceAdd, AV.cells, AV.isTuple, setMany, alen, aiaddr, afill, Nat.reduceLeDiff, Nat.reduceMul, Nat.reduceLT, afillE, List.replicate]
      simp only [yieldV, h1, hm, if_true, and_self, doS, Int.reduceEq, if_false]; exact out_two out_int out_int
    · refine call_pure (within_f hm) (frzL_of' (d := 4) rfl) ?_
      simp only [walkS, wl, rgets, retv, argsEnv, ev, cst, cst1, cstL, AEnv.get, AEnv.trim, envput, qstep, abin, aun, evs, evo, deref, qload, target, if_true, if_false, Nat.reduceEqDiff, reduceIte, Nat.reduceAdd, AV.cells, AV.isTuple, setMany, alen, aiaddr, afill, Nat.reduceLeDiff, Nat.reduceMul, Nat.reduceLT, afillE, List.replicate]
      simp only [yieldV, h1, hm, if_true, if_false]; exact out_two out_int out_int
theorem times_le : ∀ (n : Nat) (ls : List Lay), (times melt1 n ls).1.length ≤ ls.length
  | 0, _ => Nat.le_refl _
  | n + 1, ls => by
    have h1 := times_le n (melt1 ls).1
    have h2 := melt1_length (ls := ls)
    simp only [times]; omega
theorem times_melt_nil (n : Nat) : times melt1 n [] = ([], 0) := times_nil (f := melt1) rfl n
theorem search_stuck {ls : List Lay} {out : Int} : ∀ f n, (∀ m, n ≤ m → (times melt1 m ls).2 < out) → search ls out f n = (0, false)
  | 0, _, _ => rfl
  | f + 1, n, h => by
    simp only [search]
    rw [if_neg (by have := h n (Nat.le_refl _); omega)]
    exact search_stuck f (n + 1) fun m hm => h m (by omega)
theorem rEnough_ok (ls : List Lay) (out : Int) : PCall Tryd.prog 52 [.agg [.ro false (rows ls)], I out] (.tuple [I (enoughV ls out).1, .bool (enoughV ls out).2.1, I (enoughV ls out).2.2]) := by
  refine PCall.intro text52 (by simp) ?_
  unfold ir52
  simp only [walkS, wl, rgets, retv, argsEnv, ev, cst, cst1, cstL, AEnv.get, AEnv.trim, envput, qstep, abin, aun, evs, evo, deref, qload, target, if_true, if_false, Nat.reduceEqDiff, reduceIte, Nat.reduceAdd, AV.cells, AV.isTuple, setMany, alen, aiaddr, afill, Nat.reduceLeDiff, Nat.reduceMul, Nat.reduceLT, afillE, List.replicate]
  refine call_pure (rCheck_ok ls) (frzL_of' (d := 4) car_pkL) ?_
  simp only [walkS, wl, rgets, retv, argsEnv, ev, cst, cst1, cstL, AEnv.get, AEnv.trim, envput, qstep, abin, aun, evs, evo, deref, qload, target, if_true, if_false, Nat.reduceEqDiff, reduceIte, Nat.reduceAdd, AV.cells, AV.isTuple, setMany, alen, aiaddr, afill, Nat.reduceLeDiff, Nat.reduceMul, Nat.reduceLT, afillE, List.replicate]
  refine withBool_intro ?_ ?_ <;> intro h <;> simp only [walkS, wl, rgets, retv, argsEnv, ev, cst, cst1, cstL, AEnv.get, AEnv.trim, envput, qstep, abin, aun, evs, evo, deref, qload, target, if_true, if_false, Nat.reduceEqDiff, reduceIte, Nat.reduceAdd, AV.cells, AV.isTuple, setMany, alen, aiaddr, afill, Nat.reduceLeDiff, Nat.reduceMul, Nat.reduceLT, afillE, List.replicate]
  · obtain ⟨h1, h2⟩ := chk_ne (ls := ls) (by simpa using h)
    simp only [h2, enoughV, h1, Bool.false_eq_true, if_false]; exact out_three out_int out_bool out_int
  · have h1 := chk_zero (ls := ls) (by simpa using h)
    have hg : Firm 1000000 ls := firm_mono (okP_good h1) (by omega)
    have hlen := (okP_iff.1 h1).1
    by_cases hm : 0 ≤ out ∧ out ≤ 65536
    · refine call_pure (within_t hm) (frzL_of' (d := 4) rfl) ?_
      simp only [walkS, wl, rgets, retv, argsEnv, ev, cst, cst1, cstL, AEnv.get, AEnv.trim, envput, qstep, abin, aun, evs, evo, deref, qload, target, if_true, if_false, Nat.reduceEqDiff, reduceIte, Nat.reduceAdd, AV.cells, AV.isTuple, setMany, alen, aiaddr, afill, Nat.reduceLeDiff, Nat.reduceMul, Nat.reduceLT, afillE, List.replicate]
      obtain ⟨F, hF⟩ : ∃ F : Nat, F = 65537 := ⟨_, rfl⟩
      have hv : ∀ r, r = search ls out F 0 → enoughV ls out = (r.1, r.2, 0) := fun r hr => by
        subst hr hF; simp only [enoughV, h1, hm, if_true, and_self]
      refine awp_loop (σ := Nat × Bool) (fun s => [(1, I out), (8, .ro s.2 (rows (times melt1 s.1 ls).1)), (9, I (times melt1 s.1 ls).2), (10, I s.1)]) (fun _ _ => True) (fun s => s.1 ≤ F ∧ search ls out F 0 = search ls out (F - s.1) s.1) (fun s => F - s.1) (0, false) ⟨by omega, rfl⟩ rfl trivial ?_
      rintro ⟨n, fb⟩ H ⟨hn, hs⟩ -
      simp only at hn hs
      have hln : (times melt1 n ls).1.length ≤ ls.length := by
        exact times_le n ls
      simp only [walkS, wl, rgets, retv, argsEnv, ev, cst, cst1, cstL, AEnv.get, AEnv.trim, envput, qstep, abin, aun, evs, evo, deref, qload, target, if_true, if_false, Nat.reduceEqDiff, reduceIte, Nat.reduceAdd, AV.cells, AV.isTuple, setMany, alen, aiaddr, afill, Nat.reduceLeDiff, Nat.reduceMul, Nat.reduceLT, afillE, List.replicate, rows_length]
      refine withBool_intro ?_ ?_ <;> intro hb <;> simp only [walkS, wl, rgets, retv, argsEnv, ev, cst, cst1, cstL, AEnv.get, AEnv.trim, envput, qstep, abin, aun, evs, evo, deref, qload, target, if_true, if_false, Nat.reduceEqDiff, reduceIte, Nat.reduceAdd, AV.cells, AV.isTuple, setMany, alen, aiaddr, afill, Nat.reduceLeDiff, Nat.reduceMul, Nat.reduceLT, afillE, List.replicate]
      · have hlt : n < F := by have := of_decide_eq_true hb; omega
        have hout := times_out meltDeed n hg
        have e6 : F - n = (F - (n + 1)) + 1 := by omega
        rw [e6] at hs
        simp only [search] at hs
        refine withBool_intro ?_ ?_ <;> intro h3 <;> simp only [walkS, wl, rgets, retv, argsEnv, ev, cst, cst1, cstL, AEnv.get, AEnv.trim, envput, qstep, abin, aun, evs, evo, deref, qload, target, if_true, if_false, Nat.reduceEqDiff, reduceIte, Nat.reduceAdd, AV.cells, AV.isTuple, setMany, alen, aiaddr, afill, Nat.reduceLeDiff, Nat.reduceMul, Nat.reduceLT, afillE, List.replicate, rows_length]
        · have h3' : out ≤ (times melt1 n ls).2 := by simpa using h3
          rw [if_pos h3'] at hs
          rw [hv _ hs.symm]; exact out_three out_int out_bool out_int
        · have h3' : ¬ out ≤ (times melt1 n ls).2 := by simpa using h3
          rw [if_neg h3'] at hs
          refine withBool_intro ?_ ?_ <;> intro h4 <;> simp only [walkS, wl, rgets, retv, argsEnv, ev, cst, cst1, cstL, AEnv.get, AEnv.trim, envput, qstep, abin, aun, evs, evo, deref, qload, target, if_true, if_false, Nat.reduceEqDiff, reduceIte, Nat.reduceAdd, AV.cells, AV.isTuple, setMany, alen, aiaddr, afill, Nat.reduceLeDiff, Nat.reduceMul, Nat.reduceLT, afillE, List.replicate]
          · have h4' : (times melt1 n ls).1 = [] := List.eq_nil_of_length_eq_zero (by simpa using h4)
            rw [search_stuck (F - (n + 1)) (n + 1) fun m hm => by
              rw [show m = n + (m - n) by omega, times_add, h4', times_melt_nil]; simp only [Int.add_zero]; omega] at hs
            rw [hv _ hs.symm]; exact out_three out_int out_bool out_int
          · have h4' : (times melt1 n ls).1 ≠ [] := fun e => by rw [e] at h4; simp at h4
            refine call_pure (rDo_ok (ls := (times melt1 n ls).1) (k := 3) (m := 1) (c := 0) rfl (times_good (fun ls h => melt1_good h) hg n) (by omega)) (frzL_of' (d := 4) (carL_cons (car_ro_false (rows_simple _)) rfl)) ?_
            have e5 : IntKind.i64.wrap ((n : Int) + 1) = ((n + 1 : Nat) : Int) := by rw [wrap_id (by omega) (by omega)]; simp
            have e7 : times melt1 (n + 1) ls = ((times melt1 1 (times melt1 n ls).1).1, (times melt1 n ls).2 + (times melt1 1 (times melt1 n ls).1).2) := times_add melt1 n 1 ls
            have hout2 := times_out meltDeed (n + 1) hg
            have ed : doS 3 1 0 (times melt1 n ls).1 = ((times melt1 1 (times melt1 n ls).1).1, (times melt1 1 (times melt1 n ls).1).2, 0) := by simp [doS]
            rw [ed]
            have e8 : IntKind.i64.wrap ((times melt1 n ls).2 + (times melt1 1 (times melt1 n ls).1).2) = (times melt1 (n + 1) ls).2 := by
              rw [e7] at hout2 ⊢; exact wrap_id (by simp only at hout2; omega) (by simp only at hout2; omega)
            simp only [walkS, wl, rgets, retv, argsEnv, ev, cst, cst1, cstL, AEnv.get, AEnv.trim, envput, qstep, abin, aun, evs, evo, deref, qload, target, if_true, if_false, Nat.reduceEqDiff, reduceIte, Nat.reduceAdd, AV.cells, AV.isTuple, setMany, alen, aiaddr, afill, Nat.reduceLeDiff, Nat.reduceMul, Nat.reduceLT, afillE, List.replicate, e5, e8]
            refine loop_end (n + 1, true) ⟨hlt, hs⟩ (by simp only; omega) ?_ trivial
            rw [e7]
      · have hn' : n = F := by have := of_decide_eq_false hb; omega
        subst hn'
        rw [Nat.sub_self, show search ls out 0 n = (0, false) from rfl] at hs
        rw [hv _ hs.symm]; exact out_three out_int out_bool out_int
    · refine call_pure (within_f hm) (frzL_of' (d := 4) rfl) ?_
      simp only [walkS, wl, rgets, retv, argsEnv, ev, cst, cst1, cstL, AEnv.get, AEnv.trim, envput, qstep, abin, aun, evs, evo, deref, qload, target, if_true, if_false, Nat.reduceEqDiff, reduceIte, Nat.reduceAdd, AV.cells, AV.isTuple, setMany, alen, aiaddr, afill, Nat.reduceLeDiff, Nat.reduceMul, Nat.reduceLT, afillE, List.replicate]
      simp only [enoughV, h1, hm, if_true, if_false]; exact out_three out_int out_bool out_int
end Go.Proofs.YtmcndbldbemebaaDoor
/- Contracts of the specification: Drift. -/
namespace Go.Proofs.YtmcndbldbemebaaDoor
open Go.Awp Go.Snow
set_option linter.unusedSimpArgs false
set_option linter.unusedVariables false
set_option linter.unusedSectionVars false
set_option maxRecDepth 10000
theorem out_pkT {H : AHeap} {ls : List Lay} : Out H (.agg [.ro true (rows ls)]) (.agg [.ro true (rows ls)]) := out_of (d := 4) (car_agg (carL_cons (car_ro_true (rows_simple _)) rfl))
theorem rDrift_ok (p q : List Lay) (m : Int) : PCall Tryd.prog 56 [.agg [.ro false (rows p)], .agg [.ro false (rows q)], I m] (.tuple [.agg [.ro true (rows (driftV p q m).1)], .agg [.ro true (rows (driftV p q m).2.1)], I (driftV p q m).2.2]) := by
  refine PCall.intro text56 (by simp) ?_
  unfold ir56
  have fin : ∀ {H : AHeap} {e : Int} {K : AV → Prop}, (∀ H', AHeap.obj H' 2 = some ⟨24, 1, [[.nilSlice]]⟩ → True) → True := fun _ => trivial
  clear fin
  simp only [walkS, wl, rgets, retv, argsEnv, ev, cst, cst1, cstL, AEnv.get, AEnv.trim, envput, qstep, abin, aun, evs, evo, deref, qload, target, if_true, if_false, Nat.reduceEqDiff, reduceIte, Nat.reduceAdd, AV.cells, AV.isTuple, setMany, alen, aiaddr, afill, Nat.reduceLeDiff, Nat.reduceMul, Nat.reduceLT, afillE, List.replicate]
  refine call_pure (rCheck_ok p) (frzL_of' (d := 4) car_pkL) ?_
  simp only [walkS, wl, rgets, retv, argsEnv, ev, cst, cst1, cstL, AEnv.get, AEnv.trim, envput, qstep, abin, aun, evs, evo, deref, qload, target, if_true, if_false, Nat.reduceEqDiff, reduceIte, Nat.reduceAdd, AV.cells, AV.isTuple, setMany, alen, aiaddr, afill, Nat.reduceLeDiff, Nat.reduceMul, Nat.reduceLT, afillE, List.replicate]
  have bad : (okP p && okP q) = false → driftV p q m = ([], [], 20) := fun h => by simp only [driftV, h, Bool.false_eq_true, if_false]
  cases h1 : okP p with
  | false =>
    rw [chk_no' h1]
    simp only [walkS, wl, rgets, retv, argsEnv, ev, cst, cst1, cstL, AEnv.get, AEnv.trim, envput, qstep, abin, aun, evs, evo, deref, qload, target, if_true, if_false, Nat.reduceEqDiff, reduceIte, Nat.reduceAdd, AV.cells, AV.isTuple, setMany, alen, aiaddr, afill, Nat.reduceLeDiff, Nat.reduceMul, Nat.reduceLT, afillE, List.replicate, Int.reduceBNe]
    refine storeR rfl rfl rfl rfl ⟨rfl, rfl, rfl, by simp⟩ fun H1 y1 y2 y3 => ?_
    simp only [AV.cells, setMany, List.set_cons_zero, List.set_cons_succ] at y2
    have o3 : AHeap.obj H1 3 = some ⟨24, 1, [[.nilSlice]]⟩ := by rw [y3 3 (by omega)]; rfl
    simp only [walkS, wl, rgets, retv, argsEnv, ev, cst, cst1, cstL, AEnv.get, AEnv.trim, envput, qstep, abin, aun, evs, evo, deref, qload, target, if_true, if_false, Nat.reduceEqDiff, reduceIte, Nat.reduceAdd, AV.cells, AV.isTuple, setMany, alen, aiaddr, afill, Nat.reduceLeDiff, Nat.reduceMul, Nat.reduceLT, afillE, List.replicate]
    refine storeR rfl rfl o3 rfl ⟨rfl, rfl, rfl, by simp⟩ fun H2 z1 z2 z3 => ?_
    simp only [AV.cells, setMany, List.set_cons_zero, List.set_cons_succ] at z2
    have o2 : AHeap.obj H2 2 = some ⟨24, 1, [[.nilSlice]]⟩ := by rw [z3 2 (by omega)]; exact y2
    simp only [walkS, wl, rgets, retv, argsEnv, ev, cst, cst1, cstL, AEnv.get, AEnv.trim, envput, qstep, abin, aun, evs, evo, deref, qload, target, if_true, if_false, Nat.reduceEqDiff, reduceIte, Nat.reduceAdd, AV.cells, AV.isTuple, setMany, alen, aiaddr, afill, Nat.reduceLeDiff, Nat.reduceMul, Nat.reduceLT, afillE, List.replicate, o2, z2]
    rw [bad (by simp [h1])]; exact out_drift0
  | true =>
    rw [chk_yes' h1]
    simp only [walkS, wl, rgets, retv, argsEnv, ev, cst, cst1, cstL, AEnv.get, AEnv.trim, envput, qstep, abin, aun, evs, evo, deref, qload, target, if_true, if_false, Nat.reduceEqDiff, reduceIte, Nat.reduceAdd, AV.cells, AV.isTuple, setMany, alen, aiaddr, afill, Nat.reduceLeDiff, Nat.reduceMul, Nat.reduceLT, afillE, List.replicate, bne_self_eq_false]
    refine call_pure (rCheck_ok q) (frzL_of' (d := 4) car_pkL) ?_
    simp only [walkS, wl, rgets, retv, argsEnv, ev, cst, cst1, cstL, AEnv.get, AEnv.trim, envput, qstep, abin, aun, evs, evo, deref, qload, target, if_true, if_false, Nat.reduceEqDiff, reduceIte, Nat.reduceAdd, AV.cells, AV.isTuple, setMany, alen, aiaddr, afill, Nat.reduceLeDiff, Nat.reduceMul, Nat.reduceLT, afillE, List.replicate]
    cases h2 : okP q with
    | false =>
      rw [chk_no' h2]
      simp only [walkS, wl, rgets, retv, argsEnv, ev, cst, cst1, cstL, AEnv.get, AEnv.trim, envput, qstep, abin, aun, evs, evo, deref, qload, target, if_true, if_false, Nat.reduceEqDiff, reduceIte, Nat.reduceAdd, AV.cells, AV.isTuple, setMany, alen, aiaddr, afill, Nat.reduceLeDiff, Nat.reduceMul, Nat.reduceLT, afillE, List.replicate, Int.reduceBNe]
      refine storeR rfl rfl rfl rfl ⟨rfl, rfl, rfl, by simp⟩ fun H1 y1 y2 y3 => ?_
      simp only [AV.cells, setMany, List.set_cons_zero, List.set_cons_succ] at y2
      have o3 : AHeap.obj H1 3 = some ⟨24, 1, [[.nilSlice]]⟩ := by rw [y3 3 (by omega)]; rfl
      simp only [walkS, wl, rgets, retv, argsEnv, ev, cst, cst1, cstL, AEnv.get, AEnv.trim, envput, qstep, abin, aun, evs, evo, deref, qload, target, if_true, if_false, Nat.reduceEqDiff, reduceIte, Nat.reduceAdd, AV.cells, AV.isTuple, setMany, alen, aiaddr, afill, Nat.reduceLeDiff, Nat.reduceMul, Nat.reduceLT, afillE, List.replicate]
      refine storeR rfl rfl o3 rfl ⟨rfl, rfl, rfl, by simp⟩ fun H2 z1 z2 z3 => ?_
      simp only [AV.cells, setMany, List.set_cons_zero, List.set_cons_succ] at z2
      have o2 : AHeap.obj H2 2 = some ⟨24, 1, [[.nilSlice]]⟩ := by rw [z3 2 (by omega)]; exact y2
      simp only [walkS, wl, rgets, retv, argsEnv, ev, cst, cst1, cstL, AEnv.get, AEnv.trim, envput, qstep, abin, aun, evs, evo, deref, qload, target, if_true, if_false, Nat.reduceEqDiff, reduceIte, Nat.reduceAdd, AV.cells, AV.isTuple, setMany, alen, aiaddr, afill, Nat.reduceLeDiff, Nat.reduceMul, Nat.reduceLT, afillE, List.replicate, o2, z2]
      rw [bad (by simp [h1, h2])]; exact out_drift0
    | true =>
      rw [chk_yes' h2]
      simp only [walkS, wl, rgets, retv, argsEnv, ev, cst, cst1, cstL, AEnv.get, AEnv.trim, envput, qstep, abin, aun, evs, evo, deref, qload, target, if_true, if_false, Nat.reduceEqDiff, reduceIte, Nat.reduceAdd, AV.cells, AV.isTuple, setMany, alen, aiaddr, afill, Nat.reduceLeDiff, Nat.reduceMul, Nat.reduceLT, afillE, List.replicate, bne_self_eq_false]
      by_cases hm : 0 ≤ m ∧ m ≤ 65536
      · refine call_pure (within_t hm) (frzL_of' (d := 4) rfl) ?_
        simp only [walkS, wl, rgets, retv, argsEnv, ev, cst, cst1, cstL, AEnv.get, AEnv.trim, envput, qstep, abin, aun, evs, evo, deref, qload, target, if_true, if_false, Nat.reduceEqDiff, reduceIte, Nat.reduceAdd, AV.cells, AV.isTuple, setMany, alen, aiaddr, afill, Nat.reduceLeDiff, Nat.reduceMul, Nat.reduceLT, afillE, List.replicate]
        refine call_pure (rDo_ok (ls := p) (k := 6) (m := m) (c := 0) (okS_iff.2 ⟨by omega, hm, by omega⟩) (firm_mono (okP_good h1) (by omega)) (okP_iff.1 h1).1) (frzL_of' (d := 4) (carL_cons (car_ro_false (rows_simple p)) rfl)) ?_
        rw [show doS 6 m 0 p = ((times loss1 m.toNat p).1, (times loss1 m.toNat p).2, taken loss1 m.toNat p) by simp [doS]]
        have ht := taken_le loss1 m.toNat p
        obtain ⟨t, et⟩ : ∃ t, t = taken loss1 m.toNat p := ⟨_, rfl⟩
        obtain ⟨P, eP⟩ : ∃ P, P = (times loss1 m.toNat p).1 := ⟨_, rfl⟩
        have hv : driftV p q m = if okP P then (if (applyV q 1 t 0).2.2 = 0 then (P, (applyV q 1 t 0).1, 0) else ([], [], (applyV q 1 t 0).2.2)) else ([], [], 2) := by
          simp only [driftV, h1, h2, hm, Bool.and_self, if_true, and_self, ← et, ← eP]
        rw [← et, ← eP, hv]
        rw [← et] at ht
        have hs1 : okS 1 t 0 = true := okS_iff.2 ⟨by omega, by omega, by simp⟩
        have ha : applyV q 1 t 0 = if okP (doS 1 t 0 q).1 then ((doS 1 t 0 q).1, (doS 1 t 0 q).2.1, 0) else ([], 0, 2) := by simp only [applyV, h2, hs1, if_true]
        rw [ha]
        simp only [walkS, wl, rgets, retv, argsEnv, ev, cst, cst1, cstL, AEnv.get, AEnv.trim, envput, qstep, abin, aun, evs, evo, deref, qload, target, if_true, if_false, Nat.reduceEqDiff, reduceIte, Nat.reduceAdd, AV.cells, AV.isTuple, setMany, alen, aiaddr, afill, Nat.reduceLeDiff, Nat.reduceMul, Nat.reduceLT, afillE, List.replicate]
        refine call_pure (rDo_ok (ls := q) (k := 1) (m := t) (c := 0) hs1 (firm_mono (okP_good h2) (by omega)) (okP_iff.1 h2).1) (frzL_of' (d := 4) (carL_cons (car_ro_false (rows_simple q)) rfl)) ?_
        obtain ⟨Q, eQ⟩ : ∃ Q, Q = doS 1 t 0 q := ⟨_, rfl⟩
        rw [← eQ]
        simp only [walkS, wl, rgets, retv, argsEnv, ev, cst, cst1, cstL, AEnv.get, AEnv.trim, envput, qstep, abin, aun, evs, evo, deref, qload, target, if_true, if_false, Nat.reduceEqDiff, reduceIte, Nat.reduceAdd, AV.cells, AV.isTuple, setMany, alen, aiaddr, afill, Nat.reduceLeDiff, Nat.reduceMul, Nat.reduceLT, afillE, List.replicate]
        refine storeR rfl rfl rfl rfl ⟨rfl, rfl, rfl, by simp⟩ fun H1 y1 y2 y3 => ?_
        simp only [AV.cells, setMany, List.set_cons_zero, List.set_cons_succ] at y2
        have a2 : AHeap.obj H1 2 = some ⟨24, 1, [[.nilSlice]]⟩ := by rw [y3 2 (by omega)]; rfl
        have a3 : AHeap.obj H1 3 = some ⟨24, 1, [[.nilSlice]]⟩ := by rw [y3 3 (by omega)]; rfl
        have l1 : H1.length = 5 := by rw [y1]; rfl
        simp only [walkS, wl, rgets, retv, argsEnv, ev, cst, cst1, cstL, AEnv.get, AEnv.trim, envput, qstep, abin, aun, evs, evo, deref, qload, target, if_true, if_false, Nat.reduceEqDiff, reduceIte, Nat.reduceAdd, AV.cells, AV.isTuple, setMany, alen, aiaddr, afill, Nat.reduceLeDiff, Nat.reduceMul, Nat.reduceLT, afillE, List.replicate]
        refine storeR rfl rfl AHeap.obj_push_eq rfl ⟨rfl, rfl, rfl, by simp⟩ fun H2 z1 z2 z3 => ?_
        simp only [AV.cells, setMany, List.set_cons_zero, List.set_cons_succ] at z2
        rw [l1] at z2 z3 ⊢
        have b2 : AHeap.obj H2 2 = some ⟨24, 1, [[.nilSlice]]⟩ := by rw [z3 2 (by omega), AHeap.obj_push_lt (by omega)]; exact a2
        have b3 : AHeap.obj H2 3 = some ⟨24, 1, [[.nilSlice]]⟩ := by rw [z3 3 (by omega), AHeap.obj_push_lt (by omega)]; exact a3
        have b4 : AHeap.obj H2 4 = some ⟨24, 1, [[.ro true (rows P)]]⟩ := by rw [z3 4 (by omega), AHeap.obj_push_lt (by omega)]; exact y2
        simp only [walkS, wl, rgets, retv, argsEnv, ev, cst, cst1, cstL, AEnv.get, AEnv.trim, envput, qstep, abin, aun, evs, evo, deref, qload, target, if_true, if_false, Nat.reduceEqDiff, reduceIte, Nat.reduceAdd, AV.cells, AV.isTuple, setMany, alen, aiaddr, afill, Nat.reduceLeDiff, Nat.reduceMul, Nat.reduceLT, afillE, List.replicate, b4]
        refine call_pure (rCheck_ok P) (frzL_of' (d := 4) car_pkL) ?_
        simp only [walkS, wl, rgets, retv, argsEnv, ev, cst, cst1, cstL, AEnv.get, AEnv.trim, envput, qstep, abin, aun, evs, evo, deref, qload, target, if_true, if_false, Nat.reduceEqDiff, reduceIte, Nat.reduceAdd, AV.cells, AV.isTuple, setMany, alen, aiaddr, afill, Nat.reduceLeDiff, Nat.reduceMul, Nat.reduceLT, afillE, List.replicate]
        cases h3 : okP P with
        | false =>
          rw [chk_no' h3]
          simp only [walkS, wl, rgets, retv, argsEnv, ev, cst, cst1, cstL, AEnv.get, AEnv.trim, envput, qstep, abin, aun, evs, evo, deref, qload, target, if_true, if_false, Nat.reduceEqDiff, reduceIte, Nat.reduceAdd, AV.cells, AV.isTuple, setMany, alen, aiaddr, afill, Nat.reduceLeDiff, Nat.reduceMul, Nat.reduceLT, afillE, List.replicate, Int.reduceBNe]
          refine storeR rfl rfl b2 rfl ⟨rfl, rfl, rfl, by simp⟩ fun H3 u1 u2 u3 => ?_
          simp only [AV.cells, setMany, List.set_cons_zero, List.set_cons_succ] at u2
          have c3 : AHeap.obj H3 3 = some ⟨24, 1, [[.nilSlice]]⟩ := by rw [u3 3 (by omega)]; exact b3
          simp only [walkS, wl, rgets, retv, argsEnv, ev, cst, cst1, cstL, AEnv.get, AEnv.trim, envput, qstep, abin, aun, evs, evo, deref, qload, target, if_true, if_false, Nat.reduceEqDiff, reduceIte, Nat.reduceAdd, AV.cells, AV.isTuple, setMany, alen, aiaddr, afill, Nat.reduceLeDiff, Nat.reduceMul, Nat.reduceLT, afillE, List.replicate]
          refine storeR rfl rfl c3 rfl ⟨rfl, rfl, rfl, by simp⟩ fun H4 v1 v2 v3 => ?_
          simp only [AV.cells, setMany, List.set_cons_zero, List.set_cons_succ] at v2
          have c2 : AHeap.obj H4 2 = some ⟨24, 1, [[.nilSlice]]⟩ := by rw [v3 2 (by omega)]; exact u2
          simp only [walkS, wl, rgets, retv, argsEnv, ev, cst, cst1, cstL, AEnv.get, AEnv.trim, envput, qstep, abin, aun, evs, evo, deref, qload, target, if_true, if_false, Nat.reduceEqDiff, reduceIte, Nat.reduceAdd, AV.cells, AV.isTuple, setMany, alen, aiaddr, afill, Nat.reduceLeDiff, Nat.reduceMul, Nat.reduceLT, afillE, List.replicate, c2, v2]
          exact out_drift0
        | true =>
          rw [chk_yes' h3]
          simp only [walkS, wl, rgets, retv, argsEnv, ev, cst, cst1, cstL, AEnv.get, AEnv.trim, envput, qstep, abin, aun, evs, evo, deref, qload, target, if_true, if_false, Nat.reduceEqDiff, reduceIte, Nat.reduceAdd, AV.cells, AV.isTuple, setMany, alen, aiaddr, afill, Nat.reduceLeDiff, Nat.reduceMul, Nat.reduceLT, afillE, List.replicate, bne_self_eq_false, z2]
          refine call_pure (rCheck_ok Q.1) (frzL_of' (d := 4) car_pkL) ?_
          simp only [walkS, wl, rgets, retv, argsEnv, ev, cst, cst1, cstL, AEnv.get, AEnv.trim, envput, qstep, abin, aun, evs, evo, deref, qload, target, if_true, if_false, Nat.reduceEqDiff, reduceIte, Nat.reduceAdd, AV.cells, AV.isTuple, setMany, alen, aiaddr, afill, Nat.reduceLeDiff, Nat.reduceMul, Nat.reduceLT, afillE, List.replicate]
          cases h4 : okP Q.1 with
          | false =>
            rw [chk_no' h4]
            simp only [walkS, wl, rgets, retv, argsEnv, ev, cst, cst1, cstL, AEnv.get, AEnv.trim, envput, qstep, abin, aun, evs, evo, deref, qload, target, if_true, if_false, Nat.reduceEqDiff, reduceIte, Nat.reduceAdd, AV.cells, AV.isTuple, setMany, alen, aiaddr, afill, Nat.reduceLeDiff, Nat.reduceMul, Nat.reduceLT, afillE, List.replicate, Int.reduceBNe]
            refine storeR rfl rfl b2 rfl ⟨rfl, rfl, rfl, by simp⟩ fun H3 u1 u2 u3 => ?_
            simp only [AV.cells, setMany, List.set_cons_zero, List.set_cons_succ] at u2
            have c3 : AHeap.obj H3 3 = some ⟨24, 1, [[.nilSlice]]⟩ := by rw [u3 3 (by omega)]; exact b3
            simp only [walkS, wl, rgets, retv, argsEnv, ev, cst, cst1, cstL, AEnv.get, AEnv.trim, envput, qstep, abin, aun, evs, evo, deref, qload, target, if_true, if_false, Nat.reduceEqDiff, reduceIte, Nat.reduceAdd, AV.cells, AV.isTuple, setMany, alen, aiaddr, afill, Nat.reduceLeDiff, Nat.reduceMul, Nat.reduceLT, afillE, List.replicate]
            refine storeR rfl rfl c3 rfl ⟨rfl, rfl, rfl, by simp⟩ fun H4 v1 v2 v3 => ?_
            simp only [AV.cells, setMany, List.set_cons_zero, List.set_cons_succ] at v2
            have c2 : AHeap.obj H4 2 = some ⟨24, 1, [[.nilSlice]]⟩ := by rw [v3 2 (by omega)]; exact u2
            simp only [walkS, wl, rgets, retv, argsEnv, ev, cst, cst1, cstL, AEnv.get, AEnv.trim, envput, qstep, abin, aun, evs, evo, deref, qload, target, if_true, if_false, Nat.reduceEqDiff, reduceIte, Nat.reduceAdd, AV.cells, AV.isTuple, setMany, alen, aiaddr, afill, Nat.reduceLeDiff, Nat.reduceMul, Nat.reduceLT, afillE, List.replicate, c2, v2]
            exact out_drift0
          | true =>
            rw [chk_yes' h4]
            simp only [walkS, wl, rgets, retv, argsEnv, ev, cst, cst1, cstL, AEnv.get, AEnv.trim, envput, qstep, abin, aun, evs, evo, deref, qload, target, if_true, if_false, Nat.reduceEqDiff, reduceIte, Nat.reduceAdd, AV.cells, AV.isTuple, setMany, alen, aiaddr, afill, Nat.reduceLeDiff, Nat.reduceMul, Nat.reduceLT, afillE, List.replicate, bne_self_eq_false, b4, z2]
            refine storeW rfl rfl b2 rfl ⟨rfl, rfl, rfl, by simp⟩ fun H3 u1 u2 u3 => ?_
            simp only [AV.cells, setMany, List.set_cons_zero, List.set_cons_succ] at u2
            have c3 : AHeap.obj H3 3 = some ⟨24, 1, [[.nilSlice]]⟩ := by rw [u3 3 (by omega)]; exact b3
            have c5 : AHeap.obj H3 5 = some ⟨24, 1, [[.ro true (rows Q.1)]]⟩ := by rw [u3 5 (by omega)]; exact z2
            simp only [walkS, wl, rgets, retv, argsEnv, ev, cst, cst1, cstL, AEnv.get, AEnv.trim, envput, qstep, abin, aun, evs, evo, deref, qload, target, if_true, if_false, Nat.reduceEqDiff, reduceIte, Nat.reduceAdd, AV.cells, AV.isTuple, setMany, alen, aiaddr, afill, Nat.reduceLeDiff, Nat.reduceMul, Nat.reduceLT, afillE, List.replicate, c5]
            refine storeR rfl rfl c3 rfl ⟨rfl, rfl, rfl, by simp⟩ fun H4 v1 v2 v3 => ?_
            simp only [AV.cells, setMany, List.set_cons_zero, List.set_cons_succ] at v2
            have c2 : AHeap.obj H4 2 = some ⟨24, 1, [[.ro true (rows P)]]⟩ := by rw [v3 2 (by omega)]; exact u2
            simp only [walkS, wl, rgets, retv, argsEnv, ev, cst, cst1, cstL, AEnv.get, AEnv.trim, envput, qstep, abin, aun, evs, evo, deref, qload, target, if_true, if_false, Nat.reduceEqDiff, reduceIte, Nat.reduceAdd, AV.cells, AV.isTuple, setMany, alen, aiaddr, afill, Nat.reduceLeDiff, Nat.reduceMul, Nat.reduceLT, afillE, List.replicate, c2, v2]
            exact out_three out_pkT out_pkT out_int
      · refine call_pure (within_f hm) (frzL_of' (d := 4) rfl) ?_
        simp only [walkS, wl, rgets, retv, argsEnv, ev, cst, cst1, cstL, AEnv.get, AEnv.trim, envput, qstep, abin, aun, evs, evo, deref, qload, target, if_true, if_false, Nat.reduceEqDiff, reduceIte, Nat.reduceAdd, AV.cells, AV.isTuple, setMany, alen, aiaddr, afill, Nat.reduceLeDiff, Nat.reduceMul, Nat.reduceLT, afillE, List.replicate]
        refine storeR rfl rfl rfl rfl ⟨rfl, rfl, rfl, by simp⟩ fun H1 y1 y2 y3 => ?_
        simp only [AV.cells, setMany, List.set_cons_zero, List.set_cons_succ] at y2
        have o3 : AHeap.obj H1 3 = some ⟨24, 1, [[.nilSlice]]⟩ := by rw [y3 3 (by omega)]; rfl
        simp only [walkS, wl, rgets, retv, argsEnv, ev, cst, cst1, cstL, AEnv.get, AEnv.trim, envput, qstep, abin, aun, evs, evo, deref, qload, target, if_true, if_false, Nat.reduceEqDiff, reduceIte, Nat.reduceAdd, AV.cells, AV.isTuple, setMany, alen, aiaddr, afill, Nat.reduceLeDiff, Nat.reduceMul, Nat.reduceLT, afillE, List.replicate]
        refine storeR rfl rfl o3 rfl ⟨rfl, rfl, rfl, by simp⟩ fun H2 z1 z2 z3 => ?_
        simp only [AV.cells, setMany, List.set_cons_zero, List.set_cons_succ] at z2
        have o2 : AHeap.obj H2 2 = some ⟨24, 1, [[.nilSlice]]⟩ := by rw [z3 2 (by omega)]; exact y2
        simp only [walkS, wl, rgets, retv, argsEnv, ev, cst, cst1, cstL, AEnv.get, AEnv.trim, envput, qstep, abin, aun, evs, evo, deref, qload, target, if_true, if_false, Nat.reduceEqDiff, reduceIte, Nat.reduceAdd, AV.cells, AV.isTuple, setMany, alen, aiaddr, afill, Nat.reduceLeDiff, Nat.reduceMul, Nat.reduceLT, afillE, List.replicate, o2, z2]
        simp only [driftV, h1, h2, hm, Bool.and_self, if_true, if_false]; exact out_drift0
end Go.Proofs.YtmcndbldbemebaaDoor
