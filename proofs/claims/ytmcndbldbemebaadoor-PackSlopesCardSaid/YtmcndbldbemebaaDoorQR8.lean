/- Contracts of the specification: Strength, Load, Weakest, Breaks, Steepest. -/
import Derived.Test.YtmcndbldbemebaaDoorQR5
import Derived.Test.YtmcndbldbemebaaDoorQC13
set_option linter.unusedVariables false
set_option linter.unusedSimpArgs false
set_option linter.unusedSectionVars false
namespace Go.Proofs.YtmcndbldbemebaaDoor
open Go.Awp Go.Snow
set_option linter.unusedSimpArgs false
set_option linter.unusedVariables false
set_option linter.unusedSectionVars false
set_option maxRecDepth 10000
theorem rStrength_ok {l : Lay} (h : right l = true) : PCall Tryd.prog 34 [.agg (dc l)] (I (str l)) := by
  have hr := right_iff.1 h
  refine PCall.intro text34 (by simp) ?_
  unfold ir34
  simp only [walkS, wl, rgets, retv, argsEnv, ev, cst, cst1, cstL, AEnv.get, AEnv.trim, envput, qstep, abin, aun, evs, evo, deref, qload, target, if_true, if_false, Nat.reduceEqDiff, reduceIte, Nat.reduceAdd, AV.cells, AV.isTuple, setMany, alen, aiaddr, afill, Nat.reduceLeDiff, Nat.reduceMul, Nat.reduceLT, afillE, List.replicate, dc]
  rw [wrap_id (x := 10 * l.1) (by omega) (by omega), wrap_id (x := 10 * l.1 + l.2.2) (by omega) (by omega), wrap_id (x := 40 * l.2.1) (by omega) (by omega), wrap_id (by omega) (by omega)]
  exact out_int
theorem aslice_rows {H : AHeap} {b : Bool} {ls : List Lay} {k : Nat} (h : k ≤ ls.length) : aslice H 3 (.ro b (rows ls)) none (some (I k)) = some (.ro b (rows (ls.take k))) := by
  unfold aslice
  simp only [rows_all, if_true, abnds_hi (show k ≤ (rows ls).length by rw [rows_length]; exact h), List.drop_zero]
  simp only [rows, List.map_take]
theorem rLoad_ok {ls : List Lay} {k : Nat} (h : k ≤ ls.length) (hl : ls.length ≤ 64) (hR : ∀ l, l ∈ ls → right l = true) : PCall Tryd.prog 73 [.ro false (rows ls), I k] (I (loadAt ls k)) := by
  refine PCall.intro text73 (by simp) ?_
  unfold ir73
  simp only [walkS, wl, rgets, retv, argsEnv, ev, cst, cst1, cstL, AEnv.get, AEnv.trim, envput, qstep, abin, aun, evs, evo, deref, qload, target, if_true, if_false, Nat.reduceEqDiff, reduceIte, Nat.reduceAdd, AV.cells, AV.isTuple, setMany, alen, aiaddr, afill, Nat.reduceLeDiff, Nat.reduceMul, Nat.reduceLT, afillE, List.replicate, aslice_rows h]
  refine call_pure (rwater_ok (ls := ls.take k) (calm_of_right (by simp; omega) fun l hl => hR l (List.mem_of_mem_take hl))) (frzL_of' (d := 4) car_roL) ?_
  simp only [walkS, wl, rgets, retv, argsEnv, ev, cst, cst1, cstL, AEnv.get, AEnv.trim, envput, qstep, abin, aun, evs, evo, deref, qload, target, if_true, if_false, Nat.reduceEqDiff, reduceIte, Nat.reduceAdd, AV.cells, AV.isTuple, setMany, alen, aiaddr, afill, Nat.reduceLeDiff, Nat.reduceMul, Nat.reduceLT, afillE, List.replicate]
  exact out_int
theorem rbreaks_ok {ls : List Lay} {s : Int} (hp : okP ls = true) (hs : 0 ≤ s ∧ s ≤ 60) : PCall Tryd.prog 76 [.ro false (rows ls), I s] (.bool (brk ls s)) := by
  obtain ⟨hlen, hR, -, -⟩ := okP_iff.1 hp
  refine PCall.intro text76 (by simp) ?_
  unfold ir76
  simp only [walkS, wl, rgets, retv, argsEnv, ev, cst, cst1, cstL, AEnv.get, AEnv.trim, envput, qstep, abin, aun, evs, evo, deref, qload, target, if_true, if_false, Nat.reduceEqDiff, reduceIte, Nat.reduceAdd, AV.cells, AV.isTuple, setMany, alen, aiaddr, afill, Nat.reduceLeDiff, Nat.reduceMul, Nat.reduceLT, afillE, List.replicate]
  refine awp_loop (σ := Nat) (fun k => [(0, .ro false (rows ls)), (1, I s), (5, I k)]) (fun _ _ => True) (fun k => k ≤ ls.length ∧ ∀ j, j < k → bAt ls s j = false) (fun k => ls.length - k) 0 ⟨Nat.zero_le _, fun j hj => absurd hj (Nat.not_lt_zero _)⟩ rfl trivial ?_
  rintro k H ⟨hk, hall⟩ -
  simp only [walkS, wl, rgets, retv, argsEnv, ev, cst, cst1, cstL, AEnv.get, AEnv.trim, envput, qstep, abin, aun, evs, evo, deref, qload, target, if_true, if_false, Nat.reduceEqDiff, reduceIte, Nat.reduceAdd, AV.cells, AV.isTuple, setMany, alen, aiaddr, afill, Nat.reduceLeDiff, Nat.reduceMul, Nat.reduceLT, afillE, List.replicate, rows_length]
  refine withBool_intro ?_ ?_ <;> intro hb <;> simp only [walkS, wl, rgets, retv, argsEnv, ev, cst, cst1, cstL, AEnv.get, AEnv.trim, envput, qstep, abin, aun, evs, evo, deref, qload, target, if_true, if_false, Nat.reduceEqDiff, reduceIte, Nat.reduceAdd, AV.cells, AV.isTuple, setMany, alen, aiaddr, afill, Nat.reduceLeDiff, Nat.reduceMul, Nat.reduceLT, afillE, List.replicate]
  · have hlt : k < ls.length := by simpa using hb
    have l1 := loadAt_le hR k (by omega)
    have s1 := str_small (hR ls[k] (List.getElem_mem hlt))
    have m1 := mul_small (A := 10000000) (B := 100) (a := loadAt ls k) (b := s - 25) (by omega) (by omega)
    have e1 : IntKind.i64.wrap (s - 25) = s - 25 := wrap_id (by omega) (by omega)
    have e2 : IntKind.i64.wrap (loadAt ls k * (s - 25)) = loadAt ls k * (s - 25) := wrap_id (by omega) (by omega)
    have e3 : IntKind.i64.wrap (3 * str ls[k]) = 3 * str ls[k] := wrap_id (by omega) (by omega)
    refine dcall_pure (rLoad_ok hk hlen hR) (frzL_of (d := 4) (carL_cons (car_ro_false (rows_simple ls)) rfl)) ?_
    simp only [walkS, wl, rgets, retv, argsEnv, ev, cst, cst1, cstL, AEnv.get, AEnv.trim, envput, qstep, abin, aun, evs, evo, deref, qload, target, if_true, if_false, Nat.reduceEqDiff, reduceIte, Nat.reduceAdd, AV.cells, AV.isTuple, setMany, alen, aiaddr, afill, Nat.reduceLeDiff, Nat.reduceMul, Nat.reduceLT, afillE, List.replicate, e1, e2, rows_get hlt]
    refine dcall_pure (rStrength_ok (hR ls[k] (List.getElem_mem hlt))) (frzL_of (d := 4) rfl) ?_
    have eb : decide (loadAt ls k * (s - 25) > 3 * str ls[k]) = bAt ls s k := by simp only [bAt, layAt_lt hlt, gt_iff_lt]
    simp only [walkS, wl, rgets, retv, argsEnv, ev, cst, cst1, cstL, AEnv.get, AEnv.trim, envput, qstep, abin, aun, evs, evo, deref, qload, target, if_true, if_false, Nat.reduceEqDiff, reduceIte, Nat.reduceAdd, AV.cells, AV.isTuple, setMany, alen, aiaddr, afill, Nat.reduceLeDiff, Nat.reduceMul, Nat.reduceLT, afillE, List.replicate, e3, eb]
    refine withBool_intro ?_ ?_ <;> intro h3 <;> simp only [walkS, wl, rgets, retv, argsEnv, ev, cst, cst1, cstL, AEnv.get, AEnv.trim, envput, qstep, abin, aun, evs, evo, deref, qload, target, if_true, if_false, Nat.reduceEqDiff, reduceIte, Nat.reduceAdd, AV.cells, AV.isTuple, setMany, alen, aiaddr, afill, Nat.reduceLeDiff, Nat.reduceMul, Nat.reduceLT, afillE, List.replicate]
    · have : brk ls s = true := by
        rw [brk, List.any_eq_true]
        exact ⟨k, List.mem_range.2 hlt, h3⟩
      rw [this]; exact out_bool
    · have e5 : IntKind.i64.wrap ((k : Int) + 1) = ((k + 1 : Nat) : Int) := by rw [wrap_id (by omega) (by omega)]; simp
      simp only [walkS, wl, rgets, retv, argsEnv, ev, cst, cst1, cstL, AEnv.get, AEnv.trim, envput, qstep, abin, aun, evs, evo, deref, qload, target, if_true, if_false, Nat.reduceEqDiff, reduceIte, Nat.reduceAdd, AV.cells, AV.isTuple, setMany, alen, aiaddr, afill, Nat.reduceLeDiff, Nat.reduceMul, Nat.reduceLT, afillE, List.replicate, e5]
      refine loop_end (k + 1) ⟨hlt, fun j hj => ?_⟩ (by omega) rfl trivial
      rcases Nat.lt_or_ge j k with h | h
      · exact hall j h
      · obtain rfl : j = k := by omega
        exact h3
  · have hk' : k = ls.length := by simp at hb; omega
    subst hk'
    have : brk ls s = false := by
      rw [brk, List.any_eq_false]
      intro j hj
      rw [hall j (List.mem_range.1 hj)]; simp
    rw [this]; exact out_bool
theorem rBreaks_ok (ls : List Lay) (s : Int) : PCall Tryd.prog 31 [.agg [.ro false (rows ls)], I s] (.tuple [.bool (breaksV ls s).1, I (breaksV ls s).2]) := by
  refine PCall.intro text31 (by simp) ?_
  unfold ir31
  simp only [walkS, wl, rgets, retv, argsEnv, ev, cst, cst1, cstL, AEnv.get, AEnv.trim, envput, qstep, abin, aun, evs, evo, deref, qload, target, if_true, if_false, Nat.reduceEqDiff, reduceIte, Nat.reduceAdd, AV.cells, AV.isTuple, setMany, alen, aiaddr, afill, Nat.reduceLeDiff, Nat.reduceMul, Nat.reduceLT, afillE, List.replicate]
  refine call_pure (rCheck_ok ls) (frzL_of' (d := 4) car_pkL) ?_
  simp only [walkS, wl, rgets, retv, argsEnv, ev, cst, cst1, cstL, AEnv.get, AEnv.trim, envput, qstep, abin, aun, evs, evo, deref, qload, target, if_true, if_false, Nat.reduceEqDiff, reduceIte, Nat.reduceAdd, AV.cells, AV.isTuple, setMany, alen, aiaddr, afill, Nat.reduceLeDiff, Nat.reduceMul, Nat.reduceLT, afillE, List.replicate]
  refine withBool_intro ?_ ?_ <;> intro h <;> simp only [walkS, wl, rgets, retv, argsEnv, ev, cst, cst1, cstL, AEnv.get, AEnv.trim, envput, qstep, abin, aun, evs, evo, deref, qload, target, if_true, if_false, Nat.reduceEqDiff, reduceIte, Nat.reduceAdd, AV.cells, AV.isTuple, setMany, alen, aiaddr, afill, Nat.reduceLeDiff, Nat.reduceMul, Nat.reduceLT, afillE, List.replicate]
  · obtain ⟨h1, h2⟩ := chk_ne (ls := ls) (by simpa using h)
    simp only [h2, breaksV, h1, Bool.false_eq_true, if_false]; exact out_two out_bool out_int
  · have h1 := chk_zero (ls := ls) (by simpa using h)
    by_cases hs : 0 ≤ s ∧ s ≤ 60
    · refine call_pure (within_t hs) (frzL_of' (d := 4) rfl) ?_
      simp only [walkS, wl, rgets, retv, argsEnv, ev, cst, cst1, cstL, AEnv.get, AEnv.trim, envput, qstep, abin, aun, evs, evo, deref, qload, target, if_true, if_false, Nat.reduceEqDiff, reduceIte, Nat.reduceAdd, AV.cells, AV.isTuple, setMany, alen, aiaddr, afill, Nat.reduceLeDiff, Nat.reduceMul, Nat.reduceLT, afillE, List.replicate]
      refine call_pure (rbreaks_ok h1 hs) (frzL_of' (d := 4) (carL_cons (car_ro_false (rows_simple ls)) rfl)) ?_
      simp only [walkS, wl, rgets, retv, argsEnv, ev, cst, cst1, cstL, AEnv.get, AEnv.trim, envput, qstep, abin, aun, evs, evo, deref, qload, target, if_true, if_false, Nat.reduceEqDiff, reduceIte, Nat.reduceAdd, AV.cells, AV.isTuple, setMany, alen, aiaddr, afill, Nat.reduceLeDiff, Nat.reduceMul, Nat.reduceLT, afillE, List.replicate]
      simp only [breaksV, h1, hs, if_true, and_self]; exact out_two out_bool out_int
    · refine call_pure (within_f hs) (frzL_of' (d := 4) rfl) ?_
      simp only [walkS, wl, rgets, retv, argsEnv, ev, cst, cst1, cstL, AEnv.get, AEnv.trim, envput, qstep, abin, aun, evs, evo, deref, qload, target, if_true, if_false, Nat.reduceEqDiff, reduceIte, Nat.reduceAdd, AV.cells, AV.isTuple, setMany, alen, aiaddr, afill, Nat.reduceLeDiff, Nat.reduceMul, Nat.reduceLT, afillE, List.replicate]
      simp only [breaksV, h1, hs, if_true, if_false]; exact out_two out_bool out_int
theorem rSteepest_ok (ls : List Lay) : PCall Tryd.prog 33 [.agg [.ro false (rows ls)]] (.tuple [I (steepV ls).1, I (steepV ls).2]) := by
  refine PCall.intro text33 (by simp) ?_
  unfold ir33
  simp only [walkS, wl, rgets, retv, argsEnv, ev, cst, cst1, cstL, AEnv.get, AEnv.trim, envput, qstep, abin, aun, evs, evo, deref, qload, target, if_true, if_false, Nat.reduceEqDiff, reduceIte, Nat.reduceAdd, AV.cells, AV.isTuple, setMany, alen, aiaddr, afill, Nat.reduceLeDiff, Nat.reduceMul, Nat.reduceLT, afillE, List.replicate]
  refine call_pure (rCheck_ok ls) (frzL_of' (d := 4) car_pkL) ?_
  simp only [walkS, wl, rgets, retv, argsEnv, ev, cst, cst1, cstL, AEnv.get, AEnv.trim, envput, qstep, abin, aun, evs, evo, deref, qload, target, if_true, if_false, Nat.reduceEqDiff, reduceIte, Nat.reduceAdd, AV.cells, AV.isTuple, setMany, alen, aiaddr, afill, Nat.reduceLeDiff, Nat.reduceMul, Nat.reduceLT, afillE, List.replicate]
  refine withBool_intro ?_ ?_ <;> intro h <;> simp only [walkS, wl, rgets, retv, argsEnv, ev, cst, cst1, cstL, AEnv.get, AEnv.trim, envput, qstep, abin, aun, evs, evo, deref, qload, target, if_true, if_false, Nat.reduceEqDiff, reduceIte, Nat.reduceAdd, AV.cells, AV.isTuple, setMany, alen, aiaddr, afill, Nat.reduceLeDiff, Nat.reduceMul, Nat.reduceLT, afillE, List.replicate]
  · obtain ⟨h1, h2⟩ := chk_ne (ls := ls) (by simpa using h)
    simp only [h2, steepV, h1, Bool.false_eq_true, if_false]; exact out_two out_int out_int
  · have h1 := chk_zero (ls := ls) (by simpa using h)
    obtain ⟨F, hF⟩ : ∃ F : Nat, F = 60 := ⟨_, rfl⟩
    refine awp_loop (σ := Nat) (fun n => [(1, .ptr 0 1 0 0), (5, I n)]) (fun _ H => AHeap.obj H 0 = some ⟨24, 1, [[.ro false (rows ls)]]⟩) (fun n => n ≤ 60 ∧ down (fun n => brk ls n) F = down (fun n => brk ls n) n) (fun n => n) F ⟨by omega, rfl⟩ (by rw [hF]; rfl) rfl ?_
    rintro n H ⟨hn, hd⟩ o0
    have hv : steepV ls = (((down (fun n => brk ls n) F : Nat) : Int), 0) := by simp only [steepV, h1, if_true, hF]
    simp only [walkS, wl, rgets, retv, argsEnv, ev, cst, cst1, cstL, AEnv.get, AEnv.trim, envput, qstep, abin, aun, evs, evo, deref, qload, target, if_true, if_false, Nat.reduceEqDiff, reduceIte, Nat.reduceAdd, AV.cells, AV.isTuple, setMany, alen, aiaddr, afill, Nat.reduceLeDiff, Nat.reduceMul, Nat.reduceLT, afillE, List.replicate, o0]
    cases n with
    | zero =>
      refine withGuard_intro ?_ ?_ <;> intro hg <;> simp only [walkS, wl, rgets, retv, argsEnv, ev, cst, cst1, cstL, AEnv.get, AEnv.trim, envput, qstep, abin, aun, evs, evo, deref, qload, target, if_true, if_false, Nat.reduceEqDiff, reduceIte, Nat.reduceAdd, AV.cells, AV.isTuple, setMany, alen, aiaddr, afill, Nat.reduceLeDiff, Nat.reduceMul, Nat.reduceLT, afillE, List.replicate, hg]
      · simp at hg
      · rw [hv, hd]; exact out_two out_int out_int
    | succ n =>
      refine withGuard_intro ?_ ?_ <;> intro hg <;> simp only [walkS, wl, rgets, retv, argsEnv, ev, cst, cst1, cstL, AEnv.get, AEnv.trim, envput, qstep, abin, aun, evs, evo, deref, qload, target, if_true, if_false, Nat.reduceEqDiff, reduceIte, Nat.reduceAdd, AV.cells, AV.isTuple, setMany, alen, aiaddr, afill, Nat.reduceLeDiff, Nat.reduceMul, Nat.reduceLT, afillE, List.replicate, hg]
      · simp only [walkS, wl, rgets, retv, argsEnv, ev, cst, cst1, cstL, AEnv.get, AEnv.trim, envput, qstep, abin, aun, evs, evo, deref, qload, target, if_true, if_false, Nat.reduceEqDiff, reduceIte, Nat.reduceAdd, AV.cells, AV.isTuple, setMany, alen, aiaddr, afill, Nat.reduceLeDiff, Nat.reduceMul, Nat.reduceLT, afillE, List.replicate, o0]
        refine call_pure (rbreaks_ok h1 (s := ((n + 1 : Nat) : Int)) (by omega)) (frzL_of' (d := 4) (carL_cons (car_ro_false (rows_simple ls)) rfl)) ?_
        simp only [walkS, wl, rgets, retv, argsEnv, ev, cst, cst1, cstL, AEnv.get, AEnv.trim, envput, qstep, abin, aun, evs, evo, deref, qload, target, if_true, if_false, Nat.reduceEqDiff, reduceIte, Nat.reduceAdd, AV.cells, AV.isTuple, setMany, alen, aiaddr, afill, Nat.reduceLeDiff, Nat.reduceMul, Nat.reduceLT, afillE, List.replicate]
        refine withBool_intro ?_ ?_ <;> intro hb <;> simp only [walkS, wl, rgets, retv, argsEnv, ev, cst, cst1, cstL, AEnv.get, AEnv.trim, envput, qstep, abin, aun, evs, evo, deref, qload, target, if_true, if_false, Nat.reduceEqDiff, reduceIte, Nat.reduceAdd, AV.cells, AV.isTuple, setMany, alen, aiaddr, afill, Nat.reduceLeDiff, Nat.reduceMul, Nat.reduceLT, afillE, List.replicate]
        · have e5 : IntKind.i64.wrap (((n + 1 : Nat) : Int) - 1) = (n : Int) := by rw [wrap_id (by omega) (by omega)]; omega
          simp only [walkS, wl, rgets, retv, argsEnv, ev, cst, cst1, cstL, AEnv.get, AEnv.trim, envput, qstep, abin, aun, evs, evo, deref, qload, target, if_true, if_false, Nat.reduceEqDiff, reduceIte, Nat.reduceAdd, AV.cells, AV.isTuple, setMany, alen, aiaddr, afill, Nat.reduceLeDiff, Nat.reduceMul, Nat.reduceLT, afillE, List.replicate, e5]
          refine loop_end n ⟨by omega, by rw [hd]; simp only [down]; rw [if_pos hb]⟩ (by omega) rfl o0
        · rw [hv, hd]
          simp only [down]
          rw [if_neg (by rw [hb]; simp)]
          exact out_two out_int out_int
      · simp at hg
theorem wk_one (ls : List Lay) : wk ls 1 = (0, 0) := by simp [wk, loadAt, water]
theorem rWeakest_ok (ls : List Lay) : PCall Tryd.prog 29 [.agg [.ro false (rows ls)]] (.tuple [I (weakestV ls).1, I (weakestV ls).2.1, I (weakestV ls).2.2]) := by
  refine PCall.intro text29 (by simp) ?_
  unfold ir29
  simp only [walkS, wl, rgets, retv, argsEnv, ev, cst, cst1, cstL, AEnv.get, AEnv.trim, envput, qstep, abin, aun, evs, evo, deref, qload, target, if_true, if_false, Nat.reduceEqDiff, reduceIte, Nat.reduceAdd, AV.cells, AV.isTuple, setMany, alen, aiaddr, afill, Nat.reduceLeDiff, Nat.reduceMul, Nat.reduceLT, afillE, List.replicate]
  refine call_pure (rCheck_ok ls) (frzL_of' (d := 4) car_pkL) ?_
  simp only [walkS, wl, rgets, retv, argsEnv, ev, cst, cst1, cstL, AEnv.get, AEnv.trim, envput, qstep, abin, aun, evs, evo, deref, qload, target, if_true, if_false, Nat.reduceEqDiff, reduceIte, Nat.reduceAdd, AV.cells, AV.isTuple, setMany, alen, aiaddr, afill, Nat.reduceLeDiff, Nat.reduceMul, Nat.reduceLT, afillE, List.replicate]
  refine withBool_intro ?_ ?_ <;> intro h <;> simp only [walkS, wl, rgets, retv, argsEnv, ev, cst, cst1, cstL, AEnv.get, AEnv.trim, envput, qstep, abin, aun, evs, evo, deref, qload, target, if_true, if_false, Nat.reduceEqDiff, reduceIte, Nat.reduceAdd, AV.cells, AV.isTuple, setMany, alen, aiaddr, afill, Nat.reduceLeDiff, Nat.reduceMul, Nat.reduceLT, afillE, List.replicate, rows_length]
  · obtain ⟨h1, h2⟩ := chk_ne (ls := ls) (by simpa using h)
    simp only [h2, weakestV, h1, Bool.false_eq_true, if_false]; exact out_three out_int out_int out_int
  · have h1 := chk_zero (ls := ls) (by simpa using h)
    obtain ⟨hlen, hR, -, -⟩ := okP_iff.1 h1
    refine withBool_intro ?_ ?_ <;> intro h2 <;> simp only [walkS, wl, rgets, retv, argsEnv, ev, cst, cst1, cstL, AEnv.get, AEnv.trim, envput, qstep, abin, aun, evs, evo, deref, qload, target, if_true, if_false, Nat.reduceEqDiff, reduceIte, Nat.reduceAdd, AV.cells, AV.isTuple, setMany, alen, aiaddr, afill, Nat.reduceLeDiff, Nat.reduceMul, Nat.reduceLT, afillE, List.replicate]
    · have h2' : ls.length = 0 := by simp at h2; simp [h2]
      simp only [weakestV, h1, h2', if_true]; exact out_three out_int out_int out_int
    · have h2' : ¬ ls.length = 0 := by simp at h2; simpa using h2
      refine awp_loop (σ := Nat) (fun k => [(6, .ro false (rows ls)), (7, I ((wk ls k).1 : Nat)), (8, I k)]) (fun _ _ => True) (fun k => 1 ≤ k ∧ k ≤ ls.length) (fun k => ls.length - k) 1 ⟨Nat.le_refl _, by omega⟩ (by rw [wk_one]; rfl) trivial ?_
      rintro k H ⟨hk0, hk⟩ -
      obtain ⟨w1, w2⟩ := wk_lt (ls := ls) (by omega) k (by omega)
      simp only [walkS, wl, rgets, retv, argsEnv, ev, cst, cst1, cstL, AEnv.get, AEnv.trim, envput, qstep, abin, aun, evs, evo, deref, qload, target, if_true, if_false, Nat.reduceEqDiff, reduceIte, Nat.reduceAdd, AV.cells, AV.isTuple, setMany, alen, aiaddr, afill, Nat.reduceLeDiff, Nat.reduceMul, Nat.reduceLT, afillE, List.replicate, rows_length]
      refine withBool_intro ?_ ?_ <;> intro hb <;> simp only [walkS, wl, rgets, retv, argsEnv, ev, cst, cst1, cstL, AEnv.get, AEnv.trim, envput, qstep, abin, aun, evs, evo, deref, qload, target, if_true, if_false, Nat.reduceEqDiff, reduceIte, Nat.reduceAdd, AV.cells, AV.isTuple, setMany, alen, aiaddr, afill, Nat.reduceLeDiff, Nat.reduceMul, Nat.reduceLT, afillE, List.replicate]
      · have hlt : k < ls.length := by simpa using hb
        have l1 := loadAt_le hR k (by omega)
        have l2 := loadAt_le hR (wk ls k).1 (by omega)
        have s1 := str_small (hR ls[k] (List.getElem_mem hlt))
        have s2 := str_small (hR ls[(wk ls k).1] (List.getElem_mem w1))
        have m1 := mul_small (A := 10000000) (B := 1000000) (a := loadAt ls k) (b := str ls[(wk ls k).1]) (by omega) (by omega)
        have m2 := mul_small (A := 10000000) (B := 1000000) (a := loadAt ls (wk ls k).1) (b := str ls[k]) (by omega) (by omega)
        have e1 : IntKind.i64.wrap (loadAt ls k * str ls[(wk ls k).1]) = loadAt ls k * str ls[(wk ls k).1] := wrap_id (by omega) (by omega)
        have e2 : IntKind.i64.wrap (loadAt ls (wk ls k).1 * str ls[k]) = loadAt ls (wk ls k).1 * str ls[k] := wrap_id (by omega) (by omega)
        refine dcall_pure (rLoad_ok hk hlen hR) (frzL_of (d := 4) (carL_cons (car_ro_false (rows_simple ls)) rfl)) ?_
        simp only [walkS, wl, rgets, retv, argsEnv, ev, cst, cst1, cstL, AEnv.get, AEnv.trim, envput, qstep, abin, aun, evs, evo, deref, qload, target, if_true, if_false, Nat.reduceEqDiff, reduceIte, Nat.reduceAdd, AV.cells, AV.isTuple, setMany, alen, aiaddr, afill, Nat.reduceLeDiff, Nat.reduceMul, Nat.reduceLT, afillE, List.replicate, rows_get w1]
        refine dcall_pure (rStrength_ok (hR ls[(wk ls k).1] (List.getElem_mem w1))) (frzL_of (d := 4) rfl) ?_
        simp only [walkS, wl, rgets, retv, argsEnv, ev, cst, cst1, cstL, AEnv.get, AEnv.trim, envput, qstep, abin, aun, evs, evo, deref, qload, target, if_true, if_false, Nat.reduceEqDiff, reduceIte, Nat.reduceAdd, AV.cells, AV.isTuple, setMany, alen, aiaddr, afill, Nat.reduceLeDiff, Nat.reduceMul, Nat.reduceLT, afillE, List.replicate, e1]
        refine dcall_pure (rLoad_ok (k := (wk ls k).1) (by omega) hlen hR) (frzL_of (d := 4) (carL_cons (car_ro_false (rows_simple ls)) rfl)) ?_
        simp only [walkS, wl, rgets, retv, argsEnv, ev, cst, cst1, cstL, AEnv.get, AEnv.trim, envput, qstep, abin, aun, evs, evo, deref, qload, target, if_true, if_false, Nat.reduceEqDiff, reduceIte, Nat.reduceAdd, AV.cells, AV.isTuple, setMany, alen, aiaddr, afill, Nat.reduceLeDiff, Nat.reduceMul, Nat.reduceLT, afillE, List.replicate, rows_get hlt]
        refine dcall_pure (rStrength_ok (hR ls[k] (List.getElem_mem hlt))) (frzL_of (d := 4) rfl) ?_
        simp only [walkS, wl, rgets, retv, argsEnv, ev, cst, cst1, cstL, AEnv.get, AEnv.trim, envput, qstep, abin, aun, evs, evo, deref, qload, target, if_true, if_false, Nat.reduceEqDiff, reduceIte, Nat.reduceAdd, AV.cells, AV.isTuple, setMany, alen, aiaddr, afill, Nat.reduceLeDiff, Nat.reduceMul, Nat.reduceLT, afillE, List.replicate, e2]
        have hw : wk ls (k + 1) = if loadAt ls (wk ls k).1 * str ls[k] < loadAt ls k * str ls[(wk ls k).1] then (k, loadAt ls k) else wk ls k := by
          rw [← w2]; simp only [wk, layAt_lt hlt, layAt_lt w1]
        have e5 : IntKind.i64.wrap ((k : Int) + 1) = ((k + 1 : Nat) : Int) := by rw [wrap_id (by omega) (by omega)]; simp
        refine withBool_intro ?_ ?_ <;> intro h3 <;> simp only [walkS, wl, rgets, retv, argsEnv, ev, cst, cst1, cstL, AEnv.get, AEnv.trim, envput, qstep, abin, aun, evs, evo, deref, qload, target, if_true, if_false, Nat.reduceEqDiff, reduceIte, Nat.reduceAdd, AV.cells, AV.isTuple, setMany, alen, aiaddr, afill, Nat.reduceLeDiff, Nat.reduceMul, Nat.reduceLT, afillE, List.replicate, e5]
        · rw [if_pos (by simpa using h3)] at hw
          refine loop_end (k + 1) ⟨by omega, hlt⟩ (by omega) ?_ trivial
          rw [hw]
        · rw [if_neg (by simpa using h3)] at hw
          refine loop_end (k + 1) ⟨by omega, hlt⟩ (by omega) ?_ trivial
          rw [hw]
      · have hk' : k = ls.length := by simp at hb; omega
        subst hk'
        refine call_pure (rLoad_ok (k := (wk ls ls.length).1) (by omega) hlen hR) (frzL_of' (d := 4) (carL_cons (car_ro_false (rows_simple ls)) rfl)) ?_
        simp only [walkS, wl, rgets, retv, argsEnv, ev, cst, cst1, cstL, AEnv.get, AEnv.trim, envput, qstep, abin, aun, evs, evo, deref, qload, target, if_true, if_false, Nat.reduceEqDiff, reduceIte, Nat.reduceAdd, AV.cells, AV.isTuple, setMany, alen, aiaddr, afill, Nat.reduceLeDiff, Nat.reduceMul, Nat.reduceLT, afillE, List.replicate]
        simp only [weakestV, h1, h2', if_true, if_false, w2]; exact out_three out_int out_int out_int
end Go.Proofs.YtmcndbldbemebaaDoor
