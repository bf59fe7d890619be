/- Contracts: what both packages say of layers. -/
import Derived.Test.YtomejgikdelgkaaGreatDoorQTP
import Derived.Test.YtomejgikdelgkaaGreatDoorQTR
import Derived.Test.YtomejgikdelgkaaGreatDoorQG0
set_option linter.unusedVariables false
set_option linter.unusedSimpArgs false
set_option linter.unusedSectionVars false
namespace Go.Proofs.YtomejgikdelgkaaGreatDoor
open Go.Awp Go.Snow
set_option linter.unusedSimpArgs false
set_option linter.unusedVariables false
set_option linter.unusedSectionVars false
set_option maxRecDepth 10000
theorem from_ok (n lo hi : Int) : PCall Tryz.prog 44 [I n, I lo, I hi] (.bool (decide (lo ≤ n) && decide (n ≤ hi))) := by
  refine PCall.intro text44 (by simp) ?_
  unfold ir44
  simp only [walk, wl, rgets, retv, argsEnv, ev, cst, cst1, cstL, AEnv.get, AEnv.trim, envput, qstep, abin, aun, evs, evo, deref, qload, target, if_true, if_false, Nat.reduceEqDiff, reduceIte, Nat.reduceAdd, AV.cells, AV.isTuple, setMany, alen, aiaddr, afill, Nat.reduceLeDiff, Nat.reduceMul, Nat.reduceLT, afillE, List.replicate]
  refine withGuard_intro ?_ ?_ <;> intro h <;> simp only [walk, wl, rgets, retv, argsEnv, ev, cst, cst1, cstL, AEnv.get, AEnv.trim, envput, qstep, abin, aun, evs, evo, deref, qload, target, if_true, if_false, Nat.reduceEqDiff, reduceIte, Nat.reduceAdd, AV.cells, AV.isTuple, setMany, alen, aiaddr, afill, Nat.reduceLeDiff, Nat.reduceMul, Nat.reduceLT, afillE, List.replicate, h] <;> simp at h <;> simp [out_bool, h, Int.not_le.2]
theorem within_ok (n lo hi : Int) : PCall Tryz.prog 49 [I n, I lo, I hi] (.bool (decide (lo ≤ n) && decide (n ≤ hi))) := by
  refine PCall.intro text49 (by simp) ?_
  unfold ir49
  simp only [walk, wl, rgets, retv, argsEnv, ev, cst, cst1, cstL, AEnv.get, AEnv.trim, envput, qstep, abin, aun, evs, evo, deref, qload, target, if_true, if_false, Nat.reduceEqDiff, reduceIte, Nat.reduceAdd, AV.cells, AV.isTuple, setMany, alen, aiaddr, afill, Nat.reduceLeDiff, Nat.reduceMul, Nat.reduceLT, afillE, List.replicate]
  refine withGuard_intro ?_ ?_ <;> intro h <;> simp only [walk, wl, rgets, retv, argsEnv, ev, cst, cst1, cstL, AEnv.get, AEnv.trim, envput, qstep, abin, aun, evs, evo, deref, qload, target, if_true, if_false, Nat.reduceEqDiff, reduceIte, Nat.reduceAdd, AV.cells, AV.isTuple, setMany, alen, aiaddr, afill, Nat.reduceLeDiff, Nat.reduceMul, Nat.reduceLT, afillE, List.replicate, h] <;> simp at h <;> simp [out_bool, h, Int.not_le.2]
theorem from_t {n lo hi : Int} (h : lo ≤ n ∧ n ≤ hi) : PCall Tryz.prog 44 [I n, I lo, I hi] (.bool true) := by
  have := from_ok n lo hi
  simpa [h.1, h.2] using this
theorem from_f {n lo hi : Int} (h : ¬ (lo ≤ n ∧ n ≤ hi)) : PCall Tryz.prog 44 [I n, I lo, I hi] (.bool false) := by
  have h2 := from_ok n lo hi
  have e : (decide (lo ≤ n) && decide (n ≤ hi)) = false := by
    rw [← Bool.decide_and, decide_eq_false_iff_not]; exact h
  rwa [e] at h2
theorem within_t {n lo hi : Int} (h : lo ≤ n ∧ n ≤ hi) : PCall Tryz.prog 49 [I n, I lo, I hi] (.bool true) := by
  have := within_ok n lo hi
  simpa [h.1, h.2] using this
theorem within_f {n lo hi : Int} (h : ¬ (lo ≤ n ∧ n ≤ hi)) : PCall Tryz.prog 49 [I n, I lo, I hi] (.bool false) := by
  have h2 := within_ok n lo hi
  have e : (decide (lo ≤ n) && decide (n ≤ hi)) = false := by
    rw [← Bool.decide_and, decide_eq_false_iff_not]; exact h
  rwa [e] at h2
theorem tdiv20 {a : Int} (h : 0 ≤ a) : a.tdiv 20 = a / 20 := Int.tdiv_eq_ediv_of_nonneg h
theorem wrap_div {a : Int} (h : 0 ≤ a) (h2 : a ≤ 9223372036854775807) : IntKind.i64.wrap (a.tdiv 20) = a / 20 := by
  rw [tdiv20 h, wrap_id (by omega) (by omega)]
theorem hold_ok {l : Lay} (h : 0 ≤ l.1) (h2 : l.1 ≤ 9223372036854775807) : PCall Tryz.prog 36 [.agg (dc l)] (I (l.1 / 20)) := by
  refine PCall.intro text36 (by simp) ?_
  unfold ir36
  simp only [walk, wl, rgets, retv, argsEnv, ev, cst, cst1, cstL, AEnv.get, AEnv.trim, envput, qstep, abin, aun, evs, evo, deref, qload, target, if_true, if_false, Nat.reduceEqDiff, reduceIte, Nat.reduceAdd, AV.cells, AV.isTuple, setMany, alen, aiaddr, afill, Nat.reduceLeDiff, Nat.reduceMul, Nat.reduceLT, afillE, List.replicate, dc, wrap_div h h2, Int.reduceEq]
  exact out_int
theorem rhold_ok {l : Lay} (h : 0 ≤ l.1) (h2 : l.1 ≤ 9223372036854775807) : PCall Tryz.prog 73 [.agg (dc l)] (I (l.1 / 20)) := by
  refine PCall.intro text73 (by simp) ?_
  unfold ir73
  simp only [walk, wl, rgets, retv, argsEnv, ev, cst, cst1, cstL, AEnv.get, AEnv.trim, envput, qstep, abin, aun, evs, evo, deref, qload, target, if_true, if_false, Nat.reduceEqDiff, reduceIte, Nat.reduceAdd, AV.cells, AV.isTuple, setMany, alen, aiaddr, afill, Nat.reduceLeDiff, Nat.reduceMul, Nat.reduceLT, afillE, List.replicate, dc, wrap_div h h2, Int.reduceEq]
  exact out_int
theorem right_t {l : Lay} (h : 1 ≤ l.1 ∧ l.1 ≤ 65536) (h2 : 0 ≤ l.2.2 ∧ l.2.2 ≤ 65536) (h3 : 0 ≤ l.2.1 ∧ l.2.1 ≤ l.1 / 20) : right l = decide (l.2.1 = 0 ∨ l.2.2 = 0) := by
  unfold right
  simp only [h.1, h.2, h2.1, h2.2, h3.1, h3.2, true_and]
theorem right_f {l : Lay} (h : ¬ ((1 ≤ l.1 ∧ l.1 ≤ 65536) ∧ (0 ≤ l.2.2 ∧ l.2.2 ≤ 65536) ∧ 0 ≤ l.2.1 ∧ l.2.1 ≤ l.1 / 20)) : right l = false := by
  rw [right, decide_eq_false_iff_not]
  intro hh; exact h (by omega)
theorem right_ok (l : Lay) : PCall Tryz.prog 52 [.agg (dc l)] (.bool (right l)) := by
  refine PCall.intro text52 (by simp) ?_
  unfold ir52
  simp only [walk, wl, rgets, retv, argsEnv, ev, cst, cst1, cstL, AEnv.get, AEnv.trim, envput, qstep, abin, aun, evs, evo, deref, qload, target, if_true, if_false, Nat.reduceEqDiff, reduceIte, Nat.reduceAdd, AV.cells, AV.isTuple, setMany, alen, aiaddr, afill, Nat.reduceLeDiff, Nat.reduceMul, Nat.reduceLT, afillE, List.replicate, dc]
  by_cases h1 : 1 ≤ l.1 ∧ l.1 ≤ 65536
  · refine dcall_pure (from_t h1) (frzL_of (d := 1) rfl) ?_
    simp only [walk, wl, rgets, retv, argsEnv, ev, cst, cst1, cstL, AEnv.get, AEnv.trim, envput, qstep, abin, aun, evs, evo, deref, qload, target, if_true, if_false, Nat.reduceEqDiff, reduceIte, Nat.reduceAdd, AV.cells, AV.isTuple, setMany, alen, aiaddr, afill, Nat.reduceLeDiff, Nat.reduceMul, Nat.reduceLT, afillE, List.replicate]
    by_cases h2 : 0 ≤ l.2.2 ∧ l.2.2 ≤ 65536
    · refine dcall_pure (from_t h2) (frzL_of (d := 1) rfl) ?_
      simp only [walk, wl, rgets, retv, argsEnv, ev, cst, cst1, cstL, AEnv.get, AEnv.trim, envput, qstep, abin, aun, evs, evo, deref, qload, target, if_true, if_false, Nat.reduceEqDiff, reduceIte, Nat.reduceAdd, AV.cells, AV.isTuple, setMany, alen, aiaddr, afill, Nat.reduceLeDiff, Nat.reduceMul, Nat.reduceLT, afillE, List.replicate]
      refine dcall_pure (hold_ok (l := l) (by omega) (by omega)) (frzL_of (d := 2) rfl) ?_
      simp only [walk, wl, rgets, retv, argsEnv, ev, cst, cst1, cstL, AEnv.get, AEnv.trim, envput, qstep, abin, aun, evs, evo, deref, qload, target, if_true, if_false, Nat.reduceEqDiff, reduceIte, Nat.reduceAdd, AV.cells, AV.isTuple, setMany, alen, aiaddr, afill, Nat.reduceLeDiff, Nat.reduceMul, Nat.reduceLT, afillE, List.replicate]
      by_cases h3 : 0 ≤ l.2.1 ∧ l.2.1 ≤ l.1 / 20
      · refine call_pure (from_t h3) (frzL_of' (d := 1) rfl) ?_
        simp only [walk, wl, rgets, retv, argsEnv, ev, cst, cst1, cstL, AEnv.get, AEnv.trim, envput, qstep, abin, aun, evs, evo, deref, qload, target, if_true, if_false, Nat.reduceEqDiff, reduceIte, Nat.reduceAdd, AV.cells, AV.isTuple, setMany, alen, aiaddr, afill, Nat.reduceLeDiff, Nat.reduceMul, Nat.reduceLT, afillE, List.replicate]
        rw [right_t h1 h2 h3]
        refine withGuard_intro ?_ ?_ <;> intro h <;> simp only [walk, wl, rgets, retv, argsEnv, ev, cst, cst1, cstL, AEnv.get, AEnv.trim, envput, qstep, abin, aun, evs, evo, deref, qload, target, if_true, if_false, Nat.reduceEqDiff, reduceIte, Nat.reduceAdd, AV.cells, AV.isTuple, setMany, alen, aiaddr, afill, Nat.reduceLeDiff, Nat.reduceMul, Nat.reduceLT, afillE, List.replicate, h]
        · have : ¬ l.2.1 = 0 := by simpa using h
          simp only [this, false_or]; exact out_bool
        · have : l.2.1 = 0 := by simpa using h
          simp only [this, true_or, decide_true]; exact out_bool
      · refine call_pure (from_f h3) (frzL_of' (d := 1) rfl) ?_
        simp only [walk, wl, rgets, retv, argsEnv, ev, cst, cst1, cstL, AEnv.get, AEnv.trim, envput, qstep, abin, aun, evs, evo, deref, qload, target, if_true, if_false, Nat.reduceEqDiff, reduceIte, Nat.reduceAdd, AV.cells, AV.isTuple, setMany, alen, aiaddr, afill, Nat.reduceLeDiff, Nat.reduceMul, Nat.reduceLT, afillE, List.replicate]
        rw [right_f (by omega)]; exact out_bool
    · refine dcall_pure (from_f h2) (frzL_of (d := 1) rfl) ?_
      simp only [walk, wl, rgets, retv, argsEnv, ev, cst, cst1, cstL, AEnv.get, AEnv.trim, envput, qstep, abin, aun, evs, evo, deref, qload, target, if_true, if_false, Nat.reduceEqDiff, reduceIte, Nat.reduceAdd, AV.cells, AV.isTuple, setMany, alen, aiaddr, afill, Nat.reduceLeDiff, Nat.reduceMul, Nat.reduceLT, afillE, List.replicate]
      rw [right_f (by omega)]; exact out_bool
  · refine dcall_pure (from_f h1) (frzL_of (d := 1) rfl) ?_
    simp only [walk, wl, rgets, retv, argsEnv, ev, cst, cst1, cstL, AEnv.get, AEnv.trim, envput, qstep, abin, aun, evs, evo, deref, qload, target, if_true, if_false, Nat.reduceEqDiff, reduceIte, Nat.reduceAdd, AV.cells, AV.isTuple, setMany, alen, aiaddr, afill, Nat.reduceLeDiff, Nat.reduceMul, Nat.reduceLT, afillE, List.replicate]
    rw [right_f (by omega)]; exact out_bool
theorem layer_ok (l : Lay) : PCall Tryz.prog 56 [.agg (dc l)] (.bool (right l)) := by
  refine PCall.intro text56 (by simp) ?_
  unfold ir56
  simp only [walk, wl, rgets, retv, argsEnv, ev, cst, cst1, cstL, AEnv.get, AEnv.trim, envput, qstep, abin, aun, evs, evo, deref, qload, target, if_true, if_false, Nat.reduceEqDiff, reduceIte, Nat.reduceAdd, AV.cells, AV.isTuple, setMany, alen, aiaddr, afill, Nat.reduceLeDiff, Nat.reduceMul, Nat.reduceLT, afillE, List.replicate, dc]
  by_cases h1 : 1 ≤ l.1 ∧ l.1 ≤ 65536
  · refine dcall_pure (within_t h1) (frzL_of (d := 1) rfl) ?_
    simp only [walk, wl, rgets, retv, argsEnv, ev, cst, cst1, cstL, AEnv.get, AEnv.trim, envput, qstep, abin, aun, evs, evo, deref, qload, target, if_true, if_false, Nat.reduceEqDiff, reduceIte, Nat.reduceAdd, AV.cells, AV.isTuple, setMany, alen, aiaddr, afill, Nat.reduceLeDiff, Nat.reduceMul, Nat.reduceLT, afillE, List.replicate]
    refine dcall_pure (rhold_ok (l := l) (by omega) (by omega)) (frzL_of (d := 2) rfl) ?_
    simp only [walk, wl, rgets, retv, argsEnv, ev, cst, cst1, cstL, AEnv.get, AEnv.trim, envput, qstep, abin, aun, evs, evo, deref, qload, target, if_true, if_false, Nat.reduceEqDiff, reduceIte, Nat.reduceAdd, AV.cells, AV.isTuple, setMany, alen, aiaddr, afill, Nat.reduceLeDiff, Nat.reduceMul, Nat.reduceLT, afillE, List.replicate]
    by_cases h3 : 0 ≤ l.2.1 ∧ l.2.1 ≤ l.1 / 20
    · refine call_pure (within_t h3) (frzL_of' (d := 1) rfl) ?_
      simp only [walk, wl, rgets, retv, argsEnv, ev, cst, cst1, cstL, AEnv.get, AEnv.trim, envput, qstep, abin, aun, evs, evo, deref, qload, target, if_true, if_false, Nat.reduceEqDiff, reduceIte, Nat.reduceAdd, AV.cells, AV.isTuple, setMany, alen, aiaddr, afill, Nat.reduceLeDiff, Nat.reduceMul, Nat.reduceLT, afillE, List.replicate]
      by_cases h2 : 0 ≤ l.2.2 ∧ l.2.2 ≤ 65536
      · refine call_pure (within_t h2) (frzL_of' (d := 1) rfl) ?_
        simp only [walk, wl, rgets, retv, argsEnv, ev, cst, cst1, cstL, AEnv.get, AEnv.trim, envput, qstep, abin, aun, evs, evo, deref, qload, target, if_true, if_false, Nat.reduceEqDiff, reduceIte, Nat.reduceAdd, AV.cells, AV.isTuple, setMany, alen, aiaddr, afill, Nat.reduceLeDiff, Nat.reduceMul, Nat.reduceLT, afillE, List.replicate]
        rw [right_t h1 h2 h3]
        refine withGuard_intro ?_ ?_ <;> intro h <;> simp only [walk, wl, rgets, retv, argsEnv, ev, cst, cst1, cstL, AEnv.get, AEnv.trim, envput, qstep, abin, aun, evs, evo, deref, qload, target, if_true, if_false, Nat.reduceEqDiff, reduceIte, Nat.reduceAdd, AV.cells, AV.isTuple, setMany, alen, aiaddr, afill, Nat.reduceLeDiff, Nat.reduceMul, Nat.reduceLT, afillE, List.replicate, h]
        · have : ¬ l.2.1 = 0 := by simpa using h
          simp only [this, false_or]; exact out_bool
        · have : l.2.1 = 0 := by simpa using h
          simp only [this, true_or, decide_true]; exact out_bool
      · refine call_pure (within_f h2) (frzL_of' (d := 1) rfl) ?_
        simp only [walk, wl, rgets, retv, argsEnv, ev, cst, cst1, cstL, AEnv.get, AEnv.trim, envput, qstep, abin, aun, evs, evo, deref, qload, target, if_true, if_false, Nat.reduceEqDiff, reduceIte, Nat.reduceAdd, AV.cells, AV.isTuple, setMany, alen, aiaddr, afill, Nat.reduceLeDiff, Nat.reduceMul, Nat.reduceLT, afillE, List.replicate]
        rw [right_f (by omega)]; exact out_bool
    · refine call_pure (within_f h3) (frzL_of' (d := 1) rfl) ?_
      simp only [walk, wl, rgets, retv, argsEnv, ev, cst, cst1, cstL, AEnv.get, AEnv.trim, envput, qstep, abin, aun, evs, evo, deref, qload, target, if_true, if_false, Nat.reduceEqDiff, reduceIte, Nat.reduceAdd, AV.cells, AV.isTuple, setMany, alen, aiaddr, afill, Nat.reduceLeDiff, Nat.reduceMul, Nat.reduceLT, afillE, List.replicate]
      rw [right_f (by omega)]; exact out_bool
  · refine dcall_pure (within_f h1) (frzL_of (d := 1) rfl) ?_
    simp only [walk, wl, rgets, retv, argsEnv, ev, cst, cst1, cstL, AEnv.get, AEnv.trim, envput, qstep, abin, aun, evs, evo, deref, qload, target, if_true, if_false, Nat.reduceEqDiff, reduceIte, Nat.reduceAdd, AV.cells, AV.isTuple, setMany, alen, aiaddr, afill, Nat.reduceLeDiff, Nat.reduceMul, Nat.reduceLT, afillE, List.replicate]
    rw [right_f (by omega)]; exact out_bool
end Go.Proofs.YtomejgikdelgkaaGreatDoor
