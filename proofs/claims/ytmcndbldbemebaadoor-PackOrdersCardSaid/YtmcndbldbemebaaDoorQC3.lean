/- Contracts: what both packages say of layers. -/
import Derived.Test.YtmcndbldbemebaaDoorQTP
import Derived.Test.YtmcndbldbemebaaDoorQTR
import Derived.Test.YtmcndbldbemebaaDoorQG0
set_option linter.unusedVariables false
set_option linter.unusedSimpArgs false
set_option linter.unusedSectionVars false
namespace Go.Proofs.YtmcndbldbemebaaDoor
open Go.Awp Go.Snow
set_option linter.unusedSimpArgs false
set_option linter.unusedVariables false
set_option linter.unusedSectionVars false
set_option maxRecDepth 10000
theorem from_ok (n lo hi : Int) : PCall Tryd.prog 66 [I n, I lo, I hi] (.bool (decide (lo ≤ n) && decide (n ≤ hi))) := by
  refine PCall.intro text66 (by simp) ?_
  unfold ir66
  simp only [walk, wl, rgets, retv, argsEnv, ev, cst, cst1, cstL, AEnv.get, AEnv.trim, envput, qstep, abin, aun, evs, evo, deref, qload, target, if_true, if_false, Nat.reduceEqDiff, reduceIte, Nat.reduceAdd, AV.cells, AV.isTuple, setMany, alen, aiaddr, afill, Nat.reduceLeDiff, Nat.reduceMul, Nat.reduceLT, afillE, List.replicate]
  refine withGuard_intro ?_ ?_ <;> intro h <;> simp only [walk, wl, rgets, retv, argsEnv, ev, cst, cst1, cstL, AEnv.get, AEnv.trim, envput, qstep, abin, aun, evs, evo, deref, qload, target, if_true, if_false, Nat.reduceEqDiff, reduceIte, Nat.reduceAdd, AV.cells, AV.isTuple, setMany, alen, aiaddr, afill, Nat.reduceLeDiff, Nat.reduceMul, Nat.reduceLT, afillE, List.replicate, h] <;> simp at h <;> simp [out_bool, h, Int.not_le.2]
theorem within_ok (n lo hi : Int) : PCall Tryd.prog 75 [I n, I lo, I hi] (.bool (decide (lo ≤ n) && decide (n ≤ hi))) := by
  refine PCall.intro text75 (by simp) ?_
  unfold ir75
  simp only [walk, wl, rgets, retv, argsEnv, ev, cst, cst1, cstL, AEnv.get, AEnv.trim, envput, qstep, abin, aun, evs, evo, deref, qload, target, if_true, if_false, Nat.reduceEqDiff, reduceIte, Nat.reduceAdd, AV.cells, AV.isTuple, setMany, alen, aiaddr, afill, Nat.reduceLeDiff, Nat.reduceMul, Nat.reduceLT, afillE, List.replicate]
  refine withGuard_intro ?_ ?_ <;> intro h <;> simp only [walk, wl, rgets, retv, argsEnv, ev, cst, cst1, cstL, AEnv.get, AEnv.trim, envput, qstep, abin, aun, evs, evo, deref, qload, target, if_true, if_false, Nat.reduceEqDiff, reduceIte, Nat.reduceAdd, AV.cells, AV.isTuple, setMany, alen, aiaddr, afill, Nat.reduceLeDiff, Nat.reduceMul, Nat.reduceLT, afillE, List.replicate, h] <;> simp at h <;> simp [out_bool, h, Int.not_le.2]
theorem from_t {n lo hi : Int} (h : lo ≤ n ∧ n ≤ hi) : PCall Tryd.prog 66 [I n, I lo, I hi] (.bool true) := by
  have := from_ok n lo hi
  simpa [h.1, h.2] using this
theorem from_f {n lo hi : Int} (h : ¬ (lo ≤ n ∧ n ≤ hi)) : PCall Tryd.prog 66 [I n, I lo, I hi] (.bool false) := by
  have h2 := from_ok n lo hi
  have e : (decide (lo ≤ n) && decide (n ≤ hi)) = false := by
    rw [← Bool.decide_and, decide_eq_false_iff_not]; exact h
  rwa [e] at h2
theorem within_t {n lo hi : Int} (h : lo ≤ n ∧ n ≤ hi) : PCall Tryd.prog 75 [I n, I lo, I hi] (.bool true) := by
  have := within_ok n lo hi
  simpa [h.1, h.2] using this
theorem within_f {n lo hi : Int} (h : ¬ (lo ≤ n ∧ n ≤ hi)) : PCall Tryd.prog 75 [I n, I lo, I hi] (.bool false) := by
  have h2 := within_ok n lo hi
  have e : (decide (lo ≤ n) && decide (n ≤ hi)) = false := by
    rw [← Bool.decide_and, decide_eq_false_iff_not]; exact h
  rwa [e] at h2
theorem tdiv20 {a : Int} (h : 0 ≤ a) : a.tdiv 20 = a / 20 := Int.tdiv_eq_ediv_of_nonneg h
theorem wrap_div {a : Int} (h : 0 ≤ a) (h2 : a ≤ 9223372036854775807) : IntKind.i64.wrap (a.tdiv 20) = a / 20 := by
  rw [tdiv20 h, wrap_id (by omega) (by omega)]
theorem hold_ok {l : Lay} (h : 0 ≤ l.1) (h2 : l.1 ≤ 9223372036854775807) : PCall Tryd.prog 65 [.agg (dc l)] (I (l.1 / 20)) := by
  refine PCall.intro text65 (by simp) ?_
  unfold ir65
  simp only [walk, wl, rgets, retv, argsEnv, ev, cst, cst1, cstL, AEnv.get, AEnv.trim, envput, qstep, abin, aun, evs, evo, deref, qload, target, if_true, if_false, Nat.reduceEqDiff, reduceIte, Nat.reduceAdd, AV.cells, AV.isTuple, setMany, alen, aiaddr, afill, Nat.reduceLeDiff, Nat.reduceMul, Nat.reduceLT, afillE, List.replicate, dc, wrap_div h h2, Int.reduceEq]
  exact out_int
theorem rhold_ok {l : Lay} (h : 0 ≤ l.1) (h2 : l.1 ≤ 9223372036854775807) : PCall Tryd.prog 78 [.agg (dc l)] (I (l.1 / 20)) := by
  refine PCall.intro text78 (by simp) ?_
  unfold ir78
  simp only [walk, wl, rgets, retv, argsEnv, ev, cst, cst1, cstL, AEnv.get, AEnv.trim, envput, qstep, abin, aun, evs, evo, deref, qload, target, if_true, if_false, Nat.reduceEqDiff, reduceIte, Nat.reduceAdd, AV.cells, AV.isTuple, setMany, alen, aiaddr, afill, Nat.reduceLeDiff, Nat.reduceMul, Nat.reduceLT, afillE, List.replicate, dc, wrap_div h h2, Int.reduceEq]
  exact out_int
theorem right_t {l : Lay} (h : 1 ≤ l.1 ∧ l.1 ≤ 65536) (h2 : 0 ≤ l.2.2 ∧ l.2.2 ≤ 65536) (h3 : 0 ≤ l.2.1 ∧ l.2.1 ≤ l.1 / 20) : right l = decide (l.2.1 = 0 ∨ l.2.2 = 0) := by
  unfold right
  simp only [h.1, h.2, h2.1, h2.2, h3.1, h3.2, true_and]
theorem right_f {l : Lay} (h : ¬ ((1 ≤ l.1 ∧ l.1 ≤ 65536) ∧ (0 ≤ l.2.2 ∧ l.2.2 ≤ 65536) ∧ 0 ≤ l.2.1 ∧ l.2.1 ≤ l.1 / 20)) : right l = false := by
  rw [right, decide_eq_false_iff_not]
  intro hh; exact h (by omega)
theorem right_ok (l : Lay) : PCall Tryd.prog 64 [.agg (dc l)] (.bool (right l)) := by
  refine PCall.intro text64 (by simp) ?_
  unfold ir64
  simp only [walk, wl, rgets, retv, argsEnv, ev, cst, cst1, cstL, AEnv.get, AEnv.trim, envput, qstep, abin, aun, evs, evo, deref, qload, target, if_true, if_false, Nat.reduceEqDiff, reduceIte, Nat.reduceAdd, AV.cells, AV.isTuple, setMany, alen, aiaddr, afill, Nat.reduceLeDiff, Nat.reduceMul, Nat.reduceLT, afillE, List.replicate, dc]
  by_cases h1 : 1 ≤ l.1 ∧ l.1 ≤ 65536
  · refine dcall_pure (from_t h1) (frzL_of (d := 1) rfl) ?_
    simp only [walk, wl, rgets, retv, argsEnv, ev, cst, cst1, cstL, AEnv.get, AEnv.trim, envput, qstep, abin, aun, evs, evo, deref, qload, target, if_true, if_false, Nat.reduceEqDiff, reduceIte, Nat.reduceAdd, AV.cells, AV.isTuple, setMany, alen, aiaddr, afill, Nat.reduceLeDiff, Nat.reduceMul, Nat.reduceLT, afillE, List.replicate]
    by_cases h2 : 0 ≤ l.2.2 ∧ l.2.2 ≤ 65536
    · refine dcall_pure (from_t h2) (frzL_of (d := 1) rfl) ?_
      simp only [walk, wl, rgets, retv, argsEnv, ev, cst, cst1, cstL, AEnv.get, AEnv.trim, envput, qstep, abin, aun, evs, evo, deref, qload, target, if_true, if_false, Nat.reduceEqDiff, reduceIte, Nat.reduceAdd, AV.cells, AV.isTuple, setMany, alen, aiaddr, afill, Nat.reduceLeDiff, Nat.reduceMul, Nat.reduceLT, afillE, List.replicate]
      refine dcall_pure (hold_ok (l := l) (by omega) (by omega)) (frzL_of (d := 2) rfl) ?_
      simp only [walk, wl, rgets, retv, argsEnv, ev, cst, cst1, cstL, AEnv.get, AEnv.trim, envput, qstep, abin, aun, evs, evo, deref, qload, target, if_true, if_false, Nat.reduceEqDiff, reduceIte, Nat.reduceAdd, AV.cells, AV.isTuple, setMany, alen, aiaddr, afill, Nat.reduceLeDiff, Nat.reduceMul, Nat.reduceLT, afillE, List.replicate]
      by_cases h3 : 0 ≤ l.2.1 ∧ l.2.1 ≤ l.1 / 20
      · refine call_pure (from_t h3) (frzL_of' (d := 1) rfl) ?_
        simp only [walk, wl, rgets, retv, argsEnv, ev, cst, cst1, cstL, AEnv.get, AEnv.trim, envput, qstep, abin, aun, evs, evo, deref, qload, target, if_true, if_false, Nat.reduceEqDiff, reduceIte, Nat.reduceAdd, AV.cells, AV.isTuple, setMany, alen, aiaddr, afill, Nat.reduceLeDiff, Nat.reduceMul, Nat.reduceLT, afillE, List.replicate]
        rw [right_t h1 h2 h3]
        refine withGuard_intro ?_ ?_ <;> intro h <;> simp only [walk, wl, rgets, retv, argsEnv, ev, cst, cst1, cstL, AEnv.get, AEnv.trim, envput, qstep, abin, aun, evs, evo, deref, qload, target, if_true, if_false, Nat.reduceEqDiff, reduceIte, Nat.reduceAdd, AV.cells, AV.isTuple, setMany, alen, aiaddr, afill, Nat.reduceLeDiff, Nat.reduceMul, Nat.reduceLT, afillE, List.replicate, h]
        · have : ¬ l.2.1 = 0 := by simpa using h
          simp only [this, false_or]; exact out_bool
        · have : l.2.1 = 0 := by simpa using h
          simp only [this, true_or, decide_true]; exact out_bool
      · refine call_pure (from_f h3) (frzL_of' (d := 1) rfl) ?_
        simp only [walk, wl, rgets, retv, argsEnv, ev, cst, cst1, cstL, AEnv.get, AEnv.trim, envput, qstep, abin, aun, evs, evo, deref, qload, target, if_true, if_false, Nat.reduceEqDiff, reduceIte, Nat.reduceAdd, AV.cells, AV.isTuple, setMany, alen, aiaddr, afill, Nat.reduceLeDiff, Nat.reduceMul, Nat.reduceLT, afillE, List.replicate]
        rw [right_f (by omega)]; exact out_bool
    · refine dcall_pure (from_f h2) (frzL_of (d := 1) rfl) ?_
      simp only [walk, wl, rgets, retv, argsEnv, ev, cst, cst1, cstL, AEnv.get, AEnv.trim, envput, qstep, abin, aun, evs, evo, deref, qload, target, if_true, if_false, Nat.reduceEqDiff, reduceIte, Nat.reduceAdd, AV.cells, AV.isTuple, setMany, alen, aiaddr, afill, Nat.reduceLeDiff, Nat.reduceMul, Nat.reduceLT, afillE, List.replicate]
      rw [right_f (by omega)]; exact out_bool
  · refine dcall_pure (from_f h1) (frzL_of (d := 1) rfl) ?_
    simp only [walk, wl, rgets, retv, argsEnv, ev, cst, cst1, cstL, AEnv.get, AEnv.trim, envput, qstep, abin, aun, evs, evo, deref, qload, target, if_true, if_false, Nat.reduceEqDiff, reduceIte, Nat.reduceAdd, AV.cells, AV.isTuple, setMany, alen, aiaddr, afill, Nat.reduceLeDiff, Nat.reduceMul, Nat.reduceLT, afillE, List.replicate]
    rw [right_f (by omega)]; exact out_bool
theorem layer_ok (l : Lay) : PCall Tryd.prog 77 [.agg (dc l)] (.bool (right l)) := by
  refine PCall.intro text77 (by simp) ?_
  unfold ir77
  simp only [walk, wl, rgets, retv, argsEnv, ev, cst, cst1, cstL, AEnv.get, AEnv.trim, envput, qstep, abin, aun, evs, evo, deref, qload, target, if_true, if_false, Nat.reduceEqDiff, reduceIte, Nat.reduceAdd, AV.cells, AV.isTuple, setMany, alen, aiaddr, afill, Nat.reduceLeDiff, Nat.reduceMul, Nat.reduceLT, afillE, List.replicate, dc]
  by_cases h1 : 1 ≤ l.1 ∧ l.1 ≤ 65536
  · refine dcall_pure (within_t h1) (frzL_of (d := 1) rfl) ?_
    simp only [walk, wl, rgets, retv, argsEnv, ev, cst, cst1, cstL, AEnv.get, AEnv.trim, envput, qstep, abin, aun, evs, evo, deref, qload, target, if_true, if_false, Nat.reduceEqDiff, reduceIte, Nat.reduceAdd, AV.cells, AV.isTuple, setMany, alen, aiaddr, afill, Nat.reduceLeDiff, Nat.reduceMul, Nat.reduceLT, afillE, List.replicate]
    refine dcall_pure (rhold_ok (l := l) (by omega) (by omega)) (frzL_of (d := 2) rfl) ?_
    simp only [walk, wl, rgets, retv, argsEnv, ev, cst, cst1, cstL, AEnv.get, AEnv.trim, envput, qstep, abin, aun, evs, evo, deref, qload, target, if_true, if_false, Nat.reduceEqDiff, reduceIte, Nat.reduceAdd, AV.cells, AV.isTuple, setMany, alen, aiaddr, afill, Nat.reduceLeDiff, Nat.reduceMul, Nat.reduceLT, afillE, List.replicate]
    by_cases h3 : 0 ≤ l.2.1 ∧ l.2.1 ≤ l.1 / 20
    · refine call_pure (within_t h3) (frzL_of' (d := 1) rfl) ?_
      simp only [walk, wl, rgets, retv, argsEnv, ev, cst, cst1, cstL, AEnv.get, AEnv.trim, envput, qstep, abin, aun, evs, evo, deref, qload, target, if_true, if_false, Nat.reduceEqDiff, reduceIte, Nat.reduceAdd, AV.cells, AV.isTuple, setMany, alen, aiaddr, afill, Nat.reduceLeDiff, Nat.reduceMul, Nat.reduceLT, afillE, List.replicate]
      by_cases h2 : 0 ≤ l.2.2 ∧ l.2.2 ≤ 65536
      · refine call_pure (within_t h2) (frzL_of' (d := 1) rfl) ?_
        simp only [walk, wl, rgets, retv, argsEnv, ev, cst, cst1, cstL, AEnv.get, AEnv.trim, envput, qstep, abin, aun, evs, evo, deref, qload, target, if_true, if_false, Nat.reduceEqDiff, reduceIte, Nat.reduceAdd, AV.cells, AV.isTuple, setMany, alen, aiaddr, afill, Nat.reduceLeDiff, Nat.reduceMul, Nat.reduceLT, afillE, List.replicate]
        rw [right_t h1 h2 h3]
        refine withGuard_intro ?_ ?_ <;> intro h <;> simp only [walk, wl, rgets, retv, argsEnv, ev, cst, cst1, cstL, AEnv.get, AEnv.trim, envput, qstep, abin, aun, evs, evo, deref, qload, target, if_true, if_false, Nat.reduceEqDiff, reduceIte, Nat.reduceAdd, AV.cells, AV.isTuple, setMany, alen, aiaddr, afill, Nat.reduceLeDiff, Nat.reduceMul, Nat.reduceLT, afillE, List.replicate, h]
        · have : ¬ l.2.1 = 0 := by simpa using h
          simp only [this, false_or]; exact out_bool
        · have : l.2.1 = 0 := by simpa using h
          simp only [this, true_or, decide_true]; exact out_bool
      · refine call_pure (within_f h2) (frzL_of' (d := 1) rfl) ?_
        simp only [walk, wl, rgets, retv, argsEnv, ev, cst, cst1, cstL, AEnv.get, AEnv.trim, envput, qstep, abin, aun, evs, evo, deref, qload, target, if_true, if_false, Nat.reduceEqDiff, reduceIte, Nat.reduceAdd, AV.cells, AV.isTuple, setMany, alen, aiaddr, afill, Nat.reduceLeDiff, Nat.reduceMul, Nat.reduceLT, afillE, List.replicate]
        rw [right_f (by omega)]; exact out_bool
    · refine call_pure (within_f h3) (frzL_of' (d := 1) rfl) ?_
      simp only [walk, wl, rgets, retv, argsEnv, ev, cst, cst1, cstL, AEnv.get, AEnv.trim, envput, qstep, abin, aun, evs, evo, deref, qload, target, if_true, if_false, Nat.reduceEqDiff, reduceIte, Nat.reduceAdd, AV.cells, AV.isTuple, setMany, alen, aiaddr, afill, Nat.reduceLeDiff, Nat.reduceMul, Nat.reduceLT, afillE, List.replicate]
      rw [right_f (by omega)]; exact out_bool
  · refine dcall_pure (within_f h1) (frzL_of (d := 1) rfl) ?_
    simp only [walk, wl, rgets, retv, argsEnv, ev, cst, cst1, cstL, AEnv.get, AEnv.trim, envput, qstep, abin, aun, evs, evo, deref, qload, target, if_true, if_false, Nat.reduceEqDiff, reduceIte, Nat.reduceAdd, AV.cells, AV.isTuple, setMany, alen, aiaddr, afill, Nat.reduceLeDiff, Nat.reduceMul, Nat.reduceLT, afillE, List.replicate]
    rw [right_f (by omega)]; exact out_bool
end Go.Proofs.YtmcndbldbemebaaDoor
/- Contracts: what both packages say of packs and steps. -/
namespace Go.Proofs.YtmcndbldbemebaaDoor
open Go.Awp Go.Snow
set_option linter.unusedSimpArgs false
set_option linter.unusedVariables false
set_option linter.unusedSectionVars false
set_option maxRecDepth 10000
theorem water_app (a b : List Lay) : water (a ++ b) = water a + water b := by
  induction a with
  | nil => simp [water]
  | cons x r ih => simp only [List.cons_append, water, ih]; omega
theorem cold_app (a b : List Lay) : cold (a ++ b) = cold a + cold b := by
  induction a with
  | nil => simp [cold]
  | cons x r ih => simp only [List.cons_append, cold, ih]; omega
theorem water_take {ls : List Lay} {k : Nat} (h : k < ls.length) : water (ls.take (k + 1)) = water (ls.take k) + (ls[k].1 + ls[k].2.1) := by
  rw [List.take_succ_eq_append_getElem h, water_app]; simp [water]
theorem cold_take {ls : List Lay} {k : Nat} (h : k < ls.length) : cold (ls.take (k + 1)) = cold (ls.take k) + ls[k].2.2 := by
  rw [List.take_succ_eq_append_getElem h, cold_app]; simp [cold]
/-- Layers whose sums are far from the ends of the integers. -/
def Calm (ls : List Lay) : Prop := ls.length ≤ 128 ∧ ∀ l, l ∈ ls → -1000000000 ≤ l.1 ∧ l.1 ≤ 1000000000 ∧ -1000000000 ≤ l.2.1 ∧ l.2.1 ≤ 1000000000 ∧ -1000000000 ≤ l.2.2 ∧ l.2.2 ≤ 1000000000
theorem Calm.take {ls : List Lay} (h : Calm ls) : ∀ k, k ≤ ls.length → (-2000000000 * k ≤ water (ls.take k) ∧ water (ls.take k) ≤ 2000000000 * k) ∧ (-1000000000 * k ≤ cold (ls.take k) ∧ cold (ls.take k) ≤ 1000000000 * k)
  | 0, _ => by simp [water, cold]
  | k + 1, hk => by
    have := h.take k (by omega)
    have := h.2 ls[k] (List.getElem_mem _)
    rw [water_take (by omega), cold_take (by omega)]
    omega
theorem calm_of_right {ls : List Lay} (h1 : ls.length ≤ 64) (h2 : ∀ l, l ∈ ls → right l = true) : Calm ls :=
  ⟨by omega, fun l hl => by have := right_iff.1 (h2 l hl); omega⟩
theorem sums_ok {ls : List Lay} (h : Calm ls) : PCall Tryd.prog 63 [.ro false (rows ls)] (.tuple [I (water ls), I (cold ls)]) := by
  have hlen := h.1
  refine PCall.intro text63 (by simp) ?_
  unfold ir63
  simp only [walk, wl, rgets, retv, argsEnv, ev, cst, cst1, cstL, AEnv.get, AEnv.trim, envput, qstep, abin, aun, evs, evo, deref, qload, target, if_true, if_false, Nat.reduceEqDiff, reduceIte, Nat.reduceAdd, AV.cells, AV.isTuple, setMany, alen, aiaddr, afill, Nat.reduceLeDiff, Nat.reduceMul, Nat.reduceLT, afillE, List.replicate, rows_length]
  refine awp_loop (σ := Nat) (fun k => [(2, I (water (ls.take k))), (3, I (cold (ls.take k))), (6, .ro false (rows ls)), (7, I ls.length), (8, I k)]) (fun _ _ => True) (fun k => k ≤ ls.length) (fun k => ls.length - k) 0 (Nat.zero_le _) rfl trivial ?_
  rintro k H hk -
  simp only [walk, wl, rgets, retv, argsEnv, ev, cst, cst1, cstL, AEnv.get, AEnv.trim, envput, qstep, abin, aun, evs, evo, deref, qload, target, if_true, if_false, Nat.reduceEqDiff, reduceIte, Nat.reduceAdd, AV.cells, AV.isTuple, setMany, alen, aiaddr, afill, Nat.reduceLeDiff, Nat.reduceMul, Nat.reduceLT, afillE, List.replicate]
  refine withBool_intro ?_ ?_ <;> intro hb <;> simp only [walk, wl, rgets, retv, argsEnv, ev, cst, cst1, cstL, AEnv.get, AEnv.trim, envput, qstep, abin, aun, evs, evo, deref, qload, target, if_true, if_false, Nat.reduceEqDiff, reduceIte, Nat.reduceAdd, AV.cells, AV.isTuple, setMany, alen, aiaddr, afill, Nat.reduceLeDiff, Nat.reduceMul, Nat.reduceLT, afillE, List.replicate]
  · have hlt : k < ls.length := by simpa using hb
    have h1 := h.take k hk
    have h2 := h.take (k + 1) hlt
    rw [water_take hlt, cold_take hlt] at h2
    have h3 := h.2 ls[k] (List.getElem_mem _)
    simp only [walk, wl, rgets, retv, argsEnv, ev, cst, cst1, cstL, AEnv.get, AEnv.trim, envput, qstep, abin, aun, evs, evo, deref, qload, target, if_true, if_false, Nat.reduceEqDiff, reduceIte, Nat.reduceAdd, AV.cells, AV.isTuple, setMany, alen, aiaddr, afill, Nat.reduceLeDiff, Nat.reduceMul, Nat.reduceLT, afillE, List.replicate, rows_get hlt]
    rw [wrap_id (x := ls[k].1 + ls[k].2.1) (by omega) (by omega), wrap_id (x := water (ls.take k) + _) (by omega) (by omega), wrap_id (x := cold (ls.take k) + _) (by omega) (by omega), wrap_id (x := (k : Int) + 1) (by omega) (by omega), ← water_take hlt, ← cold_take hlt]
    refine loop_end (k + 1) hlt (by omega) rfl trivial
  · have hk' : k = ls.length := by simp at hb; omega
    subst hk'
    rw [List.take_length]
    exact out_two out_int out_int
theorem rwater_ok {ls : List Lay} (h : Calm ls) : PCall Tryd.prog 79 [.ro false (rows ls)] (I (water ls)) := by
  have hlen := h.1
  refine PCall.intro text79 (by simp) ?_
  unfold ir79
  simp only [walk, wl, rgets, retv, argsEnv, ev, cst, cst1, cstL, AEnv.get, AEnv.trim, envput, qstep, abin, aun, evs, evo, deref, qload, target, if_true, if_false, Nat.reduceEqDiff, reduceIte, Nat.reduceAdd, AV.cells, AV.isTuple, setMany, alen, aiaddr, afill, Nat.reduceLeDiff, Nat.reduceMul, Nat.reduceLT, afillE, List.replicate]
  refine awp_loop (σ := Nat) (fun k => [(0, .ro false (rows ls)), (3, I (water (ls.take k))), (4, I k)]) (fun _ _ => True) (fun k => k ≤ ls.length) (fun k => ls.length - k) 0 (Nat.zero_le _) rfl trivial ?_
  rintro k H hk -
  simp only [walk, wl, rgets, retv, argsEnv, ev, cst, cst1, cstL, AEnv.get, AEnv.trim, envput, qstep, abin, aun, evs, evo, deref, qload, target, if_true, if_false, Nat.reduceEqDiff, reduceIte, Nat.reduceAdd, AV.cells, AV.isTuple, setMany, alen, aiaddr, afill, Nat.reduceLeDiff, Nat.reduceMul, Nat.reduceLT, afillE, List.replicate, rows_length]
  refine withBool_intro ?_ ?_ <;> intro hb <;> simp only [walk, wl, rgets, retv, argsEnv, ev, cst, cst1, cstL, AEnv.get, AEnv.trim, envput, qstep, abin, aun, evs, evo, deref, qload, target, if_true, if_false, Nat.reduceEqDiff, reduceIte, Nat.reduceAdd, AV.cells, AV.isTuple, setMany, alen, aiaddr, afill, Nat.reduceLeDiff, Nat.reduceMul, Nat.reduceLT, afillE, List.replicate]
  · have hlt : k < ls.length := by simpa using hb
    have h1 := h.take k hk
    have h2 := h.take (k + 1) hlt
    rw [water_take hlt, cold_take hlt] at h2
    have h3 := h.2 ls[k] (List.getElem_mem _)
    simp only [walk, wl, rgets, retv, argsEnv, ev, cst, cst1, cstL, AEnv.get, AEnv.trim, envput, qstep, abin, aun, evs, evo, deref, qload, target, if_true, if_false, Nat.reduceEqDiff, reduceIte, Nat.reduceAdd, AV.cells, AV.isTuple, setMany, alen, aiaddr, afill, Nat.reduceLeDiff, Nat.reduceMul, Nat.reduceLT, afillE, List.replicate, rows_get hlt]
    rw [wrap_id (x := water (ls.take k) + ls[k].1) (by omega) (by omega), wrap_id (x := water (ls.take k) + ls[k].1 + _) (by omega) (by omega), wrap_id (x := (k : Int) + 1) (by omega) (by omega), Int.add_assoc, ← water_take hlt]
    refine loop_end (k + 1) hlt (by omega) rfl trivial
  · have hk' : k = ls.length := by simp at hb; omega
    subst hk'
    rw [List.take_length]
    exact out_int
theorem rcold_ok {ls : List Lay} (h : Calm ls) : PCall Tryd.prog 80 [.ro false (rows ls)] (I (cold ls)) := by
  have hlen := h.1
  refine PCall.intro text80 (by simp) ?_
  unfold ir80
  simp only [walk, wl, rgets, retv, argsEnv, ev, cst, cst1, cstL, AEnv.get, AEnv.trim, envput, qstep, abin, aun, evs, evo, deref, qload, target, if_true, if_false, Nat.reduceEqDiff, reduceIte, Nat.reduceAdd, AV.cells, AV.isTuple, setMany, alen, aiaddr, afill, Nat.reduceLeDiff, Nat.reduceMul, Nat.reduceLT, afillE, List.replicate]
  refine awp_loop (σ := Nat) (fun k => [(0, .ro false (rows ls)), (3, I (cold (ls.take k))), (4, I k)]) (fun _ _ => True) (fun k => k ≤ ls.length) (fun k => ls.length - k) 0 (Nat.zero_le _) rfl trivial ?_
  rintro k H hk -
  simp only [walk, wl, rgets, retv, argsEnv, ev, cst, cst1, cstL, AEnv.get, AEnv.trim, envput, qstep, abin, aun, evs, evo, deref, qload, target, if_true, if_false, Nat.reduceEqDiff, reduceIte, Nat.reduceAdd, AV.cells, AV.isTuple, setMany, alen, aiaddr, afill, Nat.reduceLeDiff, Nat.reduceMul, Nat.reduceLT, afillE, List.replicate, rows_length]
  refine withBool_intro ?_ ?_ <;> intro hb <;> simp only [walk, wl, rgets, retv, argsEnv, ev, cst, cst1, cstL, AEnv.get, AEnv.trim, envput, qstep, abin, aun, evs, evo, deref, qload, target, if_true, if_false, Nat.reduceEqDiff, reduceIte, Nat.reduceAdd, AV.cells, AV.isTuple, setMany, alen, aiaddr, afill, Nat.reduceLeDiff, Nat.reduceMul, Nat.reduceLT, afillE, List.replicate]
  · have hlt : k < ls.length := by simpa using hb
    have h1 := h.take k hk
    have h2 := h.take (k + 1) hlt
    rw [water_take hlt, cold_take hlt] at h2
    have h3 := h.2 ls[k] (List.getElem_mem _)
    simp only [walk, wl, rgets, retv, argsEnv, ev, cst, cst1, cstL, AEnv.get, AEnv.trim, envput, qstep, abin, aun, evs, evo, deref, qload, target, if_true, if_false, Nat.reduceEqDiff, reduceIte, Nat.reduceAdd, AV.cells, AV.isTuple, setMany, alen, aiaddr, afill, Nat.reduceLeDiff, Nat.reduceMul, Nat.reduceLT, afillE, List.replicate, rows_get hlt]
    rw [wrap_id (x := cold (ls.take k) + _) (by omega) (by omega), wrap_id (x := (k : Int) + 1) (by omega) (by omega), ← cold_take hlt]
    refine loop_end (k + 1) hlt (by omega) rfl trivial
  · have hk' : k = ls.length := by simp at hb; omega
    subst hk'
    rw [List.take_length]
    exact out_int
def chk (ls : List Lay) : Int := if okP ls then 0 else 20
theorem chk_not {ls : List Lay} (h : ¬ (ls.length ≤ 64 ∧ (∀ l, l ∈ ls → right l = true) ∧ water ls ≤ 65536 ∧ cold ls ≤ 65536)) : chk ls = 20 := by
  unfold chk
  rw [if_neg]
  rwa [okP_iff]
theorem chk_yes {ls : List Lay} (h : ls.length ≤ 64 ∧ (∀ l, l ∈ ls → right l = true) ∧ water ls ≤ 65536 ∧ cold ls ≤ 65536) : chk ls = 0 := by
  unfold chk
  rw [if_pos (okP_iff.2 h)]
theorem car_pk {b : Bool} {H : AHeap} {d : Nat} {ls : List Lay} : carry false H (d + 3) (.agg [.ro b (rows ls)]) = some (.agg [.ro false (rows ls)]) :=
  car_agg (carL_cons (car_ro (rows_simple ls) (.inl rfl)) rfl)
theorem Check_ok (ls : List Lay) : PCall Tryd.prog 25 [.agg [.ro false (rows ls)]] (I (chk ls)) := by
  refine PCall.intro text25 (by simp) ?_
  unfold ir25
  simp only [walk, wl, rgets, retv, argsEnv, ev, cst, cst1, cstL, AEnv.get, AEnv.trim, envput, qstep, abin, aun, evs, evo, deref, qload, target, if_true, if_false, Nat.reduceEqDiff, reduceIte, Nat.reduceAdd, AV.cells, AV.isTuple, setMany, alen, aiaddr, afill, Nat.reduceLeDiff, Nat.reduceMul, Nat.reduceLT, afillE, List.replicate, rows_length]
  refine withBool_intro ?_ ?_ <;> intro h2 <;> simp only [walk, wl, rgets, retv, argsEnv, ev, cst, cst1, cstL, AEnv.get, AEnv.trim, envput, qstep, abin, aun, evs, evo, deref, qload, target, if_true, if_false, Nat.reduceEqDiff, reduceIte, Nat.reduceAdd, AV.cells, AV.isTuple, setMany, alen, aiaddr, afill, Nat.reduceLeDiff, Nat.reduceMul, Nat.reduceLT, afillE, List.replicate]
  · rw [chk_not fun h => by simp at h2; omega]; exact out_int
  · have hlen : ls.length ≤ 64 := by simp at h2; omega
    simp only [walk, wl, rgets, retv, argsEnv, ev, cst, cst1, cstL, AEnv.get, AEnv.trim, envput, qstep, abin, aun, evs, evo, deref, qload, target, if_true, if_false, Nat.reduceEqDiff, reduceIte, Nat.reduceAdd, AV.cells, AV.isTuple, setMany, alen, aiaddr, afill, Nat.reduceLeDiff, Nat.reduceMul, Nat.reduceLT, afillE, List.replicate, rows_length]
    refine awp_loop (σ := Nat) (fun k => [(1, .ptr 0 1 0 0), (12, .ro false (rows ls)), (13, I ls.length), (14, I k)]) (fun _ H => ∃ X, H = some ⟨24, 1, [[.ro false (rows ls)]]⟩ :: X) (fun k => k ≤ ls.length ∧ (ls.take k).all right = true) (fun k => ls.length - k) 0 ⟨Nat.zero_le _, rfl⟩ rfl ⟨[], rfl⟩ ?_
    rintro k H ⟨hk, hall⟩ ⟨X, rfl⟩
    simp only [walk, wl, rgets, retv, argsEnv, ev, cst, cst1, cstL, AEnv.get, AEnv.trim, envput, qstep, abin, aun, evs, evo, deref, qload, target, if_true, if_false, Nat.reduceEqDiff, reduceIte, Nat.reduceAdd, AV.cells, AV.isTuple, setMany, alen, aiaddr, afill, Nat.reduceLeDiff, Nat.reduceMul, Nat.reduceLT, afillE, List.replicate]
    refine withBool_intro ?_ ?_ <;> intro hb <;> simp only [walk, wl, rgets, retv, argsEnv, ev, cst, cst1, cstL, AEnv.get, AEnv.trim, envput, qstep, abin, aun, evs, evo, deref, qload, target, if_true, if_false, Nat.reduceEqDiff, reduceIte, Nat.reduceAdd, AV.cells, AV.isTuple, setMany, alen, aiaddr, afill, Nat.reduceLeDiff, Nat.reduceMul, Nat.reduceLT, afillE, List.replicate]
    · have hlt : k < ls.length := by simpa using hb
      simp only [walk, wl, rgets, retv, argsEnv, ev, cst, cst1, cstL, AEnv.get, AEnv.trim, envput, qstep, abin, aun, evs, evo, deref, qload, target, if_true, if_false, Nat.reduceEqDiff, reduceIte, Nat.reduceAdd, AV.cells, AV.isTuple, setMany, alen, aiaddr, afill, Nat.reduceLeDiff, Nat.reduceMul, Nat.reduceLT, afillE, List.replicate, rows_get hlt]
      refine call_pure (right_ok ls[k]) (frzL_of' (d := 4) rfl) ?_
      simp only [walk, wl, rgets, retv, argsEnv, ev, cst, cst1, cstL, AEnv.get, AEnv.trim, envput, qstep, abin, aun, evs, evo, deref, qload, target, if_true, if_false, Nat.reduceEqDiff, reduceIte, Nat.reduceAdd, AV.cells, AV.isTuple, setMany, alen, aiaddr, afill, Nat.reduceLeDiff, Nat.reduceMul, Nat.reduceLT, afillE, List.replicate]
      refine withBool_intro ?_ ?_ <;> intro hr <;> simp only [walk, wl, rgets, retv, argsEnv, ev, cst, cst1, cstL, AEnv.get, AEnv.trim, envput, qstep, abin, aun, evs, evo, deref, qload, target, if_true, if_false, Nat.reduceEqDiff, reduceIte, Nat.reduceAdd, AV.cells, AV.isTuple, setMany, alen, aiaddr, afill, Nat.reduceLeDiff, Nat.reduceMul, Nat.reduceLT, afillE, List.replicate]
      · rw [chk_not fun h => by
          have := h.2.1 ls[k] (List.getElem_mem hlt)
          rw [this] at hr; cases hr]
        exact out_int
      · have hr' : right ls[k] = true := by simpa using hr
        rw [wrap_id (by omega) (by omega)]
        refine loop_end (k + 1) ⟨hlt, all_take hall hlt hr'⟩ (by omega) rfl ⟨_, rfl⟩
    · have hk' : k = ls.length := by simp at hb; omega
      subst hk'
      rw [List.take_length] at hall
      have hR : ∀ l, l ∈ ls → right l = true := by simpa using hall
      refine call_pure (sums_ok (calm_of_right hlen hR)) (frzL_of' (d := 4) (carL_cons (car_ro_false (rows_simple ls)) rfl)) ?_
      simp only [walk, wl, rgets, retv, argsEnv, ev, cst, cst1, cstL, AEnv.get, AEnv.trim, envput, qstep, abin, aun, evs, evo, deref, qload, target, if_true, if_false, Nat.reduceEqDiff, reduceIte, Nat.reduceAdd, AV.cells, AV.isTuple, setMany, alen, aiaddr, afill, Nat.reduceLeDiff, Nat.reduceMul, Nat.reduceLT, afillE, List.replicate]
      refine withGuard_intro ?_ ?_ <;> intro h3 <;> simp only [walk, wl, rgets, retv, argsEnv, ev, cst, cst1, cstL, AEnv.get, AEnv.trim, envput, qstep, abin, aun, evs, evo, deref, qload, target, if_true, if_false, Nat.reduceEqDiff, reduceIte, Nat.reduceAdd, AV.cells, AV.isTuple, setMany, alen, aiaddr, afill, Nat.reduceLeDiff, Nat.reduceMul, Nat.reduceLT, afillE, List.replicate, h3]
      · refine withBool_intro ?_ ?_ <;> intro h4 <;> simp only [walk, wl, rgets, retv, argsEnv, ev, cst, cst1, cstL, AEnv.get, AEnv.trim, envput, qstep, abin, aun, evs, evo, deref, qload, target, if_true, if_false, Nat.reduceEqDiff, reduceIte, Nat.reduceAdd, AV.cells, AV.isTuple, setMany, alen, aiaddr, afill, Nat.reduceLeDiff, Nat.reduceMul, Nat.reduceLT, afillE, List.replicate]
        · rw [chk_not fun h => by simp at h4; omega]; exact out_int
        · rw [chk_yes ⟨hlen, hR, by simp at h3; omega, by simp at h4; omega⟩]; exact out_int
      · rw [chk_not fun h => by simp at h3; omega]; exact out_int
theorem rCheck_ok (ls : List Lay) : PCall Tryd.prog 40 [.agg [.ro false (rows ls)]] (I (chk ls)) := by
  refine PCall.intro text40 (by simp) ?_
  unfold ir40
  simp only [walk, wl, rgets, retv, argsEnv, ev, cst, cst1, cstL, AEnv.get, AEnv.trim, envput, qstep, abin, aun, evs, evo, deref, qload, target, if_true, if_false, Nat.reduceEqDiff, reduceIte, Nat.reduceAdd, AV.cells, AV.isTuple, setMany, alen, aiaddr, afill, Nat.reduceLeDiff, Nat.reduceMul, Nat.reduceLT, afillE, List.replicate, rows_length]
  refine withBool_intro ?_ ?_ <;> intro h2 <;> simp only [walk, wl, rgets, retv, argsEnv, ev, cst, cst1, cstL, AEnv.get, AEnv.trim, envput, qstep, abin, aun, evs, evo, deref, qload, target, if_true, if_false, Nat.reduceEqDiff, reduceIte, Nat.reduceAdd, AV.cells, AV.isTuple, setMany, alen, aiaddr, afill, Nat.reduceLeDiff, Nat.reduceMul, Nat.reduceLT, afillE, List.replicate]
  · rw [chk_not fun h => by simp at h2; omega]; exact out_int
  · have hlen : ls.length ≤ 64 := by simp at h2; omega
    refine awp_loop (σ := Nat) (fun k => [(1, .ptr 0 1 0 0), (3, I k)]) (fun _ H => ∃ X, H = some ⟨24, 1, [[.ro false (rows ls)]]⟩ :: X) (fun k => k ≤ ls.length ∧ (ls.take k).all right = true) (fun k => ls.length - k) 0 ⟨Nat.zero_le _, rfl⟩ rfl ⟨[], rfl⟩ ?_
    rintro k H ⟨hk, hall⟩ ⟨X, rfl⟩
    simp only [walk, wl, rgets, retv, argsEnv, ev, cst, cst1, cstL, AEnv.get, AEnv.trim, envput, qstep, abin, aun, evs, evo, deref, qload, target, if_true, if_false, Nat.reduceEqDiff, reduceIte, Nat.reduceAdd, AV.cells, AV.isTuple, setMany, alen, aiaddr, afill, Nat.reduceLeDiff, Nat.reduceMul, Nat.reduceLT, afillE, List.replicate, rows_length]
    refine withBool_intro ?_ ?_ <;> intro hb <;> simp only [walk, wl, rgets, retv, argsEnv, ev, cst, cst1, cstL, AEnv.get, AEnv.trim, envput, qstep, abin, aun, evs, evo, deref, qload, target, if_true, if_false, Nat.reduceEqDiff, reduceIte, Nat.reduceAdd, AV.cells, AV.isTuple, setMany, alen, aiaddr, afill, Nat.reduceLeDiff, Nat.reduceMul, Nat.reduceLT, afillE, List.replicate]
    · have hlt : k < ls.length := by simpa using hb
      simp only [walk, wl, rgets, retv, argsEnv, ev, cst, cst1, cstL, AEnv.get, AEnv.trim, envput, qstep, abin, aun, evs, evo, deref, qload, target, if_true, if_false, Nat.reduceEqDiff, reduceIte, Nat.reduceAdd, AV.cells, AV.isTuple, setMany, alen, aiaddr, afill, Nat.reduceLeDiff, Nat.reduceMul, Nat.reduceLT, afillE, List.replicate, rows_get hlt]
      refine call_pure (layer_ok ls[k]) (frzL_of' (d := 4) rfl) ?_
      simp only [walk, wl, rgets, retv, argsEnv, ev, cst, cst1, cstL, AEnv.get, AEnv.trim, envput, qstep, abin, aun, evs, evo, deref, qload, target, if_true, if_false, Nat.reduceEqDiff, reduceIte, Nat.reduceAdd, AV.cells, AV.isTuple, setMany, alen, aiaddr, afill, Nat.reduceLeDiff, Nat.reduceMul, Nat.reduceLT, afillE, List.replicate]
      refine withBool_intro ?_ ?_ <;> intro hr <;> simp only [walk, wl, rgets, retv, argsEnv, ev, cst, cst1, cstL, AEnv.get, AEnv.trim, envput, qstep, abin, aun, evs, evo, deref, qload, target, if_true, if_false, Nat.reduceEqDiff, reduceIte, Nat.reduceAdd, AV.cells, AV.isTuple, setMany, alen, aiaddr, afill, Nat.reduceLeDiff, Nat.reduceMul, Nat.reduceLT, afillE, List.replicate]
      · rw [chk_not fun h => by
          have := h.2.1 ls[k] (List.getElem_mem hlt)
          rw [this] at hr; cases hr]
        exact out_int
      · have hr' : right ls[k] = true := by simpa using hr
        rw [wrap_id (by omega) (by omega)]
        refine loop_end (k + 1) ⟨hlt, all_take hall hlt hr'⟩ (by omega) rfl ⟨_, rfl⟩
    · have hk' : k = ls.length := by simp at hb; omega
      subst hk'
      rw [List.take_length] at hall
      have hR : ∀ l, l ∈ ls → right l = true := by simpa using hall
      have hC := calm_of_right hlen hR
      refine call_pure (rwater_ok hC) (frzL_of' (d := 4) (carL_cons (car_ro_false (rows_simple ls)) rfl)) ?_
      simp only [walk, wl, rgets, retv, argsEnv, ev, cst, cst1, cstL, AEnv.get, AEnv.trim, envput, qstep, abin, aun, evs, evo, deref, qload, target, if_true, if_false, Nat.reduceEqDiff, reduceIte, Nat.reduceAdd, AV.cells, AV.isTuple, setMany, alen, aiaddr, afill, Nat.reduceLeDiff, Nat.reduceMul, Nat.reduceLT, afillE, List.replicate]
      refine withGuard_intro ?_ ?_ <;> intro h3 <;> simp only [walk, wl, rgets, retv, argsEnv, ev, cst, cst1, cstL, AEnv.get, AEnv.trim, envput, qstep, abin, aun, evs, evo, deref, qload, target, if_true, if_false, Nat.reduceEqDiff, reduceIte, Nat.reduceAdd, AV.cells, AV.isTuple, setMany, alen, aiaddr, afill, Nat.reduceLeDiff, Nat.reduceMul, Nat.reduceLT, afillE, List.replicate, h3]
      · refine call_pure (rcold_ok hC) (frzL_of' (d := 4) (carL_cons (car_ro_false (rows_simple ls)) rfl)) ?_
        simp only [walk, wl, rgets, retv, argsEnv, ev, cst, cst1, cstL, AEnv.get, AEnv.trim, envput, qstep, abin, aun, evs, evo, deref, qload, target, if_true, if_false, Nat.reduceEqDiff, reduceIte, Nat.reduceAdd, AV.cells, AV.isTuple, setMany, alen, aiaddr, afill, Nat.reduceLeDiff, Nat.reduceMul, Nat.reduceLT, afillE, List.replicate]
        refine withBool_intro ?_ ?_ <;> intro h4 <;> simp only [walk, wl, rgets, retv, argsEnv, ev, cst, cst1, cstL, AEnv.get, AEnv.trim, envput, qstep, abin, aun, evs, evo, deref, qload, target, if_true, if_false, Nat.reduceEqDiff, reduceIte, Nat.reduceAdd, AV.cells, AV.isTuple, setMany, alen, aiaddr, afill, Nat.reduceLeDiff, Nat.reduceMul, Nat.reduceLT, afillE, List.replicate]
        · rw [chk_not fun h => by simp at h4; omega]; exact out_int
        · rw [chk_yes ⟨hlen, hR, by simp at h3; omega, by simp at h4; omega⟩]; exact out_int
      · rw [chk_not fun h => by simp at h3; omega]; exact out_int
theorem chk_zero {ls : List Lay} (h : chk ls = 0) : okP ls = true := by
  unfold chk at h
  split at h
  · assumption
  · cases h
theorem chk_ne {ls : List Lay} (h : ¬ chk ls = 0) : okP ls = false ∧ chk ls = 20 := by
  unfold chk at h ⊢
  split
  · rename_i h2; rw [if_pos h2] at h; exact absurd rfl h
  · rename_i h2; exact ⟨by simpa using h2, rfl⟩
theorem okP_calm {ls : List Lay} (h : okP ls = true) : Calm ls := calm_of_right (okP_iff.1 h).1 (okP_iff.1 h).2.1
theorem car_pkL {b : Bool} {H : AHeap} {d : Nat} {ls : List Lay} : carL (carry false H (d + 3)) [.agg [.ro b (rows ls)]] = some [.agg [.ro false (rows ls)]] := carL_cons car_pk rfl
theorem car_roL {b : Bool} {H : AHeap} {d : Nat} {ls : List Lay} : carL (carry false H (d + 2)) [.ro b (rows ls)] = some [.ro false (rows ls)] := carL_cons (car_ro_false (rows_simple ls)) rfl
def waterV (ls : List Lay) : Int × Int := if okP ls then (water ls, 0) else (0, 20)
def coldV (ls : List Lay) : Int × Int := if okP ls then (cold ls, 0) else (0, 20)
theorem Water_ok (ls : List Lay) : PCall Tryd.prog 24 [.agg [.ro false (rows ls)]] (.tuple [I (waterV ls).1, I (waterV ls).2]) := by
  refine PCall.intro text24 (by simp) ?_
  unfold ir24
  simp only [walk, wl, rgets, retv, argsEnv, ev, cst, cst1, cstL, AEnv.get, AEnv.trim, envput, qstep, abin, aun, evs, evo, deref, qload, target, if_true, if_false, Nat.reduceEqDiff, reduceIte, Nat.reduceAdd, AV.cells, AV.isTuple, setMany, alen, aiaddr, afill, Nat.reduceLeDiff, Nat.reduceMul, Nat.reduceLT, afillE, List.replicate]
  refine call_pure (Check_ok ls) (frzL_of' (d := 4) car_pkL) ?_
  simp only [walk, wl, rgets, retv, argsEnv, ev, cst, cst1, cstL, AEnv.get, AEnv.trim, envput, qstep, abin, aun, evs, evo, deref, qload, target, if_true, if_false, Nat.reduceEqDiff, reduceIte, Nat.reduceAdd, AV.cells, AV.isTuple, setMany, alen, aiaddr, afill, Nat.reduceLeDiff, Nat.reduceMul, Nat.reduceLT, afillE, List.replicate]
  refine withBool_intro ?_ ?_ <;> intro h <;> simp only [walk, wl, rgets, retv, argsEnv, ev, cst, cst1, cstL, AEnv.get, AEnv.trim, envput, qstep, abin, aun, evs, evo, deref, qload, target, if_true, if_false, Nat.reduceEqDiff, reduceIte, Nat.reduceAdd, AV.cells, AV.isTuple, setMany, alen, aiaddr, afill, Nat.reduceLeDiff, Nat.reduceMul, Nat.reduceLT, afillE, List.replicate]
  · obtain ⟨h1, h2⟩ := chk_ne (ls := ls) (by simpa using h)
    simp only [h2, waterV, h1, Bool.false_eq_true, if_false]; exact out_two out_int out_int
  · have h1 := chk_zero (ls := ls) (by simpa using h)
    refine call_pure (sums_ok (okP_calm h1)) (frzL_of' (d := 4) car_roL) ?_
    simp only [walk, wl, rgets, retv, argsEnv, ev, cst, cst1, cstL, AEnv.get, AEnv.trim, envput, qstep, abin, aun, evs, evo, deref, qload, target, if_true, if_false, Nat.reduceEqDiff, reduceIte, Nat.reduceAdd, AV.cells, AV.isTuple, setMany, alen, aiaddr, afill, Nat.reduceLeDiff, Nat.reduceMul, Nat.reduceLT, afillE, List.replicate]
    simp only [waterV, h1, if_true]; exact out_two out_int out_int
theorem Cold_ok (ls : List Lay) : PCall Tryd.prog 38 [.agg [.ro false (rows ls)]] (.tuple [I (coldV ls).1, I (coldV ls).2]) := by
  refine PCall.intro text38 (by simp) ?_
  unfold ir38
  simp only [walk, wl, rgets, retv, argsEnv, ev, cst, cst1, cstL, AEnv.get, AEnv.trim, envput, qstep, abin, aun, evs, evo, deref, qload, target, if_true, if_false, Nat.reduceEqDiff, reduceIte, Nat.reduceAdd, AV.cells, AV.isTuple, setMany, alen, aiaddr, afill, Nat.reduceLeDiff, Nat.reduceMul, Nat.reduceLT, afillE, List.replicate]
  refine call_pure (Check_ok ls) (frzL_of' (d := 4) car_pkL) ?_
  simp only [walk, wl, rgets, retv, argsEnv, ev, cst, cst1, cstL, AEnv.get, AEnv.trim, envput, qstep, abin, aun, evs, evo, deref, qload, target, if_true, if_false, Nat.reduceEqDiff, reduceIte, Nat.reduceAdd, AV.cells, AV.isTuple, setMany, alen, aiaddr, afill, Nat.reduceLeDiff, Nat.reduceMul, Nat.reduceLT, afillE, List.replicate]
  refine withBool_intro ?_ ?_ <;> intro h <;> simp only [walk, wl, rgets, retv, argsEnv, ev, cst, cst1, cstL, AEnv.get, AEnv.trim, envput, qstep, abin, aun, evs, evo, deref, qload, target, if_true, if_false, Nat.reduceEqDiff, reduceIte, Nat.reduceAdd, AV.cells, AV.isTuple, setMany, alen, aiaddr, afill, Nat.reduceLeDiff, Nat.reduceMul, Nat.reduceLT, afillE, List.replicate]
  · obtain ⟨h1, h2⟩ := chk_ne (ls := ls) (by simpa using h)
    simp only [h2, coldV, h1, Bool.false_eq_true, if_false]; exact out_two out_int out_int
  · have h1 := chk_zero (ls := ls) (by simpa using h)
    refine call_pure (sums_ok (okP_calm h1)) (frzL_of' (d := 4) car_roL) ?_
    simp only [walk, wl, rgets, retv, argsEnv, ev, cst, cst1, cstL, AEnv.get, AEnv.trim, envput, qstep, abin, aun, evs, evo, deref, qload, target, if_true, if_false, Nat.reduceEqDiff, reduceIte, Nat.reduceAdd, AV.cells, AV.isTuple, setMany, alen, aiaddr, afill, Nat.reduceLeDiff, Nat.reduceMul, Nat.reduceLT, afillE, List.replicate]
    simp only [coldV, h1, if_true]; exact out_two out_int out_int
theorem rWater_ok (ls : List Lay) : PCall Tryd.prog 37 [.agg [.ro false (rows ls)]] (.tuple [I (waterV ls).1, I (waterV ls).2]) := by
  refine PCall.intro text37 (by simp) ?_
  unfold ir37
  simp only [walk, wl, rgets, retv, argsEnv, ev, cst, cst1, cstL, AEnv.get, AEnv.trim, envput, qstep, abin, aun, evs, evo, deref, qload, target, if_true, if_false, Nat.reduceEqDiff, reduceIte, Nat.reduceAdd, AV.cells, AV.isTuple, setMany, alen, aiaddr, afill, Nat.reduceLeDiff, Nat.reduceMul, Nat.reduceLT, afillE, List.replicate]
  refine call_pure (rCheck_ok ls) (frzL_of' (d := 4) car_pkL) ?_
  simp only [walk, wl, rgets, retv, argsEnv, ev, cst, cst1, cstL, AEnv.get, AEnv.trim, envput, qstep, abin, aun, evs, evo, deref, qload, target, if_true, if_false, Nat.reduceEqDiff, reduceIte, Nat.reduceAdd, AV.cells, AV.isTuple, setMany, alen, aiaddr, afill, Nat.reduceLeDiff, Nat.reduceMul, Nat.reduceLT, afillE, List.replicate]
  refine withBool_intro ?_ ?_ <;> intro h <;> simp only [walk, wl, rgets, retv, argsEnv, ev, cst, cst1, cstL, AEnv.get, AEnv.trim, envput, qstep, abin, aun, evs, evo, deref, qload, target, if_true, if_false, Nat.reduceEqDiff, reduceIte, Nat.reduceAdd, AV.cells, AV.isTuple, setMany, alen, aiaddr, afill, Nat.reduceLeDiff, Nat.reduceMul, Nat.reduceLT, afillE, List.replicate]
  · obtain ⟨h1, h2⟩ := chk_ne (ls := ls) (by simpa using h)
    simp only [h2, waterV, h1, Bool.false_eq_true, if_false]; exact out_two out_int out_int
  · have h1 := chk_zero (ls := ls) (by simpa using h)
    refine call_pure (rwater_ok (okP_calm h1)) (frzL_of' (d := 4) car_roL) ?_
    simp only [walk, wl, rgets, retv, argsEnv, ev, cst, cst1, cstL, AEnv.get, AEnv.trim, envput, qstep, abin, aun, evs, evo, deref, qload, target, if_true, if_false, Nat.reduceEqDiff, reduceIte, Nat.reduceAdd, AV.cells, AV.isTuple, setMany, alen, aiaddr, afill, Nat.reduceLeDiff, Nat.reduceMul, Nat.reduceLT, afillE, List.replicate]
    simp only [waterV, h1, if_true]; exact out_two out_int out_int
theorem rCold_ok (ls : List Lay) : PCall Tryd.prog 39 [.agg [.ro false (rows ls)]] (.tuple [I (coldV ls).1, I (coldV ls).2]) := by
  refine PCall.intro text39 (by simp) ?_
  unfold ir39
  simp only [walk, wl, rgets, retv, argsEnv, ev, cst, cst1, cstL, AEnv.get, AEnv.trim, envput, qstep, abin, aun, evs, evo, deref, qload, target, if_true, if_false, Nat.reduceEqDiff, reduceIte, Nat.reduceAdd, AV.cells, AV.isTuple, setMany, alen, aiaddr, afill, Nat.reduceLeDiff, Nat.reduceMul, Nat.reduceLT, afillE, List.replicate]
  refine call_pure (rCheck_ok ls) (frzL_of' (d := 4) car_pkL) ?_
  simp only [walk, wl, rgets, retv, argsEnv, ev, cst, cst1, cstL, AEnv.get, AEnv.trim, envput, qstep, abin, aun, evs, evo, deref, qload, target, if_true, if_false, Nat.reduceEqDiff, reduceIte, Nat.reduceAdd, AV.cells, AV.isTuple, setMany, alen, aiaddr, afill, Nat.reduceLeDiff, Nat.reduceMul, Nat.reduceLT, afillE, List.replicate]
  refine withBool_intro ?_ ?_ <;> intro h <;> simp only [walk, wl, rgets, retv, argsEnv, ev, cst, cst1, cstL, AEnv.get, AEnv.trim, envput, qstep, abin, aun, evs, evo, deref, qload, target, if_true, if_false, Nat.reduceEqDiff, reduceIte, Nat.reduceAdd, AV.cells, AV.isTuple, setMany, alen, aiaddr, afill, Nat.reduceLeDiff, Nat.reduceMul, Nat.reduceLT, afillE, List.replicate]
  · obtain ⟨h1, h2⟩ := chk_ne (ls := ls) (by simpa using h)
    simp only [h2, coldV, h1, Bool.false_eq_true, if_false]; exact out_two out_int out_int
  · have h1 := chk_zero (ls := ls) (by simpa using h)
    refine call_pure (rcold_ok (okP_calm h1)) (frzL_of' (d := 4) car_roL) ?_
    simp only [walk, wl, rgets, retv, argsEnv, ev, cst, cst1, cstL, AEnv.get, AEnv.trim, envput, qstep, abin, aun, evs, evo, deref, qload, target, if_true, if_false, Nat.reduceEqDiff, reduceIte, Nat.reduceAdd, AV.cells, AV.isTuple, setMany, alen, aiaddr, afill, Nat.reduceLeDiff, Nat.reduceMul, Nat.reduceLT, afillE, List.replicate]
    simp only [coldV, h1, if_true]; exact out_two out_int out_int
def holdV (l : Lay) : Int × Int := if right l then (l.1 / 20, 0) else (0, 1)
theorem Hold_ok (l : Lay) : PCall Tryd.prog 35 [.agg (dc l)] (.tuple [I (holdV l).1, I (holdV l).2]) := by
  refine PCall.intro text35 (by simp) ?_
  unfold ir35
  simp only [walk, wl, rgets, retv, argsEnv, ev, cst, cst1, cstL, AEnv.get, AEnv.trim, envput, qstep, abin, aun, evs, evo, deref, qload, target, if_true, if_false, Nat.reduceEqDiff, reduceIte, Nat.reduceAdd, AV.cells, AV.isTuple, setMany, alen, aiaddr, afill, Nat.reduceLeDiff, Nat.reduceMul, Nat.reduceLT, afillE, List.replicate, dc]
  refine call_pure (right_ok l) (frzL_of' (d := 4) rfl) ?_
  simp only [walk, wl, rgets, retv, argsEnv, ev, cst, cst1, cstL, AEnv.get, AEnv.trim, envput, qstep, abin, aun, evs, evo, deref, qload, target, if_true, if_false, Nat.reduceEqDiff, reduceIte, Nat.reduceAdd, AV.cells, AV.isTuple, setMany, alen, aiaddr, afill, Nat.reduceLeDiff, Nat.reduceMul, Nat.reduceLT, afillE, List.replicate]
  refine withBool_intro ?_ ?_ <;> intro h <;> simp only [walk, wl, rgets, retv, argsEnv, ev, cst, cst1, cstL, AEnv.get, AEnv.trim, envput, qstep, abin, aun, evs, evo, deref, qload, target, if_true, if_false, Nat.reduceEqDiff, reduceIte, Nat.reduceAdd, AV.cells, AV.isTuple, setMany, alen, aiaddr, afill, Nat.reduceLeDiff, Nat.reduceMul, Nat.reduceLT, afillE, List.replicate]
  · have h1 : right l = false := by simpa using h
    simp only [holdV, h1, Bool.false_eq_true, if_false]; exact out_two out_int out_int
  · have h1 : right l = true := by simpa using h
    have h2 := right_iff.1 h1
    refine call_pure (hold_ok (l := l) (by omega) (by omega)) (frzL_of' (d := 4) rfl) ?_
    simp only [walk, wl, rgets, retv, argsEnv, ev, cst, cst1, cstL, AEnv.get, AEnv.trim, envput, qstep, abin, aun, evs, evo, deref, qload, target, if_true, if_false, Nat.reduceEqDiff, reduceIte, Nat.reduceAdd, AV.cells, AV.isTuple, setMany, alen, aiaddr, afill, Nat.reduceLeDiff, Nat.reduceMul, Nat.reduceLT, afillE, List.replicate]
    simp only [holdV, h1, if_true]; exact out_two out_int out_int
theorem rHold_ok (l : Lay) : PCall Tryd.prog 36 [.agg (dc l)] (.tuple [I (holdV l).1, I (holdV l).2]) := by
  refine PCall.intro text36 (by simp) ?_
  unfold ir36
  simp only [walk, wl, rgets, retv, argsEnv, ev, cst, cst1, cstL, AEnv.get, AEnv.trim, envput, qstep, abin, aun, evs, evo, deref, qload, target, if_true, if_false, Nat.reduceEqDiff, reduceIte, Nat.reduceAdd, AV.cells, AV.isTuple, setMany, alen, aiaddr, afill, Nat.reduceLeDiff, Nat.reduceMul, Nat.reduceLT, afillE, List.replicate, dc]
  refine call_pure (layer_ok l) (frzL_of' (d := 4) rfl) ?_
  simp only [walk, wl, rgets, retv, argsEnv, ev, cst, cst1, cstL, AEnv.get, AEnv.trim, envput, qstep, abin, aun, evs, evo, deref, qload, target, if_true, if_false, Nat.reduceEqDiff, reduceIte, Nat.reduceAdd, AV.cells, AV.isTuple, setMany, alen, aiaddr, afill, Nat.reduceLeDiff, Nat.reduceMul, Nat.reduceLT, afillE, List.replicate]
  refine withBool_intro ?_ ?_ <;> intro h <;> simp only [walk, wl, rgets, retv, argsEnv, ev, cst, cst1, cstL, AEnv.get, AEnv.trim, envput, qstep, abin, aun, evs, evo, deref, qload, target, if_true, if_false, Nat.reduceEqDiff, reduceIte, Nat.reduceAdd, AV.cells, AV.isTuple, setMany, alen, aiaddr, afill, Nat.reduceLeDiff, Nat.reduceMul, Nat.reduceLT, afillE, List.replicate]
  · have h1 : right l = false := by simpa using h
    simp only [holdV, h1, Bool.false_eq_true, if_false]; exact out_two out_int out_int
  · have h1 : right l = true := by simpa using h
    have h2 := right_iff.1 h1
    refine call_pure (rhold_ok (l := l) (by omega) (by omega)) (frzL_of' (d := 4) rfl) ?_
    simp only [walk, wl, rgets, retv, argsEnv, ev, cst, cst1, cstL, AEnv.get, AEnv.trim, envput, qstep, abin, aun, evs, evo, deref, qload, target, if_true, if_false, Nat.reduceEqDiff, reduceIte, Nat.reduceAdd, AV.cells, AV.isTuple, setMany, alen, aiaddr, afill, Nat.reduceLeDiff, Nat.reduceMul, Nat.reduceLT, afillE, List.replicate]
    simp only [holdV, h1, if_true]; exact out_two out_int out_int
end Go.Proofs.YtmcndbldbemebaaDoor
/- Contracts: steps are checked; the cells of a column. -/
namespace Go.Proofs.YtmcndbldbemebaaDoor
open Go.Awp Go.Snow
set_option linter.unusedSimpArgs false
set_option linter.unusedVariables false
set_option linter.unusedSectionVars false
set_option maxRecDepth 10000
def chkS (k m c : Int) : Int := if okS k m c then 0 else 21
theorem okS_iff {k m c : Int} : okS k m c = true ↔ (1 ≤ k ∧ k ≤ 6) ∧ (0 ≤ m ∧ m ≤ 65536) ∧ (0 ≤ c ∧ c ≤ if k = 1 then 65536 else 0) := by
  simp only [okS, decide_eq_true_eq]
  constructor <;> intro h <;> (refine ⟨?_, ?_, ?_⟩ <;> omega) <;> done
theorem chkS_not {k m c : Int} (h : ¬ ((1 ≤ k ∧ k ≤ 6) ∧ (0 ≤ m ∧ m ≤ 65536) ∧ (0 ≤ c ∧ c ≤ if k = 1 then 65536 else 0))) : chkS k m c = 21 := by
  unfold chkS
  rw [if_neg]
  rwa [okS_iff]
theorem chkS_yes {k m c : Int} (h : (1 ≤ k ∧ k ≤ 6) ∧ (0 ≤ m ∧ m ≤ 65536) ∧ (0 ≤ c ∧ c ≤ if k = 1 then 65536 else 0)) : chkS k m c = 0 := by
  unfold chkS
  rw [if_pos (okS_iff.2 h)]
theorem CheckStep_ok (k m c : Int) : PCall Tryd.prog 41 [.agg (dc (k, m, c))] (I (chkS k m c)) := by
  refine PCall.intro text41 (by simp) ?_
  unfold ir41
  simp only [walk, wl, rgets, retv, argsEnv, ev, cst, cst1, cstL, AEnv.get, AEnv.trim, envput, qstep, abin, aun, evs, evo, deref, qload, target, if_true, if_false, Nat.reduceEqDiff, reduceIte, Nat.reduceAdd, AV.cells, AV.isTuple, setMany, alen, aiaddr, afill, Nat.reduceLeDiff, Nat.reduceMul, Nat.reduceLT, afillE, List.replicate, dc]
  have key : ∀ (b : Int), b = (if k = 1 then 65536 else 0) → PCall Tryd.prog 66 [I c, I 0, I b] (.bool (decide (0 ≤ c) && decide (c ≤ if k = 1 then 65536 else 0))) := fun b hb => by
    subst hb; exact from_ok _ _ _
  refine withBool_intro ?_ ?_ <;> intro hk <;> simp only [walk, wl, rgets, retv, argsEnv, ev, cst, cst1, cstL, AEnv.get, AEnv.trim, envput, qstep, abin, aun, evs, evo, deref, qload, target, if_true, if_false, Nat.reduceEqDiff, reduceIte, Nat.reduceAdd, AV.cells, AV.isTuple, setMany, alen, aiaddr, afill, Nat.reduceLeDiff, Nat.reduceMul, Nat.reduceLT, afillE, List.replicate]
  all_goals
    have hb : (if k = 1 then (65536 : Int) else 0) = (if k = 1 then 65536 else 0) := rfl
    by_cases h1 : 1 ≤ k ∧ k ≤ 6
    · refine call_pure (from_t h1) (frzL_of' (d := 1) rfl) ?_
      simp only [walk, wl, rgets, retv, argsEnv, ev, cst, cst1, cstL, AEnv.get, AEnv.trim, envput, qstep, abin, aun, evs, evo, deref, qload, target, if_true, if_false, Nat.reduceEqDiff, reduceIte, Nat.reduceAdd, AV.cells, AV.isTuple, setMany, alen, aiaddr, afill, Nat.reduceLeDiff, Nat.reduceMul, Nat.reduceLT, afillE, List.replicate]
      by_cases h2 : 0 ≤ m ∧ m ≤ 65536
      · refine call_pure (from_t h2) (frzL_of' (d := 1) rfl) ?_
        simp only [walk, wl, rgets, retv, argsEnv, ev, cst, cst1, cstL, AEnv.get, AEnv.trim, envput, qstep, abin, aun, evs, evo, deref, qload, target, if_true, if_false, Nat.reduceEqDiff, reduceIte, Nat.reduceAdd, AV.cells, AV.isTuple, setMany, alen, aiaddr, afill, Nat.reduceLeDiff, Nat.reduceMul, Nat.reduceLT, afillE, List.replicate]
        by_cases h3 : 0 ≤ c ∧ c ≤ if k = 1 then 65536 else 0
        · refine call_pure (from_t (by simp at hk; simpa [hk] using h3)) (frzL_of' (d := 1) rfl) ?_
          simp only [walk, wl, rgets, retv, argsEnv, ev, cst, cst1, cstL, AEnv.get, AEnv.trim, envput, qstep, abin, aun, evs, evo, deref, qload, target, if_true, if_false, Nat.reduceEqDiff, reduceIte, Nat.reduceAdd, AV.cells, AV.isTuple, setMany, alen, aiaddr, afill, Nat.reduceLeDiff, Nat.reduceMul, Nat.reduceLT, afillE, List.replicate]
          rw [chkS_yes ⟨h1, h2, h3⟩]; exact out_int
        · refine call_pure (from_f (by simp at hk; simpa [hk] using h3)) (frzL_of' (d := 1) rfl) ?_
          simp only [walk, wl, rgets, retv, argsEnv, ev, cst, cst1, cstL, AEnv.get, AEnv.trim, envput, qstep, abin, aun, evs, evo, deref, qload, target, if_true, if_false, Nat.reduceEqDiff, reduceIte, Nat.reduceAdd, AV.cells, AV.isTuple, setMany, alen, aiaddr, afill, Nat.reduceLeDiff, Nat.reduceMul, Nat.reduceLT, afillE, List.replicate]
          rw [chkS_not fun h => h3 h.2.2]; exact out_int
      · refine call_pure (from_f h2) (frzL_of' (d := 1) rfl) ?_
        simp only [walk, wl, rgets, retv, argsEnv, ev, cst, cst1, cstL, AEnv.get, AEnv.trim, envput, qstep, abin, aun, evs, evo, deref, qload, target, if_true, if_false, Nat.reduceEqDiff, reduceIte, Nat.reduceAdd, AV.cells, AV.isTuple, setMany, alen, aiaddr, afill, Nat.reduceLeDiff, Nat.reduceMul, Nat.reduceLT, afillE, List.replicate]
        rw [chkS_not fun h => h2 h.2.1]; exact out_int
    · refine call_pure (from_f h1) (frzL_of' (d := 1) rfl) ?_
      simp only [walk, wl, rgets, retv, argsEnv, ev, cst, cst1, cstL, AEnv.get, AEnv.trim, envput, qstep, abin, aun, evs, evo, deref, qload, target, if_true, if_false, Nat.reduceEqDiff, reduceIte, Nat.reduceAdd, AV.cells, AV.isTuple, setMany, alen, aiaddr, afill, Nat.reduceLeDiff, Nat.reduceMul, Nat.reduceLT, afillE, List.replicate]
      rw [chkS_not fun h => h1 h.1]; exact out_int
theorem rCheckStep_ok (k m c : Int) : PCall Tryd.prog 42 [.agg (dc (k, m, c))] (I (chkS k m c)) := by
  refine PCall.intro text42 (by simp) ?_
  unfold ir42
  simp only [walk, wl, rgets, retv, argsEnv, ev, cst, cst1, cstL, AEnv.get, AEnv.trim, envput, qstep, abin, aun, evs, evo, deref, qload, target, if_true, if_false, Nat.reduceEqDiff, reduceIte, Nat.reduceAdd, AV.cells, AV.isTuple, setMany, alen, aiaddr, afill, Nat.reduceLeDiff, Nat.reduceMul, Nat.reduceLT, afillE, List.replicate, dc]
  by_cases h1 : 1 ≤ k ∧ k ≤ 6
  · refine call_pure (within_t h1) (frzL_of' (d := 1) rfl) ?_
    simp only [walk, wl, rgets, retv, argsEnv, ev, cst, cst1, cstL, AEnv.get, AEnv.trim, envput, qstep, abin, aun, evs, evo, deref, qload, target, if_true, if_false, Nat.reduceEqDiff, reduceIte, Nat.reduceAdd, AV.cells, AV.isTuple, setMany, alen, aiaddr, afill, Nat.reduceLeDiff, Nat.reduceMul, Nat.reduceLT, afillE, List.replicate]
    by_cases h2 : 0 ≤ m ∧ m ≤ 65536
    · refine call_pure (within_t h2) (frzL_of' (d := 1) rfl) ?_
      simp only [walk, wl, rgets, retv, argsEnv, ev, cst, cst1, cstL, AEnv.get, AEnv.trim, envput, qstep, abin, aun, evs, evo, deref, qload, target, if_true, if_false, Nat.reduceEqDiff, reduceIte, Nat.reduceAdd, AV.cells, AV.isTuple, setMany, alen, aiaddr, afill, Nat.reduceLeDiff, Nat.reduceMul, Nat.reduceLT, afillE, List.replicate]
      refine withGuard_intro ?_ ?_ <;> intro hk <;> simp only [walk, wl, rgets, retv, argsEnv, ev, cst, cst1, cstL, AEnv.get, AEnv.trim, envput, qstep, abin, aun, evs, evo, deref, qload, target, if_true, if_false, Nat.reduceEqDiff, reduceIte, Nat.reduceAdd, AV.cells, AV.isTuple, setMany, alen, aiaddr, afill, Nat.reduceLeDiff, Nat.reduceMul, Nat.reduceLT, afillE, List.replicate, hk]
      · have hk1 : k = 1 := by simpa using hk
        by_cases h3 : 0 ≤ c ∧ c ≤ 65536
        · refine call_pure (within_t h3) (frzL_of' (d := 1) rfl) ?_
          simp only [walk, wl, rgets, retv, argsEnv, ev, cst, cst1, cstL, AEnv.get, AEnv.trim, envput, qstep, abin, aun, evs, evo, deref, qload, target, if_true, if_false, Nat.reduceEqDiff, reduceIte, Nat.reduceAdd, AV.cells, AV.isTuple, setMany, alen, aiaddr, afill, Nat.reduceLeDiff, Nat.reduceMul, Nat.reduceLT, afillE, List.replicate, hk1]
          simp only [bne_self_eq_false]
          simp only [walk, wl, rgets, retv, argsEnv, ev, cst, cst1, cstL, AEnv.get, AEnv.trim, envput, qstep, abin, aun, evs, evo, deref, qload, target, if_true, if_false, Nat.reduceEqDiff, reduceIte, Nat.reduceAdd, AV.cells, AV.isTuple, setMany, alen, aiaddr, afill, Nat.reduceLeDiff, Nat.reduceMul, Nat.reduceLT, afillE, List.replicate]
          rw [chkS_yes ⟨by omega, h2, by simpa [hk1] using h3⟩]; exact out_int
        · refine call_pure (within_f h3) (frzL_of' (d := 1) rfl) ?_
          simp only [walk, wl, rgets, retv, argsEnv, ev, cst, cst1, cstL, AEnv.get, AEnv.trim, envput, qstep, abin, aun, evs, evo, deref, qload, target, if_true, if_false, Nat.reduceEqDiff, reduceIte, Nat.reduceAdd, AV.cells, AV.isTuple, setMany, alen, aiaddr, afill, Nat.reduceLeDiff, Nat.reduceMul, Nat.reduceLT, afillE, List.replicate]
          rw [chkS_not fun h => h3 (by simpa [hk1] using h.2.2)]; exact out_int
      · have hk1 : ¬ k = 1 := by simpa using hk
        have hk2 : (k != 1) = true := by simpa using hk1
        simp only [walk, wl, rgets, retv, argsEnv, ev, cst, cst1, cstL, AEnv.get, AEnv.trim, envput, qstep, abin, aun, evs, evo, deref, qload, target, if_true, if_false, Nat.reduceEqDiff, reduceIte, Nat.reduceAdd, AV.cells, AV.isTuple, setMany, alen, aiaddr, afill, Nat.reduceLeDiff, Nat.reduceMul, Nat.reduceLT, afillE, List.replicate, hk2]
        refine withBool_intro ?_ ?_ <;> intro h3 <;> simp only [walk, wl, rgets, retv, argsEnv, ev, cst, cst1, cstL, AEnv.get, AEnv.trim, envput, qstep, abin, aun, evs, evo, deref, qload, target, if_true, if_false, Nat.reduceEqDiff, reduceIte, Nat.reduceAdd, AV.cells, AV.isTuple, setMany, alen, aiaddr, afill, Nat.reduceLeDiff, Nat.reduceMul, Nat.reduceLT, afillE, List.replicate]
        · rw [chkS_not fun h => by simp at h3; simp only [hk1, if_false] at h; omega]; exact out_int
        · rw [chkS_yes ⟨h1, h2, by simp at h3; simp only [hk1, if_false]; omega⟩]; exact out_int
    · refine call_pure (within_f h2) (frzL_of' (d := 1) rfl) ?_
      simp only [walk, wl, rgets, retv, argsEnv, ev, cst, cst1, cstL, AEnv.get, AEnv.trim, envput, qstep, abin, aun, evs, evo, deref, qload, target, if_true, if_false, Nat.reduceEqDiff, reduceIte, Nat.reduceAdd, AV.cells, AV.isTuple, setMany, alen, aiaddr, afill, Nat.reduceLeDiff, Nat.reduceMul, Nat.reduceLT, afillE, List.replicate]
      rw [chkS_not fun h => h2 h.2.1]; exact out_int
  · refine call_pure (within_f h1) (frzL_of' (d := 1) rfl) ?_
    simp only [walk, wl, rgets, retv, argsEnv, ev, cst, cst1, cstL, AEnv.get, AEnv.trim, envput, qstep, abin, aun, evs, evo, deref, qload, target, if_true, if_false, Nat.reduceEqDiff, reduceIte, Nat.reduceAdd, AV.cells, AV.isTuple, setMany, alen, aiaddr, afill, Nat.reduceLeDiff, Nat.reduceMul, Nat.reduceLT, afillE, List.replicate]
    rw [chkS_not fun h => h1 h.1]; exact out_int
-- the cells of a column
def colC (L : List Lay) (t n o k : Int) : List AV := (rows L).flatten ++ [I t, I n, I o, I k]
theorem colC_cons {l : Lay} {L : List Lay} {t n o k : Int} : colC (l :: L) t n o k = I l.1 :: I l.2.1 :: I l.2.2 :: colC L t n o k := rfl
theorem colC_length {L : List Lay} {t n o k : Int} : (colC L t n o k).length = 3 * L.length + 4 := by
  induction L with
  | nil => rfl
  | cons l L ih => rw [colC_cons]; simp only [List.length_cons, ih]; omega
theorem colC_drop {t n o k : Int} : ∀ (L : List Lay) (i : Nat), i ≤ L.length → (colC L t n o k).drop (i * 3) = colC (L.drop i) t n o k
  | L, 0, _ => by simp
  | [], i + 1, h => by simp at h
  | l :: L, i + 1, h => by
    rw [colC_cons, show (i + 1) * 3 = i * 3 + 3 by omega]
    simp only [List.drop_succ_cons]
    exact colC_drop L i (by simpa using h)
theorem colC_at {L : List Lay} {i : Nat} (h : i < L.length) {t n o k : Int} : (colC L t n o k).drop (i * 3) = I L[i].1 :: I L[i].2.1 :: I L[i].2.2 :: colC (L.drop (i + 1)) t n o k := by
  rw [colC_drop L i (by omega), List.drop_eq_getElem_cons h, colC_cons]
theorem colC_at1 {L : List Lay} {i : Nat} (h : i < L.length) {t n o k : Int} : (colC L t n o k).drop (i * 3 + 1) = I L[i].2.1 :: I L[i].2.2 :: colC (L.drop (i + 1)) t n o k := by
  rw [← List.drop_drop, colC_at h]; rfl
theorem colC_at2 {L : List Lay} {i : Nat} (h : i < L.length) {t n o k : Int} : (colC L t n o k).drop (i * 3 + 2) = I L[i].2.2 :: colC (L.drop (i + 1)) t n o k := by
  rw [← List.drop_drop, colC_at h]; rfl
theorem colC_drop' {L : List Lay} {t n o k : Int} (q : Nat) : (colC L t n o k).drop (3 * L.length + q) = [I t, I n, I o, I k].drop q := by
  have h : (rows L).flatten.length = 3 * L.length := by
    have := @colC_length L t n o k
    simp only [colC, List.length_append, List.length_cons, List.length_nil] at this; omega
  rw [colC, List.drop_append, h, List.drop_eq_nil_of_le (by omega), List.nil_append]
  congr 1; omega
theorem colC_195 {L : List Lay} (h : L.length = 65) {t n o k : Int} : (colC L t n o k).drop 195 = [I t, I n, I o, I k] := by
  have := @colC_drop' L t n o k 0
  rw [h] at this; exact this
theorem colC_196 {L : List Lay} (h : L.length = 65) {t n o k : Int} : (colC L t n o k).drop 196 = [I n, I o, I k] := by
  have := @colC_drop' L t n o k 1
  rw [h] at this; exact this
theorem colC_197 {L : List Lay} (h : L.length = 65) {t n o k : Int} : (colC L t n o k).drop 197 = [I o, I k] := by
  have := @colC_drop' L t n o k 2
  rw [h] at this; exact this
theorem colC_198 {L : List Lay} (h : L.length = 65) {t n o k : Int} : (colC L t n o k).drop 198 = [I k] := by
  have := @colC_drop' L t n o k 3
  rw [h] at this; exact this
theorem set_at0 {t n o k a : Int} : ∀ {L : List Lay} {i : Nat} (h : i < L.length), (colC L t n o k).set (i * 3) (I a) = colC (L.set i (a, L[i].2.1, L[i].2.2)) t n o k
  | l :: L, 0, h => rfl
  | l :: L, i + 1, h => by
    rw [colC_cons, show (i + 1) * 3 = i * 3 + 3 by omega]
    simp only [List.set_cons_succ, List.getElem_cons_succ, colC_cons]
    rw [set_at0 (by simpa using h)]
theorem set_at1 {t n o k a : Int} : ∀ {L : List Lay} {i : Nat} (h : i < L.length), (colC L t n o k).set (i * 3 + 1) (I a) = colC (L.set i (L[i].1, a, L[i].2.2)) t n o k
  | l :: L, 0, h => rfl
  | l :: L, i + 1, h => by
    rw [colC_cons, show (i + 1) * 3 + 1 = i * 3 + 1 + 3 by omega]
    simp only [List.set_cons_succ, List.getElem_cons_succ, colC_cons]
    rw [set_at1 (by simpa using h)]
theorem set_at2 {t n o k a : Int} : ∀ {L : List Lay} {i : Nat} (h : i < L.length), (colC L t n o k).set (i * 3 + 2) (I a) = colC (L.set i (L[i].1, L[i].2.1, a)) t n o k
  | l :: L, 0, h => rfl
  | l :: L, i + 1, h => by
    rw [colC_cons, show (i + 1) * 3 + 2 = i * 3 + 2 + 3 by omega]
    simp only [List.set_cons_succ, List.getElem_cons_succ, colC_cons]
    rw [set_at2 (by simpa using h)]
theorem colC_set' {L : List Lay} {t n o k : Int} (q : Nat) (x : AV) : (colC L t n o k).set (3 * L.length + q) x = (rows L).flatten ++ [I t, I n, I o, I k].set q x := by
  have h : (rows L).flatten.length = 3 * L.length := by
    have := @colC_length L t n o k
    simp only [colC, List.length_append, List.length_cons, List.length_nil] at this; omega
  rw [colC, List.set_append_right _ _ (by omega), h]
  congr 2; omega
theorem set_195 {L : List Lay} (h : L.length = 65) {t n o k a : Int} : (colC L t n o k).set 195 (I a) = colC L a n o k := by
  have := @colC_set' L t n o k 0 (I a)
  rw [h] at this; exact this
theorem set_196 {L : List Lay} (h : L.length = 65) {t n o k a : Int} : (colC L t n o k).set 196 (I a) = colC L t a o k := by
  have := @colC_set' L t n o k 1 (I a)
  rw [h] at this; exact this
theorem set_197 {L : List Lay} (h : L.length = 65) {t n o k a : Int} : (colC L t n o k).set 197 (I a) = colC L t n a k := by
  have := @colC_set' L t n o k 2 (I a)
  rw [h] at this; exact this
theorem set_198 {L : List Lay} (h : L.length = 65) {t n o k a : Int} : (colC L t n o k).set 198 (I a) = colC L t n o a := by
  have := @colC_set' L t n o k 3 (I a)
  rw [h] at this; exact this
theorem chunks_col {t n o k : Int} : ∀ (L : List Lay) (m : Nat), m ≤ L.length → chunks 3 m (colC L t n o k) = rows (L.take m)
  | L, 0, _ => rfl
  | [], m + 1, h => by simp at h
  | l :: L, m + 1, h => by
    rw [colC_cons]
    simp only [chunks, List.take_succ_cons, List.take_zero, List.drop_succ_cons, List.drop_zero]
    rw [chunks_col L m (by simpa using h)]
    rfl
theorem setMany_rows {t n o k : Int} : ∀ (ls L : List Lay) (i : Nat), i + ls.length ≤ L.length → setMany (colC L t n o k) (i * 3) (rows ls).flatten = colC (L.take i ++ ls ++ L.drop (i + ls.length)) t n o k
  | [], L, i, h => by simp [rows, setMany]
  | l :: ls, L, i, h => by
    simp only [List.length_cons] at h
    have hlt : i < L.length := by omega
    have e : (rows (l :: ls)).flatten = I l.1 :: I l.2.1 :: I l.2.2 :: (rows ls).flatten := rfl
    rw [e]
    simp only [setMany]
    rw [set_at0 hlt, set_at1 (by simpa using hlt), show i * 3 + 1 + 1 = i * 3 + 2 by omega, set_at2 (by simpa using hlt), show i * 3 + 2 + 1 = (i + 1) * 3 by omega]
    simp only [List.getElem_set_self, List.set_set]
    rw [setMany_rows ls _ (i + 1) (by simp only [List.length_set]; omega)]
    congr 1
    rw [List.take_set, List.take_succ_eq_append_getElem hlt]
    have hl : (L.take i).length = i := by simp; omega
    rw [List.set_append_right _ _ (by omega), hl, Nat.sub_self, List.set_cons_zero, List.drop_set_of_lt (by omega)]
    simp only [List.append_assoc, List.cons_append, List.nil_append, List.length_cons]
    congr 4; omega
end Go.Proofs.YtmcndbldbemebaaDoor
