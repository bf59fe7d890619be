/- The law DiffsTopSpec, walked. -/
import Derived.Test.YtepnijjgdhldeaaQD11
namespace Go.Proofs.Ytepnijjgdhldeaa
open Go.Awp
set_option linter.unusedSimpArgs false
set_option linter.unusedVariables false
set_option maxRecDepth 10000
theorem small_ok {n : Int} {ds : List Df} : PCall Try.prog 23 [.agg [I n, .ro false (rows ds)]] (.bool (decide (n ≤ 16) && decide (ds.length ≤ 60))) := by
  refine PCall.intro text23 (by simp) ?_
  unfold ir23
  simp only [walkS, wl, rgets, retv, argsEnv, ev, cst, cst1, cstL, AEnv.get, AEnv.trim, envput, qstep, abin, aun, evs, evo, deref, qload, target, if_true, if_false, Nat.reduceEqDiff, reduceIte, Nat.reduceAdd, AV.cells, AV.isTuple, setMany, alen, aiaddr, afill, Nat.reduceLeDiff, Nat.reduceMul, Nat.reduceLT, afillE, List.replicate, rows_length]
  refine withGuard_intro ?_ ?_ <;> intro h <;> simp only [walkS, wl, rgets, retv, argsEnv, ev, cst, cst1, cstL, AEnv.get, AEnv.trim, envput, qstep, abin, aun, evs, evo, deref, qload, target, if_true, if_false, Nat.reduceEqDiff, reduceIte, Nat.reduceAdd, AV.cells, AV.isTuple, setMany, alen, aiaddr, afill, Nat.reduceLeDiff, Nat.reduceMul, Nat.reduceLT, afillE, List.replicate, h, rows_length]
  · have : (decide (n ≤ 16) && decide (ds.length ≤ 60)) = decide ((ds.length : Int) ≤ 60) := by
      have : n ≤ 16 := by simpa using h
      rw [Bool.eq_iff_iff]; simp [this]; omega
    rw [h, Bool.true_and] at this; rw [Bool.true_and, this]; exact out_bool
  · exact out_bool
end Go.Proofs.Ytepnijjgdhldeaa
