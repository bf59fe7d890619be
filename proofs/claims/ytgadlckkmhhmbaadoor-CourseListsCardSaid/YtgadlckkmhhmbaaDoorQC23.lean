/- Contracts: sheets that count, of the program: replaced. -/
import Derived.Test.YtgadlckkmhhmbaaDoorQC22
set_option linter.unusedVariables false
set_option linter.unusedSimpArgs false
set_option linter.unusedSectionVars false
namespace Go.Proofs.YtgadlckkmhhmbaaDoor
open Go.Awp Go.Grams
set_option linter.unusedSimpArgs false
set_option linter.unusedVariables false
set_option linter.unusedSectionVars false
set_option maxRecDepth 10000
theorem replaced_ok {l : List Sht} {rws : List (List AV)} {known : Int} {i j : Nat} (hi : i < l.length) (hj : j < l.length) (hl : l.length ≤ 256) : PCall Tryd.prog 99 [.agg [.ro false (srows l), .mapR rws, I known], I (i : Int), I (j : Int)] (.bool (repl l known i j)) := by
  refine PCall.intro text99 (by simp) ?_
  unfold ir99
  have ei := shAt_eq hi
  have ej := shAt_eq hj
  have rp : repl l known i j = ((l[i].no == l[j].no) && decide (l[j].known ≤ known) && (decide (l[j].known > l[i].known) || ((l[j].known == l[i].known) && decide ((j : Int) > (i : Int))))) := by unfold repl; rw [ei, ej]
  rw [rp]
  simp only [walk, wl, rgets, retv, argsEnv, ev, cst, cst1, cstL, AEnv.get, AEnv.trim, envput, qstep, abin, aun, evs, evo, deref, qload, target, if_true, if_false, Nat.reduceEqDiff, reduceIte, Nat.reduceAdd, AV.cells, AV.isTuple, setMany, alen, aiaddr, afill, Nat.reduceLeDiff, Nat.reduceMul, Nat.reduceLT, afillE, List.replicate, srows_get hi, srows_get hj]
  refine withGuard_intro ?_ ?_ <;> intro g1 <;> simp only [walk, wl, rgets, retv, argsEnv, ev, cst, cst1, cstL, AEnv.get, AEnv.trim, envput, qstep, abin, aun, evs, evo, deref, qload, target, if_true, if_false, Nat.reduceEqDiff, reduceIte, Nat.reduceAdd, AV.cells, AV.isTuple, setMany, alen, aiaddr, afill, Nat.reduceLeDiff, Nat.reduceMul, Nat.reduceLT, afillE, List.replicate, g1]
  · refine withGuard_intro ?_ ?_ <;> intro g2 <;> simp only [walk, wl, rgets, retv, argsEnv, ev, cst, cst1, cstL, AEnv.get, AEnv.trim, envput, qstep, abin, aun, evs, evo, deref, qload, target, if_true, if_false, Nat.reduceEqDiff, reduceIte, Nat.reduceAdd, AV.cells, AV.isTuple, setMany, alen, aiaddr, afill, Nat.reduceLeDiff, Nat.reduceMul, Nat.reduceLT, afillE, List.replicate, g2]
    · refine withGuard_intro ?_ ?_ <;> intro g3 <;> simp only [walk, wl, rgets, retv, argsEnv, ev, cst, cst1, cstL, AEnv.get, AEnv.trim, envput, qstep, abin, aun, evs, evo, deref, qload, target, if_true, if_false, Nat.reduceEqDiff, reduceIte, Nat.reduceAdd, AV.cells, AV.isTuple, setMany, alen, aiaddr, afill, Nat.reduceLeDiff, Nat.reduceMul, Nat.reduceLT, afillE, List.replicate, g3]
      · refine withGuard_intro ?_ ?_ <;> intro g4 <;> simp only [walk, wl, rgets, retv, argsEnv, ev, cst, cst1, cstL, AEnv.get, AEnv.trim, envput, qstep, abin, aun, evs, evo, deref, qload, target, if_true, if_false, Nat.reduceEqDiff, reduceIte, Nat.reduceAdd, AV.cells, AV.isTuple, setMany, alen, aiaddr, afill, Nat.reduceLeDiff, Nat.reduceMul, Nat.reduceLT, afillE, List.replicate, g4]
        · exact out_boolE (by simp)
        · exact out_boolE (by simp)
      · exact out_boolE (by simp)
    · exact out_boolE (by simp)
  · exact out_boolE (by simp)
theorem may_ok {l : List Sht} {rws : List (List AV)} {g : Int → Bool} {known : Int} {i : Nat} (hi : i < l.length) (hl : l.length ≤ 256) (hg : ∀ n, (mfind [I n] rws = some (some (.bool true)) ∧ g n = true) ∨ (mfind [I n] rws = some none ∧ g n = false)) : PCall Tryd.prog 100 [.agg [.ro false (srows l), .mapR rws, I known], I (i : Int)] (.bool (!g l[i].no && decide (l[i].known ≤ known))) := by
  refine PCall.intro text100 (by simp) ?_
  unfold ir100
  have key : keyCells 1 (I l[i].no) = some [I l[i].no] := rfl
  rcases hg l[i].no with ⟨h1, h2⟩ | ⟨h1, h2⟩
  · simp only [walk, wl, rgets, retv, argsEnv, ev, cst, cst1, cstL, AEnv.get, AEnv.trim, envput, qstep, abin, aun, evs, evo, deref, qload, target, if_true, if_false, Nat.reduceEqDiff, reduceIte, Nat.reduceAdd, AV.cells, AV.isTuple, setMany, alen, aiaddr, afill, Nat.reduceLeDiff, Nat.reduceMul, Nat.reduceLT, afillE, List.replicate, srows_get hi, key, alookup, h1]
    rw [h2]; exact out_boolE (by simp)
  · simp only [walk, wl, rgets, retv, argsEnv, ev, cst, cst1, cstL, AEnv.get, AEnv.trim, envput, qstep, abin, aun, evs, evo, deref, qload, target, if_true, if_false, Nat.reduceEqDiff, reduceIte, Nat.reduceAdd, AV.cells, AV.isTuple, setMany, alen, aiaddr, afill, Nat.reduceLeDiff, Nat.reduceMul, Nat.reduceLT, afillE, List.replicate, srows_get hi, key, alookup, h1]
    rw [h2]; exact out_boolE (by simp)
end Go.Proofs.YtgadlckkmhhmbaaDoor
