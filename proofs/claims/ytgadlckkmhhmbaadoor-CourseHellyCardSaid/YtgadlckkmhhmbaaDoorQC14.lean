/- Contracts: the specification's histories. -/
import Derived.Test.YtgadlckkmhhmbaaDoorQC13
import Derived.Test.YtgadlckkmhhmbaaDoorProg
import Derived.Test.YtgadlckkmhhmbaaDoorQFx
import Derived.KernelRfl
set_option linter.unusedVariables false
set_option linter.unusedSimpArgs false
set_option linter.unusedSectionVars false
namespace Go.Proofs.YtgadlckkmhhmbaaDoor
open Go.Awp Go.Grams
set_option linter.unusedSimpArgs false
set_option linter.unusedVariables false
set_option linter.unusedSectionVars false
set_option maxRecDepth 10000
theorem car_ic {b : Bool} {H : AHeap} {d : Nat} {l : List Int} : carry false H (d + 2) (.ro b (ic l)) = some (.ro false (ic l)) := car_ro (ic_simple _) (.inl rfl)
noncomputable def hisV (no rate : Int) (ts : List Tst) (known : Int) (days grams : List Int) : AV := .tuple [.bool (hisB no rate ts known days grams), I (hisE no rate ts known days grams)]
theorem his_bad {no rate known e : Int} {ts : List Tst} {days grams : List Int} (he : hisE no rate ts known days grams = e) (h0 : e ≠ 0) (H : AHeap) : Out H (.tuple [.bool false, I e]) (hisV no rate ts known days grams) := by
  have : hisB no rate ts known days grams = false := by simp [hisB, he, h0]
  unfold hisV; rw [this, he]; exact out_two out_bool out_int
theorem his_good {no rate known : Int} {ts : List Tst} {days grams : List Int} (he : hisE no rate ts known days grams = 0) (H : AHeap) : Out H (.tuple [.bool (histB rate ts known (days.zip grams)), I 0]) (hisV no rate ts known days grams) := by
  have : hisB no rate ts known days grams = histB rate ts known (days.zip grams) := by simp [hisB, he]
  unfold hisV; rw [this, he]; exact out_two out_bool out_int
theorem ask1 {no rate known : Int} {ts : List Tst} : askV no rate ts [known] = if chkS no rate ts ≠ 0 then chkS no rate ts else if okDay known = true then 0 else 1 := by simp [askV]
theorem History_ok (no rate known : Int) (ts : List Tst) (days grams : List Int) (hd : days.length ≤ 1000) : PCall Tryd.prog 32 [sc no rate ts, I known, .ro false (ic days), .ro false (ic grams)] (hisV no rate ts known days grams) := by
  refine PCall.intro text32 (by simp) ?_
  unfold ir32
  simp only [walk, wl, rgets, retv, argsEnv, ev, cst, cst1, cstL, AEnv.get, AEnv.trim, envput, qstep, abin, aun, evs, evo, deref, qload, target, if_true, if_false, Nat.reduceEqDiff, reduceIte, Nat.reduceAdd, AV.cells, AV.isTuple, setMany, alen, aiaddr, afill, Nat.reduceLeDiff, Nat.reduceMul, Nat.reduceLT, afillE, List.replicate]
  refine call_pure (ask_ok no rate ts [known] (by simp)) (frzL_of' (d := 4) (carL_cons car_sc (carL_cons (car_own1 rfl) rfl))) ?_
  simp only [walk, wl, rgets, retv, argsEnv, ev, cst, cst1, cstL, AEnv.get, AEnv.trim, envput, qstep, abin, aun, evs, evo, deref, qload, target, if_true, if_false, Nat.reduceEqDiff, reduceIte, Nat.reduceAdd, AV.cells, AV.isTuple, setMany, alen, aiaddr, afill, Nat.reduceLeDiff, Nat.reduceMul, Nat.reduceLT, afillE, List.replicate]
  refine withBool_intro ?_ ?_ <;> intro h1 <;> simp only [walk, wl, rgets, retv, argsEnv, ev, cst, cst1, cstL, AEnv.get, AEnv.trim, envput, qstep, abin, aun, evs, evo, deref, qload, target, if_true, if_false, Nat.reduceEqDiff, reduceIte, Nat.reduceAdd, AV.cells, AV.isTuple, setMany, alen, aiaddr, afill, Nat.reduceLeDiff, Nat.reduceMul, Nat.reduceLT, afillE, List.replicate]
  · refine his_bad ?_ (by simpa using h1) _
    simp only [I, decide_eq_true_eq, ne_eq, bne_iff_ne] at h1
    unfold hisE; unfold askV at h1 ⊢
    by_cases h2 : chkS no rate ts = 0
    · by_cases h3 : okDay known = true
      · simp [h2, h3] at h1
      · simp [h2, h3]
    · simp [h2]
  · have h0 : askV no rate ts [known] = 0 := by simpa using h1
    obtain ⟨hw, hc, hdy⟩ := askV_zero h0
    have hk := hdy known (by simp)
    have h1' : chkS no rate ts = 0 := by
      rw [ask1] at h0; split at h0
      · omega
      · rename_i h; simpa using h
    have bad : ¬ (days.length = grams.length ∧ risingV days = true) → hisE no rate ts known days grams = 1 := fun h => by
      unfold hisE; rw [if_neg (by simp [h1']), if_neg (fun hh => h hh.2)]
    simp only [walk, wl, rgets, retv, argsEnv, ev, cst, cst1, cstL, AEnv.get, AEnv.trim, envput, qstep, abin, aun, evs, evo, deref, qload, target, if_true, if_false, Nat.reduceEqDiff, reduceIte, Nat.reduceAdd, AV.cells, AV.isTuple, setMany, alen, aiaddr, afill, Nat.reduceLeDiff, Nat.reduceMul, Nat.reduceLT, afillE, List.replicate, ic_length]
    refine withGuard_intro ?_ ?_ <;> intro h2 <;> simp only [walk, wl, rgets, retv, argsEnv, ev, cst, cst1, cstL, AEnv.get, AEnv.trim, envput, qstep, abin, aun, evs, evo, deref, qload, target, if_true, if_false, Nat.reduceEqDiff, reduceIte, Nat.reduceAdd, AV.cells, AV.isTuple, setMany, alen, aiaddr, afill, Nat.reduceLeDiff, Nat.reduceMul, Nat.reduceLT, afillE, List.replicate, h2]
    · have hl : days.length = grams.length := by simp at h2; omega
      refine call_pure (rising_ok days hd) (frzL_of' (d := 4) (carL_cons car_ic rfl)) ?_
      simp only [walk, wl, rgets, retv, argsEnv, ev, cst, cst1, cstL, AEnv.get, AEnv.trim, envput, qstep, abin, aun, evs, evo, deref, qload, target, if_true, if_false, Nat.reduceEqDiff, reduceIte, Nat.reduceAdd, AV.cells, AV.isTuple, setMany, alen, aiaddr, afill, Nat.reduceLeDiff, Nat.reduceMul, Nat.reduceLT, afillE, List.replicate]
      refine withBool_intro ?_ ?_ <;> intro h3 <;> simp only [walk, wl, rgets, retv, argsEnv, ev, cst, cst1, cstL, AEnv.get, AEnv.trim, envput, qstep, abin, aun, evs, evo, deref, qload, target, if_true, if_false, Nat.reduceEqDiff, reduceIte, Nat.reduceAdd, AV.cells, AV.isTuple, setMany, alen, aiaddr, afill, Nat.reduceLeDiff, Nat.reduceMul, Nat.reduceLT, afillE, List.replicate]
      · exact his_bad (bad (by simp at h3; simp [h3])) (by decide) _
      · have hr : risingV days = true := by simpa using h3
        refine call_pure (possible_ok (known := known) hw hc hl hr) (frzL_of' (d := 4) (carL_cons car_sc (carL_cons car_int (carL_cons car_ic (carL_cons car_ic rfl))))) ?_
        simp only [walk, wl, rgets, retv, argsEnv, ev, cst, cst1, cstL, AEnv.get, AEnv.trim, envput, qstep, abin, aun, evs, evo, deref, qload, target, if_true, if_false, Nat.reduceEqDiff, reduceIte, Nat.reduceAdd, AV.cells, AV.isTuple, setMany, alen, aiaddr, afill, Nat.reduceLeDiff, Nat.reduceMul, Nat.reduceLT, afillE, List.replicate]
        refine his_good ?_ _
        unfold hisE; rw [if_neg (by simp [h1']), if_pos ⟨hk, hl, hr⟩]
    · exact his_bad (bad (by simp at h2; omega)) (by decide) _
end Go.Proofs.YtgadlckkmhhmbaaDoor
