/- The chapter's examples hold: 'sane' hands back true. -/
import Derived.Test.YtgadlckkmhhmbaaGreatDoorQC15
import Derived.Test.YtgadlckkmhhmbaaGreatDoorQC12
import Derived.Test.YtgadlckkmhhmbaaGreatDoorQC11
import Derived.Test.YtgadlckkmhhmbaaGreatDoorQTS
set_option linter.unusedVariables false
set_option linter.unusedSimpArgs false
set_option linter.unusedSectionVars false
namespace Go.Proofs.YtgadlckkmhhmbaaGreatDoor
open Go.Awp Go.Grams
set_option linter.unusedSimpArgs false
set_option linter.unusedVariables false
set_option linter.unusedSectionVars false
set_option maxRecDepth 10000
theorem frz_agg3 {H : AHeap} {x y z x' y' z' : AV} (hx : Frz H x x') (hy : Frz H y y') (hz : Frz H z z') (h1 : x'.one = true) (h2 : y'.one = true) (h3 : z'.one = true) : Frz H (.agg [x, y, z]) (.agg [x', y', z']) := fun w m B v st hv => by
  cases hv with
  | agg _ vs hl ho hh =>
    refine .agg _ _ hl (by simp [h1, h2, h3]) fun i u v' e1 e2 => ?_
    rcases i with _ | _ | _ | i
    · cases e1; exact hx w m B v' st (hh 0 x v' rfl e2)
    · cases e1; exact hy w m B v' st (hh 1 y v' rfl e2)
    · cases e1; exact hz w m B v' st (hh 2 z v' rfl e2)
    · simp at e1
def exT : List Tst := [(10, 10, 0, 0)]
def exS : Sht := ⟨1, 2, 10, 11, 0, 10, 100, 10, [(300, 200, 1155, 40, 5)]⟩
theorem example_ok : PCall Tryz.prog 19 [] (.agg [I 0, I 0, .ro true (trows exT)]) := by
  refine PCall.intro text19 (by simp) ?_
  unfold ir19
  simp only [walk, wl, rgets, retv, argsEnv, ev, cst, cst1, cstL, AEnv.get, AEnv.trim, envput, qstep, abin, aun, evs, evo, deref, qload, target, if_true, if_false, Nat.reduceEqDiff, reduceIte, Nat.reduceAdd, AV.cells, AV.isTuple, setMany, alen, aiaddr, afill, Nat.reduceLeDiff, Nat.reduceMul, Nat.reduceLT, afillE, List.replicate]
  exact out_agg3 out_int out_int (out_of (d := 2) rfl) rfl rfl rfl
theorem sheet_ok : PCall Tryz.prog 20 [] (.agg (shR true exS)) := by
  refine PCall.intro text20 (by simp) ?_
  unfold ir20
  simp only [walk, wl, rgets, retv, argsEnv, ev, cst, cst1, cstL, AEnv.get, AEnv.trim, envput, qstep, abin, aun, evs, evo, deref, qload, target, if_true, if_false, Nat.reduceEqDiff, reduceIte, Nat.reduceAdd, AV.cells, AV.isTuple, setMany, alen, aiaddr, afill, Nat.reduceLeDiff, Nat.reduceMul, Nat.reduceLT, afillE, List.replicate]
  exact out_of (d := 4) rfl
theorem text_ex : prS exS = ByteArray.mk (Array.mk [115, 104, 101, 101, 116, 32, 49, 32, 50, 32, 49, 48, 32, 49, 49, 32, 48, 32, 49, 48, 32, 49, 48, 48, 32, 49, 48, 32, 51, 48, 48, 47, 50, 48, 48, 47, 49, 49, 53, 53, 47, 52, 48, 47, 53]) := by
  have n1 := (itoaT_eq (n := 1) (s := ⟨#[49]⟩) (by decide +kernel)).1
  have n2 := (itoaT_eq (n := 2) (s := ⟨#[50]⟩) (by decide +kernel)).1
  have n10 := (itoaT_eq (n := 10) (s := ⟨#[49, 48]⟩) (by decide +kernel)).1
  have n11 := (itoaT_eq (n := 11) (s := ⟨#[49, 49]⟩) (by decide +kernel)).1
  have n0 := (itoaT_eq (n := 0) (s := ⟨#[48]⟩) (by decide +kernel)).1
  have n100 := (itoaT_eq (n := 100) (s := ⟨#[49, 48, 48]⟩) (by decide +kernel)).1
  have n300 := (itoaT_eq (n := 300) (s := ⟨#[51, 48, 48]⟩) (by decide +kernel)).1
  have n200 := (itoaT_eq (n := 200) (s := ⟨#[50, 48, 48]⟩) (by decide +kernel)).1
  have n1155 := (itoaT_eq (n := 1155) (s := ⟨#[49, 49, 53, 53]⟩) (by decide +kernel)).1
  have n40 := (itoaT_eq (n := 40) (s := ⟨#[52, 48]⟩) (by decide +kernel)).1
  have n5 := (itoaT_eq (n := 5) (s := ⟨#[53]⟩) (by decide +kernel)).1
  have hok : okSh exS = true := by decide +kernel
  simp only [prS, hok, if_true, sheetB, exS, shNums, stakeB, List.foldl_cons, List.foldl_nil, putB, ← n1, ← n2, ← n10, ← n11, ← n0, ← n100, ← n300, ← n200, ← n1155, ← n40, ← n5]
  decide +kernel
theorem ext_ex : extV 0 2 [] 0 [1] [0] [0, 1, 4] = .tuple [.ro true (ic [2, 0, 6]), .bool true, I 0] := by
  have hE : extE 0 2 [] 0 [1] [0] [0, 1, 4] = 0 := by decide +kernel
  have hB : histB 2 [] 0 (List.zip [1] [0]) = true := histB_t ⟨fun p hp => by
    obtain rfl : p = (1, 0) := by simpa using hp
    decide +kernel, fun i j hi hj => by
    have h1 : i = 0 := by simpa using hi
    have h2 : j = 0 := by simpa using hj
    subst h1; subst h2; exact near_self _⟩
  have hB2 : extB 0 2 [] 0 [1] [0] [0, 1, 4] = true := by simp only [extB, hE, hB]; rfl
  have hL : extL 0 2 [] 0 [1] [0] [0, 1, 4] = [2, 0, 6] := by
    unfold extL; rw [if_pos hB2]; decide +kernel
  unfold extV; rw [hL, hB2, hE]
theorem sane_ok : PCall Tryz.prog 4 [] (.bool true) := by
  refine PCall.intro text4 (by simp) ?_
  unfold ir4
  have a1 : dvV 0 2 [(10, 0, 0, 1)] 13 0 = .tuple [spA (-6, 7), I 0] := by
    have h1 : dvS 0 2 [(10, 0, 0, 1)] 13 0 = (-6, 7) := by decide +kernel
    have h2 : askV 0 2 [(10, 0, 0, 1)] [13, 0] = 0 := by decide +kernel
    unfold dvV; rw [h1, h2]
  have a2 : tvV 0 2 [(10, 0, 0, 1)] 7 13 0 = .tuple [spA (-12, 12), I 0] := by
    have h1 : tvS 0 2 [(10, 0, 0, 1)] 7 13 0 = (-12, 12) := by decide +kernel
    have h2 : askV 0 2 [(10, 0, 0, 1)] [7, 13, 0] = 0 := by decide +kernel
    unfold tvV; rw [h1, h2]
  have a3 : addV 0 2 [(10, 0, 0, 1)] (13, 0, 3, 3) = .tuple [.agg [I 0, I 2, .ro true (trows [(10, 0, 0, 1), (13, 0, 3, 3)])], I 0] := by
    have h1 : addS 0 2 [(10, 0, 0, 1)] (13, 0, 3, 3) = (0, 2, [(10, 0, 0, 1), (13, 0, 3, 3)]) := by decide +kernel
    have h2 : addE 0 2 [(10, 0, 0, 1)] (13, 0, 3, 3) = 0 := by decide +kernel
    unfold addV; rw [h1, h2]
  have a4 : tvV 0 2 [(10, 0, 0, 1), (13, 0, 3, 3)] 10 13 0 = .tuple [spA (2, 3), I 0] := by
    have h1 : tvS 0 2 [(10, 0, 0, 1), (13, 0, 3, 3)] 10 13 0 = (2, 3) := by decide +kernel
    have h2 : askV 0 2 [(10, 0, 0, 1), (13, 0, 3, 3)] [10, 13, 0] = 0 := by decide +kernel
    unfold tvV; rw [h1, h2]
  have a5 : lookE 0 0 exT exS 0 10 = 0 := by decide +kernel
  have a6 : corR 0 0 exT exS 0 10 = (1050, 1055) := by decide +kernel
  have a7 : watR 0 0 exT exS 0 10 = (107, 146) := by decide +kernel
  have a8 : densS exS (stAt exS 0) (turnsV 0 exT exS 10) = (356, 485) := by decide +kernel
  have a9 : chkSh exS = 0 := by decide +kernel
  have a10 : addV 0 2 [(10, 0, 0, 1)] (12, 0, 6, 7) = .tuple [.agg [I 0, I 0, .ro true (trows [])], I 13] := by
    have h1 : addS 0 2 [(10, 0, 0, 1)] (12, 0, 6, 7) = (0, 0, []) := by decide +kernel
    have h2 : addE 0 2 [(10, 0, 0, 1)] (12, 0, 6, 7) = 13 := by decide +kernel
    unfold addV; rw [h1, h2]
  simp only [walk, wl, rgets, retv, argsEnv, ev, cst, cst1, cstL, AEnv.get, AEnv.trim, envput, qstep, abin, aun, evs, evo, deref, qload, target, if_true, if_false, Nat.reduceEqDiff, reduceIte, Nat.reduceAdd, AV.cells, AV.isTuple, setMany, alen, aiaddr, afill, Nat.reduceLeDiff, Nat.reduceMul, Nat.reduceLT, afillE, List.replicate]
  refine call_pure (Drift_ok 0 2 [(10, 0, 0, 1)] 13 0) (frzL_of' (d := 4) rfl) ?_
  rw [a1]
  simp only [walk, wl, rgets, retv, argsEnv, ev, cst, cst1, cstL, AEnv.get, AEnv.trim, envput, qstep, abin, aun, evs, evo, deref, qload, target, if_true, if_false, Nat.reduceEqDiff, reduceIte, Nat.reduceAdd, AV.cells, AV.isTuple, setMany, alen, aiaddr, afill, Nat.reduceLeDiff, Nat.reduceMul, Nat.reduceLT, afillE, List.replicate]
  refine call_pure (Turn_ok 0 2 [(10, 0, 0, 1)] 7 13 0) (frzL_of' (d := 4) rfl) ?_
  rw [a2]
  simp only [walk, wl, rgets, retv, argsEnv, ev, cst, cst1, cstL, AEnv.get, AEnv.trim, envput, qstep, abin, aun, evs, evo, deref, qload, target, if_true, if_false, Nat.reduceEqDiff, reduceIte, Nat.reduceAdd, AV.cells, AV.isTuple, setMany, alen, aiaddr, afill, Nat.reduceLeDiff, Nat.reduceMul, Nat.reduceLT, afillE, List.replicate]
  refine call_pure (AddTest_ok 0 2 [(10, 0, 0, 1)] (13, 0, 3, 3)) (frzL_of' (d := 4) rfl) ?_
  rw [a3]
  simp only [walk, wl, rgets, retv, argsEnv, ev, cst, cst1, cstL, AEnv.get, AEnv.trim, envput, qstep, abin, aun, evs, evo, deref, qload, target, if_true, if_false, Nat.reduceEqDiff, reduceIte, Nat.reduceAdd, AV.cells, AV.isTuple, setMany, alen, aiaddr, afill, Nat.reduceLeDiff, Nat.reduceMul, Nat.reduceLT, afillE, List.replicate]
  refine call_pure (Turn_ok 0 2 [(10, 0, 0, 1), (13, 0, 3, 3)] 10 13 0) (frzL_of' (d := 4) rfl) ?_
  rw [a4]
  simp only [walk, wl, rgets, retv, argsEnv, ev, cst, cst1, cstL, AEnv.get, AEnv.trim, envput, qstep, abin, aun, evs, evo, deref, qload, target, if_true, if_false, Nat.reduceEqDiff, reduceIte, Nat.reduceAdd, AV.cells, AV.isTuple, setMany, alen, aiaddr, afill, Nat.reduceLeDiff, Nat.reduceMul, Nat.reduceLT, afillE, List.replicate]
  refine call_pure (Extend_ok 0 2 0 [] [1] [0] [0, 1, 4] (by simp) (by simp)) (.cons (frz_agg3 (frz_car (d := 4) rfl) (frz_car (d := 4) rfl) frz_nil rfl rfl rfl) (frzL_of' (d := 4) rfl)) ?_
  rw [ext_ex]
  simp only [walk, wl, rgets, retv, argsEnv, ev, cst, cst1, cstL, AEnv.get, AEnv.trim, envput, qstep, abin, aun, evs, evo, deref, qload, target, if_true, if_false, Nat.reduceEqDiff, reduceIte, Nat.reduceAdd, AV.cells, AV.isTuple, setMany, alen, aiaddr, afill, Nat.reduceLeDiff, Nat.reduceMul, Nat.reduceLT, afillE, List.replicate]
  refine call_pure example_ok .nil ?_
  simp only [walk, wl, rgets, retv, argsEnv, ev, cst, cst1, cstL, AEnv.get, AEnv.trim, envput, qstep, abin, aun, evs, evo, deref, qload, target, if_true, if_false, Nat.reduceEqDiff, reduceIte, Nat.reduceAdd, AV.cells, AV.isTuple, setMany, alen, aiaddr, afill, Nat.reduceLeDiff, Nat.reduceMul, Nat.reduceLT, afillE, List.replicate]
  refine call_pure sheet_ok .nil ?_
  simp only [walk, wl, rgets, retv, argsEnv, ev, cst, cst1, cstL, AEnv.get, AEnv.trim, envput, qstep, abin, aun, evs, evo, deref, qload, target, if_true, if_false, Nat.reduceEqDiff, reduceIte, Nat.reduceAdd, AV.cells, AV.isTuple, setMany, alen, aiaddr, afill, Nat.reduceLeDiff, Nat.reduceMul, Nat.reduceLT, afillE, List.replicate]
  refine call_pure (Core_ok 0 0 exT exS 0 10) (frzL_of' (d := 4) rfl) ?_
  rw [a5, a6]
  simp only [walk, wl, rgets, retv, argsEnv, ev, cst, cst1, cstL, AEnv.get, AEnv.trim, envput, qstep, abin, aun, evs, evo, deref, qload, target, if_true, if_false, Nat.reduceEqDiff, reduceIte, Nat.reduceAdd, AV.cells, AV.isTuple, setMany, alen, aiaddr, afill, Nat.reduceLeDiff, Nat.reduceMul, Nat.reduceLT, afillE, List.replicate]
  refine call_pure example_ok .nil ?_
  simp only [walk, wl, rgets, retv, argsEnv, ev, cst, cst1, cstL, AEnv.get, AEnv.trim, envput, qstep, abin, aun, evs, evo, deref, qload, target, if_true, if_false, Nat.reduceEqDiff, reduceIte, Nat.reduceAdd, AV.cells, AV.isTuple, setMany, alen, aiaddr, afill, Nat.reduceLeDiff, Nat.reduceMul, Nat.reduceLT, afillE, List.replicate]
  refine call_pure sheet_ok .nil ?_
  simp only [walk, wl, rgets, retv, argsEnv, ev, cst, cst1, cstL, AEnv.get, AEnv.trim, envput, qstep, abin, aun, evs, evo, deref, qload, target, if_true, if_false, Nat.reduceEqDiff, reduceIte, Nat.reduceAdd, AV.cells, AV.isTuple, setMany, alen, aiaddr, afill, Nat.reduceLeDiff, Nat.reduceMul, Nat.reduceLT, afillE, List.replicate]
  refine call_pure (Water_ok 0 0 exT exS 0 10) (frzL_of' (d := 4) rfl) ?_
  rw [a5, a7]
  simp only [walk, wl, rgets, retv, argsEnv, ev, cst, cst1, cstL, AEnv.get, AEnv.trim, envput, qstep, abin, aun, evs, evo, deref, qload, target, if_true, if_false, Nat.reduceEqDiff, reduceIte, Nat.reduceAdd, AV.cells, AV.isTuple, setMany, alen, aiaddr, afill, Nat.reduceLeDiff, Nat.reduceMul, Nat.reduceLT, afillE, List.replicate]
  refine call_pure example_ok .nil ?_
  simp only [walk, wl, rgets, retv, argsEnv, ev, cst, cst1, cstL, AEnv.get, AEnv.trim, envput, qstep, abin, aun, evs, evo, deref, qload, target, if_true, if_false, Nat.reduceEqDiff, reduceIte, Nat.reduceAdd, AV.cells, AV.isTuple, setMany, alen, aiaddr, afill, Nat.reduceLeDiff, Nat.reduceMul, Nat.reduceLT, afillE, List.replicate]
  refine call_pure sheet_ok .nil ?_
  simp only [walk, wl, rgets, retv, argsEnv, ev, cst, cst1, cstL, AEnv.get, AEnv.trim, envput, qstep, abin, aun, evs, evo, deref, qload, target, if_true, if_false, Nat.reduceEqDiff, reduceIte, Nat.reduceAdd, AV.cells, AV.isTuple, setMany, alen, aiaddr, afill, Nat.reduceLeDiff, Nat.reduceMul, Nat.reduceLT, afillE, List.replicate]
  refine call_pure (Density_ok 0 0 exT exS 0 10 a5 (by decide)) (frzL_of' (d := 4) rfl) ?_
  rw [a8]
  simp only [walk, wl, rgets, retv, argsEnv, ev, cst, cst1, cstL, AEnv.get, AEnv.trim, envput, qstep, abin, aun, evs, evo, deref, qload, target, if_true, if_false, Nat.reduceEqDiff, reduceIte, Nat.reduceAdd, AV.cells, AV.isTuple, setMany, alen, aiaddr, afill, Nat.reduceLeDiff, Nat.reduceMul, Nat.reduceLT, afillE, List.replicate]
  refine call_pure sheet_ok .nil ?_
  simp only [walk, wl, rgets, retv, argsEnv, ev, cst, cst1, cstL, AEnv.get, AEnv.trim, envput, qstep, abin, aun, evs, evo, deref, qload, target, if_true, if_false, Nat.reduceEqDiff, reduceIte, Nat.reduceAdd, AV.cells, AV.isTuple, setMany, alen, aiaddr, afill, Nat.reduceLeDiff, Nat.reduceMul, Nat.reduceLT, afillE, List.replicate]
  refine call_pure (PrintSheet_ok exS) (frzL_of' (d := 4) rfl) ?_
  rw [a9, text_ex]
  simp only [walk, wl, rgets, retv, argsEnv, ev, cst, cst1, cstL, AEnv.get, AEnv.trim, envput, qstep, abin, aun, evs, evo, deref, qload, target, if_true, if_false, Nat.reduceEqDiff, reduceIte, Nat.reduceAdd, AV.cells, AV.isTuple, setMany, alen, aiaddr, afill, Nat.reduceLeDiff, Nat.reduceMul, Nat.reduceLT, afillE, List.replicate]
  refine call_pure (AddTest_ok 0 2 [(10, 0, 0, 1)] (12, 0, 6, 7)) (frzL_of' (d := 4) rfl) ?_
  rw [a10]
  have hb : (ByteArray.mk (Array.mk [115, 104, 101, 101, 116, 32, 49, 32, 50, 32, 49, 48, 32, 49, 49, 32, 48, 32, 49, 48, 32, 49, 48, 48, 32, 49, 48, 32, 51, 48, 48, 47, 50, 48, 48, 47, 49, 49, 53, 53, 47, 52, 48, 47, 53]) == ByteArray.mk (Array.mk [115, 104, 101, 101, 116, 32, 49, 32, 50, 32, 49, 48, 32, 49, 49, 32, 48, 32, 49, 48, 32, 49, 48, 48, 32, 49, 48, 32, 51, 48, 48, 47, 50, 48, 48, 47, 49, 49, 53, 53, 47, 52, 48, 47, 53])) = true := by decide +kernel
  simp only [walk, wl, rgets, retv, argsEnv, ev, cst, cst1, cstL, AEnv.get, AEnv.trim, envput, qstep, abin, aun, evs, evo, deref, qload, target, if_true, if_false, Nat.reduceEqDiff, reduceIte, Nat.reduceAdd, AV.cells, AV.isTuple, setMany, alen, aiaddr, afill, Nat.reduceLeDiff, Nat.reduceMul, Nat.reduceLT, afillE, List.replicate, aeqO, Nat.reduceAdd, bne_self_eq_false, beq_self_eq_true, Int.reduceBEq, Int.reduceBNe, Int.reduceNeg, Bool.and_self, Bool.and_true, hb]
  refine call_pure (Equal_ok [2, 0, 6] [2, 0, 6] (by simp)) (frzL_of' (d := 4) rfl) ?_
  simp only [walk, wl, rgets, retv, argsEnv, ev, cst, cst1, cstL, AEnv.get, AEnv.trim, envput, qstep, abin, aun, evs, evo, deref, qload, target, if_true, if_false, Nat.reduceEqDiff, reduceIte, Nat.reduceAdd, AV.cells, AV.isTuple, setMany, alen, aiaddr, afill, Nat.reduceLeDiff, Nat.reduceMul, Nat.reduceLT, afillE, List.replicate, decide_true, aeqO, Nat.reduceAdd, bne_self_eq_false, beq_self_eq_true, Int.reduceBEq, Int.reduceBNe, Int.reduceNeg, Bool.and_self, Bool.and_true, hb]
  exact out_bool
end Go.Proofs.YtgadlckkmhhmbaaGreatDoor
