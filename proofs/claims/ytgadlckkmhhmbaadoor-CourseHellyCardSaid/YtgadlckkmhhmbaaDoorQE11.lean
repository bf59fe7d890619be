/- CourseHelly holds. -/
import Derived.Test.YtgadlckkmhhmbaaDoorQE11d
set_option linter.unusedVariables false
set_option linter.unusedSimpArgs false
set_option linter.unusedSectionVars false
namespace Go.Proofs.YtgadlckkmhhmbaaDoor
open Go.Awp Go.Grams
set_option linter.unusedSimpArgs false
set_option linter.unusedVariables false
set_option linter.unusedSectionVars false
set_option maxRecDepth 10000
theorem hisB_bad {no rate day : Int} {ts : List Tst} {days grams : List Int} (h : hisE no rate ts day days grams ≠ 0) : hisB no rate ts day days grams = false := by
  unfold hisB; simp [h]
theorem tail11b {no rate day fr : Int} {ts : List Tst} {days grams : List Int} {is : Bool} {H : AHeap} {X : AEnv} (hE : hisE no rate ts day days grams = 0) (hl : days.length ≤ 8) (his : is = histB rate ts day (days.zip grams)) 
    (o0 : AHeap.obj H 0 = some ⟨24, 3, [[I no, I rate, .ro false (trows ts)]]⟩) :
    awp Tryd.prog ir11b (fnPost [(.tmp 10)] fun x H' => Out H' x (.bool true)) ((1, I day) :: (2, .ro false (ic days)) :: (3, .ro false (ic grams)) :: (4, I fr) :: (5, .ptr 0 1 0 0) :: (11, .bool is) :: (13, .bool is) :: X) H := by
  unfold ir11b
  have b0 := AHeap.obj_lt o0
  simp only [walkS, wl, rgets, retv, argsEnv, ev, cst, cst1, cstL, AEnv.get, AEnv.trim, envput, qstep, abin, aun, evs, evo, deref, qload, target, if_true, if_false, Nat.reduceEqDiff, reduceIte, Nat.reduceAdd, AV.cells, AV.isTuple, setMany, alen, aiaddr, afill, Nat.reduceLeDiff, Nat.reduceMul, Nat.reduceLT, afillE, List.replicate, beq_self_eq_true]
  refine withGuard_intro ?_ ?_ <;> intro g1 <;> simp only [walkS, wl, rgets, retv, argsEnv, ev, cst, cst1, cstL, AEnv.get, AEnv.trim, envput, qstep, abin, aun, evs, evo, deref, qload, target, if_true, if_false, Nat.reduceEqDiff, reduceIte, Nat.reduceAdd, AV.cells, AV.isTuple, setMany, alen, aiaddr, afill, Nat.reduceLeDiff, Nat.reduceMul, Nat.reduceLT, afillE, List.replicate, g1]
  · refine withBool_intro ?_ ?_ <;> intro g2 <;> simp only [walkS, wl, rgets, retv, argsEnv, ev, cst, cst1, cstL, AEnv.get, AEnv.trim, envput, qstep, abin, aun, evs, evo, deref, qload, target, if_true, if_false, Nat.reduceEqDiff, reduceIte, Nat.reduceAdd, AV.cells, AV.isTuple, setMany, alen, aiaddr, afill, Nat.reduceLeDiff, Nat.reduceMul, Nat.reduceLT, afillE, List.replicate, beq_self_eq_true]
    · exact out_bool
    · have hf : 0 ≤ fr ∧ fr ≤ 1048512 := by simp at g1 g2; omega
      refine awp_loop (σ := Nat × AV) (fun s => [(1, I day), (2, .ro false (ic days)), (3, .ro false (ic grams)), (4, I fr), (5, .ptr 0 1 0 0), (11, .bool is), (20, s.2), (133, I s.1)]) (fun s G => AHeap.obj G 0 = some ⟨24, 3, [[I no, I rate, .ro false (trows ts)]]⟩ ∧ Acc 1 G s.2 3 1 (ic (mor fr s.1))) (fun s => s.1 ≤ 64) (fun s => 64 - s.1) (0, .nilSlice) (Nat.zero_le _) rfl ⟨o0, .inl ⟨rfl, rfl⟩⟩ ?_
      rintro ⟨k, a⟩ G hk ⟨o0, hacc⟩
      simp only at hk hacc o0
      have bG := AHeap.obj_lt o0
      simp only [walkS, wl, rgets, retv, argsEnv, ev, cst, cst1, cstL, AEnv.get, AEnv.trim, envput, qstep, abin, aun, evs, evo, deref, qload, target, if_true, if_false, Nat.reduceEqDiff, reduceIte, Nat.reduceAdd, AV.cells, AV.isTuple, setMany, alen, aiaddr, afill, Nat.reduceLeDiff, Nat.reduceMul, Nat.reduceLT, afillE, List.replicate]
      refine withBool_intro ?_ ?_ <;> intro hb <;> simp only [walkS, wl, rgets, retv, argsEnv, ev, cst, cst1, cstL, AEnv.get, AEnv.trim, envput, qstep, abin, aun, evs, evo, deref, qload, target, if_true, if_false, Nat.reduceEqDiff, reduceIte, Nat.reduceAdd, AV.cells, AV.isTuple, setMany, alen, aiaddr, afill, Nat.reduceLeDiff, Nat.reduceMul, Nat.reduceLT, afillE, List.replicate]
      · have hk64 : k < 64 := by simp at hb; omega
        have w1 := w_succ (k := k) (by omega)
        have e1 : IntKind.i64.wrap (fr + (k : Int)) = fr + (k : Int) := wrap_id (by omega) (by omega)
        simp only [walkS, wl, rgets, retv, argsEnv, ev, cst, cst1, cstL, AEnv.get, AEnv.trim, envput, qstep, abin, aun, evs, evo, deref, qload, target, if_true, if_false, Nat.reduceEqDiff, reduceIte, Nat.reduceAdd, AV.cells, AV.isTuple, setMany, alen, aiaddr, afill, Nat.reduceLeDiff, Nat.reduceMul, Nat.reduceLT, afillE, List.replicate, e1]
        refine acc_append (lo := 1) (by simp) (hacc.push _) rfl rfl AHeap.obj_push_eq (by rw [ic_length, mor_len]; omega) fun a' H4 x1 x2 x3 => ?_
        simp only [walkS, wl, rgets, retv, argsEnv, ev, cst, cst1, cstL, AEnv.get, AEnv.trim, envput, qstep, abin, aun, evs, evo, deref, qload, target, if_true, if_false, Nat.reduceEqDiff, reduceIte, Nat.reduceAdd, AV.cells, AV.isTuple, setMany, alen, aiaddr, afill, Nat.reduceLeDiff, Nat.reduceMul, Nat.reduceLT, afillE, List.replicate, w1]
        refine loop_end (k + 1, a') hk64 (by simp only; omega) rfl ⟨(x3 0 (by omega)).trans (obj_keep o0), ?_⟩
        simp only
        rw [mor_succ, ic_snoc]; exact x2
      · have hk' : k = 64 := by simp at hb; omega
        subst hk'
        have m64 := mor_len (fr := fr) (n := 64)
        rcases hacc with ⟨g, -⟩ | ⟨hm, hm1, rfl, om⟩
        · exfalso
          have := congrArg List.length g
          rw [ic_length, m64] at this; cases this
        · rw [ic_length, m64]
          have hris := mor_rising hf
          have hEx : extE no rate ts day days grams (mor fr 64) = 0 := by unfold extE; rw [if_neg (by simp [hE]), if_pos hris]
          have hEb : extB no rate ts day days grams (mor fr 64) = is := by unfold extB; rw [hEx, his]; simp
          simp only [walkS, wl, rgets, retv, argsEnv, ev, cst, cst1, cstL, AEnv.get, AEnv.trim, envput, qstep, abin, aun, evs, evo, deref, qload, target, if_true, if_false, Nat.reduceEqDiff, reduceIte, Nat.reduceAdd, AV.cells, AV.isTuple, setMany, alen, aiaddr, afill, Nat.reduceLeDiff, Nat.reduceMul, Nat.reduceLT, afillE, List.replicate, o0]
          refine call_pure (Extend_ok no rate day ts days grams (mor fr 64) (by omega) (by omega)) (frzL_of' (d := 4) (carL_cons car_sc (carL_cons car_int (carL_cons car_ic (carL_cons car_ic (carL_cons (car_ownN om (by rw [ic_length, m64]) (ic_simple _)) rfl)))))) ?_
          unfold extV
          rw [hEx, hEb]
          simp only [walkS, wl, rgets, retv, argsEnv, ev, cst, cst1, cstL, AEnv.get, AEnv.trim, envput, qstep, abin, aun, evs, evo, deref, qload, target, if_true, if_false, Nat.reduceEqDiff, reduceIte, Nat.reduceAdd, AV.cells, AV.isTuple, setMany, alen, aiaddr, afill, Nat.reduceLeDiff, Nat.reduceMul, Nat.reduceLT, afillE, List.replicate, bne_self_eq_false, beq_self_eq_true, Bool.not_true]
          exact tail11c hE hl his (by unfold extL; rw [hEb]) hf o0 om
  · exact out_boolE (by simp)
theorem CourseHelly_ok (no rate : Int) (ts : List Tst) (day : Int) (days grams : List Int) (fr : Int) : PCall Tryd.prog 11 [sc no rate ts, I day, .ro false (ic days), .ro false (ic grams), I fr] (.bool true) := by
  refine PCall.intro text11 (by simp) ?_
  unfold ir11
  simp only [walkS, wl, rgets, retv, argsEnv, ev, cst, cst1, cstL, AEnv.get, AEnv.trim, envput, qstep, abin, aun, evs, evo, deref, qload, target, if_true, if_false, Nat.reduceEqDiff, reduceIte, Nat.reduceAdd, AV.cells, AV.isTuple, setMany, alen, aiaddr, afill, Nat.reduceLeDiff, Nat.reduceMul, Nat.reduceLT, afillE, List.replicate]
  refine call_pure sane_ok .nil ?_
  simp only [walkS, wl, rgets, retv, argsEnv, ev, cst, cst1, cstL, AEnv.get, AEnv.trim, envput, qstep, abin, aun, evs, evo, deref, qload, target, if_true, if_false, Nat.reduceEqDiff, reduceIte, Nat.reduceAdd, AV.cells, AV.isTuple, setMany, alen, aiaddr, afill, Nat.reduceLeDiff, Nat.reduceMul, Nat.reduceLT, afillE, List.replicate, trows_length, ic_length]
  refine withGuard_intro ?_ ?_ <;> intro f1 <;> simp only [walkS, wl, rgets, retv, argsEnv, ev, cst, cst1, cstL, AEnv.get, AEnv.trim, envput, qstep, abin, aun, evs, evo, deref, qload, target, if_true, if_false, Nat.reduceEqDiff, reduceIte, Nat.reduceAdd, AV.cells, AV.isTuple, setMany, alen, aiaddr, afill, Nat.reduceLeDiff, Nat.reduceMul, Nat.reduceLT, afillE, List.replicate, f1, ic_length]
  · refine withBool_intro ?_ ?_ <;> intro f2 <;> simp only [walkS, wl, rgets, retv, argsEnv, ev, cst, cst1, cstL, AEnv.get, AEnv.trim, envput, qstep, abin, aun, evs, evo, deref, qload, target, if_true, if_false, Nat.reduceEqDiff, reduceIte, Nat.reduceAdd, AV.cells, AV.isTuple, setMany, alen, aiaddr, afill, Nat.reduceLeDiff, Nat.reduceMul, Nat.reduceLT, afillE, List.replicate]
    · exact out_bool
    · have hl : days.length ≤ 8 := by simp at f2; omega
      refine call_pure (History_ok no rate day ts days grams (by omega)) (frzL_of' (d := 4) (carL_cons car_sc (carL_cons car_int (carL_cons car_ic (carL_cons car_ic rfl))))) ?_
      unfold hisV
      simp only [walkS, wl, rgets, retv, argsEnv, ev, cst, cst1, cstL, AEnv.get, AEnv.trim, envput, qstep, abin, aun, evs, evo, deref, qload, target, if_true, if_false, Nat.reduceEqDiff, reduceIte, Nat.reduceAdd, AV.cells, AV.isTuple, setMany, alen, aiaddr, afill, Nat.reduceLeDiff, Nat.reduceMul, Nat.reduceLT, afillE, List.replicate]
      refine withBool_intro ?_ ?_ <;> intro f3 <;> simp only [walkS, wl, rgets, retv, argsEnv, ev, cst, cst1, cstL, AEnv.get, AEnv.trim, envput, qstep, abin, aun, evs, evo, deref, qload, target, if_true, if_false, Nat.reduceEqDiff, reduceIte, Nat.reduceAdd, AV.cells, AV.isTuple, setMany, alen, aiaddr, afill, Nat.reduceLeDiff, Nat.reduceMul, Nat.reduceLT, afillE, List.replicate, ic_length]
      · rw [hisB_bad (by simpa using f3)]; exact out_bool
      · have hE : hisE no rate ts day days grams = 0 := by simpa using f3
        obtain ⟨hw, hc, hd, hlen, hris⟩ := hisE_zero hE
        refine awp_loop (σ := Nat) (fun i => [(1, I day), (2, .ro false (ic days)), (3, .ro false (ic grams)), (4, I fr), (5, .ptr 0 1 0 0), (11, .bool (hisB no rate ts day days grams)), (13, .bool (palB rate ts day days grams i)), (57, I days.length), (58, I i)]) (fun _ G => AHeap.obj G 0 = some ⟨24, 3, [[I no, I rate, .ro false (trows ts)]]⟩) (fun i => i ≤ days.length) (fun i => days.length - i) 0 (Nat.zero_le _) rfl rfl ?_
        rintro i G hi o0
        simp only [walkS, wl, rgets, retv, argsEnv, ev, cst, cst1, cstL, AEnv.get, AEnv.trim, envput, qstep, abin, aun, evs, evo, deref, qload, target, if_true, if_false, Nat.reduceEqDiff, reduceIte, Nat.reduceAdd, AV.cells, AV.isTuple, setMany, alen, aiaddr, afill, Nat.reduceLeDiff, Nat.reduceMul, Nat.reduceLT, afillE, List.replicate]
        refine withBool_intro ?_ ?_ <;> intro hb <;> simp only [walkS, wl, rgets, retv, argsEnv, ev, cst, cst1, cstL, AEnv.get, AEnv.trim, envput, qstep, abin, aun, evs, evo, deref, qload, target, if_true, if_false, Nat.reduceEqDiff, reduceIte, Nat.reduceAdd, AV.cells, AV.isTuple, setMany, alen, aiaddr, afill, Nat.reduceLeDiff, Nat.reduceMul, Nat.reduceLT, afillE, List.replicate]
        · have hil : i < days.length := by simpa using hb
          have w1 := w_succ (k := i) (by omega)
          refine inner11 hE hl hil o0 fun G2 X o0 => ?_
          simp only [walkS, wl, rgets, retv, argsEnv, ev, cst, cst1, cstL, AEnv.get, AEnv.trim, envput, qstep, abin, aun, evs, evo, deref, qload, target, if_true, if_false, Nat.reduceEqDiff, reduceIte, Nat.reduceAdd, AV.cells, AV.isTuple, setMany, alen, aiaddr, afill, Nat.reduceLeDiff, Nat.reduceMul, Nat.reduceLT, afillE, List.replicate, w1]
          exact loop_end (i + 1) hil (by omega) rfl o0
        · have hi' : i = days.length := by simp at hb; omega
          subst hi'
          have hp := palB_iff (rate := rate) (ts := ts) (known := day) hlen
          rw [hp, ← hisB_of hE]
          exact tail11b hE hl (hisB_of hE) o0
  · exact out_bool
end Go.Proofs.YtgadlckkmhhmbaaDoor
