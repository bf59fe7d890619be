/- Contracts: sheets that count, of the program: replaced. -/
import Derived.Test.YtgadlckkmhhmbaaDoorQG8
set_option linter.unusedVariables false
set_option linter.unusedSimpArgs false
set_option linter.unusedSectionVars false
namespace Go.Proofs.YtgadlckkmhhmbaaDoor
open Go.Awp Go.Grams
set_option linter.unusedSimpArgs false
set_option linter.unusedVariables false
set_option linter.unusedSectionVars false
set_option maxRecDepth 10000
theorem replaced_ok {l : List Sht} {rws : List (List AV)} {known : Int} {i j : Nat} (hi : i < l.length) (hj : j < l.length) (hl : l.length ≤ 256) : PCall Tryd.prog 99 [.agg [.ro false (srows l), .mapR rws, I known], I (i : Int), I (j : Int)] (.bool (repl l known i j)) := by
  refine PCall.intro text99 (by simp) ?_
  unfold ir99
  have ei := shAt_eq hi
  have ej := shAt_eq hj
  have rp : repl l known i j = ((l[i].no == l[j].no) && decide (l[j].known ≤ known) && (decide (l[j].known > l[i].known) || ((l[j].known == l[i].known) && decide ((j : Int) > (i : Int))))) := by unfold repl; rw [ei, ej]
  rw [rp]
  simp only [walk, wl, rgets, retv, argsEnv, ev, cst, cst1, cstL, AEnv.get, AEnv.trim, envput, qstep, abin, aun, evs, evo, deref, qload, target, if_true, if_false, Nat.reduceEqDiff, reduceIte, Nat.reduceAdd, AV.cells, AV.isTuple, setMany, alen, aiaddr, afill, Nat.reduceLeDiff, Nat.reduceMul, Nat.reduceLT, afillE, List.replicate, srows_get hi, srows_get hj]
  refine withGuard_intro ?_ ?_ <;> intro g1 <;> simp only [walk, wl, rgets, retv, argsEnv, ev, cst, cst1, cstL, AEnv.get, AEnv.trim, envput, qstep, abin, aun, evs, evo, deref, qload, target, if_true, if_false, Nat.reduceEqDiff, reduceIte, Nat.reduceAdd, AV.cells, AV.isTuple, setMany, alen, aiaddr, afill, Nat.reduceLeDiff, Nat.reduceMul, Nat.reduceLT, afillE, List.replicate, g1]
  · refine withGuard_intro ?_ ?_ <;> intro g2 <;> simp only [walk, wl, rgets, retv, argsEnv, ev, cst, cst1, cstL, AEnv.get, AEnv.trim, envput, qstep, abin, aun, evs, evo, deref, qload, target, if_true, if_false, Nat.reduceEqDiff, reduceIte, Nat.reduceAdd, AV.cells, AV.isTuple, setMany, alen, aiaddr, afill, Nat.reduceLeDiff, Nat.reduceMul, Nat.reduceLT, afillE, List.replicate, g2]
    · refine withGuard_intro ?_ ?_ <;> intro g3 <;> simp only [walk, wl, rgets, retv, argsEnv, ev, cst, cst1, cstL, AEnv.get, AEnv.trim, envput, qstep, abin, aun, evs, evo, deref, qload, target, if_true, if_false, Nat.reduceEqDiff, reduceIte, Nat.reduceAdd, AV.cells, AV.isTuple, setMany, alen, aiaddr, afill, Nat.reduceLeDiff, Nat.reduceMul, Nat.reduceLT, afillE, List.replicate, g3]
      · refine withGuard_intro ?_ ?_ <;> intro g4 <;> simp only [walk, wl, rgets, retv, argsEnv, ev, cst, cst1, cstL, AEnv.get, AEnv.trim, envput, qstep, abin, aun, evs, evo, deref, qload, target, if_true, if_false, Nat.reduceEqDiff, reduceIte, Nat.reduceAdd, AV.cells, AV.isTuple, setMany, alen, aiaddr, afill, Nat.reduceLeDiff, Nat.reduceMul, Nat.reduceLT, afillE, List.replicate, g4]
        · exact out_boolE (by simp)
        · exact out_boolE (by simp)
      · exact out_boolE (by simp)
    · exact out_boolE (by simp)
  · exact out_boolE (by simp)
theorem may_ok {l : List Sht} {rws : List (List AV)} {g : Int → Bool} {known : Int} {i : Nat} (hi : i < l.length) (hl : l.length ≤ 256) (hg : ∀ n, (mfind [I n] rws = some (some (.bool true)) ∧ g n = true) ∨ (mfind [I n] rws = some none ∧ g n = false)) : PCall Tryd.prog 100 [.agg [.ro false (srows l), .mapR rws, I known], I (i : Int)] (.bool (!g l[i].no && decide (l[i].known ≤ known))) := by
  refine PCall.intro text100 (by simp) ?_
  unfold ir100
  have key : keyCells 1 (I l[i].no) = some [I l[i].no] := rfl
  rcases hg l[i].no with ⟨h1, h2⟩ | ⟨h1, h2⟩
  · simp only [walk, wl, rgets, retv, argsEnv, ev, cst, cst1, cstL, AEnv.get, AEnv.trim, envput, qstep, abin, aun, evs, evo, deref, qload, target, if_true, if_false, Nat.reduceEqDiff, reduceIte, Nat.reduceAdd, AV.cells, AV.isTuple, setMany, alen, aiaddr, afill, Nat.reduceLeDiff, Nat.reduceMul, Nat.reduceLT, afillE, List.replicate, srows_get hi, key, alookup, h1]
    rw [h2]; exact out_boolE (by simp)
  · simp only [walk, wl, rgets, retv, argsEnv, ev, cst, cst1, cstL, AEnv.get, AEnv.trim, envput, qstep, abin, aun, evs, evo, deref, qload, target, if_true, if_false, Nat.reduceEqDiff, reduceIte, Nat.reduceAdd, AV.cells, AV.isTuple, setMany, alen, aiaddr, afill, Nat.reduceLeDiff, Nat.reduceMul, Nat.reduceLT, afillE, List.replicate, srows_get hi, key, alookup, h1]
    rw [h2]; exact out_boolE (by simp)
end Go.Proofs.YtgadlckkmhhmbaaDoor
/- Contracts: chosen. -/
namespace Go.Proofs.YtgadlckkmhhmbaaDoor
open Go.Awp Go.Grams
set_option linter.unusedSimpArgs false
set_option linter.unusedVariables false
set_option linter.unusedSectionVars false
set_option maxRecDepth 10000
theorem chosen_ok {l : List Sht} {rws : List (List AV)} {wd : List Int} {known : Int} (hl : l.length ≤ 256) (hg : ∀ n, (mfind [I n] rws = some (some (.bool true)) ∧ wd.contains n = true) ∨ (mfind [I n] rws = some none ∧ wd.contains n = false)) :
    PCall Tryd.prog 98 [I l.length, .func (.func 99) [.agg [.ro false (srows l), .mapR rws, I known]] [], .func (.func 100) [.agg [.ro false (srows l), .mapR rws, I known]] []] (.ro true (ic (idxs (stq l wd known) l.length))) := by
  refine PCall.intro text98 (by simp) ?_
  unfold ir98
  simp only [walk, wl, rgets, retv, argsEnv, ev, cst, cst1, cstL, AEnv.get, AEnv.trim, envput, qstep, abin, aun, evs, evo, deref, qload, target, if_true, if_false, Nat.reduceEqDiff, reduceIte, Nat.reduceAdd, AV.cells, AV.isTuple, setMany, alen, aiaddr, afill, Nat.reduceLeDiff, Nat.reduceMul, Nat.reduceLT, afillE, List.replicate]
  refine awp_loop (σ := Nat × AV) (fun s => [(0, I l.length), (1, .func (.func 99) [.agg [.ro false (srows l), .mapR rws, I known]] []), (2, .func (.func 100) [.agg [.ro false (srows l), .mapR rws, I known]] []), (6, s.2), (10, I l.length), (11, I s.1)]) (fun s H => Acc 0 H s.2 3 1 (ic (idxs (stq l wd known) s.1))) (fun s => s.1 ≤ l.length) (fun s => l.length - s.1) (0, .nilSlice) (Nat.zero_le _) rfl (.inl ⟨rfl, rfl⟩) ?_
  rintro ⟨k, a⟩ H hk hacc
  simp only at hk hacc
  simp only [walkS, wl, rgets, retv, argsEnv, ev, cst, cst1, cstL, AEnv.get, AEnv.trim, envput, qstep, abin, aun, evs, evo, deref, qload, target, if_true, if_false, Nat.reduceEqDiff, reduceIte, Nat.reduceAdd, AV.cells, AV.isTuple, setMany, alen, aiaddr, afill, Nat.reduceLeDiff, Nat.reduceMul, Nat.reduceLT, afillE, List.replicate]
  refine withBool_intro ?_ ?_ <;> intro hb <;> simp only [walkS, wl, rgets, retv, argsEnv, ev, cst, cst1, cstL, AEnv.get, AEnv.trim, envput, qstep, abin, aun, evs, evo, deref, qload, target, if_true, if_false, Nat.reduceEqDiff, reduceIte, Nat.reduceAdd, AV.cells, AV.isTuple, setMany, alen, aiaddr, afill, Nat.reduceLeDiff, Nat.reduceMul, Nat.reduceLT, afillE, List.replicate]
  · have hlt : k < l.length := by simpa using hb
    have w1 := w_succ (k := k) (by omega)
    have ek := shAt_eq hlt
    refine acall_callv ?_
    simp only [walkS, wl, rgets, retv, argsEnv, ev, cst, cst1, cstL, AEnv.get, AEnv.trim, envput, qstep, abin, aun, evs, evo, deref, qload, target, if_true, if_false, Nat.reduceEqDiff, reduceIte, Nat.reduceAdd, AV.cells, AV.isTuple, setMany, alen, aiaddr, afill, Nat.reduceLeDiff, Nat.reduceMul, Nat.reduceLT, afillE, List.replicate, withFun_app, funK_app]
    refine call_pure (may_ok (g := wd.contains) (known := known) hlt hl hg) (frzL_of' (d := 5) (carL_cons (car_agg (carL_cons car_srows (carL_cons rfl (carL_cons car_int rfl)))) rfl)) ?_
    simp only [walkS, wl, rgets, retv, argsEnv, ev, cst, cst1, cstL, AEnv.get, AEnv.trim, envput, qstep, abin, aun, evs, evo, deref, qload, target, if_true, if_false, Nat.reduceEqDiff, reduceIte, Nat.reduceAdd, AV.cells, AV.isTuple, setMany, alen, aiaddr, afill, Nat.reduceLeDiff, Nat.reduceMul, Nat.reduceLT, afillE, List.replicate]
    refine awp_loop (σ := Nat) (fun m => [(0, I l.length), (1, .func (.func 99) [.agg [.ro false (srows l), .mapR rws, I known]] []), (2, .func (.func 100) [.agg [.ro false (srows l), .mapR rws, I known]] []), (6, a), (7, I k), (8, .bool ((!wd.contains l[k].no && decide (l[k].known ≤ known)) && lasts l known k m)), (10, I l.length), (11, I k), (17, I l.length), (18, I m)]) (fun m H => Acc 0 H a 3 1 (ic (idxs (stq l wd known) k))) (fun m => m ≤ l.length) (fun m => l.length - m) 0 (Nat.zero_le _) (by simp [lasts]) hacc ?_
    rintro m H2 hm hacc2
    simp only [walkS, wl, rgets, retv, argsEnv, ev, cst, cst1, cstL, AEnv.get, AEnv.trim, envput, qstep, abin, aun, evs, evo, deref, qload, target, if_true, if_false, Nat.reduceEqDiff, reduceIte, Nat.reduceAdd, AV.cells, AV.isTuple, setMany, alen, aiaddr, afill, Nat.reduceLeDiff, Nat.reduceMul, Nat.reduceLT, afillE, List.replicate]
    refine withBool_intro ?_ ?_ <;> intro hb2 <;> simp only [walkS, wl, rgets, retv, argsEnv, ev, cst, cst1, cstL, AEnv.get, AEnv.trim, envput, qstep, abin, aun, evs, evo, deref, qload, target, if_true, if_false, Nat.reduceEqDiff, reduceIte, Nat.reduceAdd, AV.cells, AV.isTuple, setMany, alen, aiaddr, afill, Nat.reduceLeDiff, Nat.reduceMul, Nat.reduceLT, afillE, List.replicate]
    · have hmt : m < l.length := by simpa using hb2
      have w2 := w_succ (k := m) (by omega)
      have ls : lasts l known k (m + 1) = (lasts l known k m && !repl l known k m) := lasts_succ
      refine withGuard_intro ?_ ?_ <;> intro g1 <;> simp only [walkS, wl, rgets, retv, argsEnv, ev, cst, cst1, cstL, AEnv.get, AEnv.trim, envput, qstep, abin, aun, evs, evo, deref, qload, target, if_true, if_false, Nat.reduceEqDiff, reduceIte, Nat.reduceAdd, AV.cells, AV.isTuple, setMany, alen, aiaddr, afill, Nat.reduceLeDiff, Nat.reduceMul, Nat.reduceLT, afillE, List.replicate, g1]
      · refine acall_callv ?_
        simp only [walkS, wl, rgets, retv, argsEnv, ev, cst, cst1, cstL, AEnv.get, AEnv.trim, envput, qstep, abin, aun, evs, evo, deref, qload, target, if_true, if_false, Nat.reduceEqDiff, reduceIte, Nat.reduceAdd, AV.cells, AV.isTuple, setMany, alen, aiaddr, afill, Nat.reduceLeDiff, Nat.reduceMul, Nat.reduceLT, afillE, List.replicate, withFun_app, funK_app]
        refine call_pure (replaced_ok (known := known) hlt hmt hl) (frzL_of' (d := 5) (carL_cons (car_agg (carL_cons car_srows (carL_cons rfl (carL_cons car_int rfl)))) rfl)) ?_
        simp only [walkS, wl, rgets, retv, argsEnv, ev, cst, cst1, cstL, AEnv.get, AEnv.trim, envput, qstep, abin, aun, evs, evo, deref, qload, target, if_true, if_false, Nat.reduceEqDiff, reduceIte, Nat.reduceAdd, AV.cells, AV.isTuple, setMany, alen, aiaddr, afill, Nat.reduceLeDiff, Nat.reduceMul, Nat.reduceLT, afillE, List.replicate, w2]
        refine loop_end (m + 1) hmt (by omega) (by rw [ls, ← Bool.and_assoc, g1, Bool.true_and]) hacc2
      · simp only [walkS, wl, rgets, retv, argsEnv, ev, cst, cst1, cstL, AEnv.get, AEnv.trim, envput, qstep, abin, aun, evs, evo, deref, qload, target, if_true, if_false, Nat.reduceEqDiff, reduceIte, Nat.reduceAdd, AV.cells, AV.isTuple, setMany, alen, aiaddr, afill, Nat.reduceLeDiff, Nat.reduceMul, Nat.reduceLT, afillE, List.replicate, w2]
        have e2 : ((!wd.contains l[k].no && decide (l[k].known ≤ known)) && lasts l known k (m + 1)) = false := by
          rw [ls]; revert g1; cases wd.contains l[k].no <;> cases decide (l[k].known ≤ known) <;> cases lasts l known k m <;> simp
        refine loop_end (m + 1) hmt (by omega) (by rw [e2]) hacc2
    · have hm' : m = l.length := by simp at hb2; omega
      subst hm'
      have q : stq l wd known k = ((!wd.contains l[k].no && decide (l[k].known ≤ known)) && lasts l known k l.length) := by unfold stq; rw [ek]
      rw [← q]
      refine withBool_intro ?_ ?_ <;> intro g3 <;> simp only [walkS, wl, rgets, retv, argsEnv, ev, cst, cst1, cstL, AEnv.get, AEnv.trim, envput, qstep, abin, aun, evs, evo, deref, qload, target, if_true, if_false, Nat.reduceEqDiff, reduceIte, Nat.reduceAdd, AV.cells, AV.isTuple, setMany, alen, aiaddr, afill, Nat.reduceLeDiff, Nat.reduceMul, Nat.reduceLT, afillE, List.replicate]
      · refine acc_append (lo := 0) (Nat.zero_le _) (hacc2.push _) rfl rfl AHeap.obj_push_eq (by rw [ic_length]; have := idxs_len (q := stq l wd known) (k := k); omega) fun a' H4 x1 x2 x3 => ?_
        simp only [walkS, wl, rgets, retv, argsEnv, ev, cst, cst1, cstL, AEnv.get, AEnv.trim, envput, qstep, abin, aun, evs, evo, deref, qload, target, if_true, if_false, Nat.reduceEqDiff, reduceIte, Nat.reduceAdd, AV.cells, AV.isTuple, setMany, alen, aiaddr, afill, Nat.reduceLeDiff, Nat.reduceMul, Nat.reduceLT, afillE, List.replicate, w1]
        refine loop_end (k + 1, a') hlt (by simp only; omega) rfl ?_
        rw [idxs_t g3, ic_snoc]; exact x2
      · simp only [walkS, wl, rgets, retv, argsEnv, ev, cst, cst1, cstL, AEnv.get, AEnv.trim, envput, qstep, abin, aun, evs, evo, deref, qload, target, if_true, if_false, Nat.reduceEqDiff, reduceIte, Nat.reduceAdd, AV.cells, AV.isTuple, setMany, alen, aiaddr, afill, Nat.reduceLeDiff, Nat.reduceMul, Nat.reduceLT, afillE, List.replicate, w1]
        refine loop_end (k + 1, a) hlt (by simp only; omega) rfl ?_
        rw [idxs_f g3]; exact hacc2
  · have hk' : k = l.length := by simp at hb; omega
    subst hk'
    exact hacc.out (ic_simple _)
end Go.Proofs.YtgadlckkmhhmbaaDoor
