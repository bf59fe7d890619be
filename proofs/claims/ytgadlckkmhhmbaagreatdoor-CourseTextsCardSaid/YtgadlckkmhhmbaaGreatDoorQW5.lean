/- Contracts: integers of words, of the specification. -/
import Derived.Test.YtgadlckkmhhmbaaGreatDoorQW4
set_option linter.unusedVariables false
set_option linter.unusedSimpArgs false
set_option linter.unusedSectionVars false
namespace Go.Proofs.YtgadlckkmhhmbaaGreatDoor
open Go.Awp Go.Grams
set_option linter.unusedSimpArgs false
set_option linter.unusedVariables false
set_option linter.unusedSectionVars false
set_option maxRecDepth 10000
theorem rIntegers_ok (ws : List ByteArray) (many : Nat) (hl : ws.length ≤ 1000000) (hm : many ≤ 1000) (hs : ∀ s, s ∈ ws → s.size ≤ 1000000) : PCall Tryz.prog 36 [.ro false (Go.Awp.sc ws), I many] (numsAV (nums rintO ws many)) := by
  refine PCall.intro text36 (by simp) ?_
  unfold ir36
  simp only [walk, wl, rgets, retv, argsEnv, ev, cst, cst1, cstL, AEnv.get, AEnv.trim, envput, qstep, abin, aun, evs, evo, deref, qload, target, if_true, if_false, Nat.reduceEqDiff, reduceIte, Nat.reduceAdd, AV.cells, AV.isTuple, setMany, alen, aiaddr, afill, Nat.reduceLeDiff, Nat.reduceMul, Nat.reduceLT, afillE, List.replicate, sc_length]
  refine withBool_intro ?_ ?_ <;> intro h1 <;> simp only [walk, wl, rgets, retv, argsEnv, ev, cst, cst1, cstL, AEnv.get, AEnv.trim, envput, qstep, abin, aun, evs, evo, deref, qload, target, if_true, if_false, Nat.reduceEqDiff, reduceIte, Nat.reduceAdd, AV.cells, AV.isTuple, setMany, alen, aiaddr, afill, Nat.reduceLeDiff, Nat.reduceMul, Nat.reduceLT, afillE, List.replicate, sc_length]
  · have : nums rintO ws many = none := by unfold nums; rw [if_neg (by simp at h1; omega)]
    rw [this]; exact out_none
  · have hn : ws.length = many := by simp at h1; omega
    have e : nums rintO ws many = mapO rintO ws := by unfold nums; rw [if_pos hn]
    rw [e]
    refine awp_loop (σ := Nat × AV × List Int) (fun s => [(0, .ro false (Go.Awp.sc ws)), (6, s.2.1), (7, I s.1)]) (fun s H => Acc 0 H s.2.1 3 1 (ic s.2.2)) (fun s => s.1 ≤ ws.length ∧ mapO rintO (ws.take s.1) = some s.2.2) (fun s => ws.length - s.1) (0, .nilSlice, []) ⟨Nat.zero_le _, rfl⟩ rfl (.inl ⟨rfl, rfl⟩) ?_
    rintro ⟨k, a, l⟩ H ⟨hk, hml⟩ hacc
    simp only at hk hml hacc
    simp only [walkS, wl, rgets, retv, argsEnv, ev, cst, cst1, cstL, AEnv.get, AEnv.trim, envput, qstep, abin, aun, evs, evo, deref, qload, target, if_true, if_false, Nat.reduceEqDiff, reduceIte, Nat.reduceAdd, AV.cells, AV.isTuple, setMany, alen, aiaddr, afill, Nat.reduceLeDiff, Nat.reduceMul, Nat.reduceLT, afillE, List.replicate, sc_length]
    refine withBool_intro ?_ ?_ <;> intro hb <;> simp only [walkS, wl, rgets, retv, argsEnv, ev, cst, cst1, cstL, AEnv.get, AEnv.trim, envput, qstep, abin, aun, evs, evo, deref, qload, target, if_true, if_false, Nat.reduceEqDiff, reduceIte, Nat.reduceAdd, AV.cells, AV.isTuple, setMany, alen, aiaddr, afill, Nat.reduceLeDiff, Nat.reduceMul, Nat.reduceLT, afillE, List.replicate]
    · have hlt : k < ws.length := by simpa using hb
      have w1 := w_succ (k := k) (by omega)
      simp only [walkS, wl, rgets, retv, argsEnv, ev, cst, cst1, cstL, AEnv.get, AEnv.trim, envput, qstep, abin, aun, evs, evo, deref, qload, target, if_true, if_false, Nat.reduceEqDiff, reduceIte, Nat.reduceAdd, AV.cells, AV.isTuple, setMany, alen, aiaddr, afill, Nat.reduceLeDiff, Nat.reduceMul, Nat.reduceLT, afillE, List.replicate, sc_get hlt]
      refine call_pure (rInteger_ok ws[k] (hs _ (List.getElem_mem hlt))) (frzL_of' (d := 1) rfl) ?_
      cases hi : rintO ws[k] with
      | none =>
        unfold resAV
        simp only [walkS, wl, rgets, retv, argsEnv, ev, cst, cst1, cstL, AEnv.get, AEnv.trim, envput, qstep, abin, aun, evs, evo, deref, qload, target, if_true, if_false, Nat.reduceEqDiff, reduceIte, Nat.reduceAdd, AV.cells, AV.isTuple, setMany, alen, aiaddr, afill, Nat.reduceLeDiff, Nat.reduceMul, Nat.reduceLT, afillE, List.replicate]
        have : mapO rintO ws = none := mapO_bad (List.getElem_mem hlt) hi
        rw [this]; exact out_none
      | some n =>
        unfold resAV
        simp only [walkS, wl, rgets, retv, argsEnv, ev, cst, cst1, cstL, AEnv.get, AEnv.trim, envput, qstep, abin, aun, evs, evo, deref, qload, target, if_true, if_false, Nat.reduceEqDiff, reduceIte, Nat.reduceAdd, AV.cells, AV.isTuple, setMany, alen, aiaddr, afill, Nat.reduceLeDiff, Nat.reduceMul, Nat.reduceLT, afillE, List.replicate]
        have hll := mapO_len hml
        rw [List.length_take] at hll
        refine acc_append (lo := 0) (Nat.zero_le _) (hacc.push _) rfl rfl AHeap.obj_push_eq (by rw [ic_length]; omega) fun a' H4 x1 x2 x3 => ?_
        simp only [walkS, wl, rgets, retv, argsEnv, ev, cst, cst1, cstL, AEnv.get, AEnv.trim, envput, qstep, abin, aun, evs, evo, deref, qload, target, if_true, if_false, Nat.reduceEqDiff, reduceIte, Nat.reduceAdd, AV.cells, AV.isTuple, setMany, alen, aiaddr, afill, Nat.reduceLeDiff, Nat.reduceMul, Nat.reduceLT, afillE, List.replicate, w1]
        refine loop_end (k + 1, a', l ++ [n]) ⟨hlt, ?_⟩ (by simp only; omega) rfl ?_
        · simp only
          rw [List.take_succ_eq_append_getElem hlt, mapO_app, hml, hi]
        · simp only; rw [ic_snoc]; exact x2
    · have hk' : k = ws.length := by simp at hb; omega
      subst hk'
      rw [List.take_length] at hml
      rw [hml]
      exact out_two (hacc.out (ic_simple _)) out_bool
end Go.Proofs.YtgadlckkmhhmbaaGreatDoor
