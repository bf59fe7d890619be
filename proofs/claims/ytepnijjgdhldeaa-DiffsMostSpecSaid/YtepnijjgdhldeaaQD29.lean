/- Contracts: Weights, Cost, used of the specification. -/
import Derived.Test.YtepnijjgdhldeaaQT46
import Derived.Test.YtepnijjgdhldeaaQV4
namespace Go.Proofs.Ytepnijjgdhldeaa
open Go.Awp
set_option linter.unusedSimpArgs false
set_option linter.unusedVariables false
set_option linter.unusedSectionVars false
set_option maxRecDepth 10000
set_option maxHeartbeats 8000000
theorem Weights_ok {n : Int} {ds : List Df} {ws : List Int} (hl : ws.length ≤ big) : PCall Try.prog 93 [.agg [I n, .ro false (rows ds)], .ro false (ic ws)] (.bool (weightyB n ws)) := by
  unfold big at hl
  refine PCall.intro text93 (by simp) ?_
  unfold ir93
  simp only [walkS, wl, rgets, retv, argsEnv, ev, cst, cst1, cstL, AEnv.get, AEnv.trim, envput, qstep, abin, aun, evs, evo, deref, qload, target, if_true, if_false, Nat.reduceEqDiff, reduceIte, Nat.reduceAdd, AV.cells, AV.isTuple, setMany, alen, aiaddr, afill, Nat.reduceLeDiff, Nat.reduceMul, Nat.reduceLT, afillE, List.replicate, ic_length]
  by_cases hn : (ws.length : Int) = n
  · have e1 : ((ws.length : Int) != n) = false := by simp [hn]
    simp only [walkS, wl, rgets, retv, argsEnv, ev, cst, cst1, cstL, AEnv.get, AEnv.trim, envput, qstep, abin, aun, evs, evo, deref, qload, target, if_true, if_false, Nat.reduceEqDiff, reduceIte, Nat.reduceAdd, AV.cells, AV.isTuple, setMany, alen, aiaddr, afill, Nat.reduceLeDiff, Nat.reduceMul, Nat.reduceLT, afillE, List.replicate, e1]
    refine awp_loop (σ := Nat) (fun k => [(1, .ro false (ic ws)), (5, I k)]) (fun _ _ => True) (fun k => k ≤ ws.length ∧ (ws.take k).any wfar = false) (fun k => ws.length - k) 0 ⟨Nat.zero_le _, by simp⟩ rfl trivial ?_
    rintro k H ⟨hk, hc⟩ -
    simp only [walkS, wl, rgets, retv, argsEnv, ev, cst, cst1, cstL, AEnv.get, AEnv.trim, envput, qstep, abin, aun, evs, evo, deref, qload, target, if_true, if_false, Nat.reduceEqDiff, reduceIte, Nat.reduceAdd, AV.cells, AV.isTuple, setMany, alen, aiaddr, afill, Nat.reduceLeDiff, Nat.reduceMul, Nat.reduceLT, afillE, List.replicate, ic_length]
    refine withBool_intro ?_ ?_ <;> intro hb <;> simp only [walkS, wl, rgets, retv, argsEnv, ev, cst, cst1, cstL, AEnv.get, AEnv.trim, envput, qstep, abin, aun, evs, evo, deref, qload, target, if_true, if_false, Nat.reduceEqDiff, reduceIte, Nat.reduceAdd, AV.cells, AV.isTuple, setMany, alen, aiaddr, afill, Nat.reduceLeDiff, Nat.reduceMul, Nat.reduceLT, afillE, List.replicate, ic_length]
    · have hlt : k < ws.length := by simpa using hb
      have hw1 : IntKind.i64.wrap ((k : Int) + 1) = ((k + 1 : Nat) : Int) := by rw [wrap_id (by omega) (by omega)]; simp
      have far : wfar ws[k] = true → weightyB n ws = false := fun h => by
        have : ws.any wfar = true := List.any_eq_true.2 ⟨ws[k], List.getElem_mem hlt, h⟩
        simp [weightyB, this]
      simp only [walkS, wl, rgets, retv, argsEnv, ev, cst, cst1, cstL, AEnv.get, AEnv.trim, envput, qstep, abin, aun, evs, evo, deref, qload, target, if_true, if_false, Nat.reduceEqDiff, reduceIte, Nat.reduceAdd, AV.cells, AV.isTuple, setMany, alen, aiaddr, afill, Nat.reduceLeDiff, Nat.reduceMul, Nat.reduceLT, afillE, List.replicate, ic_get hlt, ic_length, if_pos (show (k : Int) < ws.length by omega)]
      refine withGuard_intro ?_ ?_ <;> intro h1 <;> simp only [walkS, wl, rgets, retv, argsEnv, ev, cst, cst1, cstL, AEnv.get, AEnv.trim, envput, qstep, abin, aun, evs, evo, deref, qload, target, if_true, if_false, Nat.reduceEqDiff, reduceIte, Nat.reduceAdd, AV.cells, AV.isTuple, setMany, alen, aiaddr, afill, Nat.reduceLeDiff, Nat.reduceMul, Nat.reduceLT, afillE, List.replicate, ic_get hlt, ic_length, if_pos (show (k : Int) < ws.length by omega), h1]
      · refine withBool_intro ?_ ?_ <;> intro h2 <;> simp only [walkS, wl, rgets, retv, argsEnv, ev, cst, cst1, cstL, AEnv.get, AEnv.trim, envput, qstep, abin, aun, evs, evo, deref, qload, target, if_true, if_false, Nat.reduceEqDiff, reduceIte, Nat.reduceAdd, AV.cells, AV.isTuple, setMany, alen, aiaddr, afill, Nat.reduceLeDiff, Nat.reduceMul, Nat.reduceLT, afillE, List.replicate, h2, hw1]
        · rw [far (by simp at h2; simp [wfar]; omega)]; exact out_bool
        · have : wfar ws[k] = false := by simp at h1 h2; simp [wfar]; omega
          refine loop_end (k + 1) ⟨hlt, ?_⟩ (by omega) rfl trivial
          rw [List.take_succ_eq_append_getElem hlt, List.any_append, hc]
          simp [this]
      · rw [far (by simp at h1; simp [wfar]; omega)]; exact out_bool
    · have hk' : k = ws.length := by simp at hb; omega
      subst hk'
      rw [List.take_length] at hc
      have e : weightyB n ws = true := by simp [weightyB, hn, hc]
      rw [e]; exact out_bool
  · have e1 : ((ws.length : Int) != n) = true := by simp [hn]
    simp only [walkS, wl, rgets, retv, argsEnv, ev, cst, cst1, cstL, AEnv.get, AEnv.trim, envput, qstep, abin, aun, evs, evo, deref, qload, target, if_true, if_false, Nat.reduceEqDiff, reduceIte, Nat.reduceAdd, AV.cells, AV.isTuple, setMany, alen, aiaddr, afill, Nat.reduceLeDiff, Nat.reduceMul, Nat.reduceLT, afillE, List.replicate, e1]
    have e : weightyB n ws = false := by simp [weightyB, hn]
    rw [e]; exact out_bool
theorem Cost_ok {n : Int} {ds : List Df} {F : Nat → Int} {b : Bool} (hl : ds.length ≤ 4096) (hF : ∀ k, k < ds.length → 0 ≤ F k ∧ F k ≤ 1048576) (hw : ∀ d, d ∈ ds → -1073741824 ≤ d.2.2 ∧ d.2.2 ≤ 1073741824) : PCall Try.prog 94 [.agg [I n, .ro false (rows ds)], .ro b (ic (li ds.length F))] (I (costN ds F)) := by
  refine PCall.intro text94 (by simp) ?_
  unfold ir94
  simp only [walkS, wl, rgets, retv, argsEnv, ev, cst, cst1, cstL, AEnv.get, AEnv.trim, envput, qstep, abin, aun, evs, evo, deref, qload, target, if_true, if_false, Nat.reduceEqDiff, reduceIte, Nat.reduceAdd, AV.cells, AV.isTuple, setMany, alen, aiaddr, afill, Nat.reduceLeDiff, Nat.reduceMul, Nat.reduceLT, afillE, List.replicate, rows_length]
  refine awp_loop (σ := Nat) (fun k => [(1, .ro b (ic (li ds.length F))), (2, .ptr 0 1 0 0), (5, I (costc ds F k)), (6, I k)]) (fun _ H => AHeap.obj H 0 = some ⟨24, 2, [[I n, .ro false (rows ds)]]⟩) (fun k => k ≤ ds.length) (fun k => ds.length - k) 0 (Nat.zero_le _) rfl rfl ?_
  rintro k H hk o0
  simp only [walkS, wl, rgets, retv, argsEnv, ev, cst, cst1, cstL, AEnv.get, AEnv.trim, envput, qstep, abin, aun, evs, evo, deref, qload, target, if_true, if_false, Nat.reduceEqDiff, reduceIte, Nat.reduceAdd, AV.cells, AV.isTuple, setMany, alen, aiaddr, afill, Nat.reduceLeDiff, Nat.reduceMul, Nat.reduceLT, afillE, List.replicate, ic_length, li_length]
  refine withBool_intro ?_ ?_ <;> intro hb <;> simp only [walkS, wl, rgets, retv, argsEnv, ev, cst, cst1, cstL, AEnv.get, AEnv.trim, envput, qstep, abin, aun, evs, evo, deref, qload, target, if_true, if_false, Nat.reduceEqDiff, reduceIte, Nat.reduceAdd, AV.cells, AV.isTuple, setMany, alen, aiaddr, afill, Nat.reduceLeDiff, Nat.reduceMul, Nat.reduceLT, afillE, List.replicate, o0, rows_length]
  · have hlt : k < ds.length := by simpa using hb
    have h1 := costc_bound hF hw k hk
    have h1' := costc_bound hF hw (k + 1) hlt
    have h2 := hF k hlt
    have h3 := hw _ (ed_mem hlt)
    have h4 := mul_bound h2.1 h2.2 h3.1 h3.2
    have hw1 : IntKind.i64.wrap ((k : Int) + 1) = ((k + 1 : Nat) : Int) := by rw [wrap_id (by omega) (by omega)]; simp
    have hw2 : IntKind.i64.wrap (F k * (ed ds k).2.2) = F k * (ed ds k).2.2 := wrap_id (by omega) (by omega)
    have e : costc ds F (k + 1) = costc ds F k + F k * (ed ds k).2.2 := rfl
    have hw3 : IntKind.i64.wrap (costc ds F k + F k * (ed ds k).2.2) = costc ds F (k + 1) := by rw [← e]; exact wrap_id (by omega) (by omega)
    simp only [walkS, wl, rgets, retv, argsEnv, ev, cst, cst1, cstL, AEnv.get, AEnv.trim, envput, qstep, abin, aun, evs, evo, deref, qload, target, if_true, if_false, Nat.reduceEqDiff, reduceIte, Nat.reduceAdd, AV.cells, AV.isTuple, setMany, alen, aiaddr, afill, Nat.reduceLeDiff, Nat.reduceMul, Nat.reduceLT, afillE, List.replicate, o0, rows_get hlt, rows_length, li_get hlt, ic_length, li_length, if_pos (show (k : Int) < ds.length by omega), ed_get hlt, hw2, hw3, hw1]
    exact loop_end (k + 1) hlt (by omega) rfl o0
  · have hk' : k = ds.length := by simp at hb; omega
    subst hk'
    exact out_int
theorem used_ok {K : Nat} {F : Nat → Int} {b : Bool} (hl : K ≤ 4096) : PCall Try.prog 115 [.ro b (ic (li K F))] (.ro true (ic (usedL F K))) := by
  refine PCall.intro text115 (by simp) ?_
  unfold ir115
  simp only [walkS, wl, rgets, retv, argsEnv, ev, cst, cst1, cstL, AEnv.get, AEnv.trim, envput, qstep, abin, aun, evs, evo, deref, qload, target, if_true, if_false, Nat.reduceEqDiff, reduceIte, Nat.reduceAdd, AV.cells, AV.isTuple, setMany, alen, aiaddr, afill, Nat.reduceLeDiff, Nat.reduceMul, Nat.reduceLT, afillE, List.replicate]
  refine awp_loop (σ := Nat × AV) (fun s => [(0, .ro b (ic (li K F))), (3, s.2), (4, I s.1)]) (fun s H => Acc 0 H s.2 3 1 (ic (usedL F s.1))) (fun s => s.1 ≤ K) (fun s => K - s.1) (0, .nilSlice) (Nat.zero_le _) rfl (.inl ⟨rfl, rfl⟩) ?_
  rintro ⟨k, a⟩ H hk hacc
  simp only at hk hacc
  simp only [walkS, wl, rgets, retv, argsEnv, ev, cst, cst1, cstL, AEnv.get, AEnv.trim, envput, qstep, abin, aun, evs, evo, deref, qload, target, if_true, if_false, Nat.reduceEqDiff, reduceIte, Nat.reduceAdd, AV.cells, AV.isTuple, setMany, alen, aiaddr, afill, Nat.reduceLeDiff, Nat.reduceMul, Nat.reduceLT, afillE, List.replicate, ic_length, li_length]
  refine withBool_intro ?_ ?_ <;> intro hb <;> simp only [walkS, wl, rgets, retv, argsEnv, ev, cst, cst1, cstL, AEnv.get, AEnv.trim, envput, qstep, abin, aun, evs, evo, deref, qload, target, if_true, if_false, Nat.reduceEqDiff, reduceIte, Nat.reduceAdd, AV.cells, AV.isTuple, setMany, alen, aiaddr, afill, Nat.reduceLeDiff, Nat.reduceMul, Nat.reduceLT, afillE, List.replicate, ic_length, li_length]
  · have hlt : k < K := by simpa using hb
    have hw1 : IntKind.i64.wrap ((k : Int) + 1) = ((k + 1 : Nat) : Int) := by rw [wrap_id (by omega) (by omega)]; simp
    simp only [walkS, wl, rgets, retv, argsEnv, ev, cst, cst1, cstL, AEnv.get, AEnv.trim, envput, qstep, abin, aun, evs, evo, deref, qload, target, if_true, if_false, Nat.reduceEqDiff, reduceIte, Nat.reduceAdd, AV.cells, AV.isTuple, setMany, alen, aiaddr, afill, Nat.reduceLeDiff, Nat.reduceMul, Nat.reduceLT, afillE, List.replicate, li_get hlt, ic_length, li_length, if_pos (show (k : Int) < K by omega)]
    refine withBool_intro ?_ ?_ <;> intro h1 <;> simp only [walkS, wl, rgets, retv, argsEnv, ev, cst, cst1, cstL, AEnv.get, AEnv.trim, envput, qstep, abin, aun, evs, evo, deref, qload, target, if_true, if_false, Nat.reduceEqDiff, reduceIte, Nat.reduceAdd, AV.cells, AV.isTuple, setMany, alen, aiaddr, afill, Nat.reduceLeDiff, Nat.reduceMul, Nat.reduceLT, afillE, List.replicate]
    · have hp : 0 < F k := by simpa using h1
      refine acc_append (lo := 0) (by simp) (hacc.push _) rfl rfl AHeap.obj_push_eq (by have := usedL_length (F := F) k; simp only [ic_length]; omega) fun a' H' hl' hacc' hkeep => ?_
      simp only [walkS, wl, rgets, retv, argsEnv, ev, cst, cst1, cstL, AEnv.get, AEnv.trim, envput, qstep, abin, aun, evs, evo, deref, qload, target, if_true, if_false, Nat.reduceEqDiff, reduceIte, Nat.reduceAdd, AV.cells, AV.isTuple, setMany, alen, aiaddr, afill, Nat.reduceLeDiff, Nat.reduceMul, Nat.reduceLT, afillE, List.replicate, hw1]
      refine loop_end (k + 1, a') hlt (by simp only; omega) rfl ?_
      simp only [usedL_t hp, ic_snoc]; exact hacc'
    · have hp : ¬ 0 < F k := by simpa using h1
      simp only [walkS, wl, rgets, retv, argsEnv, ev, cst, cst1, cstL, AEnv.get, AEnv.trim, envput, qstep, abin, aun, evs, evo, deref, qload, target, if_true, if_false, Nat.reduceEqDiff, reduceIte, Nat.reduceAdd, AV.cells, AV.isTuple, setMany, alen, aiaddr, afill, Nat.reduceLeDiff, Nat.reduceMul, Nat.reduceLT, afillE, List.replicate, hw1]
      refine loop_end (k + 1, a) hlt (by simp only; omega) rfl ?_
      simp only [usedL_f hp]; exact hacc
  · have hk' : k = K := by simp at hb; omega
    subst hk'
    exact hacc.out (ic_simple _)
end Go.Proofs.Ytepnijjgdhldeaa
