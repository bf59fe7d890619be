/- Tables: how they are read, compared and opened. -/
import Derived.Test.YtepnijjgdhldeaaQD17
import Derived.Test.YtepnijjgdhldeaaQT5
namespace Go.Proofs.Ytepnijjgdhldeaa
open Go.Awp
set_option linter.unusedSimpArgs false
set_option linter.unusedVariables false
set_option maxRecDepth 10000
set_option maxHeartbeats 4000000
theorem at123 {n i j : Nat} {l : List Int} {b : Bool} (hn : n ≤ 1024) (hi : i ≤ 1024) (hj : j ≤ 1024) (h : i * n + j < l.length) : PCall Try.prog 123 [.agg [I n, .ro b (ic l)], I i, I j] (I l[i * n + j]) := by
  refine PCall.intro text123 (by simp) ?_
  unfold ir123
  have hm : i * n ≤ 1048576 := Nat.le_trans (Nat.mul_le_mul hi hn) (by decide)
  have e : (i : Int) * (n : Int) = ((i * n : Nat) : Int) := by simp
  simp only [walkS, wl, rgets, retv, argsEnv, ev, cst, cst1, cstL, AEnv.get, AEnv.trim, envput, qstep, abin, aun, evs, evo, deref, qload, target, if_true, if_false, Nat.reduceEqDiff, reduceIte, Nat.reduceAdd, AV.cells, AV.isTuple, setMany, alen, aiaddr, afill, Nat.reduceLeDiff, Nat.reduceMul, Nat.reduceLT, afillE, List.replicate]
  rw [e, wrap_id (x := ((i * n : Nat) : Int)) (by omega) (by omega), wrap_id (by omega) (by omega), show ((i * n : Nat) : Int) + (j : Int) = ((i * n + j : Nat) : Int) by omega]
  simp only [walkS, wl, rgets, retv, argsEnv, ev, cst, cst1, cstL, AEnv.get, AEnv.trim, envput, qstep, abin, aun, evs, evo, deref, qload, target, if_true, if_false, Nat.reduceEqDiff, reduceIte, Nat.reduceAdd, AV.cells, AV.isTuple, setMany, alen, aiaddr, afill, Nat.reduceLeDiff, Nat.reduceMul, Nat.reduceLT, afillE, List.replicate, ic_get h]
  exact out_int
theorem at124 {n i j : Nat} {l : List Bool} {b : Bool} (hn : n ≤ 1024) (hi : i ≤ 1024) (hj : j ≤ 1024) (h : i * n + j < l.length) : PCall Try.prog 124 [.agg [I n, .ro b (bc l)], I i, I j] (.bool l[i * n + j]) := by
  refine PCall.intro text124 (by simp) ?_
  unfold ir124
  have hm : i * n ≤ 1048576 := Nat.le_trans (Nat.mul_le_mul hi hn) (by decide)
  have e : (i : Int) * (n : Int) = ((i * n : Nat) : Int) := by simp
  simp only [walkS, wl, rgets, retv, argsEnv, ev, cst, cst1, cstL, AEnv.get, AEnv.trim, envput, qstep, abin, aun, evs, evo, deref, qload, target, if_true, if_false, Nat.reduceEqDiff, reduceIte, Nat.reduceAdd, AV.cells, AV.isTuple, setMany, alen, aiaddr, afill, Nat.reduceLeDiff, Nat.reduceMul, Nat.reduceLT, afillE, List.replicate]
  rw [e, wrap_id (x := ((i * n : Nat) : Int)) (by omega) (by omega), wrap_id (by omega) (by omega), show ((i * n : Nat) : Int) + (j : Int) = ((i * n + j : Nat) : Int) by omega]
  simp only [walkS, wl, rgets, retv, argsEnv, ev, cst, cst1, cstL, AEnv.get, AEnv.trim, envput, qstep, abin, aun, evs, evo, deref, qload, target, if_true, if_false, Nat.reduceEqDiff, reduceIte, Nat.reduceAdd, AV.cells, AV.isTuple, setMany, alen, aiaddr, afill, Nat.reduceLeDiff, Nat.reduceMul, Nat.reduceLT, afillE, List.replicate, bc_get h]
  exact out_bool
theorem get104 {n i j : Nat} {l : List Int} {m : List Bool} {b c : Bool} (hn : n ≤ 1024) (hi : i ≤ 1024) (hj : j ≤ 1024) (h : i * n + j < l.length) (h' : i * n + j < m.length) : PCall Try.prog 104 [.agg [I n, .ro b (ic l), I n, .ro c (bc m)], I i, I j] (.tuple [I l[i * n + j], .bool m[i * n + j]]) := by
  refine PCall.intro text104 (by simp) ?_
  unfold ir104
  simp only [walkS, wl, rgets, retv, argsEnv, ev, cst, cst1, cstL, AEnv.get, AEnv.trim, envput, qstep, abin, aun, evs, evo, deref, qload, target, if_true, if_false, Nat.reduceEqDiff, reduceIte, Nat.reduceAdd, AV.cells, AV.isTuple, setMany, alen, aiaddr, afill, Nat.reduceLeDiff, Nat.reduceMul, Nat.reduceLT, afillE, List.replicate]
  refine dcall_pure (at123 (b := false) hn hi hj h) (frzL_of (d := 4) (carL_cons (car_agg (carL_cons rfl (carL_cons car_icF rfl))) rfl)) ?_
  simp only [walkS, wl, rgets, retv, argsEnv, ev, cst, cst1, cstL, AEnv.get, AEnv.trim, envput, qstep, abin, aun, evs, evo, deref, qload, target, if_true, if_false, Nat.reduceEqDiff, reduceIte, Nat.reduceAdd, AV.cells, AV.isTuple, setMany, alen, aiaddr, afill, Nat.reduceLeDiff, Nat.reduceMul, Nat.reduceLT, afillE, List.replicate]
  refine call_pure (at124 (b := false) hn hi hj h') (frzL_of' (d := 4) (carL_cons (car_agg (carL_cons rfl (carL_cons (car_ro_false (bc_simple m)) rfl))) rfl)) ?_
  simp only [walkS, wl, rgets, retv, argsEnv, ev, cst, cst1, cstL, AEnv.get, AEnv.trim, envput, qstep, abin, aun, evs, evo, deref, qload, target, if_true, if_false, Nat.reduceEqDiff, reduceIte, Nat.reduceAdd, AV.cells, AV.isTuple, setMany, alen, aiaddr, afill, Nat.reduceLeDiff, Nat.reduceMul, Nat.reduceLT, afillE, List.replicate]
  exact out_two out_int out_bool
theorem sameLists_ok {l : List Int} {b c : Bool} (hl : l.length ≤ big) : PCall Try.prog 108 [.ro b (ic l), .ro c (ic l)] (.bool true) := by
  unfold big at hl
  refine PCall.intro text108 (by simp) ?_
  unfold ir108
  simp only [walkS, wl, rgets, retv, argsEnv, ev, cst, cst1, cstL, AEnv.get, AEnv.trim, envput, qstep, abin, aun, evs, evo, deref, qload, target, if_true, if_false, Nat.reduceEqDiff, reduceIte, Nat.reduceAdd, AV.cells, AV.isTuple, setMany, alen, aiaddr, afill, Nat.reduceLeDiff, Nat.reduceMul, Nat.reduceLT, afillE, List.replicate, ic_length, bne_self_eq_false]
  refine awp_loop (σ := Nat) (fun k => [(0, .ro b (ic l)), (1, .ro c (ic l)), (5, I k)]) (fun _ _ => True) (fun k => k ≤ l.length) (fun k => l.length - k) 0 (Nat.zero_le _) rfl trivial ?_
  rintro k H hk -
  simp only [walkS, wl, rgets, retv, argsEnv, ev, cst, cst1, cstL, AEnv.get, AEnv.trim, envput, qstep, abin, aun, evs, evo, deref, qload, target, if_true, if_false, Nat.reduceEqDiff, reduceIte, Nat.reduceAdd, AV.cells, AV.isTuple, setMany, alen, aiaddr, afill, Nat.reduceLeDiff, Nat.reduceMul, Nat.reduceLT, afillE, List.replicate, ic_length]
  refine withBool_intro ?_ ?_ <;> intro hb <;> simp only [walkS, wl, rgets, retv, argsEnv, ev, cst, cst1, cstL, AEnv.get, AEnv.trim, envput, qstep, abin, aun, evs, evo, deref, qload, target, if_true, if_false, Nat.reduceEqDiff, reduceIte, Nat.reduceAdd, AV.cells, AV.isTuple, setMany, alen, aiaddr, afill, Nat.reduceLeDiff, Nat.reduceMul, Nat.reduceLT, afillE, List.replicate]
  · have hlt : k < l.length := by simpa using hb
    simp only [walkS, wl, rgets, retv, argsEnv, ev, cst, cst1, cstL, AEnv.get, AEnv.trim, envput, qstep, abin, aun, evs, evo, deref, qload, target, if_true, if_false, Nat.reduceEqDiff, reduceIte, Nat.reduceAdd, AV.cells, AV.isTuple, setMany, alen, aiaddr, afill, Nat.reduceLeDiff, Nat.reduceMul, Nat.reduceLT, afillE, List.replicate, ic_get hlt, bne_self_eq_false]
    rw [wrap_id (by omega) (by omega)]
    exact loop_end (k + 1) hlt (by omega) rfl trivial
  · exact out_bool
theorem sameTables_ok {n : Int} {l : List Int} {m : List Bool} (hl : l.length ≤ big) (hm : m.length ≤ big) : PCall Try.prog 67 [.agg [I n, .ro false (ic l), .ro false (bc m)], .agg [I n, .ro false (ic l), .ro false (bc m)]] (.bool true) := by
  have hm' := hm
  unfold big at hm'
  refine PCall.intro text67 (by simp) ?_
  unfold ir67
  simp only [walkS, wl, rgets, retv, argsEnv, ev, cst, cst1, cstL, AEnv.get, AEnv.trim, envput, qstep, abin, aun, evs, evo, deref, qload, target, if_true, if_false, Nat.reduceEqDiff, reduceIte, Nat.reduceAdd, AV.cells, AV.isTuple, setMany, alen, aiaddr, afill, Nat.reduceLeDiff, Nat.reduceMul, Nat.reduceLT, afillE, List.replicate, bne_self_eq_false]
  refine call_pure (sameLists_ok (b := false) (c := false) hl) (frzL_of' (d := 4) (carL_cons car_icF (carL_cons car_icF rfl))) ?_
  simp only [walkS, wl, rgets, retv, argsEnv, ev, cst, cst1, cstL, AEnv.get, AEnv.trim, envput, qstep, abin, aun, evs, evo, deref, qload, target, if_true, if_false, Nat.reduceEqDiff, reduceIte, Nat.reduceAdd, AV.cells, AV.isTuple, setMany, alen, aiaddr, afill, Nat.reduceLeDiff, Nat.reduceMul, Nat.reduceLT, afillE, List.replicate, bc_length, bne_self_eq_false]
  refine awp_loop (σ := Nat) (fun k => [(2, .ptr 0 1 0 0), (3, .ptr 1 1 0 0), (5, I k)]) (fun _ H => ∃ X, H = some ⟨73, 3, [[I n, .ro false (ic l), .ro false (bc m)]]⟩ :: some ⟨73, 3, [[I n, .ro false (ic l), .ro false (bc m)]]⟩ :: X) (fun k => k ≤ m.length) (fun k => m.length - k) 0 (Nat.zero_le _) rfl ⟨_, rfl⟩ ?_
  rintro k H hk ⟨X, rfl⟩
  simp only [walkS, wl, rgets, retv, argsEnv, ev, cst, cst1, cstL, AEnv.get, AEnv.trim, envput, qstep, abin, aun, evs, evo, deref, qload, target, if_true, if_false, Nat.reduceEqDiff, reduceIte, Nat.reduceAdd, AV.cells, AV.isTuple, setMany, alen, aiaddr, afill, Nat.reduceLeDiff, Nat.reduceMul, Nat.reduceLT, afillE, List.replicate, bc_length]
  refine withBool_intro ?_ ?_ <;> intro hb <;> simp only [walkS, wl, rgets, retv, argsEnv, ev, cst, cst1, cstL, AEnv.get, AEnv.trim, envput, qstep, abin, aun, evs, evo, deref, qload, target, if_true, if_false, Nat.reduceEqDiff, reduceIte, Nat.reduceAdd, AV.cells, AV.isTuple, setMany, alen, aiaddr, afill, Nat.reduceLeDiff, Nat.reduceMul, Nat.reduceLT, afillE, List.replicate]
  · have hlt : k < m.length := by simpa using hb
    simp only [walkS, wl, rgets, retv, argsEnv, ev, cst, cst1, cstL, AEnv.get, AEnv.trim, envput, qstep, abin, aun, evs, evo, deref, qload, target, if_true, if_false, Nat.reduceEqDiff, reduceIte, Nat.reduceAdd, AV.cells, AV.isTuple, setMany, alen, aiaddr, afill, Nat.reduceLeDiff, Nat.reduceMul, Nat.reduceLT, afillE, List.replicate, bc_get hlt, bne_self_eq_false, beq_self_eq_true]
    rw [wrap_id (by omega) (by omega)]
    exact loop_end (k + 1) hlt (by omega) rfl ⟨_, rfl⟩
  · exact out_bool
theorem bc_sim (xs : List Bool) : ∀ el, el ∈ bc xs → el.length = 1 ∧ ∀ x, x ∈ el → x.simple = true := by
  intro el hel
  refine ⟨?_, bc_simple xs el hel⟩
  obtain ⟨d, _, rfl⟩ := List.mem_map.1 hel
  rfl
theorem bc_all (xs : List Bool) : ((bc xs).all fun e => e.length == 1) = true := by
  rw [List.all_eq_true]; intro el hel; simp [(bc_sim xs el hel).1]
theorem clone122_new {b : Bool} {xs : List Bool} (h0 : xs ≠ []) (hl : xs.length ≤ 1099511627776) : NCall Try.prog 122 [.ro b (bc xs)] 4 1 (bc xs) := by
  refine NCall.intro text122 (by simp) (bc_sim xs) ?_
  have hp : 0 < xs.length := List.length_pos_iff.2 h0
  unfold ir122
  simp only [walkS, wl, rgets, retv, argsEnv, ev, cst, cst1, cstL, AEnv.get, AEnv.trim, envput, qstep, abin, aun, evs, evo, deref, qload, target, if_true, if_false, Nat.reduceEqDiff, reduceIte, Nat.reduceAdd, AV.cells, AV.isTuple, setMany, alen, aiaddr, afill, Nat.reduceLeDiff, Nat.reduceMul, Nat.reduceLT, afillE, List.replicate, sstep, asrc]
  refine acall_isnil rfl rfl (fun _ => ?_) fun h => absurd h (by simpa [bc_length] using h0)
  simp only [walkS, wl, rgets, retv, argsEnv, ev, cst, cst1, cstL, AEnv.get, AEnv.trim, envput, qstep, abin, aun, evs, evo, deref, qload, target, if_true, if_false, Nat.reduceEqDiff, reduceIte, Nat.reduceAdd, AV.cells, AV.isTuple, setMany, alen, aiaddr, afill, Nat.reduceLeDiff, Nat.reduceMul, Nat.reduceLT, afillE, List.replicate, sstep, asrc, bc_all, bc_length, if_neg (show ¬ xs.length = 0 by omega), if_pos (show xs.length ≤ 140737488355328 ∧ xs.length * 1 ≤ 140737488355328 by omega)]
  have := @nout_push [] 4 1 (bc xs)
  rwa [bc_length] at this
theorem opened_at {n : Int} {l : List Int} {m : List Bool} {b c : Bool} {H0 : AHeap} (hl0 : l ≠ []) (hm0 : m ≠ []) (hl : l.length ≤ 1048576) (hm : m.length ≤ 1048576) : ACall Try.prog 103 [.agg [I n, .ro b (ic l), .ro c (bc m)]] H0 fun x H =>
    Kept H0 H ∧ ∃ h1 h2, H0.length ≤ h1 ∧ h1 < h2 ∧ x = .agg [I n, .own h1 l.length 0 l.length, I n, .own h2 m.length 0 m.length] ∧ AHeap.obj H h1 = some ⟨3, 1, ic l⟩ ∧ AHeap.obj H h2 = some ⟨4, 1, bc m⟩ := by
  refine ACall.intro text103 (by simp) ?_
  unfold ir103
  simp only [walkS, wl, rgets, retv, argsEnv, ev, cst, cst1, cstL, AEnv.get, AEnv.trim, envput, qstep, abin, aun, evs, evo, deref, qload, target, if_true, if_false, Nat.reduceEqDiff, reduceIte, Nat.reduceAdd, AV.cells, AV.isTuple, setMany, alen, aiaddr, afill, Nat.reduceLeDiff, Nat.reduceMul, Nat.reduceLT, afillE, List.replicate]
  refine dcall_new (clone91_new (b := false) hl0 (by omega)) (frzL_of (d := 4) (carL_cons car_icF rfl)) ?_
  simp only [walkS, wl, rgets, retv, argsEnv, ev, cst, cst1, cstL, AEnv.get, AEnv.trim, envput, qstep, abin, aun, evs, evo, deref, qload, target, if_true, if_false, Nat.reduceEqDiff, reduceIte, Nat.reduceAdd, AV.cells, AV.isTuple, setMany, alen, aiaddr, afill, Nat.reduceLeDiff, Nat.reduceMul, Nat.reduceLT, afillE, List.replicate, ic_length]
  refine dcall_new (clone122_new (b := false) hm0 (by omega)) (frzL_of (d := 4) (carL_cons (car_ro_false (bc_simple m)) rfl)) ?_
  simp only [walkS, wl, rgets, retv, argsEnv, ev, cst, cst1, cstL, AEnv.get, AEnv.trim, envput, qstep, abin, aun, evs, evo, deref, qload, target, if_true, if_false, Nat.reduceEqDiff, reduceIte, Nat.reduceAdd, AV.cells, AV.isTuple, setMany, alen, aiaddr, afill, Nat.reduceLeDiff, Nat.reduceMul, Nat.reduceLT, afillE, List.replicate, ic_length, bc_length]
  refine storeR rfl rfl (by rw [obj_app_add]; rfl) rfl ⟨rfl, rfl, rfl, by simp⟩ fun H1 y1 y2 y3 => ?_
  simp only [AV.cells, setMany, List.set_cons_zero, List.set_cons_succ, Nat.zero_add, Nat.reduceAdd] at y2
  simp only [walkS, wl, rgets, retv, argsEnv, ev, cst, cst1, cstL, AEnv.get, AEnv.trim, envput, qstep, abin, aun, evs, evo, deref, qload, target, if_true, if_false, Nat.reduceEqDiff, reduceIte, Nat.reduceAdd, AV.cells, AV.isTuple, setMany, alen, aiaddr, afill, Nat.reduceLeDiff, Nat.reduceMul, Nat.reduceLT, afillE, List.replicate, y2]
  refine ⟨⟨by rw [y1]; simp, fun i hi => by rw [y3 i (by omega), AHeap.obj_push_lt hi]⟩, H0.length + 2, H0.length + 3, by omega, by omega, rfl, ?_, ?_⟩
  · rw [y3 _ (by omega), obj_app_add]; rfl
  · rw [y3 _ (by omega), obj_app_add]; rfl
end Go.Proofs.Ytepnijjgdhldeaa
