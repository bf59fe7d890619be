/- A text of the proof of a law about the given program: contracts of its functions, as walked. -/
import Derived.Test.YtepnijjgdhldeaaC3
namespace Go.Proofs.Ytepnijjgdhldeaa
open Go.Awp
set_option linter.unusedSimpArgs false
set_option linter.unusedVariables false
set_option maxRecDepth 10000
def ic (xs : List Int) : List (List AV) := xs.map fun x => [I x]
theorem ic_simple (xs : List Int) : Simple (ic xs) := by
  intro el hel x hx
  obtain ⟨d, _, rfl⟩ := List.mem_map.1 hel
  simp at hx
  subst hx; rfl
theorem ic_length (xs : List Int) : (ic xs).length = xs.length := List.length_map ..
theorem ic_get {xs : List Int} {k : Nat} (h : k < xs.length) : (ic xs)[k]? = some [I xs[k]] := by simp [ic, h]
theorem out_nilSlice {H : AHeap} : Out H .nilSlice .nilSlice := out_of (d := 1) rfl
theorem nout_push {H : AHeap} {e s : Nat} {els : List (List AV)} : NOut (H ++ [some ⟨e, s, els⟩]) (.own H.length els.length 0 els.length) e s els := ⟨_, rfl, AHeap.obj_push_eq⟩
theorem rows_sim (ds : List Df) : ∀ el, el ∈ rows ds → el.length = 3 ∧ ∀ x, x ∈ el → x.simple = true := by
  intro el hel
  refine ⟨?_, rows_simple ds el hel⟩
  obtain ⟨d, _, rfl⟩ := List.mem_map.1 hel
  rfl
theorem ic_sim (xs : List Int) : ∀ el, el ∈ ic xs → el.length = 1 ∧ ∀ x, x ∈ el → x.simple = true := by
  intro el hel
  refine ⟨?_, ic_simple xs el hel⟩
  obtain ⟨d, _, rfl⟩ := List.mem_map.1 hel
  rfl
theorem rows_all (ds : List Df) : ((rows ds).all fun e => e.length == 3) = true := by
  rw [List.all_eq_true]; intro el hel; simp [(rows_sim ds el hel).1]
theorem ic_all (xs : List Int) : ((ic xs).all fun e => e.length == 1) = true := by
  rw [List.all_eq_true]; intro el hel; simp [(ic_sim xs el hel).1]

theorem clone57_nil {b : Bool} : PCall Try.prog 57 [.ro b []] .nilSlice := by
  refine PCall.intro text57 (by simp) ?_
  unfold ir57
  simp only [walk, rgets, retv, argsEnv, ev, cst, cst1, cstL, AEnv.get, AEnv.trim, envput, qstep, abin, aun, evs, evo, deref, qload, target, if_true, if_false, Nat.reduceEqDiff, reduceIte, Nat.reduceAdd, Bool.not_true, Bool.not_false, true_and, and_true, List.nil_append, List.cons_append, List.drop_zero, List.drop_succ_cons, List.drop_nil, List.take_succ_cons, List.take_zero, List.take_nil, List.getElem?_cons_zero, List.getElem?_cons_succ, List.getElem?_nil, List.length_cons, List.length_nil, Bool.false_eq_true, List.set_cons_zero, List.set_cons_succ, AV.cells, AV.isTuple, setMany, alen, aiaddr, afill, Nat.reduceLeDiff, Nat.reduceMul, Nat.zero_add, Option.getD_some, Option.getD_none, Int.toNat_natCast, Int.natCast_nonneg, List.append_assoc, List.length_append, and_self, Nat.reduceLT, afillE, List.replicate, sstep, asrc]
  refine acall_isnil rfl rfl (fun h => absurd h (by decide)) fun _ c => ?_
  simp only [walk, rgets, retv, argsEnv, ev, cst, cst1, cstL, AEnv.get, AEnv.trim, envput, qstep, abin, aun, evs, evo, deref, qload, target, if_true, if_false, Nat.reduceEqDiff, reduceIte, Nat.reduceAdd, Bool.not_true, Bool.not_false, true_and, and_true, List.nil_append, List.cons_append, List.drop_zero, List.drop_succ_cons, List.drop_nil, List.take_succ_cons, List.take_zero, List.take_nil, List.getElem?_cons_zero, List.getElem?_cons_succ, List.getElem?_nil, List.length_cons, List.length_nil, Bool.false_eq_true, List.set_cons_zero, List.set_cons_succ, AV.cells, AV.isTuple, setMany, alen, aiaddr, afill, Nat.reduceLeDiff, Nat.reduceMul, Nat.zero_add, Option.getD_some, Option.getD_none, Int.toNat_natCast, Int.natCast_nonneg, List.append_assoc, List.length_append, and_self, Nat.reduceLT, afillE, List.replicate, sstep, asrc]
  refine withBool_intro ?_ ?_ <;> intro h <;> simp only [walk, rgets, retv, argsEnv, ev, cst, cst1, cstL, AEnv.get, AEnv.trim, envput, qstep, abin, aun, evs, evo, deref, qload, target, if_true, if_false, Nat.reduceEqDiff, reduceIte, Nat.reduceAdd, Bool.not_true, Bool.not_false, true_and, and_true, List.nil_append, List.cons_append, List.drop_zero, List.drop_succ_cons, List.drop_nil, List.take_succ_cons, List.take_zero, List.take_nil, List.getElem?_cons_zero, List.getElem?_cons_succ, List.getElem?_nil, List.length_cons, List.length_nil, Bool.false_eq_true, List.set_cons_zero, List.set_cons_succ, AV.cells, AV.isTuple, setMany, alen, aiaddr, afill, Nat.reduceLeDiff, Nat.reduceMul, Nat.zero_add, Option.getD_some, Option.getD_none, Int.toNat_natCast, Int.natCast_nonneg, List.append_assoc, List.length_append, and_self, Nat.reduceLT, afillE, List.replicate, sstep, asrc]
  · exact out_nilSlice
  · simp; exact out_nilSlice
theorem clone91_nil {b : Bool} : PCall Try.prog 91 [.ro b []] .nilSlice := by
  refine PCall.intro text91 (by simp) ?_
  unfold ir91
  simp only [walk, rgets, retv, argsEnv, ev, cst, cst1, cstL, AEnv.get, AEnv.trim, envput, qstep, abin, aun, evs, evo, deref, qload, target, if_true, if_false, Nat.reduceEqDiff, reduceIte, Nat.reduceAdd, Bool.not_true, Bool.not_false, true_and, and_true, List.nil_append, List.cons_append, List.drop_zero, List.drop_succ_cons, List.drop_nil, List.take_succ_cons, List.take_zero, List.take_nil, List.getElem?_cons_zero, List.getElem?_cons_succ, List.getElem?_nil, List.length_cons, List.length_nil, Bool.false_eq_true, List.set_cons_zero, List.set_cons_succ, AV.cells, AV.isTuple, setMany, alen, aiaddr, afill, Nat.reduceLeDiff, Nat.reduceMul, Nat.zero_add, Option.getD_some, Option.getD_none, Int.toNat_natCast, Int.natCast_nonneg, List.append_assoc, List.length_append, and_self, Nat.reduceLT, afillE, List.replicate, sstep, asrc]
  refine acall_isnil rfl rfl (fun h => absurd h (by decide)) fun _ c => ?_
  simp only [walk, rgets, retv, argsEnv, ev, cst, cst1, cstL, AEnv.get, AEnv.trim, envput, qstep, abin, aun, evs, evo, deref, qload, target, if_true, if_false, Nat.reduceEqDiff, reduceIte, Nat.reduceAdd, Bool.not_true, Bool.not_false, true_and, and_true, List.nil_append, List.cons_append, List.drop_zero, List.drop_succ_cons, List.drop_nil, List.take_succ_cons, List.take_zero, List.take_nil, List.getElem?_cons_zero, List.getElem?_cons_succ, List.getElem?_nil, List.length_cons, List.length_nil, Bool.false_eq_true, List.set_cons_zero, List.set_cons_succ, AV.cells, AV.isTuple, setMany, alen, aiaddr, afill, Nat.reduceLeDiff, Nat.reduceMul, Nat.zero_add, Option.getD_some, Option.getD_none, Int.toNat_natCast, Int.natCast_nonneg, List.append_assoc, List.length_append, and_self, Nat.reduceLT, afillE, List.replicate, sstep, asrc]
  refine withBool_intro ?_ ?_ <;> intro h <;> simp only [walk, rgets, retv, argsEnv, ev, cst, cst1, cstL, AEnv.get, AEnv.trim, envput, qstep, abin, aun, evs, evo, deref, qload, target, if_true, if_false, Nat.reduceEqDiff, reduceIte, Nat.reduceAdd, Bool.not_true, Bool.not_false, true_and, and_true, List.nil_append, List.cons_append, List.drop_zero, List.drop_succ_cons, List.drop_nil, List.take_succ_cons, List.take_zero, List.take_nil, List.getElem?_cons_zero, List.getElem?_cons_succ, List.getElem?_nil, List.length_cons, List.length_nil, Bool.false_eq_true, List.set_cons_zero, List.set_cons_succ, AV.cells, AV.isTuple, setMany, alen, aiaddr, afill, Nat.reduceLeDiff, Nat.reduceMul, Nat.zero_add, Option.getD_some, Option.getD_none, Int.toNat_natCast, Int.natCast_nonneg, List.append_assoc, List.length_append, and_self, Nat.reduceLT, afillE, List.replicate, sstep, asrc]
  · exact out_nilSlice
  · simp; exact out_nilSlice
theorem clone57_new {b : Bool} {ds : List Df} (h0 : ds ≠ []) (hl : ds.length ≤ 4096) : NCall Try.prog 57 [.ro b (rows ds)] 39 3 (rows ds) := by
  refine NCall.intro text57 (by simp) (rows_sim ds) ?_
  have hp : 0 < ds.length := List.length_pos_iff.2 h0
  unfold ir57
  simp only [walk, rgets, retv, argsEnv, ev, cst, cst1, cstL, AEnv.get, AEnv.trim, envput, qstep, abin, aun, evs, evo, deref, qload, target, if_true, if_false, Nat.reduceEqDiff, reduceIte, Nat.reduceAdd, Bool.not_true, Bool.not_false, true_and, and_true, List.nil_append, List.cons_append, List.drop_zero, List.drop_succ_cons, List.drop_nil, List.take_succ_cons, List.take_zero, List.take_nil, List.getElem?_cons_zero, List.getElem?_cons_succ, List.getElem?_nil, List.length_cons, List.length_nil, Bool.false_eq_true, List.set_cons_zero, List.set_cons_succ, AV.cells, AV.isTuple, setMany, alen, aiaddr, afill, Nat.reduceLeDiff, Nat.reduceMul, Nat.zero_add, Option.getD_some, Option.getD_none, Int.toNat_natCast, Int.natCast_nonneg, List.append_assoc, List.length_append, and_self, Nat.reduceLT, afillE, List.replicate, sstep, asrc]
  refine acall_isnil rfl rfl (fun _ => ?_) fun h => absurd h (by simpa [rows_length] using h0)
  simp only [walk, rgets, retv, argsEnv, ev, cst, cst1, cstL, AEnv.get, AEnv.trim, envput, qstep, abin, aun, evs, evo, deref, qload, target, if_true, if_false, Nat.reduceEqDiff, reduceIte, Nat.reduceAdd, Bool.not_true, Bool.not_false, true_and, and_true, List.nil_append, List.cons_append, List.drop_zero, List.drop_succ_cons, List.drop_nil, List.take_succ_cons, List.take_zero, List.take_nil, List.getElem?_cons_zero, List.getElem?_cons_succ, List.getElem?_nil, List.length_cons, List.length_nil, Bool.false_eq_true, List.set_cons_zero, List.set_cons_succ, AV.cells, AV.isTuple, setMany, alen, aiaddr, afill, Nat.reduceLeDiff, Nat.reduceMul, Nat.zero_add, Option.getD_some, Option.getD_none, Int.toNat_natCast, Int.natCast_nonneg, List.append_assoc, List.length_append, and_self, Nat.reduceLT, afillE, List.replicate, sstep, asrc, rows_all, rows_length, if_neg (show ¬ ds.length = 0 by omega), if_pos (show ds.length ≤ 140737488355328 ∧ ds.length * 24 ≤ 140737488355328 by omega)]
  have := @nout_push [] 39 3 (rows ds)
  rwa [rows_length] at this
theorem clone91_new {b : Bool} {xs : List Int} (h0 : xs ≠ []) (hl : xs.length ≤ 1099511627776) : NCall Try.prog 91 [.ro b (ic xs)] 3 1 (ic xs) := by
  refine NCall.intro text91 (by simp) (ic_sim xs) ?_
  have hp : 0 < xs.length := List.length_pos_iff.2 h0
  unfold ir91
  simp only [walk, rgets, retv, argsEnv, ev, cst, cst1, cstL, AEnv.get, AEnv.trim, envput, qstep, abin, aun, evs, evo, deref, qload, target, if_true, if_false, Nat.reduceEqDiff, reduceIte, Nat.reduceAdd, Bool.not_true, Bool.not_false, true_and, and_true, List.nil_append, List.cons_append, List.drop_zero, List.drop_succ_cons, List.drop_nil, List.take_succ_cons, List.take_zero, List.take_nil, List.getElem?_cons_zero, List.getElem?_cons_succ, List.getElem?_nil, List.length_cons, List.length_nil, Bool.false_eq_true, List.set_cons_zero, List.set_cons_succ, AV.cells, AV.isTuple, setMany, alen, aiaddr, afill, Nat.reduceLeDiff, Nat.reduceMul, Nat.zero_add, Option.getD_some, Option.getD_none, Int.toNat_natCast, Int.natCast_nonneg, List.append_assoc, List.length_append, and_self, Nat.reduceLT, afillE, List.replicate, sstep, asrc]
  refine acall_isnil rfl rfl (fun _ => ?_) fun h => absurd h (by simpa [ic_length] using h0)
  simp only [walk, rgets, retv, argsEnv, ev, cst, cst1, cstL, AEnv.get, AEnv.trim, envput, qstep, abin, aun, evs, evo, deref, qload, target, if_true, if_false, Nat.reduceEqDiff, reduceIte, Nat.reduceAdd, Bool.not_true, Bool.not_false, true_and, and_true, List.nil_append, List.cons_append, List.drop_zero, List.drop_succ_cons, List.drop_nil, List.take_succ_cons, List.take_zero, List.take_nil, List.getElem?_cons_zero, List.getElem?_cons_succ, List.getElem?_nil, List.length_cons, List.length_nil, Bool.false_eq_true, List.set_cons_zero, List.set_cons_succ, AV.cells, AV.isTuple, setMany, alen, aiaddr, afill, Nat.reduceLeDiff, Nat.reduceMul, Nat.zero_add, Option.getD_some, Option.getD_none, Int.toNat_natCast, Int.natCast_nonneg, List.append_assoc, List.length_append, and_self, Nat.reduceLT, afillE, List.replicate, sstep, asrc, ic_all, ic_length, if_neg (show ¬ xs.length = 0 by omega), if_pos (show xs.length ≤ 140737488355328 ∧ xs.length * 8 ≤ 140737488355328 by omega)]
  have := @nout_push [] 3 1 (ic xs)
  rwa [ic_length] at this
end Go.Proofs.Ytepnijjgdhldeaa
