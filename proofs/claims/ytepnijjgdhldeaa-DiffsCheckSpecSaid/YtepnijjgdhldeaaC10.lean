/- A text of the proof of a law about the given program: contracts of its functions, as walked. -/
import Derived.Test.YtepnijjgdhldeaaC9
namespace Go.Proofs.Ytepnijjgdhldeaa
open Go.Awp
set_option linter.unusedSimpArgs false
set_option linter.unusedVariables false
set_option maxRecDepth 10000
/-- Add, as both programs answer: the number of nodes, the differences, the error. -/
def added (n : Int) (ds : List Df) (d : Df) : Int × List Df × Int :=
  if valid n ds then (if ds.length = 4096 then (0, [], 2) else if right d n then (n, ds ++ [d], 0) else (0, [], 40)) else (0, [], 40)
theorem out_none {H : AHeap} {e : Int} : Out H (.tuple [.agg [I 0, .nilSlice], I e]) (.tuple [.agg [I 0, .ro true (rows [])], I e]) := out_two (out_agg2 out_int out_nil rfl rfl) out_int
theorem Add_ok (n : Int) (ds : List Df) (d : Df) : PCall Try.prog 58 [.agg [I n, .ro false (rows ds)], .agg (dc d)] (.tuple [.agg [I (added n ds d).1, .ro true (rows (added n ds d).2.1)], I (added n ds d).2.2]) := by
  refine PCall.intro text58 (by simp) ?_
  unfold ir58
  simp only [walk, rgets, retv, argsEnv, ev, cst, cst1, cstL, AEnv.get, AEnv.trim, envput, qstep, abin, aun, evs, evo, deref, qload, target, if_true, if_false, Nat.reduceEqDiff, reduceIte, Nat.reduceAdd, Bool.not_true, Bool.not_false, true_and, and_true, List.nil_append, List.cons_append, List.drop_zero, List.drop_succ_cons, List.drop_nil, List.take_succ_cons, List.take_zero, List.take_nil, List.getElem?_cons_zero, List.getElem?_cons_succ, List.getElem?_nil, List.length_cons, List.length_nil, Bool.false_eq_true, List.set_cons_zero, List.set_cons_succ, AV.cells, AV.isTuple, setMany, alen, aiaddr, afill, Nat.reduceLeDiff, Nat.reduceMul, Nat.zero_add, Option.getD_some, Option.getD_none, Int.toNat_natCast, Int.natCast_nonneg, List.append_assoc, List.length_append, and_self, Nat.reduceLT, afillE, List.replicate, dc]
  refine call_pure (check_ok n ds) (frzL_of' (d := 4) (carL_cons car_netF rfl)) ?_
  simp only [walk, rgets, retv, argsEnv, ev, cst, cst1, cstL, AEnv.get, AEnv.trim, envput, qstep, abin, aun, evs, evo, deref, qload, target, if_true, if_false, Nat.reduceEqDiff, reduceIte, Nat.reduceAdd, Bool.not_true, Bool.not_false, true_and, and_true, List.nil_append, List.cons_append, List.drop_zero, List.drop_succ_cons, List.drop_nil, List.take_succ_cons, List.take_zero, List.take_nil, List.getElem?_cons_zero, List.getElem?_cons_succ, List.getElem?_nil, List.length_cons, List.length_nil, Bool.false_eq_true, List.set_cons_zero, List.set_cons_succ, AV.cells, AV.isTuple, setMany, alen, aiaddr, afill, Nat.reduceLeDiff, Nat.reduceMul, Nat.zero_add, Option.getD_some, Option.getD_none, Int.toNat_natCast, Int.natCast_nonneg, List.append_assoc, List.length_append, and_self, Nat.reduceLT, afillE, List.replicate]
  refine withBool_intro ?_ ?_ <;> intro h <;> simp only [walk, rgets, retv, argsEnv, ev, cst, cst1, cstL, AEnv.get, AEnv.trim, envput, qstep, abin, aun, evs, evo, deref, qload, target, if_true, if_false, Nat.reduceEqDiff, reduceIte, Nat.reduceAdd, Bool.not_true, Bool.not_false, true_and, and_true, List.nil_append, List.cons_append, List.drop_zero, List.drop_succ_cons, List.drop_nil, List.take_succ_cons, List.take_zero, List.take_nil, List.getElem?_cons_zero, List.getElem?_cons_succ, List.getElem?_nil, List.length_cons, List.length_nil, Bool.false_eq_true, List.set_cons_zero, List.set_cons_succ, AV.cells, AV.isTuple, setMany, alen, aiaddr, afill, Nat.reduceLeDiff, Nat.reduceMul, Nat.zero_add, Option.getD_some, Option.getD_none, Int.toNat_natCast, Int.natCast_nonneg, List.append_assoc, List.length_append, and_self, Nat.reduceLT, afillE, List.replicate]
  · have hv := check_ne (by simpa using h)
    have e : added n ds d = (0, [], 40) := by simp [added, hv]
    simp only [e, check, hv]
    exact out_none
  · have hv := check_eq (by simpa using h)
    obtain ⟨h1, h2, h3⟩ := valid_iff.1 hv
    simp only [walk, rgets, retv, argsEnv, ev, cst, cst1, cstL, AEnv.get, AEnv.trim, envput, qstep, abin, aun, evs, evo, deref, qload, target, if_true, if_false, Nat.reduceEqDiff, reduceIte, Nat.reduceAdd, Bool.not_true, Bool.not_false, true_and, and_true, List.nil_append, List.cons_append, List.drop_zero, List.drop_succ_cons, List.drop_nil, List.take_succ_cons, List.take_zero, List.take_nil, List.getElem?_cons_zero, List.getElem?_cons_succ, List.getElem?_nil, List.length_cons, List.length_nil, Bool.false_eq_true, List.set_cons_zero, List.set_cons_succ, AV.cells, AV.isTuple, setMany, alen, aiaddr, afill, Nat.reduceLeDiff, Nat.reduceMul, Nat.zero_add, Option.getD_some, Option.getD_none, Int.toNat_natCast, Int.natCast_nonneg, List.append_assoc, List.length_append, and_self, Nat.reduceLT, afillE, List.replicate, rows_length]
    refine withBool_intro ?_ ?_ <;> intro h4 <;> simp only [walk, rgets, retv, argsEnv, ev, cst, cst1, cstL, AEnv.get, AEnv.trim, envput, qstep, abin, aun, evs, evo, deref, qload, target, if_true, if_false, Nat.reduceEqDiff, reduceIte, Nat.reduceAdd, Bool.not_true, Bool.not_false, true_and, and_true, List.nil_append, List.cons_append, List.drop_zero, List.drop_succ_cons, List.drop_nil, List.take_succ_cons, List.take_zero, List.take_nil, List.getElem?_cons_zero, List.getElem?_cons_succ, List.getElem?_nil, List.length_cons, List.length_nil, Bool.false_eq_true, List.set_cons_zero, List.set_cons_succ, AV.cells, AV.isTuple, setMany, alen, aiaddr, afill, Nat.reduceLeDiff, Nat.reduceMul, Nat.zero_add, Option.getD_some, Option.getD_none, Int.toNat_natCast, Int.natCast_nonneg, List.append_assoc, List.length_append, and_self, Nat.reduceLT, afillE, List.replicate]
    · have e : added n ds d = (0, [], 2) := by
        have : ds.length = 4096 := by simp at h4; omega
        simp [added, hv, this]
      rw [e]; exact out_none
    · have h4' : ds.length ≠ 4096 := by simp at h4; omega
      refine call_pure (right_ok d n (by omega) h1.2) (frzL_of' (d := 4) rfl) ?_
      simp only [walk, rgets, retv, argsEnv, ev, cst, cst1, cstL, AEnv.get, AEnv.trim, envput, qstep, abin, aun, evs, evo, deref, qload, target, if_true, if_false, Nat.reduceEqDiff, reduceIte, Nat.reduceAdd, Bool.not_true, Bool.not_false, true_and, and_true, List.nil_append, List.cons_append, List.drop_zero, List.drop_succ_cons, List.drop_nil, List.take_succ_cons, List.take_zero, List.take_nil, List.getElem?_cons_zero, List.getElem?_cons_succ, List.getElem?_nil, List.length_cons, List.length_nil, Bool.false_eq_true, List.set_cons_zero, List.set_cons_succ, AV.cells, AV.isTuple, setMany, alen, aiaddr, afill, Nat.reduceLeDiff, Nat.reduceMul, Nat.zero_add, Option.getD_some, Option.getD_none, Int.toNat_natCast, Int.natCast_nonneg, List.append_assoc, List.length_append, and_self, Nat.reduceLT, afillE, List.replicate]
      refine withBool_intro ?_ ?_ <;> intro h5 <;> simp only [walk, rgets, retv, argsEnv, ev, cst, cst1, cstL, AEnv.get, AEnv.trim, envput, qstep, abin, aun, evs, evo, deref, qload, target, if_true, if_false, Nat.reduceEqDiff, reduceIte, Nat.reduceAdd, Bool.not_true, Bool.not_false, true_and, and_true, List.nil_append, List.cons_append, List.drop_zero, List.drop_succ_cons, List.drop_nil, List.take_succ_cons, List.take_zero, List.take_nil, List.getElem?_cons_zero, List.getElem?_cons_succ, List.getElem?_nil, List.length_cons, List.length_nil, Bool.false_eq_true, List.set_cons_zero, List.set_cons_succ, AV.cells, AV.isTuple, setMany, alen, aiaddr, afill, Nat.reduceLeDiff, Nat.reduceMul, Nat.zero_add, Option.getD_some, Option.getD_none, Int.toNat_natCast, Int.natCast_nonneg, List.append_assoc, List.length_append, and_self, Nat.reduceLT, afillE, List.replicate]
      · have e : added n ds d = (0, [], 40) := by
          have : right d n = false := by simpa using h5
          simp [added, hv, h4', this]
        rw [e]; exact out_none
      · have e : added n ds d = (n, ds ++ [d], 0) := by
          have : right d n = true := by simpa using h5
          simp [added, hv, h4', this]
        rw [e]
        by_cases hd : ds = []
        · subst hd
          refine dcall_pure (clone57_nil (b := false)) (fun X => frzL_of (d := 4) rfl X) ?_
          simp only [walk, rgets, retv, argsEnv, ev, cst, cst1, cstL, AEnv.get, AEnv.trim, envput, qstep, abin, aun, evs, evo, deref, qload, target, if_true, if_false, Nat.reduceEqDiff, reduceIte, Nat.reduceAdd, Bool.not_true, Bool.not_false, true_and, and_true, List.nil_append, List.cons_append, List.drop_zero, List.drop_succ_cons, List.drop_nil, List.take_succ_cons, List.take_zero, List.take_nil, List.getElem?_cons_zero, List.getElem?_cons_succ, List.getElem?_nil, List.length_cons, List.length_nil, Bool.false_eq_true, List.set_cons_zero, List.set_cons_succ, AV.cells, AV.isTuple, setMany, alen, aiaddr, afill, Nat.reduceLeDiff, Nat.reduceMul, Nat.zero_add, Option.getD_some, Option.getD_none, Int.toNat_natCast, Int.natCast_nonneg, List.append_assoc, List.length_append, and_self, Nat.reduceLT, afillE, List.replicate]
          refine accW_append (lo := 3) (els := rows []) (by simp) (.inl ⟨rfl, rfl⟩) rfl rfl rfl (by simp [rows_length]) fun a' H' hl' hacc' hkeep => ?_
          have o0 := hkeep 0 (by omega)
          have o2 := hkeep 2 (by omega)
          simp only [AHeap.obj, List.getElem?_cons_zero, List.getElem?_cons_succ, Option.join_some] at o0 o2
          change AHeap.obj H' 0 = _ at o0
          change AHeap.obj H' 2 = _ at o2
          obtain ⟨q, q1, rfl, q3⟩ := hacc'.resolve_left (by simp)
          simp only [walk, rgets, retv, argsEnv, ev, cst, cst1, cstL, AEnv.get, AEnv.trim, envput, qstep, abin, aun, evs, evo, deref, qload, target, if_true, if_false, Nat.reduceEqDiff, reduceIte, Nat.reduceAdd, Bool.not_true, Bool.not_false, true_and, and_true, List.nil_append, List.cons_append, List.drop_zero, List.drop_succ_cons, List.drop_nil, List.take_succ_cons, List.take_zero, List.take_nil, List.getElem?_cons_zero, List.getElem?_cons_succ, List.getElem?_nil, List.length_cons, List.length_nil, Bool.false_eq_true, List.set_cons_zero, List.set_cons_succ, AV.cells, AV.isTuple, setMany, alen, aiaddr, afill, Nat.reduceLeDiff, Nat.reduceMul, Nat.zero_add, Option.getD_some, Option.getD_none, Int.toNat_natCast, Int.natCast_nonneg, List.append_assoc, List.length_append, and_self, Nat.reduceLT, afillE, List.replicate, o0, o2, AHeap.obj_set_eq (AHeap.obj_lt o2)]
          have hs : rows [] ++ [[I d.1, I d.2.1, I d.2.2]] = rows ([] ++ [d]) := by rw [rows_snoc]; rfl
          rw [hs] at q3
          rw [show (rows []).length + 1 = (rows ([] ++ [d])).length by simp [rows_length]]
          exact out_two (out_agg2 out_int (Acc.out (lo := 3) (.inr ⟨q, q1, rfl, by rw [AHeap.obj_set_ne (by omega)]; exact q3⟩) (rows_simple _)) rfl rfl) out_int
        · refine dcall_new (clone57_new (b := false) hd h2) (fun X => frzL_of (d := 4) (carL_cons car_rowsF rfl) X) ?_
          simp only [walk, rgets, retv, argsEnv, ev, cst, cst1, cstL, AEnv.get, AEnv.trim, envput, qstep, abin, aun, evs, evo, deref, qload, target, if_true, if_false, Nat.reduceEqDiff, reduceIte, Nat.reduceAdd, Bool.not_true, Bool.not_false, true_and, and_true, List.nil_append, List.cons_append, List.drop_zero, List.drop_succ_cons, List.drop_nil, List.take_succ_cons, List.take_zero, List.take_nil, List.getElem?_cons_zero, List.getElem?_cons_succ, List.getElem?_nil, List.length_cons, List.length_nil, Bool.false_eq_true, List.set_cons_zero, List.set_cons_succ, AV.cells, AV.isTuple, setMany, alen, aiaddr, afill, Nat.reduceLeDiff, Nat.reduceMul, Nat.zero_add, Option.getD_some, Option.getD_none, Int.toNat_natCast, Int.natCast_nonneg, List.append_assoc, List.length_append, and_self, Nat.reduceLT, afillE, List.replicate, rows_length]
          refine accW_append (lo := 3) (els := rows ds) (by simp) (.inr ⟨3, Nat.le_refl _, by rw [rows_length], rfl⟩) rfl rfl rfl (by simp only [rows_length]; omega) fun a' H' hl' hacc' hkeep => ?_
          have o0 := hkeep 0 (by omega)
          have o2 := hkeep 2 (by omega)
          simp only [AHeap.obj, List.getElem?_cons_zero, List.getElem?_cons_succ, Option.join_some] at o0 o2
          change AHeap.obj H' 0 = _ at o0
          change AHeap.obj H' 2 = _ at o2
          obtain ⟨q, q1, rfl, q3⟩ := hacc'.resolve_left (by simp)
          simp only [walk, rgets, retv, argsEnv, ev, cst, cst1, cstL, AEnv.get, AEnv.trim, envput, qstep, abin, aun, evs, evo, deref, qload, target, if_true, if_false, Nat.reduceEqDiff, reduceIte, Nat.reduceAdd, Bool.not_true, Bool.not_false, true_and, and_true, List.nil_append, List.cons_append, List.drop_zero, List.drop_succ_cons, List.drop_nil, List.take_succ_cons, List.take_zero, List.take_nil, List.getElem?_cons_zero, List.getElem?_cons_succ, List.getElem?_nil, List.length_cons, List.length_nil, Bool.false_eq_true, List.set_cons_zero, List.set_cons_succ, AV.cells, AV.isTuple, setMany, alen, aiaddr, afill, Nat.reduceLeDiff, Nat.reduceMul, Nat.zero_add, Option.getD_some, Option.getD_none, Int.toNat_natCast, Int.natCast_nonneg, List.append_assoc, List.length_append, and_self, Nat.reduceLT, afillE, List.replicate, o0, o2, AHeap.obj_set_eq (AHeap.obj_lt o2)]
          have hs : rows ds ++ [[I d.1, I d.2.1, I d.2.2]] = rows (ds ++ [d]) := by rw [rows_snoc]; rfl
          rw [hs] at q3
          rw [show (rows ds).length + 1 = (rows (ds ++ [d])).length by simp [rows_length]]
          exact out_two (out_agg2 out_int (Acc.out (lo := 3) (.inr ⟨q, q1, rfl, by rw [AHeap.obj_set_ne (by omega)]; exact q3⟩) (rows_simple _)) rfl rfl) out_int
end Go.Proofs.Ytepnijjgdhldeaa
