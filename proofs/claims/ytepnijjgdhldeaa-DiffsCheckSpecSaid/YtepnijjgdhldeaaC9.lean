/- A text of the proof of a law about the given program: contracts of its functions, as walked. -/
import Derived.Test.YtepnijjgdhldeaaC8
namespace Go.Proofs.Ytepnijjgdhldeaa
open Go.Awp
set_option linter.unusedSimpArgs false
set_option linter.unusedVariables false
set_option maxRecDepth 10000
theorem equal_ok (xs ys : List Int) (hl : xs.length ≤ big) (hl' : ys.length ≤ big) : PCall Try.prog 28 [.ro false (ic xs), .ro false (ic ys)] (.bool (decide (xs = ys))) := by
  unfold big at hl hl'
  refine PCall.intro text28 (by simp) ?_
  unfold ir28
  simp only [walk, rgets, retv, argsEnv, ev, cst, cst1, cstL, AEnv.get, AEnv.trim, envput, qstep, abin, aun, evs, evo, deref, qload, target, if_true, if_false, Nat.reduceEqDiff, reduceIte, Nat.reduceAdd, Bool.not_true, Bool.not_false, true_and, and_true, List.nil_append, List.cons_append, List.drop_zero, List.drop_succ_cons, List.drop_nil, List.take_succ_cons, List.take_zero, List.take_nil, List.getElem?_cons_zero, List.getElem?_cons_succ, List.getElem?_nil, List.length_cons, List.length_nil, Bool.false_eq_true, List.set_cons_zero, List.set_cons_succ, AV.cells, AV.isTuple, setMany, alen, aiaddr, afill, Nat.reduceLeDiff, Nat.reduceMul, Nat.zero_add, Option.getD_some, Option.getD_none, Int.toNat_natCast, Int.natCast_nonneg, List.append_assoc, List.length_append, and_self, Nat.reduceLT, afillE, List.replicate, ic_length]
  refine withBool_intro ?_ ?_ <;> intro h <;> simp only [walk, rgets, retv, argsEnv, ev, cst, cst1, cstL, AEnv.get, AEnv.trim, envput, qstep, abin, aun, evs, evo, deref, qload, target, if_true, if_false, Nat.reduceEqDiff, reduceIte, Nat.reduceAdd, Bool.not_true, Bool.not_false, true_and, and_true, List.nil_append, List.cons_append, List.drop_zero, List.drop_succ_cons, List.drop_nil, List.take_succ_cons, List.take_zero, List.take_nil, List.getElem?_cons_zero, List.getElem?_cons_succ, List.getElem?_nil, List.length_cons, List.length_nil, Bool.false_eq_true, List.set_cons_zero, List.set_cons_succ, AV.cells, AV.isTuple, setMany, alen, aiaddr, afill, Nat.reduceLeDiff, Nat.reduceMul, Nat.zero_add, Option.getD_some, Option.getD_none, Int.toNat_natCast, Int.natCast_nonneg, List.append_assoc, List.length_append, and_self, Nat.reduceLT, afillE, List.replicate, ic_length]
  · have : xs ≠ ys := by intro e; subst e; simp at h
    simp only [this, decide_false]; exact out_bool
  · have hll : xs.length = ys.length := by simp at h; omega
    refine awp_loop (σ := Nat) (fun k => [(0, .ro false (ic xs)), (1, .ro false (ic ys)), (12, I xs.length), (13, I k)]) (fun _ _ => True) (fun k => k ≤ xs.length ∧ xs.take k = ys.take k) (fun k => xs.length - k) 0 ⟨Nat.zero_le _, rfl⟩ rfl trivial ?_
    rintro k H ⟨hk, hall⟩ -
    simp only [walk, rgets, retv, argsEnv, ev, cst, cst1, cstL, AEnv.get, AEnv.trim, envput, qstep, abin, aun, evs, evo, deref, qload, target, if_true, if_false, Nat.reduceEqDiff, reduceIte, Nat.reduceAdd, Bool.not_true, Bool.not_false, true_and, and_true, List.nil_append, List.cons_append, List.drop_zero, List.drop_succ_cons, List.drop_nil, List.take_succ_cons, List.take_zero, List.take_nil, List.getElem?_cons_zero, List.getElem?_cons_succ, List.getElem?_nil, List.length_cons, List.length_nil, Bool.false_eq_true, List.set_cons_zero, List.set_cons_succ, AV.cells, AV.isTuple, setMany, alen, aiaddr, afill, Nat.reduceLeDiff, Nat.reduceMul, Nat.zero_add, Option.getD_some, Option.getD_none, Int.toNat_natCast, Int.natCast_nonneg, List.append_assoc, List.length_append, and_self, Nat.reduceLT, afillE, List.replicate]
    refine withBool_intro ?_ ?_ <;> intro hb <;> simp only [walk, rgets, retv, argsEnv, ev, cst, cst1, cstL, AEnv.get, AEnv.trim, envput, qstep, abin, aun, evs, evo, deref, qload, target, if_true, if_false, Nat.reduceEqDiff, reduceIte, Nat.reduceAdd, Bool.not_true, Bool.not_false, true_and, and_true, List.nil_append, List.cons_append, List.drop_zero, List.drop_succ_cons, List.drop_nil, List.take_succ_cons, List.take_zero, List.take_nil, List.getElem?_cons_zero, List.getElem?_cons_succ, List.getElem?_nil, List.length_cons, List.length_nil, Bool.false_eq_true, List.set_cons_zero, List.set_cons_succ, AV.cells, AV.isTuple, setMany, alen, aiaddr, afill, Nat.reduceLeDiff, Nat.reduceMul, Nat.zero_add, Option.getD_some, Option.getD_none, Int.toNat_natCast, Int.natCast_nonneg, List.append_assoc, List.length_append, and_self, Nat.reduceLT, afillE, List.replicate]
    · have hlt : k < xs.length := by simpa using hb
      simp only [walk, rgets, retv, argsEnv, ev, cst, cst1, cstL, AEnv.get, AEnv.trim, envput, qstep, abin, aun, evs, evo, deref, qload, target, if_true, if_false, Nat.reduceEqDiff, reduceIte, Nat.reduceAdd, Bool.not_true, Bool.not_false, true_and, and_true, List.nil_append, List.cons_append, List.drop_zero, List.drop_succ_cons, List.drop_nil, List.take_succ_cons, List.take_zero, List.take_nil, List.getElem?_cons_zero, List.getElem?_cons_succ, List.getElem?_nil, List.length_cons, List.length_nil, Bool.false_eq_true, List.set_cons_zero, List.set_cons_succ, AV.cells, AV.isTuple, setMany, alen, aiaddr, afill, Nat.reduceLeDiff, Nat.reduceMul, Nat.zero_add, Option.getD_some, Option.getD_none, Int.toNat_natCast, Int.natCast_nonneg, List.append_assoc, List.length_append, and_self, Nat.reduceLT, afillE, List.replicate, ic_get hlt, ic_get (show k < ys.length by omega)]
      refine withBool_intro ?_ ?_ <;> intro hr <;> simp only [walk, rgets, retv, argsEnv, ev, cst, cst1, cstL, AEnv.get, AEnv.trim, envput, qstep, abin, aun, evs, evo, deref, qload, target, if_true, if_false, Nat.reduceEqDiff, reduceIte, Nat.reduceAdd, Bool.not_true, Bool.not_false, true_and, and_true, List.nil_append, List.cons_append, List.drop_zero, List.drop_succ_cons, List.drop_nil, List.take_succ_cons, List.take_zero, List.take_nil, List.getElem?_cons_zero, List.getElem?_cons_succ, List.getElem?_nil, List.length_cons, List.length_nil, Bool.false_eq_true, List.set_cons_zero, List.set_cons_succ, AV.cells, AV.isTuple, setMany, alen, aiaddr, afill, Nat.reduceLeDiff, Nat.reduceMul, Nat.zero_add, Option.getD_some, Option.getD_none, Int.toNat_natCast, Int.natCast_nonneg, List.append_assoc, List.length_append, and_self, Nat.reduceLT, afillE, List.replicate]
      · have : xs ≠ ys := by intro e; subst e; simp at hr
        simp only [this, decide_false]; exact out_bool
      · rw [wrap_id (by omega) (by omega)]
        refine loop_end (k + 1) ⟨hlt, ?_⟩ (by omega) rfl trivial
        have : xs[k] = ys[k] := by simpa using hr
        rw [List.take_succ_eq_append_getElem hlt, List.take_succ_eq_append_getElem (show k < ys.length by omega), hall, this]
    · have hk' : k = xs.length := by simp at hb; omega
      subst hk'
      rw [List.take_length, hll, List.take_length] at hall
      simp only [hall, decide_true]; exact out_bool

theorem obj_keep {H X : AHeap} {i : Nat} {o : AObj} (h : AHeap.obj H i = some o) : AHeap.obj (H ++ X) i = some o := by
  rw [AHeap.obj_push_lt (AHeap.obj_lt h)]; exact h
theorem Acc.keepObj {lo : Nat} {H : AHeap} {a : AV} {e s : Nat} {els : List (List AV)} (h : Acc lo H a e s els) {X : AHeap} : Acc lo (H ++ X) a e s els := h.push X

theorem accW_append {lo : Nat} {H : AHeap} {a : AV} {e s bytes hl : Nat} {els : List (List AV)} {r : List AV} {env : AEnv} {x y : Operand} {K : AV → AHeap → Prop} (hlo : lo ≤ H.length) (hacc : Acc lo H a e s els) (hx : ev env x = some a) (hy : ev env y = some (.own hl 1 0 1)) (hobj : AHeap.obj H hl = some ⟨e, s, [r]⟩)
    (hb : els.length + 1 ≤ 140737488355328 ∧ (els.length + 1) * bytes ≤ 140737488355328) (hk : ∀ a' H', H.length ≤ H'.length → Acc lo H' a' e s (els ++ [r]) → (∀ i, i < lo → AHeap.obj H' i = AHeap.obj H i) → K a' H') : withW (sstep (.append e s bytes x y) env H) K := by
  have := acc_append hlo hacc hx hy hobj hb hk
  unfold withRes at this
  unfold withW
  split at this
  · rename_i x' H' e; rw [e]; exact this
  · rename_i H' e; rw [e]; exact this
  · exact this.elim
theorem rows_snoc (ds : List Df) (d : Df) : rows (ds ++ [d]) = rows ds ++ [dc d] := by simp [rows, dc]
theorem rows_take {ds : List Df} {k : Nat} (h : k < ds.length) : rows (ds.take (k + 1)) = rows (ds.take k) ++ [dc ds[k]] := by
  rw [List.take_succ_eq_append_getElem h, rows_snoc]
theorem With_ok (n : Int) (ds : List Df) (d : Df) (hl : ds.length < 4096) : PCall Try.prog 100 [.agg [I n, .ro false (rows ds)], .agg (dc d)] (.agg [I n, .ro true (rows (ds ++ [d]))]) := by
  refine PCall.intro text100 (by simp) ?_
  unfold ir100
  simp only [walk, rgets, retv, argsEnv, ev, cst, cst1, cstL, AEnv.get, AEnv.trim, envput, qstep, abin, aun, evs, evo, deref, qload, target, if_true, if_false, Nat.reduceEqDiff, reduceIte, Nat.reduceAdd, Bool.not_true, Bool.not_false, true_and, and_true, List.nil_append, List.cons_append, List.drop_zero, List.drop_succ_cons, List.drop_nil, List.take_succ_cons, List.take_zero, List.take_nil, List.getElem?_cons_zero, List.getElem?_cons_succ, List.getElem?_nil, List.length_cons, List.length_nil, Bool.false_eq_true, List.set_cons_zero, List.set_cons_succ, AV.cells, AV.isTuple, setMany, alen, aiaddr, afill, Nat.reduceLeDiff, Nat.reduceMul, Nat.zero_add, Option.getD_some, Option.getD_none, Int.toNat_natCast, Int.natCast_nonneg, List.append_assoc, List.length_append, and_self, Nat.reduceLT, afillE, List.replicate, dc]
  refine awp_loop (σ := Nat × AV) (fun s => [(2, .ptr 0 1 0 0), (3, .ptr 1 1 0 0), (4, .ptr 2 1 0 0), (5, s.2), (6, I s.1)])
    (fun s H => AHeap.obj H 0 = some ⟨24, 2, [[I n, .ro false (rows ds)]]⟩ ∧ AHeap.obj H 1 = some ⟨39, 3, [[I d.1, I d.2.1, I d.2.2]]⟩ ∧ AHeap.obj H 2 = some ⟨24, 2, [[I 0, .nilSlice]]⟩ ∧ 3 ≤ H.length ∧ Acc 3 H s.2 39 3 (rows (ds.take s.1)))
    (fun s => s.1 ≤ ds.length) (fun s => ds.length - s.1) (0, .nilSlice) (Nat.zero_le _) rfl ⟨rfl, rfl, rfl, by simp, .inl ⟨rfl, rfl⟩⟩ ?_
  rintro ⟨k, a⟩ H hk ⟨o0, o1, o2, hlen, hacc⟩
  simp only at hk hacc
  simp only [walk, rgets, retv, argsEnv, ev, cst, cst1, cstL, AEnv.get, AEnv.trim, envput, qstep, abin, aun, evs, evo, deref, qload, target, if_true, if_false, Nat.reduceEqDiff, reduceIte, Nat.reduceAdd, Bool.not_true, Bool.not_false, true_and, and_true, List.nil_append, List.cons_append, List.drop_zero, List.drop_succ_cons, List.drop_nil, List.take_succ_cons, List.take_zero, List.take_nil, List.getElem?_cons_zero, List.getElem?_cons_succ, List.getElem?_nil, List.length_cons, List.length_nil, Bool.false_eq_true, List.set_cons_zero, List.set_cons_succ, AV.cells, AV.isTuple, setMany, alen, aiaddr, afill, Nat.reduceLeDiff, Nat.reduceMul, Nat.zero_add, Option.getD_some, Option.getD_none, Int.toNat_natCast, Int.natCast_nonneg, List.append_assoc, List.length_append, and_self, Nat.reduceLT, afillE, List.replicate, o0, rows_length]
  refine withBool_intro ?_ ?_ <;> intro hb <;> simp only [walk, rgets, retv, argsEnv, ev, cst, cst1, cstL, AEnv.get, AEnv.trim, envput, qstep, abin, aun, evs, evo, deref, qload, target, if_true, if_false, Nat.reduceEqDiff, reduceIte, Nat.reduceAdd, Bool.not_true, Bool.not_false, true_and, and_true, List.nil_append, List.cons_append, List.drop_zero, List.drop_succ_cons, List.drop_nil, List.take_succ_cons, List.take_zero, List.take_nil, List.getElem?_cons_zero, List.getElem?_cons_succ, List.getElem?_nil, List.length_cons, List.length_nil, Bool.false_eq_true, List.set_cons_zero, List.set_cons_succ, AV.cells, AV.isTuple, setMany, alen, aiaddr, afill, Nat.reduceLeDiff, Nat.reduceMul, Nat.zero_add, Option.getD_some, Option.getD_none, Int.toNat_natCast, Int.natCast_nonneg, List.append_assoc, List.length_append, and_self, Nat.reduceLT, afillE, List.replicate]
  · have hlt : k < ds.length := by simpa using hb
    simp only [walk, rgets, retv, argsEnv, ev, cst, cst1, cstL, AEnv.get, AEnv.trim, envput, qstep, abin, aun, evs, evo, deref, qload, target, if_true, if_false, Nat.reduceEqDiff, reduceIte, Nat.reduceAdd, Bool.not_true, Bool.not_false, true_and, and_true, List.nil_append, List.cons_append, List.drop_zero, List.drop_succ_cons, List.drop_nil, List.take_succ_cons, List.take_zero, List.take_nil, List.getElem?_cons_zero, List.getElem?_cons_succ, List.getElem?_nil, List.length_cons, List.length_nil, Bool.false_eq_true, List.set_cons_zero, List.set_cons_succ, AV.cells, AV.isTuple, setMany, alen, aiaddr, afill, Nat.reduceLeDiff, Nat.reduceMul, Nat.zero_add, Option.getD_some, Option.getD_none, Int.toNat_natCast, Int.natCast_nonneg, List.append_assoc, List.length_append, and_self, Nat.reduceLT, afillE, List.replicate, o0, rows_get hlt]
    refine acc_append (lo := 3) (by simp; omega) (hacc.push _) rfl rfl AHeap.obj_push_eq (by simp only [rows_length, List.length_take]; omega) fun a' H' hl' hacc' hkeep => ?_
    simp only [walk, rgets, retv, argsEnv, ev, cst, cst1, cstL, AEnv.get, AEnv.trim, envput, qstep, abin, aun, evs, evo, deref, qload, target, if_true, if_false, Nat.reduceEqDiff, reduceIte, Nat.reduceAdd, Bool.not_true, Bool.not_false, true_and, and_true, List.nil_append, List.cons_append, List.drop_zero, List.drop_succ_cons, List.drop_nil, List.take_succ_cons, List.take_zero, List.take_nil, List.getElem?_cons_zero, List.getElem?_cons_succ, List.getElem?_nil, List.length_cons, List.length_nil, Bool.false_eq_true, List.set_cons_zero, List.set_cons_succ, AV.cells, AV.isTuple, setMany, alen, aiaddr, afill, Nat.reduceLeDiff, Nat.reduceMul, Nat.zero_add, Option.getD_some, Option.getD_none, Int.toNat_natCast, Int.natCast_nonneg, List.append_assoc, List.length_append, and_self, Nat.reduceLT, afillE, List.replicate]
    rw [wrap_id (by omega) (by omega)]
    have e : ∀ i, i < 3 → AHeap.obj H' i = AHeap.obj H i := fun i hi => by rw [hkeep i hi, AHeap.obj_push_lt (by omega)]
    refine loop_end (k + 1, a') hlt (by simp only; omega) rfl ⟨by rw [e 0 (by omega)]; exact o0, by rw [e 1 (by omega)]; exact o1, by rw [e 2 (by omega)]; exact o2, by simp at hl'; omega, ?_⟩
    simp only [rows_take hlt]; exact hacc'
  · have hk' : k = ds.length := by simp at hb; omega
    subst hk'
    rw [List.take_length] at hacc
    simp only [walk, rgets, retv, argsEnv, ev, cst, cst1, cstL, AEnv.get, AEnv.trim, envput, qstep, abin, aun, evs, evo, deref, qload, target, if_true, if_false, Nat.reduceEqDiff, reduceIte, Nat.reduceAdd, Bool.not_true, Bool.not_false, true_and, and_true, List.nil_append, List.cons_append, List.drop_zero, List.drop_succ_cons, List.drop_nil, List.take_succ_cons, List.take_zero, List.take_nil, List.getElem?_cons_zero, List.getElem?_cons_succ, List.getElem?_nil, List.length_cons, List.length_nil, Bool.false_eq_true, List.set_cons_zero, List.set_cons_succ, AV.cells, AV.isTuple, setMany, alen, aiaddr, afill, Nat.reduceLeDiff, Nat.reduceMul, Nat.zero_add, Option.getD_some, Option.getD_none, Int.toNat_natCast, Int.natCast_nonneg, List.append_assoc, List.length_append, and_self, Nat.reduceLT, afillE, List.replicate, o0, o1, o2]
    refine accW_append (lo := 3) (by simp; omega) (hacc.push _) rfl rfl AHeap.obj_push_eq (by simp only [rows_length]; omega) fun a' H' hl' hacc' hkeep => ?_
    have e : ∀ i, i < 3 → AHeap.obj H' i = AHeap.obj H i := fun i hi => by rw [hkeep i hi, AHeap.obj_push_lt (by omega)]
    have o0' := (e 0 (by omega)).trans o0
    have o2' := (e 2 (by omega)).trans o2
    have o0'' : AHeap.obj (H ++ [some ⟨39, 3, [[I d.1, I d.2.1, I d.2.2]]⟩]) 0 = some ⟨24, 2, [[I n, .ro false (rows ds)]]⟩ := obj_keep o0
    have hacc2 := hacc'
    obtain ⟨q, q1, rfl, q3⟩ := hacc'.resolve_left (by simp)
    simp only [walk, rgets, retv, argsEnv, ev, cst, cst1, cstL, AEnv.get, AEnv.trim, envput, qstep, abin, aun, evs, evo, deref, qload, target, if_true, if_false, Nat.reduceEqDiff, reduceIte, Nat.reduceAdd, Bool.not_true, Bool.not_false, true_and, and_true, List.nil_append, List.cons_append, List.drop_zero, List.drop_succ_cons, List.drop_nil, List.take_succ_cons, List.take_zero, List.take_nil, List.getElem?_cons_zero, List.getElem?_cons_succ, List.getElem?_nil, List.length_cons, List.length_nil, Bool.false_eq_true, List.set_cons_zero, List.set_cons_succ, AV.cells, AV.isTuple, setMany, alen, aiaddr, afill, Nat.reduceLeDiff, Nat.reduceMul, Nat.zero_add, Option.getD_some, Option.getD_none, Int.toNat_natCast, Int.natCast_nonneg, List.append_assoc, List.length_append, and_self, Nat.reduceLT, afillE, List.replicate, o0', o2', o0, o0'', AHeap.obj_set_eq (AHeap.obj_lt o2')]
    have hs : rows ds ++ [[I d.1, I d.2.1, I d.2.2]] = rows (ds ++ [d]) := by rw [rows_snoc]; rfl
    rw [hs] at q3
    rw [show (rows ds).length + 1 = (rows (ds ++ [d])).length by simp [rows_length]]
    exact out_agg2 out_int (Acc.out (lo := 3) (.inr ⟨q, q1, rfl, by rw [AHeap.obj_set_ne (by omega)]; exact q3⟩) (rows_simple _)) rfl rfl
end Go.Proofs.Ytepnijjgdhldeaa
