/- Contracts: residual of the specification. -/
import Derived.Test.YtepnijjgdhldeaaQD29
namespace Go.Proofs.Ytepnijjgdhldeaa
open Go.Awp
set_option linter.unusedSimpArgs false
set_option linter.unusedVariables false
set_option linter.unusedSectionVars false
set_option maxRecDepth 10000
set_option maxHeartbeats 8000000
def lnsC (ds : List Df) (F : Nat → Int) (k : Nat) : List Df := ds ++ (usedL F k).map fun j => rev (ed ds j.toNat)
theorem lnsC_t {ds : List Df} {F : Nat → Int} {k : Nat} (h : 0 < F k) : lnsC ds F (k + 1) = lnsC ds F k ++ [rev (ed ds k)] := by
  unfold lnsC; rw [usedL_t h]; simp
theorem lnsC_f {ds : List Df} {F : Nat → Int} {k : Nat} (h : ¬ 0 < F k) : lnsC ds F (k + 1) = lnsC ds F k := by
  unfold lnsC; rw [usedL_f h]
theorem lnsC_len {ds : List Df} {F : Nat → Int} {k : Nat} (h : k ≤ ds.length) : (lnsC ds F k).length ≤ ds.length + ds.length := by
  have := usedL_length (F := F) k
  simp [lnsC]; omega
theorem residual_ok {n : Int} {ds : List Df} {F : Nat → Int} {b : Bool} (hl : ds.length ≤ 2048) (hw : ∀ d, d ∈ ds → -1073741824 ≤ d.2.2 ∧ d.2.2 ≤ 1073741824) : PCall Try.prog 114 [.agg [I n, .ro false (rows ds)], .ro b (ic (li ds.length F))] (.agg [I n, .ro true (rows (lns ds F))]) := by
  refine PCall.intro text114 (by simp) ?_
  unfold ir114
  simp only [walkS, wl, rgets, retv, argsEnv, ev, cst, cst1, cstL, AEnv.get, AEnv.trim, envput, qstep, abin, aun, evs, evo, deref, qload, target, if_true, if_false, Nat.reduceEqDiff, reduceIte, Nat.reduceAdd, AV.cells, AV.isTuple, setMany, alen, aiaddr, afill, Nat.reduceLeDiff, Nat.reduceMul, Nat.reduceLT, afillE, List.replicate]
  refine storeR rfl rfl rfl rfl ⟨rfl, rfl, rfl, by simp⟩ fun H0 y1 y2 y3 => ?_
  have a0 : AHeap.obj H0 0 = some ⟨24, 2, [[I n, .ro false (rows ds)]]⟩ := by rw [y3 _ (by omega)]; rfl
  have a1 : AHeap.obj H0 1 = some ⟨24, 2, [[I 0, .nilSlice]]⟩ := by rw [y3 _ (by omega)]; rfl
  have hl0 : H0.length = 3 := by rw [y1]; rfl
  simp only [AV.cells, setMany, List.set_cons_zero, List.set_cons_succ, Nat.zero_add, Nat.reduceAdd] at y2
  clear y1 y3
  simp only [walkS, wl, rgets, retv, argsEnv, ev, cst, cst1, cstL, AEnv.get, AEnv.trim, envput, qstep, abin, aun, evs, evo, deref, qload, target, if_true, if_false, Nat.reduceEqDiff, reduceIte, Nat.reduceAdd, AV.cells, AV.isTuple, setMany, alen, aiaddr, afill, Nat.reduceLeDiff, Nat.reduceMul, Nat.reduceLT, afillE, List.replicate, a0, rows_length]
  refine awp_loop (σ := Nat × AV) (fun s => [(1, .ro b (ic (li ds.length F))), (2, .ptr 0 1 0 0), (4, .ptr 1 1 0 0), (5, .ptr 2 1 0 0), (6, I s.1)])
    (fun s H => AHeap.obj H 0 = some ⟨24, 2, [[I n, .ro false (rows ds)]]⟩ ∧ AHeap.obj H 1 = some ⟨24, 2, [[I 0, .nilSlice]]⟩ ∧ AHeap.obj H 2 = some ⟨24, 2, [[I n, s.2]]⟩ ∧ 3 ≤ H.length ∧ Acc 3 H s.2 39 3 (rows (ds.take s.1)))
    (fun s => s.1 ≤ ds.length) (fun s => ds.length - s.1) (0, .nilSlice) (Nat.zero_le _) rfl ⟨a0, a1, y2, by omega, .inl ⟨rfl, rfl⟩⟩ ?_
  clear a0 a1 y2 hl0 H0
  rintro ⟨i, a⟩ H hk ⟨o0, o1, o2, hlen, hacc⟩
  simp only at hk o2 hacc
  simp only [walkS, wl, rgets, retv, argsEnv, ev, cst, cst1, cstL, AEnv.get, AEnv.trim, envput, qstep, abin, aun, evs, evo, deref, qload, target, if_true, if_false, Nat.reduceEqDiff, reduceIte, Nat.reduceAdd, AV.cells, AV.isTuple, setMany, alen, aiaddr, afill, Nat.reduceLeDiff, Nat.reduceMul, Nat.reduceLT, afillE, List.replicate, o0, rows_length]
  refine withBool_intro ?_ ?_ <;> intro hb <;> simp only [walkS, wl, rgets, retv, argsEnv, ev, cst, cst1, cstL, AEnv.get, AEnv.trim, envput, qstep, abin, aun, evs, evo, deref, qload, target, if_true, if_false, Nat.reduceEqDiff, reduceIte, Nat.reduceAdd, AV.cells, AV.isTuple, setMany, alen, aiaddr, afill, Nat.reduceLeDiff, Nat.reduceMul, Nat.reduceLT, afillE, List.replicate, o0, o2, rows_length]
  · have hlt : i < ds.length := by simpa using hb
    have hw1 : IntKind.i64.wrap ((i : Int) + 1) = ((i + 1 : Nat) : Int) := by rw [wrap_id (by omega) (by omega)]; simp
    simp only [walkS, wl, rgets, retv, argsEnv, ev, cst, cst1, cstL, AEnv.get, AEnv.trim, envput, qstep, abin, aun, evs, evo, deref, qload, target, if_true, if_false, Nat.reduceEqDiff, reduceIte, Nat.reduceAdd, AV.cells, AV.isTuple, setMany, alen, aiaddr, afill, Nat.reduceLeDiff, Nat.reduceMul, Nat.reduceLT, afillE, List.replicate, o0, o2, rows_length, rows_get hlt, if_pos (show (i : Int) < ds.length by omega)]
    refine acc_append (lo := 3) (by simp; omega) (hacc.push _) rfl rfl AHeap.obj_push_eq (by simp only [rows_length, List.length_take]; omega) fun a' H2 hl' hacc' hkeep => ?_
    simp only [List.length_append, List.length_cons, List.length_nil] at hl'
    have e : ∀ i, i < 3 → AHeap.obj H2 i = AHeap.obj H i := fun i hi => by rw [hkeep i hi, AHeap.obj_push_lt (by omega)]
    simp only [walkS, wl, rgets, retv, argsEnv, ev, cst, cst1, cstL, AEnv.get, AEnv.trim, envput, qstep, abin, aun, evs, evo, deref, qload, target, if_true, if_false, Nat.reduceEqDiff, reduceIte, Nat.reduceAdd, AV.cells, AV.isTuple, setMany, alen, aiaddr, afill, Nat.reduceLeDiff, Nat.reduceMul, Nat.reduceLT, afillE, List.replicate]
    have hone : a'.cells.length = 1 ∧ a'.isTuple = false ∧ a'.cells = [a'] := by
      obtain ⟨q, q1, rfl, q3⟩ := hacc'.resolve_left (by simp)
      exact ⟨rfl, rfl, rfl⟩
    refine storeR rfl rfl ((e 2 (by omega)).trans o2) rfl ⟨rfl, hone.1, hone.2.1, by simp⟩ fun H3 z1 z2 z3 => ?_
    simp only [hone.2.2, List.set_cons_zero, List.set_cons_succ, setMany, Nat.zero_add, Nat.reduceAdd] at z2
    simp only [walkS, wl, rgets, retv, argsEnv, ev, cst, cst1, cstL, AEnv.get, AEnv.trim, envput, qstep, abin, aun, evs, evo, deref, qload, target, if_true, if_false, Nat.reduceEqDiff, reduceIte, Nat.reduceAdd, AV.cells, AV.isTuple, setMany, alen, aiaddr, afill, Nat.reduceLeDiff, Nat.reduceMul, Nat.reduceLT, afillE, List.replicate, hw1]
    refine loop_end (i + 1, a') hlt (by simp only; omega) rfl ⟨by rw [z3 0 (by omega), e 0 (by omega)]; exact o0, by rw [z3 1 (by omega), e 1 (by omega)]; exact o1, z2, by omega, ?_⟩
    simp only [rows_take hlt]
    obtain ⟨q, q1, h2, h3⟩ := hacc'.resolve_left (by simp)
    exact .inr ⟨q, q1, h2, by rw [z3 q (by omega)]; exact h3⟩
  · have hk' : i = ds.length := by simp at hb; omega
    subst hk'
    rw [List.take_length] at hacc
    refine awp_loop (σ := Nat × AV) (fun s => [(1, .ro b (ic (li ds.length F))), (2, .ptr 0 1 0 0), (4, .ptr 1 1 0 0), (5, .ptr 2 1 0 0), (7, I s.1)])
      (fun s H => AHeap.obj H 0 = some ⟨24, 2, [[I n, .ro false (rows ds)]]⟩ ∧ AHeap.obj H 1 = some ⟨24, 2, [[I 0, .nilSlice]]⟩ ∧ AHeap.obj H 2 = some ⟨24, 2, [[I n, s.2]]⟩ ∧ 3 ≤ H.length ∧ Acc 3 H s.2 39 3 (rows (lnsC ds F s.1)))
      (fun s => s.1 ≤ ds.length) (fun s => ds.length - s.1) (0, a) (Nat.zero_le _) rfl ⟨o0, o1, o2, hlen, by simpa [lnsC, usedL] using hacc⟩ ?_
    clear o0 o1 o2 hlen hacc H a hb hk
    rintro ⟨i, a⟩ H hk ⟨o0, o1, o2, hlen, hacc⟩
    simp only at hk o2 hacc
    simp only [walkS, wl, rgets, retv, argsEnv, ev, cst, cst1, cstL, AEnv.get, AEnv.trim, envput, qstep, abin, aun, evs, evo, deref, qload, target, if_true, if_false, Nat.reduceEqDiff, reduceIte, Nat.reduceAdd, AV.cells, AV.isTuple, setMany, alen, aiaddr, afill, Nat.reduceLeDiff, Nat.reduceMul, Nat.reduceLT, afillE, List.replicate, o0, rows_length]
    refine withBool_intro ?_ ?_ <;> intro hb <;> simp only [walkS, wl, rgets, retv, argsEnv, ev, cst, cst1, cstL, AEnv.get, AEnv.trim, envput, qstep, abin, aun, evs, evo, deref, qload, target, if_true, if_false, Nat.reduceEqDiff, reduceIte, Nat.reduceAdd, AV.cells, AV.isTuple, setMany, alen, aiaddr, afill, Nat.reduceLeDiff, Nat.reduceMul, Nat.reduceLT, afillE, List.replicate, o0, o2, rows_length]
    · have hlt : i < ds.length := by simpa using hb
      have hw1 : IntKind.i64.wrap ((i : Int) + 1) = ((i + 1 : Nat) : Int) := by rw [wrap_id (by omega) (by omega)]; simp
      simp only [walkS, wl, rgets, retv, argsEnv, ev, cst, cst1, cstL, AEnv.get, AEnv.trim, envput, qstep, abin, aun, evs, evo, deref, qload, target, if_true, if_false, Nat.reduceEqDiff, reduceIte, Nat.reduceAdd, AV.cells, AV.isTuple, setMany, alen, aiaddr, afill, Nat.reduceLeDiff, Nat.reduceMul, Nat.reduceLT, afillE, List.replicate, o0, o2, rows_length, rows_get hlt, if_pos (show (i : Int) < ds.length by omega)]
      refine storeR rfl rfl AHeap.obj_push_eq rfl ⟨rfl, rfl, rfl, by simp⟩ fun H1 q1 q2 q3 => ?_
      have hL1 : H1.length = H.length + 1 := by rw [q1]; simp
      have back : ∀ q, q < H.length → AHeap.obj H1 q = AHeap.obj H q := fun q hq => by rw [q3 q (by omega), AHeap.obj_push_lt hq]
      simp only [List.set_cons_zero, List.set_cons_succ, setMany, AV.cells, Nat.zero_add, Nat.reduceAdd] at q2
      have o0' := (back 0 (by omega)).trans o0
      have o1' := (back 1 (by omega)).trans o1
      have o2' := (back 2 (by omega)).trans o2
      have hacc1 : Acc 3 H1 a 39 3 (rows (lnsC ds F i)) := by
        rcases hacc with h | ⟨q, h1, h2, h3⟩
        · exact .inl h
        · exact .inr ⟨q, h1, h2, by rw [back q (AHeap.obj_lt h3)]; exact h3⟩
      simp only [walkS, wl, rgets, retv, argsEnv, ev, cst, cst1, cstL, AEnv.get, AEnv.trim, envput, qstep, abin, aun, evs, evo, deref, qload, target, if_true, if_false, Nat.reduceEqDiff, reduceIte, Nat.reduceAdd, AV.cells, AV.isTuple, setMany, alen, aiaddr, afill, Nat.reduceLeDiff, Nat.reduceMul, Nat.reduceLT, afillE, List.replicate, o2', q2, li_get hlt, ic_length, li_length, if_pos (show (i : Int) < ds.length by omega)]
      refine withBool_intro ?_ ?_ <;> intro h1 <;> simp only [walkS, wl, rgets, retv, argsEnv, ev, cst, cst1, cstL, AEnv.get, AEnv.trim, envput, qstep, abin, aun, evs, evo, deref, qload, target, if_true, if_false, Nat.reduceEqDiff, reduceIte, Nat.reduceAdd, AV.cells, AV.isTuple, setMany, alen, aiaddr, afill, Nat.reduceLeDiff, Nat.reduceMul, Nat.reduceLT, afillE, List.replicate, o2', q2]
      · have hp : 0 < F i := by simpa using h1
        have hb1 := hw _ (List.getElem_mem hlt)
        have hneg : IntKind.i64.wrap (-(ds[i]).2.2) = -(ds[i]).2.2 := wrap_id (by omega) (by omega)
        have hneg2 : IntKind.i64.wrap (0 - (ds[i]).2.2) = -(ds[i]).2.2 := by rw [wrap_id (by omega) (by omega)]; omega
        simp only [walkS, wl, rgets, retv, argsEnv, ev, cst, cst1, cstL, AEnv.get, AEnv.trim, envput, qstep, abin, aun, evs, evo, deref, qload, target, if_true, if_false, Nat.reduceEqDiff, reduceIte, Nat.reduceAdd, AV.cells, AV.isTuple, setMany, alen, aiaddr, afill, Nat.reduceLeDiff, Nat.reduceMul, Nat.reduceLT, afillE, List.replicate, o2', q2, hneg, hneg2]
        refine acc_append (lo := 3) (by simp; omega) (hacc1.push _) rfl rfl AHeap.obj_push_eq (by have := lnsC_len (F := F) (ds := ds) hk; simp only [rows_length]; omega) fun a' H2 hl' hacc' hkeep => ?_
        simp only [List.length_append, List.length_cons, List.length_nil] at hl'
        have e : ∀ i, i < 3 → AHeap.obj H2 i = AHeap.obj H1 i := fun i hi => by rw [hkeep i hi, AHeap.obj_push_lt (by omega)]
        simp only [walkS, wl, rgets, retv, argsEnv, ev, cst, cst1, cstL, AEnv.get, AEnv.trim, envput, qstep, abin, aun, evs, evo, deref, qload, target, if_true, if_false, Nat.reduceEqDiff, reduceIte, Nat.reduceAdd, AV.cells, AV.isTuple, setMany, alen, aiaddr, afill, Nat.reduceLeDiff, Nat.reduceMul, Nat.reduceLT, afillE, List.replicate]
        have hone : a'.cells.length = 1 ∧ a'.isTuple = false ∧ a'.cells = [a'] := by
          obtain ⟨q, q1, rfl, q3⟩ := hacc'.resolve_left (by simp)
          exact ⟨rfl, rfl, rfl⟩
        refine storeR rfl rfl ((e 2 (by omega)).trans o2') rfl ⟨rfl, hone.1, hone.2.1, by simp⟩ fun H3 z1 z2 z3 => ?_
        simp only [hone.2.2, List.set_cons_zero, List.set_cons_succ, setMany, Nat.zero_add, Nat.reduceAdd] at z2
        simp only [walkS, wl, rgets, retv, argsEnv, ev, cst, cst1, cstL, AEnv.get, AEnv.trim, envput, qstep, abin, aun, evs, evo, deref, qload, target, if_true, if_false, Nat.reduceEqDiff, reduceIte, Nat.reduceAdd, AV.cells, AV.isTuple, setMany, alen, aiaddr, afill, Nat.reduceLeDiff, Nat.reduceMul, Nat.reduceLT, afillE, List.replicate, hw1]
        refine loop_end (i + 1, a') hlt (by simp only; omega) rfl ⟨by rw [z3 0 (by omega), e 0 (by omega)]; exact o0', by rw [z3 1 (by omega), e 1 (by omega)]; exact o1', z2, by omega, ?_⟩
        simp only [lnsC_t hp, rows_snoc, ← ed_get hlt]
        obtain ⟨q, q1, h2, h3⟩ := hacc'.resolve_left (by simp)
        exact .inr ⟨q, q1, h2, by rw [z3 q (by omega)]; exact h3⟩
      · have hp : ¬ 0 < F i := by simpa using h1
        rw [hw1]
        refine loop_end (i + 1, a) hlt (by simp only; omega) rfl ⟨o0', o1', o2', by omega, ?_⟩
        simp only [lnsC_f hp]; exact hacc1
    · have hk' : i = ds.length := by simp at hb; omega
      subst hk'
      have hone : a.cells = [a] ∧ a.isTuple = false := by
        rcases hacc with ⟨_, rfl⟩ | ⟨q, q1, rfl, q3⟩ <;> exact ⟨rfl, rfl⟩
      refine storeR rfl rfl o1 rfl ⟨rfl, rfl, rfl, by simp⟩ fun H3 z1 z2 z3 => ?_
      simp only [AV.cells, List.set_cons_zero, List.set_cons_succ, setMany, Nat.zero_add, Nat.reduceAdd] at z2
      simp only [walkS, wl, rgets, retv, argsEnv, ev, cst, cst1, cstL, AEnv.get, AEnv.trim, envput, qstep, abin, aun, evs, evo, deref, qload, target, if_true, if_false, Nat.reduceEqDiff, reduceIte, Nat.reduceAdd, AV.cells, AV.isTuple, setMany, alen, aiaddr, afill, Nat.reduceLeDiff, Nat.reduceMul, Nat.reduceLT, afillE, List.replicate, z2]
      refine out_agg2 out_int ?_ rfl rfl
      refine Acc.out (lo := 3) (e := 39) (s := 3) (els := rows (lnsC ds F ds.length)) ?_ (rows_simple _)
      rcases hacc with h | ⟨q, h1, h2, h3⟩
      · exact .inl h
      · exact .inr ⟨q, h1, h2, by rw [z3 q (by omega)]; exact h3⟩
end Go.Proofs.Ytepnijjgdhldeaa
