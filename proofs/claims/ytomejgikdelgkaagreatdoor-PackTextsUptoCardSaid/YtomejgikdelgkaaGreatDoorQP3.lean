/- Contracts: PrintStep and ParseStep of both. -/
import Derived.Test.YtomejgikdelgkaaGreatDoorQP2
import Derived.Test.YtomejgikdelgkaaGreatDoorQC3
set_option linter.unusedVariables false
set_option linter.unusedSimpArgs false
set_option linter.unusedSectionVars false
namespace Go.Proofs.YtomejgikdelgkaaGreatDoor
open Go.Awp Go.Snow
set_option linter.unusedSimpArgs false
set_option linter.unusedVariables false
set_option linter.unusedSectionVars false
set_option maxRecDepth 10000
abbrev bE : ByteArray := ByteArray.mk (Array.mk [])
def kw (k : Int) : ByteArray := (kinds[(k - 1).toNat]?).getD bE
/-- The text of a step. -/
def stepT (s : Lay) : ByteArray := kw s.1 ++ bl ++ itoaB s.2.1 ++ (if s.1 = 1 then bl ++ itoaB s.2.2 else bE)
def okL (s : Lay) : Bool := okS s.1 s.2.1 s.2.2
def psV (s : Lay) : ByteArray × Int := if okL s then (stepT s, 0) else (bE, 21)
theorem okL_iff {s : Lay} : okL s = true ↔ 1 ≤ s.1 ∧ s.1 ≤ 6 ∧ 0 ≤ s.2.1 ∧ s.2.1 ≤ 65536 ∧ 0 ≤ s.2.2 ∧ s.2.2 ≤ (if s.1 = 1 then 65536 else 0) := by
  unfold okL okS; simp only [decide_eq_true_eq]
theorem okL_bd {s : Lay} (h : okL s = true) : 1 ≤ s.1 ∧ s.1 ≤ 6 ∧ 0 ≤ s.2.1 ∧ s.2.1 ≤ 65536 ∧ 0 ≤ s.2.2 ∧ s.2.2 ≤ 65536 ∧ (s.1 ≠ 1 → s.2.2 = 0) := by
  have := okL_iff.1 h
  split at this <;> omega
theorem chkS_t {s : Lay} (h : okL s = true) : chkS s.1 s.2.1 s.2.2 = 0 := by unfold chkS; unfold okL at h; rw [if_pos h]
theorem chkS_f {s : Lay} (h : ¬ okL s = true) : chkS s.1 s.2.1 s.2.2 = 21 := by unfold chkS; unfold okL at h; rw [if_neg h]
theorem kinds_get {k : Int} (h1 : 1 ≤ k) (h2 : k ≤ 6) : (Go.Awp.sc kinds)[(k - 1).toNat]? = some [.str (kw k)] := by
  have hl : kinds.length = 6 := rfl
  have hlt : (k - 1).toNat < kinds.length := by omega
  rw [sc_get hlt]
  unfold kw
  rw [List.getElem?_eq_getElem hlt]; rfl
theorem kw_size {k : Int} : (kw k).size ≤ 5 := by
  unfold kw
  cases h : kinds[(k - 1).toNat]? with
  | none => decide
  | some x =>
    have := List.mem_of_getElem? h
    simp only [kinds, List.mem_cons, List.not_mem_nil, or_false] at this
    rcases this with rfl | rfl | rfl | rfl | rfl | rfl <;> decide
theorem bl_size : bl.size = 1 := rfl
theorem str_app (a b c : ByteArray) : a ++ b ++ c = a ++ (b ++ c) := ByteArray.append_assoc
theorem app_bE (a : ByteArray) : a ++ bE = a := by
  rw [← ofL_data (a ++ bE), data_app]
  simp [ofL_data]
theorem PrintStep_ok (k m c : Int) : PCall Tryz.prog 6 [.agg (dc (k, m, c))] (.tuple [.str (psV (k, m, c)).1, I (psV (k, m, c)).2]) := by
  refine PCall.intro text6 (by simp) ?_
  unfold ir6
  simp only [walk, wl, rgets, retv, argsEnv, ev, cst, cst1, cstL, AEnv.get, AEnv.trim, envput, qstep, abin, aun, evs, evo, deref, qload, target, if_true, if_false, Nat.reduceEqDiff, reduceIte, Nat.reduceAdd, AV.cells, AV.isTuple, setMany, alen, aiaddr, afill, Nat.reduceLeDiff, Nat.reduceMul, Nat.reduceLT, afillE, List.replicate, dc]
  refine call_pure (CheckStep_ok k m c) (frzL_of' (d := 4) rfl) ?_
  by_cases hk : okL (k, m, c) = true
  · have hb := okL_bd hk
    simp only at hb
    have e : psV (k, m, c) = (stepT (k, m, c), 0) := by unfold psV; rw [if_pos hk]
    have e0 := chkS_t hk
    simp only at e0
    have g := kinds_get (k := k) (by omega) (by omega)
    have w1 : IntKind.i64.wrap (k - 1) = k - 1 := wrap_id (by omega) (by omega)
    have w2 : (0 : Int) ≤ k - 1 := by omega
    have w3 : k - 1 < 6 := by omega
    have kl : (Go.Awp.sc kinds).length = 6 := rfl
    have z1 := kw_size (k := k)
    have z2 := itoaB_size (n := m) (by omega)
    have z3 := itoaB_size (n := c) (by omega)
    have z4 := bl_size
    have q1 : (kw k).size + bl.size ≤ 9223372036854775807 := by omega
    have q2 : (kw k ++ bl).size + (itoaB m).size ≤ 9223372036854775807 := by simp only [ByteArray.size_append]; omega
    have q3 : bl.size + (itoaB c).size ≤ 9223372036854775807 := by omega
    have q4 : (kw k ++ bl ++ itoaB m).size + (bl ++ itoaB c).size ≤ 9223372036854775807 := by simp only [ByteArray.size_append]; omega
    rw [e0, e]
    simp only [walk, wl, rgets, retv, argsEnv, ev, cst, cst1, cstL, AEnv.get, AEnv.trim, envput, qstep, abin, aun, evs, evo, deref, qload, target, if_true, if_false, Nat.reduceEqDiff, reduceIte, Nat.reduceAdd, AV.cells, AV.isTuple, setMany, alen, aiaddr, afill, Nat.reduceLeDiff, Nat.reduceMul, Nat.reduceLT, afillE, List.replicate, bne_self_eq_false]
    refine dcall_pure words_ok (frzL_of (d := 1) rfl) ?_
    simp only [walk, wl, rgets, retv, argsEnv, ev, cst, cst1, cstL, AEnv.get, AEnv.trim, envput, qstep, abin, aun, evs, evo, deref, qload, target, if_true, if_false, Nat.reduceEqDiff, reduceIte, Nat.reduceAdd, AV.cells, AV.isTuple, setMany, alen, aiaddr, afill, Nat.reduceLeDiff, Nat.reduceMul, Nat.reduceLT, afillE, List.replicate, w1, w2, w3, kl, g, q1]
    refine dcall_pure (Itoa_ok m (by omega) (by omega)) (frzL_of (d := 1) rfl) ?_
    simp only [walk, wl, rgets, retv, argsEnv, ev, cst, cst1, cstL, AEnv.get, AEnv.trim, envput, qstep, abin, aun, evs, evo, deref, qload, target, if_true, if_false, Nat.reduceEqDiff, reduceIte, Nat.reduceAdd, AV.cells, AV.isTuple, setMany, alen, aiaddr, afill, Nat.reduceLeDiff, Nat.reduceMul, Nat.reduceLT, afillE, List.replicate, w1, w2, w3, kl, g, q1, q2]
    refine withBool_intro ?_ ?_ <;> intro h1 <;> simp only [walk, wl, rgets, retv, argsEnv, ev, cst, cst1, cstL, AEnv.get, AEnv.trim, envput, qstep, abin, aun, evs, evo, deref, qload, target, if_true, if_false, Nat.reduceEqDiff, reduceIte, Nat.reduceAdd, AV.cells, AV.isTuple, setMany, alen, aiaddr, afill, Nat.reduceLeDiff, Nat.reduceMul, Nat.reduceLT, afillE, List.replicate]
    · have h1 : k = 1 := by simpa using h1
      refine call_pure (Itoa_ok c (by omega) (by omega)) (frzL_of' (d := 1) rfl) ?_
      simp only [walk, wl, rgets, retv, argsEnv, ev, cst, cst1, cstL, AEnv.get, AEnv.trim, envput, qstep, abin, aun, evs, evo, deref, qload, target, if_true, if_false, Nat.reduceEqDiff, reduceIte, Nat.reduceAdd, AV.cells, AV.isTuple, setMany, alen, aiaddr, afill, Nat.reduceLeDiff, Nat.reduceMul, Nat.reduceLT, afillE, List.replicate, q3, q4]
      have et : stepT (k, m, c) = kw k ++ bl ++ itoaB m ++ (bl ++ itoaB c) := by unfold stepT; simp only [h1, if_true]
      rw [et]
      exact out_two out_str out_int
    · have h1 : ¬ k = 1 := by simpa using h1
      have et : stepT (k, m, c) = kw k ++ bl ++ itoaB m := by unfold stepT; simp only [h1, if_false, app_bE]
      rw [et]
      exact out_two out_str out_int
  · have e : psV (k, m, c) = (bE, 21) := by unfold psV; rw [if_neg hk]
    have e0 := chkS_f hk
    simp only at e0
    have t21 : ((21 : Int) != 0) = true := rfl
    rw [e0, e]
    simp only [walk, wl, rgets, retv, argsEnv, ev, cst, cst1, cstL, AEnv.get, AEnv.trim, envput, qstep, abin, aun, evs, evo, deref, qload, target, if_true, if_false, Nat.reduceEqDiff, reduceIte, Nat.reduceAdd, AV.cells, AV.isTuple, setMany, alen, aiaddr, afill, Nat.reduceLeDiff, Nat.reduceMul, Nat.reduceLT, afillE, List.replicate, t21]
    exact out_two out_str out_int
theorem rPrintStep_ok (k m c : Int) : PCall Tryz.prog 7 [.agg (dc (k, m, c))] (.tuple [.str (psV (k, m, c)).1, I (psV (k, m, c)).2]) := by
  refine PCall.intro text7 (by simp) ?_
  unfold ir7
  simp only [walk, wl, rgets, retv, argsEnv, ev, cst, cst1, cstL, AEnv.get, AEnv.trim, envput, qstep, abin, aun, evs, evo, deref, qload, target, if_true, if_false, Nat.reduceEqDiff, reduceIte, Nat.reduceAdd, AV.cells, AV.isTuple, setMany, alen, aiaddr, afill, Nat.reduceLeDiff, Nat.reduceMul, Nat.reduceLT, afillE, List.replicate, dc]
  refine call_pure (rCheckStep_ok k m c) (frzL_of' (d := 4) rfl) ?_
  by_cases hk : okL (k, m, c) = true
  · have hb := okL_bd hk
    simp only at hb
    have e : psV (k, m, c) = (stepT (k, m, c), 0) := by unfold psV; rw [if_pos hk]
    have e0 := chkS_t hk
    simp only at e0
    have g := kinds_get (k := k) (by omega) (by omega)
    have w1 : IntKind.i64.wrap (k - 1) = k - 1 := wrap_id (by omega) (by omega)
    have w2 : (0 : Int) ≤ k - 1 := by omega
    have w3 : k - 1 < 6 := by omega
    have kl : (Go.Awp.sc kinds).length = 6 := rfl
    have z1 := kw_size (k := k)
    have z2 := itoaB_size (n := m) (by omega)
    have z3 := itoaB_size (n := c) (by omega)
    have z4 := bl_size
    have q1 : (kw k).size + bl.size ≤ 9223372036854775807 := by omega
    have q2 : (kw k ++ bl).size + (itoaB m).size ≤ 9223372036854775807 := by simp only [ByteArray.size_append]; omega
    have q3 : (kw k ++ bl ++ itoaB m).size + bl.size ≤ 9223372036854775807 := by simp only [ByteArray.size_append]; omega
    have q4 : (kw k ++ bl ++ itoaB m ++ bl).size + (itoaB c).size ≤ 9223372036854775807 := by simp only [ByteArray.size_append]; omega
    rw [e0, e]
    simp only [walk, wl, rgets, retv, argsEnv, ev, cst, cst1, cstL, AEnv.get, AEnv.trim, envput, qstep, abin, aun, evs, evo, deref, qload, target, if_true, if_false, Nat.reduceEqDiff, reduceIte, Nat.reduceAdd, AV.cells, AV.isTuple, setMany, alen, aiaddr, afill, Nat.reduceLeDiff, Nat.reduceMul, Nat.reduceLT, afillE, List.replicate, bne_self_eq_false]
    refine dcall_pure rwords_ok (frzL_of (d := 1) rfl) ?_
    simp only [walk, wl, rgets, retv, argsEnv, ev, cst, cst1, cstL, AEnv.get, AEnv.trim, envput, qstep, abin, aun, evs, evo, deref, qload, target, if_true, if_false, Nat.reduceEqDiff, reduceIte, Nat.reduceAdd, AV.cells, AV.isTuple, setMany, alen, aiaddr, afill, Nat.reduceLeDiff, Nat.reduceMul, Nat.reduceLT, afillE, List.replicate, w1, w2, w3, kl, g, q1]
    refine dcall_pure (rnum_ok (n := m) (by omega) (by omega)) (frzL_of (d := 1) rfl) ?_
    simp only [walk, wl, rgets, retv, argsEnv, ev, cst, cst1, cstL, AEnv.get, AEnv.trim, envput, qstep, abin, aun, evs, evo, deref, qload, target, if_true, if_false, Nat.reduceEqDiff, reduceIte, Nat.reduceAdd, AV.cells, AV.isTuple, setMany, alen, aiaddr, afill, Nat.reduceLeDiff, Nat.reduceMul, Nat.reduceLT, afillE, List.replicate, w1, w2, w3, kl, g, q1, q2]
    refine withBool_intro ?_ ?_ <;> intro h1 <;> simp only [walk, wl, rgets, retv, argsEnv, ev, cst, cst1, cstL, AEnv.get, AEnv.trim, envput, qstep, abin, aun, evs, evo, deref, qload, target, if_true, if_false, Nat.reduceEqDiff, reduceIte, Nat.reduceAdd, AV.cells, AV.isTuple, setMany, alen, aiaddr, afill, Nat.reduceLeDiff, Nat.reduceMul, Nat.reduceLT, afillE, List.replicate, q3]
    · have h1 : k = 1 := by simpa using h1
      refine call_pure (rnum_ok (n := c) (by omega) (by omega)) (frzL_of' (d := 1) rfl) ?_
      simp only [walk, wl, rgets, retv, argsEnv, ev, cst, cst1, cstL, AEnv.get, AEnv.trim, envput, qstep, abin, aun, evs, evo, deref, qload, target, if_true, if_false, Nat.reduceEqDiff, reduceIte, Nat.reduceAdd, AV.cells, AV.isTuple, setMany, alen, aiaddr, afill, Nat.reduceLeDiff, Nat.reduceMul, Nat.reduceLT, afillE, List.replicate, q3, q4]
      have et : stepT (k, m, c) = kw k ++ bl ++ itoaB m ++ bl ++ itoaB c := by unfold stepT; simp only [h1, if_true]; rw [← str_app]
      rw [et]
      exact out_two out_str out_int
    · have h1 : ¬ k = 1 := by simpa using h1
      have et : stepT (k, m, c) = kw k ++ bl ++ itoaB m := by unfold stepT; simp only [h1, if_false, app_bE]
      rw [et]
      exact out_two out_str out_int
  · have e : psV (k, m, c) = (bE, 21) := by unfold psV; rw [if_neg hk]
    have e0 := chkS_f hk
    simp only at e0
    have t21 : ((21 : Int) != 0) = true := rfl
    rw [e0, e]
    simp only [walk, wl, rgets, retv, argsEnv, ev, cst, cst1, cstL, AEnv.get, AEnv.trim, envput, qstep, abin, aun, evs, evo, deref, qload, target, if_true, if_false, Nat.reduceEqDiff, reduceIte, Nat.reduceAdd, AV.cells, AV.isTuple, setMany, alen, aiaddr, afill, Nat.reduceLeDiff, Nat.reduceMul, Nat.reduceLT, afillE, List.replicate, t21]
    exact out_two out_str out_int
end Go.Proofs.YtomejgikdelgkaaGreatDoor
