/- PackTexts holds. -/
import Derived.Test.YtomejgikdelgkaaGreatDoorQT3
import Derived.Test.YtomejgikdelgkaaGreatDoorQE0
import Derived.Test.YtomejgikdelgkaaGreatDoorQE1
import Derived.Test.YtomejgikdelgkaaGreatDoorQP8
set_option linter.unusedVariables false
set_option linter.unusedSimpArgs false
set_option linter.unusedSectionVars false
namespace Go.Proofs.YtomejgikdelgkaaGreatDoor
open Go.Awp Go.Snow
set_option linter.unusedSimpArgs false
set_option linter.unusedVariables false
set_option linter.unusedSectionVars false
set_option maxRecDepth 10000
theorem bself (b : ByteArray) : (b != b) = false := by rw [bneB]; simp
theorem bself2 (b : ByteArray) : (b == b) = true := by rw [beqB]; simp
theorem psV_size (k m c : Int) : (psV (k, m, c)).1.size ≤ 1048576 := by
  unfold psV
  split
  · rename_i h
    have hb := okL_bd h
    simp only at hb
    have z1 := kw_size (k := k)
    have z2 := itoaB_size (n := m) (by omega)
    have z3 := itoaB_size (n := c) (by omega)
    have z4 := bl_size
    have z5 : bE.size = 0 := rfl
    simp only [stepT]
    split <;> simp only [ByteArray.size_append] <;> omega
  · show bE.size ≤ _
    have z5 : bE.size = 0 := rfl
    omega
theorem printV_size (ls : List Lay) : (printV ls).1.size ≤ 1048576 := by
  unfold printV
  split
  · rename_i h
    have := text_size h
    simp only; omega
  · show bE.size ≤ _
    have z5 : bE.size = 0 := rfl
    omega
theorem psV_c (k m c : Int) : (okL (k, m, c) = true ∧ psV (k, m, c) = (stepT (k, m, c), 0)) ∨ (psV (k, m, c)).2 = 21 := by
  by_cases h : okL (k, m, c) = true
  · exact .inl ⟨h, by unfold psV; rw [if_pos h]⟩
  · exact .inr (by unfold psV; rw [if_neg h])
theorem printV_c (ls : List Lay) : (okP ls = true ∧ printV ls = (textV ls, 0)) ∨ (printV ls).2 = 20 := by
  by_cases h : okP ls = true
  · exact .inl ⟨h, by unfold printV; rw [if_pos h]⟩
  · exact .inr (by unfold printV; rw [if_neg h])
theorem pkD_len (t : ByteArray) : (pkD (pkP t)).length ≤ 1099511627776 := by
  cases h : pkP t with
  | none => simp [pkD]
  | some ls =>
    have := (okP_iff.1 (pkP_is h).1).1
    show ls.length ≤ _
    omega
theorem PackTexts_ok (k m c : Int) (p : List Lay) (t : ByteArray) (ht : t.size ≤ 1048576) : PCall Tryz.prog 3 [.agg (dc (k, m, c)), .agg [.ro false (rows p)], .str t] (.bool true) := by
  refine PCall.intro text3 (by simp) ?_
  unfold ir3
  simp only [walk, wl, rgets, retv, argsEnv, ev, cst, cst1, cstL, AEnv.get, AEnv.trim, envput, qstep, abin, aun, evs, evo, deref, qload, target, if_true, if_false, Nat.reduceEqDiff, reduceIte, Nat.reduceAdd, AV.cells, AV.isTuple, setMany, alen, aiaddr, afill, Nat.reduceLeDiff, Nat.reduceMul, Nat.reduceLT, afillE, List.replicate, dc]
  refine call_pure sane_ok (frzL_of' (d := 4) rfl) ?_
  simp only [walk, wl, rgets, retv, argsEnv, ev, cst, cst1, cstL, AEnv.get, AEnv.trim, envput, qstep, abin, aun, evs, evo, deref, qload, target, if_true, if_false, Nat.reduceEqDiff, reduceIte, Nat.reduceAdd, AV.cells, AV.isTuple, setMany, alen, aiaddr, afill, Nat.reduceLeDiff, Nat.reduceMul, Nat.reduceLT, afillE, List.replicate]
  refine call_pure (few_ok [p] (by simp)) (frzL_of' (d := 5) (carL_cons (car_packs rfl rfl) rfl)) ?_
  simp only [walk, wl, rgets, retv, argsEnv, ev, cst, cst1, cstL, AEnv.get, AEnv.trim, envput, qstep, abin, aun, evs, evo, deref, qload, target, if_true, if_false, Nat.reduceEqDiff, reduceIte, Nat.reduceAdd, AV.cells, AV.isTuple, setMany, alen, aiaddr, afill, Nat.reduceLeDiff, Nat.reduceMul, Nat.reduceLT, afillE, List.replicate]
  refine withBool_intro ?_ ?_ <;> intro hf <;> simp only [walk, wl, rgets, retv, argsEnv, ev, cst, cst1, cstL, AEnv.get, AEnv.trim, envput, qstep, abin, aun, evs, evo, deref, qload, target, if_true, if_false, Nat.reduceEqDiff, reduceIte, Nat.reduceAdd, AV.cells, AV.isTuple, setMany, alen, aiaddr, afill, Nat.reduceLeDiff, Nat.reduceMul, Nat.reduceLT, afillE, List.replicate]
  · exact out_bool
  · refine call_pure (PrintStep_ok k m c) (frzL_of' (d := 4) rfl) ?_
    simp only [walk, wl, rgets, retv, argsEnv, ev, cst, cst1, cstL, AEnv.get, AEnv.trim, envput, qstep, abin, aun, evs, evo, deref, qload, target, if_true, if_false, Nat.reduceEqDiff, reduceIte, Nat.reduceAdd, AV.cells, AV.isTuple, setMany, alen, aiaddr, afill, Nat.reduceLeDiff, Nat.reduceMul, Nat.reduceLT, afillE, List.replicate]
    refine call_pure (rPrintStep_ok k m c) (frzL_of' (d := 4) rfl) ?_
    simp only [walk, wl, rgets, retv, argsEnv, ev, cst, cst1, cstL, AEnv.get, AEnv.trim, envput, qstep, abin, aun, evs, evo, deref, qload, target, if_true, if_false, Nat.reduceEqDiff, reduceIte, Nat.reduceAdd, AV.cells, AV.isTuple, setMany, alen, aiaddr, afill, Nat.reduceLeDiff, Nat.reduceMul, Nat.reduceLT, afillE, List.replicate]
    refine call_pure (ParseStep_ok t ht) (frzL_of' (d := 1) rfl) ?_
    unfold ppAV
    simp only [walk, wl, rgets, retv, argsEnv, ev, cst, cst1, cstL, AEnv.get, AEnv.trim, envput, qstep, abin, aun, evs, evo, deref, qload, target, if_true, if_false, Nat.reduceEqDiff, reduceIte, Nat.reduceAdd, AV.cells, AV.isTuple, setMany, alen, aiaddr, afill, Nat.reduceLeDiff, Nat.reduceMul, Nat.reduceLT, afillE, List.replicate, dc]
    refine call_pure (rParseStep_ok t ht) (frzL_of' (d := 1) rfl) ?_
    rw [step_same]
    unfold ppAV
    simp only [walk, wl, rgets, retv, argsEnv, ev, cst, cst1, cstL, AEnv.get, AEnv.trim, envput, qstep, abin, aun, evs, evo, deref, qload, target, if_true, if_false, Nat.reduceEqDiff, reduceIte, Nat.reduceAdd, AV.cells, AV.isTuple, setMany, alen, aiaddr, afill, Nat.reduceLeDiff, Nat.reduceMul, Nat.reduceLT, afillE, List.replicate, dc]
    refine call_pure (Print_ok p) (frzL_of' (d := 4) car_pkL) ?_
    simp only [walk, wl, rgets, retv, argsEnv, ev, cst, cst1, cstL, AEnv.get, AEnv.trim, envput, qstep, abin, aun, evs, evo, deref, qload, target, if_true, if_false, Nat.reduceEqDiff, reduceIte, Nat.reduceAdd, AV.cells, AV.isTuple, setMany, alen, aiaddr, afill, Nat.reduceLeDiff, Nat.reduceMul, Nat.reduceLT, afillE, List.replicate]
    refine call_pure (rPrint_ok p) (frzL_of' (d := 4) car_pkL) ?_
    simp only [walk, wl, rgets, retv, argsEnv, ev, cst, cst1, cstL, AEnv.get, AEnv.trim, envput, qstep, abin, aun, evs, evo, deref, qload, target, if_true, if_false, Nat.reduceEqDiff, reduceIte, Nat.reduceAdd, AV.cells, AV.isTuple, setMany, alen, aiaddr, afill, Nat.reduceLeDiff, Nat.reduceMul, Nat.reduceLT, afillE, List.replicate]
    refine call_pure (Parse_ok t ht) (frzL_of' (d := 1) rfl) ?_
    unfold pkAV
    simp only [walk, wl, rgets, retv, argsEnv, ev, cst, cst1, cstL, AEnv.get, AEnv.trim, envput, qstep, abin, aun, evs, evo, deref, qload, target, if_true, if_false, Nat.reduceEqDiff, reduceIte, Nat.reduceAdd, AV.cells, AV.isTuple, setMany, alen, aiaddr, afill, Nat.reduceLeDiff, Nat.reduceMul, Nat.reduceLT, afillE, List.replicate]
    refine call_pure (rParse_ok t ht) (frzL_of' (d := 1) rfl) ?_
    rw [pack_same]
    unfold pkAV
    have hpl := pkD_len t
    obtain ⟨A, hA⟩ : ∃ A, A = (psV (k, m, c)).1 := ⟨_, rfl⟩
    obtain ⟨B, hB⟩ : ∃ B, B = (psV (k, m, c)).2 := ⟨_, rfl⟩
    obtain ⟨C, hC⟩ : ∃ C, C = (printV p).1 := ⟨_, rfl⟩
    obtain ⟨D, hD⟩ : ∃ D, D = (printV p).2 := ⟨_, rfl⟩
    obtain ⟨x, hx⟩ : ∃ x, x = ppD (ppS t) := ⟨_, rfl⟩
    obtain ⟨xe, hxe⟩ : ∃ x, x = ppE (ppS t) := ⟨_, rfl⟩
    obtain ⟨y, hy⟩ : ∃ x, x = pkD (pkP t) := ⟨_, rfl⟩
    obtain ⟨ye, hye⟩ : ∃ x, x = ppE (pkP t) := ⟨_, rfl⟩
    have hAs : A.size ≤ 1048576 := hA ▸ psV_size k m c
    have hCs : C.size ≤ 1048576 := hC ▸ printV_size p
    rw [← hA, ← hB, ← hC, ← hD, ← hx, ← hxe, ← hy, ← hye]
    rw [← hy] at hpl
    have b1 := bself A
    have b2 := bself C
    have b3 := bself2 A
    have b4 := bself2 C
    simp only [walk, wl, rgets, retv, argsEnv, ev, cst, cst1, cstL, AEnv.get, AEnv.trim, envput, qstep, abin, aun, evs, evo, deref, qload, target, if_true, if_false, Nat.reduceEqDiff, reduceIte, Nat.reduceAdd, AV.cells, AV.isTuple, setMany, alen, aiaddr, afill, Nat.reduceLeDiff, Nat.reduceMul, Nat.reduceLT, afillE, List.replicate, b1, b2, b3, b4, bne_self_eq_false, beq_self_eq_true, aeqO, Bool.not_true, Bool.and_self]
    refine call_pure (Same_ok y y hpl) (frzL_of' (d := 4) (carL_cons car_pk (carL_cons car_pk rfl))) ?_
    simp only [walk, wl, rgets, retv, argsEnv, ev, cst, cst1, cstL, AEnv.get, AEnv.trim, envput, qstep, abin, aun, evs, evo, deref, qload, target, if_true, if_false, Nat.reduceEqDiff, reduceIte, Nat.reduceAdd, AV.cells, AV.isTuple, setMany, alen, aiaddr, afill, Nat.reduceLeDiff, Nat.reduceMul, Nat.reduceLT, afillE, List.replicate, decide_true, bne_self_eq_false, Bool.not_true]
    rcases psV_c k m c with ⟨hk, e8⟩ | e8
    · rw [e8] at hA hB
      simp only at hA hB
      have c0 : (B == 0) = true := by rw [hB]; rfl
      simp only [walk, wl, rgets, retv, argsEnv, ev, cst, cst1, cstL, AEnv.get, AEnv.trim, envput, qstep, abin, aun, evs, evo, deref, qload, target, if_true, if_false, Nat.reduceEqDiff, reduceIte, Nat.reduceAdd, AV.cells, AV.isTuple, setMany, alen, aiaddr, afill, Nat.reduceLeDiff, Nat.reduceMul, Nat.reduceLT, afillE, List.replicate, c0]
      refine call_pure (ParseStep_ok A hAs) (frzL_of' (d := 1) rfl) ?_
      rw [hA, ppS_of hk]
      unfold ppAV
      simp only [walk, wl, rgets, retv, argsEnv, ev, cst, cst1, cstL, AEnv.get, AEnv.trim, envput, qstep, abin, aun, evs, evo, deref, qload, target, if_true, if_false, Nat.reduceEqDiff, reduceIte, Nat.reduceAdd, AV.cells, AV.isTuple, setMany, alen, aiaddr, afill, Nat.reduceLeDiff, Nat.reduceMul, Nat.reduceLT, afillE, List.replicate, dc, ppD, ppE, bne_self_eq_false, beq_self_eq_true, aeqO, Bool.not_true, Bool.and_self]
      rcases printV_c p with ⟨hp, e9⟩ | e9
      · rw [e9] at hC hD
        simp only at hC hD
        have d0 : (D == 0) = true := by rw [hD]; rfl
        simp only [walk, wl, rgets, retv, argsEnv, ev, cst, cst1, cstL, AEnv.get, AEnv.trim, envput, qstep, abin, aun, evs, evo, deref, qload, target, if_true, if_false, Nat.reduceEqDiff, reduceIte, Nat.reduceAdd, AV.cells, AV.isTuple, setMany, alen, aiaddr, afill, Nat.reduceLeDiff, Nat.reduceMul, Nat.reduceLT, afillE, List.replicate, d0]
        refine call_pure (Parse_ok C hCs) (frzL_of' (d := 1) rfl) ?_
        rw [hC, pkP_of hp]
        unfold pkAV
        have hp1 : p.length ≤ 1099511627776 := by have := (okP_iff.1 hp).1; omega
        simp only [walk, wl, rgets, retv, argsEnv, ev, cst, cst1, cstL, AEnv.get, AEnv.trim, envput, qstep, abin, aun, evs, evo, deref, qload, target, if_true, if_false, Nat.reduceEqDiff, reduceIte, Nat.reduceAdd, AV.cells, AV.isTuple, setMany, alen, aiaddr, afill, Nat.reduceLeDiff, Nat.reduceMul, Nat.reduceLT, afillE, List.replicate, pkD, ppE, bne_self_eq_false]
        refine call_pure (Same_ok p p hp1) (frzL_of' (d := 4) (carL_cons car_pk (carL_cons car_pk rfl))) ?_
        simp only [walk, wl, rgets, retv, argsEnv, ev, cst, cst1, cstL, AEnv.get, AEnv.trim, envput, qstep, abin, aun, evs, evo, deref, qload, target, if_true, if_false, Nat.reduceEqDiff, reduceIte, Nat.reduceAdd, AV.cells, AV.isTuple, setMany, alen, aiaddr, afill, Nat.reduceLeDiff, Nat.reduceMul, Nat.reduceLT, afillE, List.replicate, decide_true]
        exact out_bool
      · rw [e9] at hD
        have d0 : (D == 0) = false := by rw [hD]; rfl
        simp only [walk, wl, rgets, retv, argsEnv, ev, cst, cst1, cstL, AEnv.get, AEnv.trim, envput, qstep, abin, aun, evs, evo, deref, qload, target, if_true, if_false, Nat.reduceEqDiff, reduceIte, Nat.reduceAdd, AV.cells, AV.isTuple, setMany, alen, aiaddr, afill, Nat.reduceLeDiff, Nat.reduceMul, Nat.reduceLT, afillE, List.replicate, d0]
        exact out_bool
    · rw [e8] at hB
      have c0 : (B == 0) = false := by rw [hB]; rfl
      simp only [walk, wl, rgets, retv, argsEnv, ev, cst, cst1, cstL, AEnv.get, AEnv.trim, envput, qstep, abin, aun, evs, evo, deref, qload, target, if_true, if_false, Nat.reduceEqDiff, reduceIte, Nat.reduceAdd, AV.cells, AV.isTuple, setMany, alen, aiaddr, afill, Nat.reduceLeDiff, Nat.reduceMul, Nat.reduceLT, afillE, List.replicate, c0]
      rcases printV_c p with ⟨hp, e9⟩ | e9
      · rw [e9] at hC hD
        simp only at hC hD
        have d0 : (D == 0) = true := by rw [hD]; rfl
        simp only [walk, wl, rgets, retv, argsEnv, ev, cst, cst1, cstL, AEnv.get, AEnv.trim, envput, qstep, abin, aun, evs, evo, deref, qload, target, if_true, if_false, Nat.reduceEqDiff, reduceIte, Nat.reduceAdd, AV.cells, AV.isTuple, setMany, alen, aiaddr, afill, Nat.reduceLeDiff, Nat.reduceMul, Nat.reduceLT, afillE, List.replicate, d0]
        refine call_pure (Parse_ok C hCs) (frzL_of' (d := 1) rfl) ?_
        rw [hC, pkP_of hp]
        unfold pkAV
        have hp1 : p.length ≤ 1099511627776 := by have := (okP_iff.1 hp).1; omega
        simp only [walk, wl, rgets, retv, argsEnv, ev, cst, cst1, cstL, AEnv.get, AEnv.trim, envput, qstep, abin, aun, evs, evo, deref, qload, target, if_true, if_false, Nat.reduceEqDiff, reduceIte, Nat.reduceAdd, AV.cells, AV.isTuple, setMany, alen, aiaddr, afill, Nat.reduceLeDiff, Nat.reduceMul, Nat.reduceLT, afillE, List.replicate, pkD, ppE, bne_self_eq_false]
        refine call_pure (Same_ok p p hp1) (frzL_of' (d := 4) (carL_cons car_pk (carL_cons car_pk rfl))) ?_
        simp only [walk, wl, rgets, retv, argsEnv, ev, cst, cst1, cstL, AEnv.get, AEnv.trim, envput, qstep, abin, aun, evs, evo, deref, qload, target, if_true, if_false, Nat.reduceEqDiff, reduceIte, Nat.reduceAdd, AV.cells, AV.isTuple, setMany, alen, aiaddr, afill, Nat.reduceLeDiff, Nat.reduceMul, Nat.reduceLT, afillE, List.replicate, decide_true]
        exact out_bool
      · rw [e9] at hD
        have d0 : (D == 0) = false := by rw [hD]; rfl
        simp only [walk, wl, rgets, retv, argsEnv, ev, cst, cst1, cstL, AEnv.get, AEnv.trim, envput, qstep, abin, aun, evs, evo, deref, qload, target, if_true, if_false, Nat.reduceEqDiff, reduceIte, Nat.reduceAdd, AV.cells, AV.isTuple, setMany, alen, aiaddr, afill, Nat.reduceLeDiff, Nat.reduceMul, Nat.reduceLT, afillE, List.replicate, d0]
        exact out_bool
end Go.Proofs.YtomejgikdelgkaaGreatDoor
