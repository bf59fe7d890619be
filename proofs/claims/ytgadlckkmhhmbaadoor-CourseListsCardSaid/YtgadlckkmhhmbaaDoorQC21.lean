/- Contracts: Corrected of the specification. -/
import Derived.Test.YtgadlckkmhhmbaaDoorQC20
set_option linter.unusedVariables false
set_option linter.unusedSimpArgs false
set_option linter.unusedSectionVars false
namespace Go.Proofs.YtgadlckkmhhmbaaDoor
open Go.Awp Go.Grams
set_option linter.unusedSimpArgs false
set_option linter.unusedVariables false
set_option linter.unusedSectionVars false
set_option maxRecDepth 10000
theorem rCorrected_ok (no rate : Int) (ts : List Tst) (l : List Sht) (bf af : Int) : PCall Tryd.prog 44 [sc no rate ts, .ro false (srows l), I bf, I af] (crV no rate ts l bf af) := by
  refine PCall.intro text44 (by simp) ?_
  unfold ir44
  simp only [walk, wl, rgets, retv, argsEnv, ev, cst, cst1, cstL, AEnv.get, AEnv.trim, envput, qstep, abin, aun, evs, evo, deref, qload, target, if_true, if_false, Nat.reduceEqDiff, reduceIte, Nat.reduceAdd, AV.cells, AV.isTuple, setMany, alen, aiaddr, afill, Nat.reduceLeDiff, Nat.reduceMul, Nat.reduceLT, afillE, List.replicate]
  refine call_pure (rCheckScale_ok no rate ts) (frzL_of' (d := 4) (carL_cons car_sc rfl)) ?_
  simp only [walk, wl, rgets, retv, argsEnv, ev, cst, cst1, cstL, AEnv.get, AEnv.trim, envput, qstep, abin, aun, evs, evo, deref, qload, target, if_true, if_false, Nat.reduceEqDiff, reduceIte, Nat.reduceAdd, AV.cells, AV.isTuple, setMany, alen, aiaddr, afill, Nat.reduceLeDiff, Nat.reduceMul, Nat.reduceLT, afillE, List.replicate]
  refine withBool_intro ?_ ?_ <;> intro h1 <;> simp only [walk, wl, rgets, retv, argsEnv, ev, cst, cst1, cstL, AEnv.get, AEnv.trim, envput, qstep, abin, aun, evs, evo, deref, qload, target, if_true, if_false, Nat.reduceEqDiff, reduceIte, Nat.reduceAdd, AV.cells, AV.isTuple, setMany, alen, aiaddr, afill, Nat.reduceLeDiff, Nat.reduceMul, Nat.reduceLT, afillE, List.replicate]
  · have h1' : chkS no rate ts ≠ 0 := by simpa using h1
    exact cr_bad (by unfold crE; rw [if_pos h1']) h1' _
  · have h1' : chkS no rate ts = 0 := by simpa using h1
    refine call_pure (rsheets_ok l) (frzL_of' (d := 4) (carL_cons car_srows rfl)) ?_
    simp only [walk, wl, rgets, retv, argsEnv, ev, cst, cst1, cstL, AEnv.get, AEnv.trim, envput, qstep, abin, aun, evs, evo, deref, qload, target, if_true, if_false, Nat.reduceEqDiff, reduceIte, Nat.reduceAdd, AV.cells, AV.isTuple, setMany, alen, aiaddr, afill, Nat.reduceLeDiff, Nat.reduceMul, Nat.reduceLT, afillE, List.replicate]
    refine withBool_intro ?_ ?_ <;> intro h2 <;> simp only [walk, wl, rgets, retv, argsEnv, ev, cst, cst1, cstL, AEnv.get, AEnv.trim, envput, qstep, abin, aun, evs, evo, deref, qload, target, if_true, if_false, Nat.reduceEqDiff, reduceIte, Nat.reduceAdd, AV.cells, AV.isTuple, setMany, alen, aiaddr, afill, Nat.reduceLeDiff, Nat.reduceMul, Nat.reduceLT, afillE, List.replicate]
    · have h2' : shsE l ≠ 0 := by simpa using h2
      exact cr_bad (by unfold crE; rw [if_neg (by simp [h1']), if_pos h2']) h2' _
    · have h2' : shsE l = 0 := by simpa using h2
      have bad : ¬ (okDay bf = true ∧ okDay af = true) → crE no rate ts l bf af = 1 := fun h => by unfold crE; rw [if_neg (by simp [h1']), if_neg (by simp [h2']), if_neg h]
      have hl : l.length ≤ 256 := by
        unfold shsE at h2'; split at h2'
        · cases h2'
        · omega
      refine call_pure (rDay_ok bf) (frzL_of' (d := 1) rfl) ?_
      simp only [walk, wl, rgets, retv, argsEnv, ev, cst, cst1, cstL, AEnv.get, AEnv.trim, envput, qstep, abin, aun, evs, evo, deref, qload, target, if_true, if_false, Nat.reduceEqDiff, reduceIte, Nat.reduceAdd, AV.cells, AV.isTuple, setMany, alen, aiaddr, afill, Nat.reduceLeDiff, Nat.reduceMul, Nat.reduceLT, afillE, List.replicate]
      refine call_pure (rDay_ok af) (frzL_of' (d := 1) rfl) ?_
      simp only [walk, wl, rgets, retv, argsEnv, ev, cst, cst1, cstL, AEnv.get, AEnv.trim, envput, qstep, abin, aun, evs, evo, deref, qload, target, if_true, if_false, Nat.reduceEqDiff, reduceIte, Nat.reduceAdd, AV.cells, AV.isTuple, setMany, alen, aiaddr, afill, Nat.reduceLeDiff, Nat.reduceMul, Nat.reduceLT, afillE, List.replicate]
      refine withGuard_intro ?_ ?_ <;> intro h3 <;> simp only [walk, wl, rgets, retv, argsEnv, ev, cst, cst1, cstL, AEnv.get, AEnv.trim, envput, qstep, abin, aun, evs, evo, deref, qload, target, if_true, if_false, Nat.reduceEqDiff, reduceIte, Nat.reduceAdd, AV.cells, AV.isTuple, setMany, alen, aiaddr, afill, Nat.reduceLeDiff, Nat.reduceMul, Nat.reduceLT, afillE, List.replicate, h3]
      · refine withBool_intro ?_ ?_ <;> intro h4 <;> simp only [walk, wl, rgets, retv, argsEnv, ev, cst, cst1, cstL, AEnv.get, AEnv.trim, envput, qstep, abin, aun, evs, evo, deref, qload, target, if_true, if_false, Nat.reduceEqDiff, reduceIte, Nat.reduceAdd, AV.cells, AV.isTuple, setMany, alen, aiaddr, afill, Nat.reduceLeDiff, Nat.reduceMul, Nat.reduceLT, afillE, List.replicate]
        · exact cr_bad (bad (by simp at h4; simp [h4])) (by decide) _
        · have hE : crE no rate ts l bf af = 0 := by unfold crE; rw [if_neg (by simp [h1']), if_neg (by simp [h2']), if_pos ⟨by simpa using h3, by simpa using h4⟩]
          refine awp_loop (σ := Nat × AV) (fun s => [(1, .ro false (srows l)), (2, I bf), (3, I af), (4, .ptr 0 1 0 0), (13, s.2), (14, I s.1)]) (fun s H => 1 ≤ H.length ∧ AHeap.obj H 0 = some ⟨24, 3, [[I no, I rate, .ro false (trows ts)]]⟩ ∧ Acc 1 H s.2 3 1 (ic (idxs (crq no rate ts l bf af) s.1))) (fun s => s.1 ≤ l.length) (fun s => l.length - s.1) (0, .nilSlice) (Nat.zero_le _) rfl ⟨by simp, rfl, .inl ⟨rfl, rfl⟩⟩ ?_
          rintro ⟨k, a⟩ H hk ⟨hH, o0, hacc⟩
          simp only at hk hacc
          simp only [walkS, wl, rgets, retv, argsEnv, ev, cst, cst1, cstL, AEnv.get, AEnv.trim, envput, qstep, abin, aun, evs, evo, deref, qload, target, if_true, if_false, Nat.reduceEqDiff, reduceIte, Nat.reduceAdd, AV.cells, AV.isTuple, setMany, alen, aiaddr, afill, Nat.reduceLeDiff, Nat.reduceMul, Nat.reduceLT, afillE, List.replicate, srows_length]
          refine withBool_intro ?_ ?_ <;> intro hb <;> simp only [walkS, wl, rgets, retv, argsEnv, ev, cst, cst1, cstL, AEnv.get, AEnv.trim, envput, qstep, abin, aun, evs, evo, deref, qload, target, if_true, if_false, Nat.reduceEqDiff, reduceIte, Nat.reduceAdd, AV.cells, AV.isTuple, setMany, alen, aiaddr, afill, Nat.reduceLeDiff, Nat.reduceMul, Nat.reduceLT, afillE, List.replicate]
          · have hlt : k < l.length := by simpa using hb
            have w1 := w_succ (k := k) (by omega)
            have hq := crq_get (no := no) (rate := rate) (bf := bf) (af := af) (ts := ts) hlt
            simp only [walkS, wl, rgets, retv, argsEnv, ev, cst, cst1, cstL, AEnv.get, AEnv.trim, envput, qstep, abin, aun, evs, evo, deref, qload, target, if_true, if_false, Nat.reduceEqDiff, reduceIte, Nat.reduceAdd, AV.cells, AV.isTuple, setMany, alen, aiaddr, afill, Nat.reduceLeDiff, Nat.reduceMul, Nat.reduceLT, afillE, List.replicate, srows_get hlt, o0]
            refine withBool_intro ?_ ?_ <;> intro g1 <;> simp only [walkS, wl, rgets, retv, argsEnv, ev, cst, cst1, cstL, AEnv.get, AEnv.trim, envput, qstep, abin, aun, evs, evo, deref, qload, target, if_true, if_false, Nat.reduceEqDiff, reduceIte, Nat.reduceAdd, AV.cells, AV.isTuple, setMany, alen, aiaddr, afill, Nat.reduceLeDiff, Nat.reduceMul, Nat.reduceLT, afillE, List.replicate, w1]
            · refine loop_end (k + 1, a) hlt (by simp only; omega) rfl ⟨by omega, o0, ?_⟩
              rw [idxs_f (by rw [hq]; simp at g1; simp [g1])]; exact hacc
            · have hsc : l[k].scale = no := by simpa using g1
              simp only [walkS, wl, rgets, retv, argsEnv, ev, cst, cst1, cstL, AEnv.get, AEnv.trim, envput, qstep, abin, aun, evs, evo, deref, qload, target, if_true, if_false, Nat.reduceEqDiff, reduceIte, Nat.reduceAdd, AV.cells, AV.isTuple, setMany, alen, aiaddr, afill, Nat.reduceLeDiff, Nat.reduceMul, Nat.reduceLT, afillE, List.replicate, srows_get hlt, o0]
              refine dcall_pure (rCourse_ok no rate ts l[k] bf) (fun X => frzL_of (d := 4) (carL_cons car_sc (carL_cons car_sh rfl)) X) ?_
              simp only [walkS, wl, rgets, retv, argsEnv, ev, cst, cst1, cstL, AEnv.get, AEnv.trim, envput, qstep, abin, aun, evs, evo, deref, qload, target, if_true, if_false, Nat.reduceEqDiff, reduceIte, Nat.reduceAdd, AV.cells, AV.isTuple, setMany, alen, aiaddr, afill, Nat.reduceLeDiff, Nat.reduceMul, Nat.reduceLT, afillE, List.replicate]
              refine storeW rfl rfl AHeap.obj_push_eq rfl ⟨rfl, rfl, rfl, by simp⟩ fun H2 z1 z2 z3 => ?_
              simp only [AV.cells, setMany, List.set_cons_zero, List.set_cons_succ] at z2
              simp only [List.length_append, List.length_cons, List.length_nil] at z1
              have p0 := (z3 0 (by omega)).trans (obj_keep o0)
              have hacc2 : Acc 1 H2 a 3 1 (ic (idxs (crq no rate ts l bf af) k)) := hacc.keep fun i h1 h2 => by rw [z3 i (by omega), AHeap.obj_push_lt h2]
              simp only [walkS, wl, rgets, retv, argsEnv, ev, cst, cst1, cstL, AEnv.get, AEnv.trim, envput, qstep, abin, aun, evs, evo, deref, qload, target, if_true, if_false, Nat.reduceEqDiff, reduceIte, Nat.reduceAdd, AV.cells, AV.isTuple, setMany, alen, aiaddr, afill, Nat.reduceLeDiff, Nat.reduceMul, Nat.reduceLT, afillE, List.replicate, p0, srows_get hlt]
              refine dcall_pure (rCourse_ok no rate ts l[k] af) (fun X => frzL_of (d := 4) (carL_cons car_sc (carL_cons car_sh rfl)) X) ?_
              simp only [walkS, wl, rgets, retv, argsEnv, ev, cst, cst1, cstL, AEnv.get, AEnv.trim, envput, qstep, abin, aun, evs, evo, deref, qload, target, if_true, if_false, Nat.reduceEqDiff, reduceIte, Nat.reduceAdd, AV.cells, AV.isTuple, setMany, alen, aiaddr, afill, Nat.reduceLeDiff, Nat.reduceMul, Nat.reduceLT, afillE, List.replicate]
              refine storeW rfl rfl AHeap.obj_push_eq rfl ⟨rfl, rfl, rfl, by simp⟩ fun H3 v1 v2 v3 => ?_
              simp only [AV.cells, setMany, List.set_cons_zero, List.set_cons_succ] at v2
              simp only [List.length_append, List.length_cons, List.length_nil] at v1
              have p0 := (v3 0 (by omega)).trans (obj_keep p0)
              have p2 := (v3 H.length (by omega)).trans (obj_keep z2)
              have hacc3 : Acc 1 H3 a 3 1 (ic (idxs (crq no rate ts l bf af) k)) := hacc2.keep fun i h1 h2 => by rw [v3 i (by omega), AHeap.obj_push_lt h2]
              simp only [walkS, wl, rgets, retv, argsEnv, ev, cst, cst1, cstL, AEnv.get, AEnv.trim, envput, qstep, abin, aun, evs, evo, deref, qload, target, if_true, if_false, Nat.reduceEqDiff, reduceIte, Nat.reduceAdd, AV.cells, AV.isTuple, setMany, alen, aiaddr, afill, Nat.reduceLeDiff, Nat.reduceMul, Nat.reduceLT, afillE, List.replicate, p2, v2, aeqO, Nat.reduceAdd, Bool.and_true, ← sp_ne]
              refine withGuard_intro ?_ ?_ <;> intro g2 <;> simp only [walkS, wl, rgets, retv, argsEnv, ev, cst, cst1, cstL, AEnv.get, AEnv.trim, envput, qstep, abin, aun, evs, evo, deref, qload, target, if_true, if_false, Nat.reduceEqDiff, reduceIte, Nat.reduceAdd, AV.cells, AV.isTuple, setMany, alen, aiaddr, afill, Nat.reduceLeDiff, Nat.reduceMul, Nat.reduceLT, afillE, List.replicate, g2]
              · refine withBool_intro ?_ ?_ <;> intro g3 <;> simp only [walkS, wl, rgets, retv, argsEnv, ev, cst, cst1, cstL, AEnv.get, AEnv.trim, envput, qstep, abin, aun, evs, evo, deref, qload, target, if_true, if_false, Nat.reduceEqDiff, reduceIte, Nat.reduceAdd, AV.cells, AV.isTuple, setMany, alen, aiaddr, afill, Nat.reduceLeDiff, Nat.reduceMul, Nat.reduceLT, afillE, List.replicate, w1]
                · refine acc_append (lo := 1) (by simp) (hacc3.push _) rfl rfl AHeap.obj_push_eq (by rw [ic_length]; have := idxs_len (q := crq no rate ts l bf af) (k := k); omega) fun a' H4 x1 x2 x3 => ?_
                  simp only [List.length_append, List.length_cons, List.length_nil] at x1
                  simp only [walkS, wl, rgets, retv, argsEnv, ev, cst, cst1, cstL, AEnv.get, AEnv.trim, envput, qstep, abin, aun, evs, evo, deref, qload, target, if_true, if_false, Nat.reduceEqDiff, reduceIte, Nat.reduceAdd, AV.cells, AV.isTuple, setMany, alen, aiaddr, afill, Nat.reduceLeDiff, Nat.reduceMul, Nat.reduceLT, afillE, List.replicate, w1]
                  refine loop_end (k + 1, a') hlt (by simp only; omega) rfl ⟨by omega, by rw [x3 0 (by omega), AHeap.obj_push_lt (by omega)]; exact p0, ?_⟩
                  rw [idxs_t (by rw [hq]; simp at g3; simp [hsc, g3]), ic_snoc]; exact x2
                · refine loop_end (k + 1, a) hlt (by simp only; omega) rfl ⟨by omega, p0, ?_⟩
                  rw [idxs_f (by rw [hq, g2]; simp at g3; simp [g3])]; exact hacc3
              · refine acc_append (lo := 1) (by simp) (hacc3.push _) rfl rfl AHeap.obj_push_eq (by rw [ic_length]; have := idxs_len (q := crq no rate ts l bf af) (k := k); omega) fun a' H4 x1 x2 x3 => ?_
                simp only [List.length_append, List.length_cons, List.length_nil] at x1
                simp only [walkS, wl, rgets, retv, argsEnv, ev, cst, cst1, cstL, AEnv.get, AEnv.trim, envput, qstep, abin, aun, evs, evo, deref, qload, target, if_true, if_false, Nat.reduceEqDiff, reduceIte, Nat.reduceAdd, AV.cells, AV.isTuple, setMany, alen, aiaddr, afill, Nat.reduceLeDiff, Nat.reduceMul, Nat.reduceLT, afillE, List.replicate, w1]
                refine loop_end (k + 1, a') hlt (by simp only; omega) rfl ⟨by omega, by rw [x3 0 (by omega), AHeap.obj_push_lt (by omega)]; exact p0, ?_⟩
                rw [idxs_t (by rw [hq, g2]; simp [hsc]), ic_snoc]; exact x2
          · have hk' : k = l.length := by simp at hb; omega
            subst hk'
            exact cr_good hE hacc
      · exact cr_bad (bad (by simp at h3; simp [h3])) (by decide) _
end Go.Proofs.YtgadlckkmhhmbaaDoor
