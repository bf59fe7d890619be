/- PackRun holds. -/
import Derived.Test.YtmcndbldbemebaaDoorQT12
import Derived.Test.YtmcndbldbemebaaDoorQE2
import Derived.Test.YtmcndbldbemebaaDoorQG3
set_option linter.unusedVariables false
set_option linter.unusedSimpArgs false
set_option linter.unusedSectionVars false
namespace Go.Proofs.YtmcndbldbemebaaDoor
open Go.Awp Go.Snow
set_option linter.unusedSimpArgs false
set_option linter.unusedVariables false
set_option linter.unusedSectionVars false
set_option maxRecDepth 10000
theorem aslice3_rows {H : AHeap} {b : Bool} {ls : List Lay} {k : Nat} (h : k ≤ ls.length) : aslice3 H 3 (.ro b (rows ls)) none (some (I k)) (some (I k)) = some (.full (rows (ls.take k))) := by
  unfold aslice3
  have e1 : abndX (rows ls).length none (some (I k)) = some (0, k) := abnds_hi (show k ≤ (rows ls).length by rw [rows_length]; exact h)
  have e2 : abndX k none (some (I k)) = some (0, k) := abnds_hi (Nat.le_refl k)
  simp only [rows_all, if_true, e1, e2, List.drop_zero]
  simp only [rows, List.map_take]
theorem aslice_rowsLo {H : AHeap} {b : Bool} {ls : List Lay} {k : Nat} (h : k ≤ ls.length) : aslice H 3 (.ro b (rows ls)) (some (I k)) none = some (.ro b (rows (ls.drop k))) := by
  unfold aslice
  simp only [rows_all, if_true, abnds_lo (show k ≤ (rows ls).length by rw [rows_length]; exact h), List.take_length]
  simp only [rows, List.map_drop]
theorem car_full {H : AHeap} {d : Nat} {l : List (List AV)} (hl : Simple l) : carry false H (d + 2) (.full l) = some (.ro false l) := by
  rw [show carry false H (d + 2) (.full l) = (match carR (carry false H (d + 1)) l with | some l' => some (.ro false l') | none => none) from rfl, carR_simple hl]
theorem runV_ok {p st : List Lay} (h : okP p = true) (hl : st.length ≤ 256) : runV p st = runGo p [] st := by simp only [runV, h, hl, if_true]
theorem PackRun_ok (p st : List Lay) (n : Int) : PCall Tryd.prog 12 [.agg [.ro false (rows p)], .ro false (rows st), I n] (.bool true) := by
  refine PCall.intro text12 (by simp) ?_
  unfold ir12
  simp only [walk, wl, rgets, retv, argsEnv, ev, cst, cst1, cstL, AEnv.get, AEnv.trim, envput, qstep, abin, aun, evs, evo, deref, qload, target, if_true, if_false, Nat.reduceEqDiff, reduceIte, Nat.reduceAdd, AV.cells, AV.isTuple, setMany, alen, aiaddr, afill, Nat.reduceLeDiff, Nat.reduceMul, Nat.reduceLT, afillE, List.replicate]
  refine call_pure sane_ok (frzL_of' (d := 4) rfl) ?_
  simp only [walk, wl, rgets, retv, argsEnv, ev, cst, cst1, cstL, AEnv.get, AEnv.trim, envput, qstep, abin, aun, evs, evo, deref, qload, target, if_true, if_false, Nat.reduceEqDiff, reduceIte, Nat.reduceAdd, AV.cells, AV.isTuple, setMany, alen, aiaddr, afill, Nat.reduceLeDiff, Nat.reduceMul, Nat.reduceLT, afillE, List.replicate, rows_length]
  refine withGuard_intro ?_ ?_ <;> intro g1 <;> simp only [walk, wl, rgets, retv, argsEnv, ev, cst, cst1, cstL, AEnv.get, AEnv.trim, envput, qstep, abin, aun, evs, evo, deref, qload, target, if_true, if_false, Nat.reduceEqDiff, reduceIte, Nat.reduceAdd, AV.cells, AV.isTuple, setMany, alen, aiaddr, afill, Nat.reduceLeDiff, Nat.reduceMul, Nat.reduceLT, afillE, List.replicate, g1]
  · refine withGuard_intro ?_ ?_ <;> intro g2 <;> simp only [walk, wl, rgets, retv, argsEnv, ev, cst, cst1, cstL, AEnv.get, AEnv.trim, envput, qstep, abin, aun, evs, evo, deref, qload, target, if_true, if_false, Nat.reduceEqDiff, reduceIte, Nat.reduceAdd, AV.cells, AV.isTuple, setMany, alen, aiaddr, afill, Nat.reduceLeDiff, Nat.reduceMul, Nat.reduceLT, afillE, List.replicate, g2, rows_length]
    · refine withBool_intro ?_ ?_ <;> intro g3 <;> simp only [walk, wl, rgets, retv, argsEnv, ev, cst, cst1, cstL, AEnv.get, AEnv.trim, envput, qstep, abin, aun, evs, evo, deref, qload, target, if_true, if_false, Nat.reduceEqDiff, reduceIte, Nat.reduceAdd, AV.cells, AV.isTuple, setMany, alen, aiaddr, afill, Nat.reduceLeDiff, Nat.reduceMul, Nat.reduceLT, afillE, List.replicate]
      · exact out_bool
      · have h1 := of_decide_eq_false g1
        have h2 := of_decide_eq_false g2
        have h3 := of_decide_eq_false g3
        obtain ⟨c, rfl⟩ : ∃ c : Nat, n = c := ⟨n.toNat, by omega⟩
        have hc : c ≤ st.length := by omega
        obtain ⟨r, hr⟩ : ∃ r, r = runV p st := ⟨_, rfl⟩
        refine call_pure (Run_ok p st) (frzL_of' (d := 4) (carL_cons car_pk (carL_cons (car_ro_false (rows_simple st)) rfl))) ?_
        rw [← hr]
        simp only [walk, wl, rgets, retv, argsEnv, ev, cst, cst1, cstL, AEnv.get, AEnv.trim, envput, qstep, abin, aun, evs, evo, deref, qload, target, if_true, if_false, Nat.reduceEqDiff, reduceIte, Nat.reduceAdd, AV.cells, AV.isTuple, setMany, alen, aiaddr, afill, Nat.reduceLeDiff, Nat.reduceMul, Nat.reduceLT, afillE, List.replicate, aslice3_rows hc]
        refine dcall_pure (Run_ok p (st.take c)) (frzL_of (d := 4) (carL_cons car_pk (carL_cons (car_full (rows_simple _)) rfl))) ?_
        obtain ⟨x, hx⟩ : ∃ x, x = runV p (st.take c) := ⟨_, rfl⟩
        rw [← hx]
        simp only [walk, wl, rgets, retv, argsEnv, ev, cst, cst1, cstL, AEnv.get, AEnv.trim, envput, qstep, abin, aun, evs, evo, deref, qload, target, if_true, if_false, Nat.reduceEqDiff, reduceIte, Nat.reduceAdd, AV.cells, AV.isTuple, setMany, alen, aiaddr, afill, Nat.reduceLeDiff, Nat.reduceMul, Nat.reduceLT, afillE, List.replicate]
        have hsp : st.take c ++ st.drop c = st := List.take_append_drop c st
        refine withBool_intro ?_ ?_ <;> intro h <;> simp only [walk, wl, rgets, retv, argsEnv, ev, cst, cst1, cstL, AEnv.get, AEnv.trim, envput, qstep, abin, aun, evs, evo, deref, qload, target, if_true, if_false, Nat.reduceEqDiff, reduceIte, Nat.reduceAdd, AV.cells, AV.isTuple, setMany, alen, aiaddr, afill, Nat.reduceLeDiff, Nat.reduceMul, Nat.reduceLT, afillE, List.replicate]
        · have hxe : x.2.2 ≠ 0 := by simpa using h
          have er : r = x ∧ x = ([], [], x.2.2) := by
            cases hp : okP p with
            | false =>
              have q1 : runV p st = ([], [], 20) := by simp [runV, hp]
              have q2 : runV p (st.take c) = ([], [], 20) := by simp [runV, hp]
              rw [hr, hx, q1, q2]; exact ⟨rfl, rfl⟩
            | true =>
              rw [runV_ok hp (by simp; omega)] at hx
              rw [runV_ok hp (by omega), ← hsp] at hr
              obtain ⟨a1, a2⟩ := runGo_err (st.take c) (st.drop c) p [] (hx ▸ hxe)
              rw [hr, a1, ← hx]
              rw [← hx] at a2
              exact ⟨rfl, a2⟩
          obtain ⟨er, ex⟩ := er
          rw [er, ex]
          simp only [walk, wl, rgets, retv, argsEnv, ev, cst, cst1, cstL, AEnv.get, AEnv.trim, envput, qstep, abin, aun, evs, evo, deref, qload, target, if_true, if_false, Nat.reduceEqDiff, reduceIte, Nat.reduceAdd, AV.cells, AV.isTuple, setMany, alen, aiaddr, afill, Nat.reduceLeDiff, Nat.reduceMul, Nat.reduceLT, afillE, List.replicate, rows, ic, List.map_nil, List.length_nil, beq_self_eq_true, Int.ofNat_zero]
          exact out_bool
        · have hxe : x.2.2 = 0 := by simpa using h
          have hp : okP p = true := by
            cases hp : okP p with
            | true => rfl
            | false =>
              have q2 : runV p (st.take c) = ([], [], 20) := by simp [runV, hp]
              rw [hx, q2] at hxe; simp at hxe
          have lx := @runV_len p (st.take c)
          have lr := @runV_len p st
          rw [← hx] at lx
          rw [← hr] at lr
          rw [runV_ok hp (by simp; omega)] at hx
          rw [runV_ok hp (by omega), ← hsp] at hr
          have hx1 : okP x.1 = true := by rw [hx]; exact runGo_ok _ _ _ hp (hx ▸ hxe)
          obtain ⟨y, hy⟩ : ∃ y, y = runV x.1 (st.drop c) := ⟨_, rfl⟩
          have ly := @runV_len x.1 (st.drop c)
          rw [← hy] at ly
          have hy' := hy
          rw [runV_ok hx1 (by simp; omega)] at hy'
          rw [runGo_app [] (st.take c) (st.drop c) p [] [] (hx ▸ hxe), ← hx] at hr
          obtain ⟨a1, a2, a3⟩ := runGo_pre (st.drop c) x.1 x.2.1
          rw [← hr, ← hy'] at a1 a2 a3
          simp only [walk, wl, rgets, retv, argsEnv, ev, cst, cst1, cstL, AEnv.get, AEnv.trim, envput, qstep, abin, aun, evs, evo, deref, qload, target, if_true, if_false, Nat.reduceEqDiff, reduceIte, Nat.reduceAdd, AV.cells, AV.isTuple, setMany, alen, aiaddr, afill, Nat.reduceLeDiff, Nat.reduceMul, Nat.reduceLT, afillE, List.replicate, aslice_rowsLo hc]
          refine dcall_pure (Run_ok x.1 (st.drop c)) (frzL_of (d := 4) (carL_cons car_pk (carL_cons (car_ro_false (rows_simple _)) rfl))) ?_
          rw [← hy]
          rw [a1, a2]
          simp only [walk, wl, rgets, retv, argsEnv, ev, cst, cst1, cstL, AEnv.get, AEnv.trim, envput, qstep, abin, aun, evs, evo, deref, qload, target, if_true, if_false, Nat.reduceEqDiff, reduceIte, Nat.reduceAdd, AV.cells, AV.isTuple, setMany, alen, aiaddr, afill, Nat.reduceLeDiff, Nat.reduceMul, Nat.reduceLT, afillE, List.replicate, beq_self_eq_true]
          refine call_pure (same_t (a := y.1) (by omega)) (frzL_of' (d := 4) (carL_cons car_pk car_pkL)) ?_
          simp only [walk, wl, rgets, retv, argsEnv, ev, cst, cst1, cstL, AEnv.get, AEnv.trim, envput, qstep, abin, aun, evs, evo, deref, qload, target, if_true, if_false, Nat.reduceEqDiff, reduceIte, Nat.reduceAdd, AV.cells, AV.isTuple, setMany, alen, aiaddr, afill, Nat.reduceLeDiff, Nat.reduceMul, Nat.reduceLT, afillE, List.replicate]
          refine withGuard_intro ?_ ?_ <;> intro g4 <;> simp only [walk, wl, rgets, retv, argsEnv, ev, cst, cst1, cstL, AEnv.get, AEnv.trim, envput, qstep, abin, aun, evs, evo, deref, qload, target, if_true, if_false, Nat.reduceEqDiff, reduceIte, Nat.reduceAdd, AV.cells, AV.isTuple, setMany, alen, aiaddr, afill, Nat.reduceLeDiff, Nat.reduceMul, Nat.reduceLT, afillE, List.replicate, g4]
          · have hye : y.2.2 = 0 := by simpa using g4
            have ea := a3 hye
            refine acc_appendL (lo := 4) (els := []) (Nat.le_refl _) (.inl ⟨rfl, rfl⟩) rfl rfl (asrc_ro (ic_all x.2.1)) (by simp only [ic_length, List.length_nil]; omega) fun b1 H1 y1 y2 y3 => ?_
            rw [List.nil_append] at y2
            simp only [walk, wl, rgets, retv, argsEnv, ev, cst, cst1, cstL, AEnv.get, AEnv.trim, envput, qstep, abin, aun, evs, evo, deref, qload, target, if_true, if_false, Nat.reduceEqDiff, reduceIte, Nat.reduceAdd, AV.cells, AV.isTuple, setMany, alen, aiaddr, afill, Nat.reduceLeDiff, Nat.reduceMul, Nat.reduceLT, afillE, List.replicate]
            refine acc_appendL (lo := 4) y1 y2 rfl rfl (asrc_ro (ic_all y.2.1)) (by simp only [ic_length]; omega) fun b2 H2 z1 z2 z3 => ?_
            have ei : ic x.2.1 ++ ic y.2.1 = ic r.2.1 := by rw [ea]; simp [ic]
            rw [ei] at z2
            simp only [walk, wl, rgets, retv, argsEnv, ev, cst, cst1, cstL, AEnv.get, AEnv.trim, envput, qstep, abin, aun, evs, evo, deref, qload, target, if_true, if_false, Nat.reduceEqDiff, reduceIte, Nat.reduceAdd, AV.cells, AV.isTuple, setMany, alen, aiaddr, afill, Nat.reduceLeDiff, Nat.reduceMul, Nat.reduceLT, afillE, List.replicate]
            refine call_pure (ints_ok r.2.1 r.2.1 (by omega)) (frzL2 (frz_car (d := 2) (car_ro_false (ic_simple _))) (z2.carF (d := 0) (ic_simple _))) ?_
            simp only [decide_true]
            simp only [walk, wl, rgets, retv, argsEnv, ev, cst, cst1, cstL, AEnv.get, AEnv.trim, envput, qstep, abin, aun, evs, evo, deref, qload, target, if_true, if_false, Nat.reduceEqDiff, reduceIte, Nat.reduceAdd, AV.cells, AV.isTuple, setMany, alen, aiaddr, afill, Nat.reduceLeDiff, Nat.reduceMul, Nat.reduceLT, afillE, List.replicate]
            exact out_bool
          · exact out_bool
    · exact out_bool
  · exact out_bool
end Go.Proofs.YtmcndbldbemebaaDoor
