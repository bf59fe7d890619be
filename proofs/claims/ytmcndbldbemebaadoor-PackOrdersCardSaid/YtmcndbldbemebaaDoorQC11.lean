/- Contracts: Drift and Run. -/
import Derived.Test.YtmcndbldbemebaaDoorQC10
set_option linter.unusedVariables false
set_option linter.unusedSimpArgs false
set_option linter.unusedSectionVars false
namespace Go.Proofs.YtmcndbldbemebaaDoor
open Go.Awp Go.Snow
set_option linter.unusedSimpArgs false
set_option linter.unusedVariables false
set_option linter.unusedSectionVars false
set_option maxRecDepth 10000
theorem frz_agg1 {H : AHeap} {x y : AV} (hx : Frz H x y) (h1 : y.one = true) : Frz H (.agg [x]) (.agg [y]) := fun w m B v st hv => by
  cases hv with
  | agg _ vs hl ho hh =>
    refine .agg _ _ hl (by simp [h1]) fun i z v' e1 e2 => ?_
    rcases i with _ | i
    · cases e1; exact hx w m B v' st (hh 0 x v' rfl e2)
    · simp at e1
def driftV (p q : List Lay) (m : Int) : List Lay × List Lay × Int :=
  if okP p && okP q then (if 0 ≤ m ∧ m ≤ 65536 then (if okP (times loss1 m.toNat p).1 then
    (if (applyV q 1 (taken loss1 m.toNat p) 0).2.2 = 0 then ((times loss1 m.toNat p).1, (applyV q 1 (taken loss1 m.toNat p) 0).1, 0) else ([], [], (applyV q 1 (taken loss1 m.toNat p) 0).2.2)) else ([], [], 2)) else ([], [], 1)) else ([], [], 20)
theorem out_drift0 {H : AHeap} {e : Int} : Out H (.tuple [.agg [.nilSlice], .agg [.nilSlice], I e]) (.tuple [.agg [.ro true (rows [])], .agg [.ro true (rows [])], I e]) := out_three out_nopk out_nopk out_int
theorem Drift_ok (p q : List Lay) (m : Int) : PCall Tryd.prog 46 [.agg [.ro false (rows p)], .agg [.ro false (rows q)], I m] (.tuple [.agg [.ro true (rows (driftV p q m).1)], .agg [.ro true (rows (driftV p q m).2.1)], I (driftV p q m).2.2]) := by
  refine PCall.intro text46 (by simp) ?_
  unfold ir46
  simp only [walkS, wl, rgets, retv, argsEnv, ev, cst, cst1, cstL, AEnv.get, AEnv.trim, envput, qstep, abin, aun, evs, evo, deref, qload, target, if_true, if_false, Nat.reduceEqDiff, reduceIte, Nat.reduceAdd, AV.cells, AV.isTuple, setMany, alen, aiaddr, afill, Nat.reduceLeDiff, Nat.reduceMul, Nat.reduceLT, afillE, List.replicate]
  refine call_pure (both_ok p q) (frzL_of' (d := 4) (carL_cons car_pk car_pkL)) ?_
  simp only [walkS, wl, rgets, retv, argsEnv, ev, cst, cst1, cstL, AEnv.get, AEnv.trim, envput, qstep, abin, aun, evs, evo, deref, qload, target, if_true, if_false, Nat.reduceEqDiff, reduceIte, Nat.reduceAdd, AV.cells, AV.isTuple, setMany, alen, aiaddr, afill, Nat.reduceLeDiff, Nat.reduceMul, Nat.reduceLT, afillE, List.replicate]
  refine withBool_intro ?_ ?_ <;> intro h <;> simp only [walkS, wl, rgets, retv, argsEnv, ev, cst, cst1, cstL, AEnv.get, AEnv.trim, envput, qstep, abin, aun, evs, evo, deref, qload, target, if_true, if_false, Nat.reduceEqDiff, reduceIte, Nat.reduceAdd, AV.cells, AV.isTuple, setMany, alen, aiaddr, afill, Nat.reduceLeDiff, Nat.reduceMul, Nat.reduceLT, afillE, List.replicate]
  · obtain ⟨h1, h2⟩ := bothV_ne (p := p) (q := q) (by simpa using h)
    refine storeR rfl rfl rfl rfl ⟨rfl, rfl, rfl, by simp⟩ fun H1 y1 y2 y3 => ?_
    simp only [AV.cells, setMany, List.set_cons_zero, List.set_cons_succ] at y2
    have o3 : AHeap.obj H1 3 = some ⟨24, 1, [[.nilSlice]]⟩ := by rw [y3 3 (by omega)]; rfl
    simp only [walkS, wl, rgets, retv, argsEnv, ev, cst, cst1, cstL, AEnv.get, AEnv.trim, envput, qstep, abin, aun, evs, evo, deref, qload, target, if_true, if_false, Nat.reduceEqDiff, reduceIte, Nat.reduceAdd, AV.cells, AV.isTuple, setMany, alen, aiaddr, afill, Nat.reduceLeDiff, Nat.reduceMul, Nat.reduceLT, afillE, List.replicate]
    refine storeR rfl rfl o3 rfl ⟨rfl, rfl, rfl, by simp⟩ fun H2 z1 z2 z3 => ?_
    simp only [AV.cells, setMany, List.set_cons_zero, List.set_cons_succ] at z2
    have o2 : AHeap.obj H2 2 = some ⟨24, 1, [[.nilSlice]]⟩ := by rw [z3 2 (by omega)]; exact y2
    simp only [walkS, wl, rgets, retv, argsEnv, ev, cst, cst1, cstL, AEnv.get, AEnv.trim, envput, qstep, abin, aun, evs, evo, deref, qload, target, if_true, if_false, Nat.reduceEqDiff, reduceIte, Nat.reduceAdd, AV.cells, AV.isTuple, setMany, alen, aiaddr, afill, Nat.reduceLeDiff, Nat.reduceMul, Nat.reduceLT, afillE, List.replicate, o2, z2]
    simp only [h2, driftV, h1, Bool.false_eq_true, if_false]; exact out_drift0
  · obtain ⟨h1, h2⟩ := bothV_zero (p := p) (q := q) (by simpa using h)
    by_cases hm : 0 ≤ m ∧ m ≤ 65536
    · refine call_pure (from_t hm) (frzL_of' (d := 4) rfl) ?_
      simp only [walkS, wl, rgets, retv, argsEnv, ev, cst, cst1, cstL, AEnv.get, AEnv.trim, envput, qstep, abin, aun, evs, evo, deref, qload, target, if_true, if_false, Nat.reduceEqDiff, reduceIte, Nat.reduceAdd, AV.cells, AV.isTuple, setMany, alen, aiaddr, afill, Nat.reduceLeDiff, Nat.reduceMul, Nat.reduceLT, afillE, List.replicate]
      refine (columnOf_ok (okP_iff.1 h1).1).mono fun x H ⟨hh, e, q1, q2, q3, q4⟩ => ?_
      subst e
      simp only [List.length_cons, List.length_nil] at q1 q2
      have b1 : AHeap.obj H 1 = some ⟨24, 1, [[.ro false (rows q)]]⟩ := by rw [q3 1 (by simp)]; rfl
      have b2 : AHeap.obj H 2 = some ⟨24, 1, [[.nilSlice]]⟩ := by rw [q3 2 (by simp)]; rfl
      have b3 : AHeap.obj H 3 = some ⟨24, 1, [[.nilSlice]]⟩ := by rw [q3 3 (by simp)]; rfl
      clear q3
      simp only [walkS, wl, rgets, retv, argsEnv, ev, cst, cst1, cstL, AEnv.get, AEnv.trim, envput, qstep, abin, aun, evs, evo, deref, qload, target, if_true, if_false, Nat.reduceEqDiff, reduceIte, Nat.reduceAdd, AV.cells, AV.isTuple, setMany, alen, aiaddr, afill, Nat.reduceLeDiff, Nat.reduceMul, Nat.reduceLT, afillE, List.replicate]
      have hf := times_ok vanishDeed (n := m.toNat) (by omega) q4.less (firm_mono (okP_good h1) (by omega)) (by omega) (by omega)
      rw [Int.toNat_of_nonneg hm.1] at hf
      refine hf.mono fun x H1 ⟨v1, v2, v3⟩ => ?_
      subst v1
      have c1 : AHeap.obj H1 1 = some ⟨24, 1, [[.ro false (rows q)]]⟩ := by rw [v2.2 1 (by omega) (by omega)]; exact b1
      have c2 : AHeap.obj H1 2 = some ⟨24, 1, [[.nilSlice]]⟩ := by rw [v2.2 2 (by omega) (by omega)]; exact b2
      have c3 : AHeap.obj H1 3 = some ⟨24, 1, [[.nilSlice]]⟩ := by rw [v2.2 3 (by omega) (by omega)]; exact b3
      have hH1 : 4 ≤ H1.length := by rw [v2.1]; omega
      simp only [walkS, wl, rgets, retv, argsEnv, ev, cst, cst1, cstL, AEnv.get, AEnv.trim, envput, qstep, abin, aun, evs, evo, deref, qload, target, if_true, if_false, Nat.reduceEqDiff, reduceIte, Nat.reduceAdd, AV.cells, AV.isTuple, setMany, alen, aiaddr, afill, Nat.reduceLeDiff, Nat.reduceMul, Nat.reduceLT, afillE, List.replicate]
      refine (pack_ok v3).mono fun x H2 ⟨s1, s2, a, e, s3⟩ => ?_
      subst e
      simp only [walkS, wl, rgets, retv, argsEnv, ev, cst, cst1, cstL, AEnv.get, AEnv.trim, envput, qstep, abin, aun, evs, evo, deref, qload, target, if_true, if_false, Nat.reduceEqDiff, reduceIte, Nat.reduceAdd, AV.cells, AV.isTuple, setMany, alen, aiaddr, afill, Nat.reduceLeDiff, Nat.reduceMul, Nat.reduceLT, afillE, List.replicate]
      refine storeR rfl rfl AHeap.obj_push_eq rfl ⟨rfl, rfl, rfl, by simp⟩ fun H3 u1 u2 u3 => ?_
      simp only [AV.cells, setMany, List.set_cons_zero, List.set_cons_succ] at u2
      simp only [List.length_append, List.length_cons, List.length_nil] at u1
      have hk : ∀ i, i < H1.length → AHeap.obj H3 i = AHeap.obj H1 i := fun i hi => by rw [u3 i (by omega), AHeap.obj_push_lt (by omega), s2 i hi]
      have d1 : AHeap.obj H3 1 = some ⟨24, 1, [[.ro false (rows q)]]⟩ := by rw [hk 1 (by omega)]; exact c1
      have d2 : AHeap.obj H3 2 = some ⟨24, 1, [[.nilSlice]]⟩ := by rw [hk 2 (by omega)]; exact c2
      have d3 : AHeap.obj H3 3 = some ⟨24, 1, [[.nilSlice]]⟩ := by rw [hk 3 (by omega)]; exact c3
      have s3' := s3.keep (H' := H3) fun i h1 h2 => by rw [u3 i (by omega), AHeap.obj_push_lt h2]
      have c0 : Column 0 H3 hh (times loss1 m.toNat p).1 (0 + (times loss1 m.toNat p).2) (0 + 1 * taken loss1 m.toNat p) := v3.keep (hk hh v3.lt)
      simp only [walkS, wl, rgets, retv, argsEnv, ev, cst, cst1, cstL, AEnv.get, AEnv.trim, envput, qstep, abin, aun, evs, evo, deref, qload, target, if_true, if_false, Nat.reduceEqDiff, reduceIte, Nat.reduceAdd, AV.cells, AV.isTuple, setMany, alen, aiaddr, afill, Nat.reduceLeDiff, Nat.reduceMul, Nat.reduceLT, afillE, List.replicate]
      cases h3 : okP (times loss1 m.toNat p).1 with
      | false =>
        simp only [h3, Bool.false_eq_true, if_false] at s3 s3' u2
        simp only [walkS, wl, rgets, retv, argsEnv, ev, cst, cst1, cstL, AEnv.get, AEnv.trim, envput, qstep, abin, aun, evs, evo, deref, qload, target, if_true, if_false, Nat.reduceEqDiff, reduceIte, Nat.reduceAdd, AV.cells, AV.isTuple, setMany, alen, aiaddr, afill, Nat.reduceLeDiff, Nat.reduceMul, Nat.reduceLT, afillE, List.replicate, Int.reduceBNe]
        refine storeR rfl rfl d2 rfl ⟨rfl, rfl, rfl, by simp⟩ fun H4 z1 z2 z3 => ?_
        simp only [AV.cells, setMany, List.set_cons_zero, List.set_cons_succ] at z2
        have e3 : AHeap.obj H4 3 = some ⟨24, 1, [[.nilSlice]]⟩ := by rw [z3 3 (by omega)]; exact d3
        simp only [walkS, wl, rgets, retv, argsEnv, ev, cst, cst1, cstL, AEnv.get, AEnv.trim, envput, qstep, abin, aun, evs, evo, deref, qload, target, if_true, if_false, Nat.reduceEqDiff, reduceIte, Nat.reduceAdd, AV.cells, AV.isTuple, setMany, alen, aiaddr, afill, Nat.reduceLeDiff, Nat.reduceMul, Nat.reduceLT, afillE, List.replicate]
        refine storeR rfl rfl e3 rfl ⟨rfl, rfl, rfl, by simp⟩ fun H5 w1 w2 w3 => ?_
        simp only [AV.cells, setMany, List.set_cons_zero, List.set_cons_succ] at w2
        have e2 : AHeap.obj H5 2 = some ⟨24, 1, [[.nilSlice]]⟩ := by rw [w3 2 (by omega)]; exact z2
        simp only [walkS, wl, rgets, retv, argsEnv, ev, cst, cst1, cstL, AEnv.get, AEnv.trim, envput, qstep, abin, aun, evs, evo, deref, qload, target, if_true, if_false, Nat.reduceEqDiff, reduceIte, Nat.reduceAdd, AV.cells, AV.isTuple, setMany, alen, aiaddr, afill, Nat.reduceLeDiff, Nat.reduceMul, Nat.reduceLT, afillE, List.replicate, e2, w2]
        simp only [driftV, h1, h2, hm, h3, Bool.and_self, Bool.false_eq_true, if_false, if_true, and_self]; exact out_drift0
      | true =>
        simp only [h3, if_true] at s3 s3' u2
        obtain ⟨A, post, -, hlen, c0⟩ := c0
        simp only [Int.zero_add, Int.one_mul] at c0
        unfold ColAt at c0
        obtain ⟨L, hLe⟩ : ∃ L, L = A ++ (times loss1 m.toNat p).1 ++ post := ⟨_, rfl⟩
        rw [← hLe] at hlen c0
        simp only [walkS, wl, rgets, retv, argsEnv, ev, cst, cst1, cstL, AEnv.get, AEnv.trim, envput, qstep, abin, aun, evs, evo, deref, qload, target, if_true, if_false, Nat.reduceEqDiff, reduceIte, Nat.reduceAdd, AV.cells, AV.isTuple, setMany, alen, aiaddr, afill, Nat.reduceLeDiff, Nat.reduceMul, Nat.reduceLT, afillE, List.replicate, bne_self_eq_false, d1, c0, colC_198 hlen]
        refine dcall_pure (Apply_ok q 1 (taken loss1 m.toNat p) 0) (frzL_of (d := 4) (carL_cons car_pk rfl)) ?_
        unfold pkV
        have hv : ∀ r, r = applyV q 1 (taken loss1 m.toNat p) 0 → driftV p q m = if r.2.2 = 0 then ((times loss1 m.toNat p).1, r.1, 0) else ([], [], r.2.2) := fun r hr => by
          subst hr; simp only [driftV, h1, h2, hm, h3, Bool.and_self, if_true, and_self]
        obtain ⟨r, hr⟩ : ∃ r, r = applyV q 1 (taken loss1 m.toNat p) 0 := ⟨_, rfl⟩
        rw [hv r hr, ← hr]
        clear hv
        simp only [walkS, wl, rgets, retv, argsEnv, ev, cst, cst1, cstL, AEnv.get, AEnv.trim, envput, qstep, abin, aun, evs, evo, deref, qload, target, if_true, if_false, Nat.reduceEqDiff, reduceIte, Nat.reduceAdd, AV.cells, AV.isTuple, setMany, alen, aiaddr, afill, Nat.reduceLeDiff, Nat.reduceMul, Nat.reduceLT, afillE, List.replicate, bne_self_eq_false, d1, c0, colC_198 hlen]
        refine storeW rfl rfl AHeap.obj_push_eq rfl ⟨rfl, rfl, rfl, by simp⟩ fun H4 z1 z2 z3 => ?_
        simp only [AV.cells, setMany, List.set_cons_zero, List.set_cons_succ] at z2
        simp only [List.length_append, List.length_cons, List.length_nil] at z1
        have u2' : AHeap.obj H4 (H2.length) = some ⟨24, 1, [[a]]⟩ := by rw [z3 _ (by omega), AHeap.obj_push_lt (by omega)]; exact u2
        have s4 := s3'.keep (H' := H4) fun i h1 h2 => by rw [z3 i (by omega), AHeap.obj_push_lt h2]
        have f2 : AHeap.obj H4 2 = some ⟨24, 1, [[.nilSlice]]⟩ := by rw [z3 2 (by omega), AHeap.obj_push_lt (by omega)]; exact d2
        have f3 : AHeap.obj H4 3 = some ⟨24, 1, [[.nilSlice]]⟩ := by rw [z3 3 (by omega), AHeap.obj_push_lt (by omega)]; exact d3
        simp only [walkS, wl, rgets, retv, argsEnv, ev, cst, cst1, cstL, AEnv.get, AEnv.trim, envput, qstep, abin, aun, evs, evo, deref, qload, target, if_true, if_false, Nat.reduceEqDiff, reduceIte, Nat.reduceAdd, AV.cells, AV.isTuple, setMany, alen, aiaddr, afill, Nat.reduceLeDiff, Nat.reduceMul, Nat.reduceLT, afillE, List.replicate]
        refine withBool_intro ?_ ?_ <;> intro hr2 <;> simp only [walkS, wl, rgets, retv, argsEnv, ev, cst, cst1, cstL, AEnv.get, AEnv.trim, envput, qstep, abin, aun, evs, evo, deref, qload, target, if_true, if_false, Nat.reduceEqDiff, reduceIte, Nat.reduceAdd, AV.cells, AV.isTuple, setMany, alen, aiaddr, afill, Nat.reduceLeDiff, Nat.reduceMul, Nat.reduceLT, afillE, List.replicate]
        · have hr3 : ¬ r.2.2 = 0 := by simpa using hr2
          refine storeR rfl rfl f2 rfl ⟨rfl, rfl, rfl, by simp⟩ fun H5 w1 w2 w3 => ?_
          simp only [AV.cells, setMany, List.set_cons_zero, List.set_cons_succ] at w2
          have e3 : AHeap.obj H5 3 = some ⟨24, 1, [[.nilSlice]]⟩ := by rw [w3 3 (by omega)]; exact f3
          simp only [walkS, wl, rgets, retv, argsEnv, ev, cst, cst1, cstL, AEnv.get, AEnv.trim, envput, qstep, abin, aun, evs, evo, deref, qload, target, if_true, if_false, Nat.reduceEqDiff, reduceIte, Nat.reduceAdd, AV.cells, AV.isTuple, setMany, alen, aiaddr, afill, Nat.reduceLeDiff, Nat.reduceMul, Nat.reduceLT, afillE, List.replicate]
          refine storeR rfl rfl e3 rfl ⟨rfl, rfl, rfl, by simp⟩ fun H6 x1 x2 x3 => ?_
          simp only [AV.cells, setMany, List.set_cons_zero, List.set_cons_succ] at x2
          have e2 : AHeap.obj H6 2 = some ⟨24, 1, [[.nilSlice]]⟩ := by rw [x3 2 (by omega)]; exact w2
          simp only [walkS, wl, rgets, retv, argsEnv, ev, cst, cst1, cstL, AEnv.get, AEnv.trim, envput, qstep, abin, aun, evs, evo, deref, qload, target, if_true, if_false, Nat.reduceEqDiff, reduceIte, Nat.reduceAdd, AV.cells, AV.isTuple, setMany, alen, aiaddr, afill, Nat.reduceLeDiff, Nat.reduceMul, Nat.reduceLT, afillE, List.replicate, e2, x2]
          rw [if_neg hr3]; exact out_drift0
        · have hr3 : r.2.2 = 0 := by simpa using hr2
          simp only [walkS, wl, rgets, retv, argsEnv, ev, cst, cst1, cstL, AEnv.get, AEnv.trim, envput, qstep, abin, aun, evs, evo, deref, qload, target, if_true, if_false, Nat.reduceEqDiff, reduceIte, Nat.reduceAdd, AV.cells, AV.isTuple, setMany, alen, aiaddr, afill, Nat.reduceLeDiff, Nat.reduceMul, Nat.reduceLT, afillE, List.replicate, u2', z2]
          refine storeW rfl rfl f2 rfl ⟨rfl, rfl, rfl, by simp⟩ fun H5 w1 w2 w3 => ?_
          simp only [AV.cells, setMany, List.set_cons_zero, List.set_cons_succ] at w2
          have e3 : AHeap.obj H5 3 = some ⟨24, 1, [[.nilSlice]]⟩ := by rw [w3 3 (by omega)]; exact f3
          have z2' : AHeap.obj H5 H3.length = some ⟨24, 1, [[.ro true (rows r.1)]]⟩ := by rw [w3 _ (by omega)]; exact z2
          have s5 := s4.keep (H' := H5) fun i h1 h2 => w3 i (by omega)
          simp only [walkS, wl, rgets, retv, argsEnv, ev, cst, cst1, cstL, AEnv.get, AEnv.trim, envput, qstep, abin, aun, evs, evo, deref, qload, target, if_true, if_false, Nat.reduceEqDiff, reduceIte, Nat.reduceAdd, AV.cells, AV.isTuple, setMany, alen, aiaddr, afill, Nat.reduceLeDiff, Nat.reduceMul, Nat.reduceLT, afillE, List.replicate, z2']
          refine storeR rfl rfl e3 rfl ⟨rfl, rfl, rfl, by simp⟩ fun H6 x1 x2 x3 => ?_
          simp only [AV.cells, setMany, List.set_cons_zero, List.set_cons_succ] at x2
          have e2 : AHeap.obj H6 2 = some ⟨24, 1, [[a]]⟩ := by rw [x3 2 (by omega)]; exact w2
          have s6 := s5.keep (H' := H6) fun i h1 h2 => x3 i (by omega)
          simp only [walkS, wl, rgets, retv, argsEnv, ev, cst, cst1, cstL, AEnv.get, AEnv.trim, envput, qstep, abin, aun, evs, evo, deref, qload, target, if_true, if_false, Nat.reduceEqDiff, reduceIte, Nat.reduceAdd, AV.cells, AV.isTuple, setMany, alen, aiaddr, afill, Nat.reduceLeDiff, Nat.reduceMul, Nat.reduceLT, afillE, List.replicate, e2, x2]
          rw [if_pos hr3]
          exact out_three (out_agg1 (s6.out (rows_simple _)) rfl) (out_of (d := 4) (car_agg (carL_cons (car_ro_true (rows_simple _)) rfl))) out_int
    · refine call_pure (from_f hm) (frzL_of' (d := 4) rfl) ?_
      simp only [walkS, wl, rgets, retv, argsEnv, ev, cst, cst1, cstL, AEnv.get, AEnv.trim, envput, qstep, abin, aun, evs, evo, deref, qload, target, if_true, if_false, Nat.reduceEqDiff, reduceIte, Nat.reduceAdd, AV.cells, AV.isTuple, setMany, alen, aiaddr, afill, Nat.reduceLeDiff, Nat.reduceMul, Nat.reduceLT, afillE, List.replicate]
      refine storeR rfl rfl rfl rfl ⟨rfl, rfl, rfl, by simp⟩ fun H1 y1 y2 y3 => ?_
      simp only [AV.cells, setMany, List.set_cons_zero, List.set_cons_succ] at y2
      have o3 : AHeap.obj H1 3 = some ⟨24, 1, [[.nilSlice]]⟩ := by rw [y3 3 (by omega)]; rfl
      simp only [walkS, wl, rgets, retv, argsEnv, ev, cst, cst1, cstL, AEnv.get, AEnv.trim, envput, qstep, abin, aun, evs, evo, deref, qload, target, if_true, if_false, Nat.reduceEqDiff, reduceIte, Nat.reduceAdd, AV.cells, AV.isTuple, setMany, alen, aiaddr, afill, Nat.reduceLeDiff, Nat.reduceMul, Nat.reduceLT, afillE, List.replicate]
      refine storeR rfl rfl o3 rfl ⟨rfl, rfl, rfl, by simp⟩ fun H2 z1 z2 z3 => ?_
      simp only [AV.cells, setMany, List.set_cons_zero, List.set_cons_succ] at z2
      have o2 : AHeap.obj H2 2 = some ⟨24, 1, [[.nilSlice]]⟩ := by rw [z3 2 (by omega)]; exact y2
      simp only [walkS, wl, rgets, retv, argsEnv, ev, cst, cst1, cstL, AEnv.get, AEnv.trim, envput, qstep, abin, aun, evs, evo, deref, qload, target, if_true, if_false, Nat.reduceEqDiff, reduceIte, Nat.reduceAdd, AV.cells, AV.isTuple, setMany, alen, aiaddr, afill, Nat.reduceLeDiff, Nat.reduceMul, Nat.reduceLT, afillE, List.replicate, o2, z2]
      simp only [driftV, h1, h2, hm, Bool.and_self, if_true, if_false]; exact out_drift0
end Go.Proofs.YtmcndbldbemebaaDoor
