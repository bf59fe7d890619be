/- PackSlopes holds. -/
import Derived.Test.YtmcndbldbemebaaDoorQT9
import Derived.Test.YtmcndbldbemebaaDoorQE2
import Derived.Test.YtmcndbldbemebaaDoorQG4
import Derived.Test.YtmcndbldbemebaaDoorQR8
set_option linter.unusedVariables false
set_option linter.unusedSimpArgs false
set_option linter.unusedSectionVars false
namespace Go.Proofs.YtmcndbldbemebaaDoor
open Go.Awp Go.Snow
set_option linter.unusedSimpArgs false
set_option linter.unusedVariables false
set_option linter.unusedSectionVars false
set_option maxRecDepth 10000
set_option maxHeartbeats 8000000 in
theorem PackSlopes_ok (p : List Lay) (s o : Int) : PCall Tryd.prog 9 [.agg [.ro false (rows p)], I s, I o] (.bool true) := by
  refine PCall.intro text9 (by simp) ?_
  unfold ir9
  simp only [walk, wl, rgets, retv, argsEnv, ev, cst, cst1, cstL, AEnv.get, AEnv.trim, envput, qstep, abin, aun, evs, evo, deref, qload, target, if_true, if_false, Nat.reduceEqDiff, reduceIte, Nat.reduceAdd, AV.cells, AV.isTuple, setMany, alen, aiaddr, afill, Nat.reduceLeDiff, Nat.reduceMul, Nat.reduceLT, afillE, List.replicate]
  refine call_pure sane_ok (frzL_of' (d := 4) rfl) ?_
  simp only [walk, wl, rgets, retv, argsEnv, ev, cst, cst1, cstL, AEnv.get, AEnv.trim, envput, qstep, abin, aun, evs, evo, deref, qload, target, if_true, if_false, Nat.reduceEqDiff, reduceIte, Nat.reduceAdd, AV.cells, AV.isTuple, setMany, alen, aiaddr, afill, Nat.reduceLeDiff, Nat.reduceMul, Nat.reduceLT, afillE, List.replicate]
  refine call_pure (Breaks_ok p s) (frzL_of' (d := 4) (carL_cons car_pk rfl)) ?_
  by_cases hok : okP p = true ∧ (0 ≤ s ∧ s ≤ 60)
  · obtain ⟨hp, hs⟩ := hok
    obtain ⟨hlen, hR, -, -⟩ := okP_iff.1 hp
    rw [show breaksV p s = (brk p s, 0) by simp [breaksV, hp, hs]]
    simp only [walk, wl, rgets, retv, argsEnv, ev, cst, cst1, cstL, AEnv.get, AEnv.trim, envput, qstep, abin, aun, evs, evo, deref, qload, target, if_true, if_false, Nat.reduceEqDiff, reduceIte, Nat.reduceAdd, AV.cells, AV.isTuple, setMany, alen, aiaddr, afill, Nat.reduceLeDiff, Nat.reduceMul, Nat.reduceLT, afillE, List.replicate, bne_self_eq_false]
    refine call_pure (Breaks_ok p o) (frzL_of' (d := 4) (carL_cons car_pk rfl)) ?_
    obtain ⟨⟨t1, t2⟩, t3⟩ := steep_at hR hs
    obtain ⟨n, hn⟩ : ∃ n : Nat, n = down (fun n => brk p n) 60 := ⟨_, rfl⟩
    rw [← hn] at t1 t2 t3
    have w25 : IntKind.i64.wrap (s - 25) = s - 25 := wrap_id (by omega) (by omega)
    have est : steepV p = ((n : Int), 0) := by simp only [steepV, hp, if_true, hn]
    have d1 : decide ((n : Int) < 25) = false := decide_eq_false (by omega)
    have d2 : decide ((n : Int) > 60) = false := decide_eq_false (by omega)
    obtain ⟨is, his⟩ : ∃ is, is = brk p s := ⟨_, rfl⟩
    rw [← his] at t3 ⊢
    have d3 : decide (s > (n : Int)) = is := t3.symm
    have cases3 : (((breaksV p o).2 == 0) = false ∧ True ∧ True ∧ True) ∨ (((breaksV p o).2 == 0) = true ∧ (breaksV p o).1 = true ∧ is = true ∧ True) ∨ (((breaksV p o).2 == 0) = true ∧ (breaksV p o).1 = false ∧ is = false ∧ True) ∨
        (((breaksV p o).2 == 0) = true ∧ (breaksV p o).1 = true ∧ is = false ∧ decide (s ≥ o) = false) ∨ (((breaksV p o).2 == 0) = true ∧ (breaksV p o).1 = false ∧ is = true ∧ decide (s ≤ o) = false) := by
      cases he : ((breaksV p o).2 == 0) with
      | false => exact .inl ⟨rfl, trivial, trivial, trivial⟩
      | true =>
        have he2 : (breaksV p o).2 = 0 := by simpa using he
        have ho : 0 ≤ o ∧ o ≤ 60 := by
          simp only [breaksV, hp, if_true] at he2
          by_cases h : 0 ≤ o ∧ o ≤ 60
          · exact h
          · rw [if_neg h] at he2; simp at he2
        have hv : (breaksV p o).1 = brk p o := by simp [breaksV, hp, ho]
        rw [hv, his]
        cases ha : brk p o <;> cases hb : brk p s
        · exact .inr (.inr (.inl ⟨rfl, rfl, rfl, trivial⟩))
        · refine .inr (.inr (.inr (.inr ⟨rfl, rfl, rfl, decide_eq_false fun h => ?_⟩)))
          rw [brk_mono hR h hb] at ha; cases ha
        · refine .inr (.inr (.inr (.inl ⟨rfl, rfl, rfl, decide_eq_false fun h => ?_⟩)))
          rw [brk_mono hR h ha] at hb; cases hb
        · exact .inr (.inl ⟨rfl, rfl, rfl, trivial⟩)
    have wks : weakestV p = if p.length = 0 then (0, 0, 4) else (((wk p p.length).1 : Int), (wk p p.length).2, 0) := by simp only [weakestV, hp, if_true]
    simp only [walk, wl, rgets, retv, argsEnv, ev, cst, cst1, cstL, AEnv.get, AEnv.trim, envput, qstep, abin, aun, evs, evo, deref, qload, target, if_true, if_false, Nat.reduceEqDiff, reduceIte, Nat.reduceAdd, AV.cells, AV.isTuple, setMany, alen, aiaddr, afill, Nat.reduceLeDiff, Nat.reduceMul, Nat.reduceLT, afillE, List.replicate]
    rcases cases3 with ⟨c1, c2, c3, c4⟩ | ⟨c1, c2, c3, c4⟩ | ⟨c1, c2, c3, c4⟩ | ⟨c1, c2, c3, c4⟩ | ⟨c1, c2, c3, c4⟩
    all_goals
      cases hge : decide (s ≥ o) <;> cases hle : decide (s ≤ o)
    all_goals try (first | (rw [hge] at c4; exact absurd c4 (by decide)) | (rw [hle] at c4; exact absurd c4 (by decide)))
    all_goals
      simp only [walk, wl, rgets, retv, argsEnv, ev, cst, cst1, cstL, AEnv.get, AEnv.trim, envput, qstep, abin, aun, evs, evo, deref, qload, target, if_true, if_false, Nat.reduceEqDiff, reduceIte, Nat.reduceAdd, AV.cells, AV.isTuple, setMany, alen, aiaddr, afill, Nat.reduceLeDiff, Nat.reduceMul, Nat.reduceLT, afillE, List.replicate, c1, c2, c3, hge, hle]
      refine call_pure (Steepest_ok p) (frzL_of' (d := 4) car_pkL) ?_
      rw [est]
      try rw [c3] at d3
      have d4 : (!(is == is)) = false := by simp
      simp only [walk, wl, rgets, retv, argsEnv, ev, cst, cst1, cstL, AEnv.get, AEnv.trim, envput, qstep, abin, aun, evs, evo, deref, qload, target, if_true, if_false, Nat.reduceEqDiff, reduceIte, Nat.reduceAdd, AV.cells, AV.isTuple, setMany, alen, aiaddr, afill, Nat.reduceLeDiff, Nat.reduceMul, Nat.reduceLT, afillE, List.replicate, bne_self_eq_false, d1, d2, d3, d4, c3, beq_self_eq_true, Bool.not_true]
      refine call_pure (Weakest_ok p) (frzL_of' (d := 4) car_pkL) ?_
      by_cases h0 : p.length = 0
      · rw [wks, if_pos h0]
        have hb : brk p s = false := by rw [brk, h0]; rfl
        rw [hb] at his
        simp only [walk, wl, rgets, retv, argsEnv, ev, cst, cst1, cstL, AEnv.get, AEnv.trim, envput, qstep, abin, aun, evs, evo, deref, qload, target, if_true, if_false, Nat.reduceEqDiff, reduceIte, Nat.reduceAdd, AV.cells, AV.isTuple, setMany, alen, aiaddr, afill, Nat.reduceLeDiff, Nat.reduceMul, Nat.reduceLT, afillE, List.replicate, Int.reduceBNe, beq_self_eq_true, rows_length, h0, Int.ofNat_zero, c3]
        first
        | exact out_bool
        | (rw [his]; exact out_bool)
        | (rw [his] at c3; cases c3)
      · rw [wks, if_neg h0]
        obtain ⟨w1, w2⟩ := wk_lt (ls := p) (by omega) p.length (Nat.le_refl _)
        have hbw := bAt_weak (s := s) hR (by omega : 0 < p.length)
        obtain ⟨a, ha⟩ : ∃ a, a = (wk p p.length).1 := ⟨_, rfl⟩
        rw [← ha] at w1 w2 hbw ⊢
        rw [w2]
        have l1 := loadAt_le hR a (by omega)
        have s1 := str_small (hR p[a] (List.getElem_mem w1))
        have m1 := mul_small (A := 10000000) (B := 100) (a := loadAt p a) (b := s - 25) (by omega) (by omega)
        have x2 : IntKind.i64.wrap (loadAt p a * (s - 25)) = loadAt p a * (s - 25) := wrap_id (by omega) (by omega)
        have x3 : IntKind.i64.wrap (3 * str p[a]) = 3 * str p[a] := wrap_id (by omega) (by omega)
        have y1 : decide ((a : Int) < 0) = false := decide_eq_false (by omega)
        have y2 : decide ((a : Int) ≥ (p.length : Int)) = false := decide_eq_false (by omega)
        have eb : decide (loadAt p a * (s - 25) > 3 * str p[a]) = is := by rw [his, hbw]; simp only [bAt, layAt_lt w1, gt_iff_lt]
        simp only [walk, wl, rgets, retv, argsEnv, ev, cst, cst1, cstL, AEnv.get, AEnv.trim, envput, qstep, abin, aun, evs, evo, deref, qload, target, if_true, if_false, Nat.reduceEqDiff, reduceIte, Nat.reduceAdd, AV.cells, AV.isTuple, setMany, alen, aiaddr, afill, Nat.reduceLeDiff, Nat.reduceMul, Nat.reduceLT, afillE, List.replicate, bne_self_eq_false, rows_length, y1, y2, w25, x2, rows_get w1]
        refine call_pure (rStrength_ok (hR p[a] (List.getElem_mem w1))) (frzL_of' (d := 4) rfl) ?_
        simp only [walk, wl, rgets, retv, argsEnv, ev, cst, cst1, cstL, AEnv.get, AEnv.trim, envput, qstep, abin, aun, evs, evo, deref, qload, target, if_true, if_false, Nat.reduceEqDiff, reduceIte, Nat.reduceAdd, AV.cells, AV.isTuple, setMany, alen, aiaddr, afill, Nat.reduceLeDiff, Nat.reduceMul, Nat.reduceLT, afillE, List.replicate, x3, eb, beq_self_eq_true]
        first
        | exact out_bool
        | (rw [c3]; exact out_bool)
        | (cases is <;> exact out_bool)
  · rw [show (breaksV p s).1 = false by simp only [breaksV]; split <;> (try split) <;> simp_all]
    have h2 : ((breaksV p s).2 != 0) = true := by
      simp only [breaksV]
      cases hp : okP p with
      | false => rfl
      | true =>
        have : ¬ (0 ≤ s ∧ s ≤ 60) := fun h => hok ⟨hp, h⟩
        simp [this]
    simp only [walk, wl, rgets, retv, argsEnv, ev, cst, cst1, cstL, AEnv.get, AEnv.trim, envput, qstep, abin, aun, evs, evo, deref, qload, target, if_true, if_false, Nat.reduceEqDiff, reduceIte, Nat.reduceAdd, AV.cells, AV.isTuple, setMany, alen, aiaddr, afill, Nat.reduceLeDiff, Nat.reduceMul, Nat.reduceLT, afillE, List.replicate, h2]
    exact out_bool
end Go.Proofs.YtmcndbldbemebaaDoor
