/- The laws DiffsApartSpec and DiffsPaths, walked. -/
import Derived.Test.YtepnijjgdhldeaaQD18
import Derived.Test.YtepnijjgdhldeaaQE8
namespace Go.Proofs.Ytepnijjgdhldeaa
open Go.Awp
set_option linter.unusedSimpArgs false
set_option linter.unusedVariables false
set_option maxRecDepth 10000
set_option maxHeartbeats 16000000
/-- What CheckPath says of the way that Path hands back. -/
theorem way_check {m : Nat} {ds : List Df} (h : Sol m ds) (hv : valid m ds = true) {i j q : Nat} (hi : i < m) (hj : j < m) (hc : Chain m ds (lens m ds (one i)).1 i j q) (most : Int) :
    ckPath m ds i j most (roundL ds (lens m ds (one i)).1 j q) = if (lens m ds (one i)).1.long j ≤ most then 0 else 43 := by
  obtain ⟨c1, c2, c3, _⟩ := hc.list h.good
  have hlt := hc.lt
  have hb : ((isNode i m && isNode j m) && idx ds (roundL ds (lens m ds (one i)).1 j q)) = true := by rw [c1]; simp [isNode]; omega
  have hw : wkV ds i j (roundL ds (lens m ds (one i)).1 j q) = ((lens m ds (one i)).1.long j, true) := by unfold wkV; rw [c3]; simp
  simp only [ckPath, hv, hb, if_true, c2, if_neg (show ¬ ((q : Int) > m - 1) by omega), hw, true_and]
theorem law9_ok {n : Int} {ds : List Df} {f t most : Int} {l : List Int} (hd : ds.length ≤ big) (hl : l.length ≤ big) : PCall Try.prog 9 [.agg [I n, .ro false (rows ds)], I f, I t, I most, .ro false (ic l)] (.bool true) := by
  refine PCall.intro text9 (by simp) ?_
  unfold ir9
  simp only [walkS, wl, rgets, retv, argsEnv, ev, cst, cst1, cstL, AEnv.get, AEnv.trim, envput, qstep, abin, aun, evs, evo, deref, qload, target, if_true, if_false, Nat.reduceEqDiff, reduceIte, Nat.reduceAdd, AV.cells, AV.isTuple, setMany, alen, aiaddr, afill, Nat.reduceLeDiff, Nat.reduceMul, Nat.reduceLT, afillE, List.replicate]
  refine call_pure sane_ok (frzL_of' (d := 4) rfl) ?_
  simp only [walkS, wl, rgets, retv, argsEnv, ev, cst, cst1, cstL, AEnv.get, AEnv.trim, envput, qstep, abin, aun, evs, evo, deref, qload, target, if_true, if_false, Nat.reduceEqDiff, reduceIte, Nat.reduceAdd, AV.cells, AV.isTuple, setMany, alen, aiaddr, afill, Nat.reduceLeDiff, Nat.reduceMul, Nat.reduceLT, afillE, List.replicate]
  refine dcall_pure (CheckPath_ok (n := n) (f := f) (t := t) (most := most) hd hl) (frzL_of (d := 4) (carL_cons car_netF (carL_cons rfl (carL_cons rfl (carL_cons rfl (carL_cons car_icF rfl)))))) ?_
  simp only [walkS, wl, rgets, retv, argsEnv, ev, cst, cst1, cstL, AEnv.get, AEnv.trim, envput, qstep, abin, aun, evs, evo, deref, qload, target, if_true, if_false, Nat.reduceEqDiff, reduceIte, Nat.reduceAdd, AV.cells, AV.isTuple, setMany, alen, aiaddr, afill, Nat.reduceLeDiff, Nat.reduceMul, Nat.reduceLT, afillE, List.replicate]
  refine call_pure (refCheckPath_ok (n := n) (ds := ds) (f := f) (t := t) (most := most) hl) (frzL_of' (d := 4) (carL_cons car_netF (carL_cons rfl (carL_cons rfl (carL_cons rfl (carL_cons car_icF rfl)))))) ?_
  simp only [walkS, wl, rgets, retv, argsEnv, ev, cst, cst1, cstL, AEnv.get, AEnv.trim, envput, qstep, abin, aun, evs, evo, deref, qload, target, if_true, if_false, Nat.reduceEqDiff, reduceIte, Nat.reduceAdd, AV.cells, AV.isTuple, setMany, alen, aiaddr, afill, Nat.reduceLeDiff, Nat.reduceMul, Nat.reduceLT, afillE, List.replicate, bne_self_eq_false]
  refine call_pure (refCheck_ok n ds) (frzL_of' (d := 4) (carL_cons car_netF rfl)) ?_
  simp only [walkS, wl, rgets, retv, argsEnv, ev, cst, cst1, cstL, AEnv.get, AEnv.trim, envput, qstep, abin, aun, evs, evo, deref, qload, target, if_true, if_false, Nat.reduceEqDiff, reduceIte, Nat.reduceAdd, AV.cells, AV.isTuple, setMany, alen, aiaddr, afill, Nat.reduceLeDiff, Nat.reduceMul, Nat.reduceLT, afillE, List.replicate]
  have tail : (valid n ds = true → n ≤ 16) → ∀ (b : Bool), True := fun _ _ => trivial
  refine withGuard_intro ?_ ?_ <;> intro h <;> simp only [walkS, wl, rgets, retv, argsEnv, ev, cst, cst1, cstL, AEnv.get, AEnv.trim, envput, qstep, abin, aun, evs, evo, deref, qload, target, if_true, if_false, Nat.reduceEqDiff, reduceIte, Nat.reduceAdd, AV.cells, AV.isTuple, setMany, alen, aiaddr, afill, Nat.reduceLeDiff, Nat.reduceMul, Nat.reduceLT, afillE, List.replicate, h]
  · refine call_pure (small_ok (n := n) (ds := ds)) (frzL_of' (d := 4) (carL_cons car_netF rfl)) ?_
    simp only [walkS, wl, rgets, retv, argsEnv, ev, cst, cst1, cstL, AEnv.get, AEnv.trim, envput, qstep, abin, aun, evs, evo, deref, qload, target, if_true, if_false, Nat.reduceEqDiff, reduceIte, Nat.reduceAdd, AV.cells, AV.isTuple, setMany, alen, aiaddr, afill, Nat.reduceLeDiff, Nat.reduceMul, Nat.reduceLT, afillE, List.replicate, h]
    refine withBool_intro ?_ ?_ <;> intro h2 <;> simp only [walkS, wl, rgets, retv, argsEnv, ev, cst, cst1, cstL, AEnv.get, AEnv.trim, envput, qstep, abin, aun, evs, evo, deref, qload, target, if_true, if_false, Nat.reduceEqDiff, reduceIte, Nat.reduceAdd, AV.cells, AV.isTuple, setMany, alen, aiaddr, afill, Nat.reduceLeDiff, Nat.reduceMul, Nat.reduceLT, afillE, List.replicate]
    · exact out_bool
    · have hs : valid n ds = true → n ≤ 16 := fun _ => by simp at h2; exact h2.1
      refine call_pure (Apart_ok hs f t) (frzL_of' (d := 4) (carL_cons car_netF rfl)) ?_
      simp only [walkS, wl, rgets, retv, argsEnv, ev, cst, cst1, cstL, AEnv.get, AEnv.trim, envput, qstep, abin, aun, evs, evo, deref, qload, target, if_true, if_false, Nat.reduceEqDiff, reduceIte, Nat.reduceAdd, AV.cells, AV.isTuple, setMany, alen, aiaddr, afill, Nat.reduceLeDiff, Nat.reduceMul, Nat.reduceLT, afillE, List.replicate, apartV]
      refine call_pure (refApart_ok hs f t) (frzL_of' (d := 4) (carL_cons car_netF rfl)) ?_
      simp only [walkS, wl, rgets, retv, argsEnv, ev, cst, cst1, cstL, AEnv.get, AEnv.trim, envput, qstep, abin, aun, evs, evo, deref, qload, target, if_true, if_false, Nat.reduceEqDiff, reduceIte, Nat.reduceAdd, AV.cells, AV.isTuple, setMany, alen, aiaddr, afill, Nat.reduceLeDiff, Nat.reduceMul, Nat.reduceLT, afillE, List.replicate, apartV]
      rcases apart_cases hs f t with ⟨e1, he1, E1⟩ | ⟨m, i, j, rfl, rfl, rfl, hi, hj, S, hv, hc1⟩
      · refine call_pure (Path_err hs E1) (frzL_of' (d := 4) (carL_cons car_netF rfl)) ?_
        rw [E1]
        simp only [walkS, wl, rgets, retv, argsEnv, ev, cst, cst1, cstL, AEnv.get, AEnv.trim, envput, qstep, abin, aun, evs, evo, deref, qload, target, if_true, if_false, Nat.reduceEqDiff, reduceIte, Nat.reduceAdd, AV.cells, AV.isTuple, setMany, alen, aiaddr, afill, Nat.reduceLeDiff, Nat.reduceMul, Nat.reduceLT, afillE, List.replicate, clashV, bne_self_eq_false, Bool.false_bne, Bool.true_bne, Int.reduceBNe, ic_length, beq_self_eq_true, Int.natCast_zero, Int.cast_ofNat_Int, Int.reduceBEq, Bool.not_true, Bool.not_false, Bool.false_beq, Bool.true_beq]
        exact out_bool
      · rcases hc1 with ⟨hh, E1⟩ | ⟨hh, E1⟩
        · obtain ⟨q, hch⟩ := S.chain hi hj hh
          refine call_pure (Path_way S hv hi hj hh hch) (frzL_of' (d := 4) (carL_cons car_netF rfl)) ?_
          have hck := way_check S hv hi hj hch ((lens m ds (one i)).1.long j)
          obtain ⟨c1, c2, c3, c4⟩ := hch.list S.good
          have hql := hch.lt
          have hsm2 := S.good.small
          rw [if_pos (Int.le_refl _)] at hck
          rw [E1]
          generalize roundL ds (lens m ds (one i)).1 j q = p at hck c1 c2 c3 c4 ⊢
          simp only [walkS, wl, rgets, retv, argsEnv, ev, cst, cst1, cstL, AEnv.get, AEnv.trim, envput, qstep, abin, aun, evs, evo, deref, qload, target, if_true, if_false, Nat.reduceEqDiff, reduceIte, Nat.reduceAdd, AV.cells, AV.isTuple, setMany, alen, aiaddr, afill, Nat.reduceLeDiff, Nat.reduceMul, Nat.reduceLT, afillE, List.replicate, clashV, bne_self_eq_false, Bool.false_bne, Bool.true_bne, Int.reduceBNe, ic_length, beq_self_eq_true, Int.natCast_zero, Int.cast_ofNat_Int, Int.reduceBEq, Bool.not_true, Bool.not_false, Bool.false_beq, Bool.true_beq]
          refine call_pure (refCheckPath_ok (n := m) (ds := ds) (f := i) (t := j) (most := (lens m ds (one i)).1.long j) (l := p) (by unfold big; omega)) (frzL_of' (d := 4) (carL_cons car_netF (carL_cons rfl (carL_cons rfl (carL_cons rfl (carL_cons car_icF rfl)))))) ?_
          rw [hck]
          simp only [walkS, wl, rgets, retv, argsEnv, ev, cst, cst1, cstL, AEnv.get, AEnv.trim, envput, qstep, abin, aun, evs, evo, deref, qload, target, if_true, if_false, Nat.reduceEqDiff, reduceIte, Nat.reduceAdd, AV.cells, AV.isTuple, setMany, alen, aiaddr, afill, Nat.reduceLeDiff, Nat.reduceMul, Nat.reduceLT, afillE, List.replicate, beq_self_eq_true, Int.reduceBEq]
          refine call_pure (Simple_ok (n := m) (ds := ds) (l := p) (f := i) (b := false) (by omega) c1 c4) (frzL_of' (d := 4) (carL_cons car_netF (carL_cons rfl (carL_cons car_icF rfl)))) ?_
          simp only [walkS, wl, rgets, retv, argsEnv, ev, cst, cst1, cstL, AEnv.get, AEnv.trim, envput, qstep, abin, aun, evs, evo, deref, qload, target, if_true, if_false, Nat.reduceEqDiff, reduceIte, Nat.reduceAdd, AV.cells, AV.isTuple, setMany, alen, aiaddr, afill, Nat.reduceLeDiff, Nat.reduceMul, Nat.reduceLT, afillE, List.replicate]
          exact out_bool
        · refine call_pure (Path_err hs E1) (frzL_of' (d := 4) (carL_cons car_netF rfl)) ?_
          rw [E1]
          simp only [walkS, wl, rgets, retv, argsEnv, ev, cst, cst1, cstL, AEnv.get, AEnv.trim, envput, qstep, abin, aun, evs, evo, deref, qload, target, if_true, if_false, Nat.reduceEqDiff, reduceIte, Nat.reduceAdd, AV.cells, AV.isTuple, setMany, alen, aiaddr, afill, Nat.reduceLeDiff, Nat.reduceMul, Nat.reduceLT, afillE, List.replicate, clashV, bne_self_eq_false, Bool.false_bne, Bool.true_bne, Int.reduceBNe, ic_length, beq_self_eq_true, Int.natCast_zero, Int.cast_ofNat_Int, Int.reduceBEq, Bool.not_true, Bool.not_false, Bool.false_beq, Bool.true_beq]
          exact out_bool
  · have hs : valid n ds = true → n ≤ 16 := fun hv => by simp [check, hv] at h
    refine call_pure (Apart_ok hs f t) (frzL_of' (d := 4) (carL_cons car_netF rfl)) ?_
    simp only [walkS, wl, rgets, retv, argsEnv, ev, cst, cst1, cstL, AEnv.get, AEnv.trim, envput, qstep, abin, aun, evs, evo, deref, qload, target, if_true, if_false, Nat.reduceEqDiff, reduceIte, Nat.reduceAdd, AV.cells, AV.isTuple, setMany, alen, aiaddr, afill, Nat.reduceLeDiff, Nat.reduceMul, Nat.reduceLT, afillE, List.replicate, apartV]
    refine call_pure (refApart_ok hs f t) (frzL_of' (d := 4) (carL_cons car_netF rfl)) ?_
    simp only [walkS, wl, rgets, retv, argsEnv, ev, cst, cst1, cstL, AEnv.get, AEnv.trim, envput, qstep, abin, aun, evs, evo, deref, qload, target, if_true, if_false, Nat.reduceEqDiff, reduceIte, Nat.reduceAdd, AV.cells, AV.isTuple, setMany, alen, aiaddr, afill, Nat.reduceLeDiff, Nat.reduceMul, Nat.reduceLT, afillE, List.replicate, apartV]
    rcases apart_cases hs f t with ⟨e1, he1, E1⟩ | ⟨m, i, j, rfl, rfl, rfl, hi, hj, S, hv, hc1⟩
    · refine call_pure (Path_err hs E1) (frzL_of' (d := 4) (carL_cons car_netF rfl)) ?_
      rw [E1]
      simp only [walkS, wl, rgets, retv, argsEnv, ev, cst, cst1, cstL, AEnv.get, AEnv.trim, envput, qstep, abin, aun, evs, evo, deref, qload, target, if_true, if_false, Nat.reduceEqDiff, reduceIte, Nat.reduceAdd, AV.cells, AV.isTuple, setMany, alen, aiaddr, afill, Nat.reduceLeDiff, Nat.reduceMul, Nat.reduceLT, afillE, List.replicate, clashV, bne_self_eq_false, Bool.false_bne, Bool.true_bne, Int.reduceBNe, ic_length, beq_self_eq_true, Int.natCast_zero, Int.cast_ofNat_Int, Int.reduceBEq, Bool.not_true, Bool.not_false, Bool.false_beq, Bool.true_beq]
      exact out_bool
    · rcases hc1 with ⟨hh, E1⟩ | ⟨hh, E1⟩
      · obtain ⟨q, hch⟩ := S.chain hi hj hh
        refine call_pure (Path_way S hv hi hj hh hch) (frzL_of' (d := 4) (carL_cons car_netF rfl)) ?_
        have hck := way_check S hv hi hj hch ((lens m ds (one i)).1.long j)
        obtain ⟨c1, c2, c3, c4⟩ := hch.list S.good
        have hql := hch.lt
        have hsm2 := S.good.small
        rw [if_pos (Int.le_refl _)] at hck
        rw [E1]
        generalize roundL ds (lens m ds (one i)).1 j q = p at hck c1 c2 c3 c4 ⊢
        simp only [walkS, wl, rgets, retv, argsEnv, ev, cst, cst1, cstL, AEnv.get, AEnv.trim, envput, qstep, abin, aun, evs, evo, deref, qload, target, if_true, if_false, Nat.reduceEqDiff, reduceIte, Nat.reduceAdd, AV.cells, AV.isTuple, setMany, alen, aiaddr, afill, Nat.reduceLeDiff, Nat.reduceMul, Nat.reduceLT, afillE, List.replicate, clashV, bne_self_eq_false, Bool.false_bne, Bool.true_bne, Int.reduceBNe, ic_length, beq_self_eq_true, Int.natCast_zero, Int.cast_ofNat_Int, Int.reduceBEq, Bool.not_true, Bool.not_false, Bool.false_beq, Bool.true_beq]
        refine call_pure (refCheckPath_ok (n := m) (ds := ds) (f := i) (t := j) (most := (lens m ds (one i)).1.long j) (l := p) (by unfold big; omega)) (frzL_of' (d := 4) (carL_cons car_netF (carL_cons rfl (carL_cons rfl (carL_cons rfl (carL_cons car_icF rfl)))))) ?_
        rw [hck]
        simp only [walkS, wl, rgets, retv, argsEnv, ev, cst, cst1, cstL, AEnv.get, AEnv.trim, envput, qstep, abin, aun, evs, evo, deref, qload, target, if_true, if_false, Nat.reduceEqDiff, reduceIte, Nat.reduceAdd, AV.cells, AV.isTuple, setMany, alen, aiaddr, afill, Nat.reduceLeDiff, Nat.reduceMul, Nat.reduceLT, afillE, List.replicate, beq_self_eq_true, Int.reduceBEq]
        refine call_pure (Simple_ok (n := m) (ds := ds) (l := p) (f := i) (b := false) (by omega) c1 c4) (frzL_of' (d := 4) (carL_cons car_netF (carL_cons rfl (carL_cons car_icF rfl)))) ?_
        simp only [walkS, wl, rgets, retv, argsEnv, ev, cst, cst1, cstL, AEnv.get, AEnv.trim, envput, qstep, abin, aun, evs, evo, deref, qload, target, if_true, if_false, Nat.reduceEqDiff, reduceIte, Nat.reduceAdd, AV.cells, AV.isTuple, setMany, alen, aiaddr, afill, Nat.reduceLeDiff, Nat.reduceMul, Nat.reduceLT, afillE, List.replicate]
        exact out_bool
      · refine call_pure (Path_err hs E1) (frzL_of' (d := 4) (carL_cons car_netF rfl)) ?_
        rw [E1]
        simp only [walkS, wl, rgets, retv, argsEnv, ev, cst, cst1, cstL, AEnv.get, AEnv.trim, envput, qstep, abin, aun, evs, evo, deref, qload, target, if_true, if_false, Nat.reduceEqDiff, reduceIte, Nat.reduceAdd, AV.cells, AV.isTuple, setMany, alen, aiaddr, afill, Nat.reduceLeDiff, Nat.reduceMul, Nat.reduceLT, afillE, List.replicate, clashV, bne_self_eq_false, Bool.false_bne, Bool.true_bne, Int.reduceBNe, ic_length, beq_self_eq_true, Int.natCast_zero, Int.cast_ofNat_Int, Int.reduceBEq, Bool.not_true, Bool.not_false, Bool.false_beq, Bool.true_beq]
        exact out_bool
/-- How far numbers of an assignment lie apart, by a walk. -/
theorem path_far {m : Nat} {ds : List Df} {xs : List Int} (hg : Good m ds) (hf : fulf m ds xs = true) {i j : Nat} {most : Int} {l : List Int} (h : ckPath m ds i j most l = 0) : at0 xs j - at0 xs i ≤ most := by
  unfold ckPath at h
  split at h
  · split at h
    · rename_i hb
      split at h
      · cases h
      · rename_i hl
        split at h
        · rename_i hw
          have hi : idx ds l = true := by simp at hb; exact hb.2
          have hsm := hg.small
          have hcalm : ∀ d, d ∈ ds → at0 xs (to d : Nat) ≤ at0 xs (fr d : Nat) + d.2.2 := fun d hd => (fulf_calm hf d hd (by have := (fulf_iff.1 hf).1.1; have := hg.fit.fr d hd; omega)).2
          unfold wkV at hw
          cases hwk : wk ds 0 i l with
          | none => rw [hwk] at hw; simp at hw
          | some r =>
            obtain ⟨s, a⟩ := r
            rw [hwk] at hw
            simp only [beq_iff_eq] at hw
            obtain ⟨b', hb', hle⟩ := wk_calm (φ := fun v => at0 xs (v : Nat)) hg hcalm l 0 i 0 s a hi (by omega) (by omega) hwk
            have : b' = j := by omega
            subst this
            omega
        · cases h
    · cases h
  · cases h
theorem apart_far {m : Nat} {ds : List Df} {xs : List Int} (hf : fulf m ds xs = true) {i j : Nat} (hi : i < m) (hh : (lens m ds (one i)).1.has j = true) : at0 xs j - at0 xs i ≤ (lens m ds (one i)).1.long j := by
  have hlen := (fulf_iff.1 hf).1.1
  have := (lens_under (n := m) (calm_shift (fulf_calm hf) (at0 xs i)) (S := one i) (fun v hv => by
    have : v = i := by simpa [one] using hv
    subst this
    exact ⟨by omega, by omega⟩) j hh).2
  exact this
theorem law10_ok {n : Int} {ds : List Df} {xs : List Int} {f t most : Int} {l : List Int} (hd : ds.length ≤ big) (hx : xs.length ≤ big) (hl : l.length ≤ big) : PCall Try.prog 10 [.agg [I n, .ro false (rows ds)], .ro false (ic xs), I f, I t, I most, .ro false (ic l)] (.bool true) := by
  refine PCall.intro text10 (by simp) ?_
  unfold ir10
  simp only [walkS, wl, rgets, retv, argsEnv, ev, cst, cst1, cstL, AEnv.get, AEnv.trim, envput, qstep, abin, aun, evs, evo, deref, qload, target, if_true, if_false, Nat.reduceEqDiff, reduceIte, Nat.reduceAdd, AV.cells, AV.isTuple, setMany, alen, aiaddr, afill, Nat.reduceLeDiff, Nat.reduceMul, Nat.reduceLT, afillE, List.replicate]
  refine call_pure sane_ok (frzL_of' (d := 4) rfl) ?_
  simp only [walkS, wl, rgets, retv, argsEnv, ev, cst, cst1, cstL, AEnv.get, AEnv.trim, envput, qstep, abin, aun, evs, evo, deref, qload, target, if_true, if_false, Nat.reduceEqDiff, reduceIte, Nat.reduceAdd, AV.cells, AV.isTuple, setMany, alen, aiaddr, afill, Nat.reduceLeDiff, Nat.reduceMul, Nat.reduceLT, afillE, List.replicate]
  refine call_pure (small_ok (n := n) (ds := ds)) (frzL_of' (d := 4) (carL_cons car_netF rfl)) ?_
  cases hsm : (decide (n ≤ 16) && decide (ds.length ≤ 60)) with
  | false =>
    simp only [walkS, wl, rgets, retv, argsEnv, ev, cst, cst1, cstL, AEnv.get, AEnv.trim, envput, qstep, abin, aun, evs, evo, deref, qload, target, if_true, if_false, Nat.reduceEqDiff, reduceIte, Nat.reduceAdd, AV.cells, AV.isTuple, setMany, alen, aiaddr, afill, Nat.reduceLeDiff, Nat.reduceMul, Nat.reduceLT, afillE, List.replicate]
    exact out_bool
  | true =>
    have hs : valid n ds = true → n ≤ 16 := fun _ => by simp at hsm; exact hsm.1
    simp only [walkS, wl, rgets, retv, argsEnv, ev, cst, cst1, cstL, AEnv.get, AEnv.trim, envput, qstep, abin, aun, evs, evo, deref, qload, target, if_true, if_false, Nat.reduceEqDiff, reduceIte, Nat.reduceAdd, AV.cells, AV.isTuple, setMany, alen, aiaddr, afill, Nat.reduceLeDiff, Nat.reduceMul, Nat.reduceLT, afillE, List.replicate]
    refine call_pure (fulfils_ok (n := n) (ds := ds) (xs := xs) (b := false) hx hd) (frzL_of' (d := 4) (carL_cons car_netF (carL_cons car_icF rfl))) ?_
    cases hf : fulf n ds xs with
    | false =>
      simp only [walkS, wl, rgets, retv, argsEnv, ev, cst, cst1, cstL, AEnv.get, AEnv.trim, envput, qstep, abin, aun, evs, evo, deref, qload, target, if_true, if_false, Nat.reduceEqDiff, reduceIte, Nat.reduceAdd, AV.cells, AV.isTuple, setMany, alen, aiaddr, afill, Nat.reduceLeDiff, Nat.reduceMul, Nat.reduceLT, afillE, List.replicate]
      exact out_bool
    | true =>
      simp only [walkS, wl, rgets, retv, argsEnv, ev, cst, cst1, cstL, AEnv.get, AEnv.trim, envput, qstep, abin, aun, evs, evo, deref, qload, target, if_true, if_false, Nat.reduceEqDiff, reduceIte, Nat.reduceAdd, AV.cells, AV.isTuple, setMany, alen, aiaddr, afill, Nat.reduceLeDiff, Nat.reduceMul, Nat.reduceLT, afillE, List.replicate]
      refine call_pure (check_ok n ds) (frzL_of' (d := 4) (carL_cons car_netF rfl)) ?_
      cases hv : valid n ds with
      | false =>
        have e : check n ds = 40 := by simp [check, hv]
        rw [e]
        simp only [walkS, wl, rgets, retv, argsEnv, ev, cst, cst1, cstL, AEnv.get, AEnv.trim, envput, qstep, abin, aun, evs, evo, deref, qload, target, if_true, if_false, Nat.reduceEqDiff, reduceIte, Nat.reduceAdd, AV.cells, AV.isTuple, setMany, alen, aiaddr, afill, Nat.reduceLeDiff, Nat.reduceMul, Nat.reduceLT, afillE, List.replicate, Int.reduceBNe]
        exact out_bool
      | true =>
        have e : check n ds = 0 := by simp [check, hv]
        rw [e]
        obtain ⟨m, rfl, hg, hm⟩ := good_of hv (hs hv)
        have S := fulf_sol hg hf
        by_cases a1 : f < 0
        · simp only [walkS, wl, rgets, retv, argsEnv, ev, cst, cst1, cstL, AEnv.get, AEnv.trim, envput, qstep, abin, aun, evs, evo, deref, qload, target, if_true, if_false, Nat.reduceEqDiff, reduceIte, Nat.reduceAdd, AV.cells, AV.isTuple, setMany, alen, aiaddr, afill, Nat.reduceLeDiff, Nat.reduceMul, Nat.reduceLT, afillE, List.replicate, Int.reduceBNe, decide_eq_true a1]
          exact out_bool
        · by_cases a2 : f ≥ m
          · simp only [walkS, wl, rgets, retv, argsEnv, ev, cst, cst1, cstL, AEnv.get, AEnv.trim, envput, qstep, abin, aun, evs, evo, deref, qload, target, if_true, if_false, Nat.reduceEqDiff, reduceIte, Nat.reduceAdd, AV.cells, AV.isTuple, setMany, alen, aiaddr, afill, Nat.reduceLeDiff, Nat.reduceMul, Nat.reduceLT, afillE, List.replicate, Int.reduceBNe, decide_eq_false a1, decide_eq_true a2]
            exact out_bool
          · by_cases a3 : t < 0
            · simp only [walkS, wl, rgets, retv, argsEnv, ev, cst, cst1, cstL, AEnv.get, AEnv.trim, envput, qstep, abin, aun, evs, evo, deref, qload, target, if_true, if_false, Nat.reduceEqDiff, reduceIte, Nat.reduceAdd, AV.cells, AV.isTuple, setMany, alen, aiaddr, afill, Nat.reduceLeDiff, Nat.reduceMul, Nat.reduceLT, afillE, List.replicate, Int.reduceBNe, decide_eq_false a1, decide_eq_false a2, decide_eq_true a3]
              exact out_bool
            · by_cases a4 : t ≥ m
              · simp only [walkS, wl, rgets, retv, argsEnv, ev, cst, cst1, cstL, AEnv.get, AEnv.trim, envput, qstep, abin, aun, evs, evo, deref, qload, target, if_true, if_false, Nat.reduceEqDiff, reduceIte, Nat.reduceAdd, AV.cells, AV.isTuple, setMany, alen, aiaddr, afill, Nat.reduceLeDiff, Nat.reduceMul, Nat.reduceLT, afillE, List.replicate, Int.reduceBNe, decide_eq_false a1, decide_eq_false a2, decide_eq_false a3, decide_eq_true a4]
                exact out_bool
              · obtain ⟨i, rfl⟩ : ∃ k : Nat, f = k := ⟨f.toNat, (Int.toNat_of_nonneg (by omega)).symm⟩
                obtain ⟨j, rfl⟩ : ∃ k : Nat, t = k := ⟨t.toNat, (Int.toNat_of_nonneg (by omega)).symm⟩
                have hi : i < m := by omega
                have hj : j < m := by omega
                obtain ⟨⟨lx, _⟩, _, hfar, _⟩ := fulf_iff.1 hf
                have hxi : i < xs.length := by omega
                have hxj : j < xs.length := by omega
                have r1 := far_le (hfar _ (List.getElem_mem hxi))
                have r2 := far_le (hfar _ (List.getElem_mem hxj))
                simp only [walkS, wl, rgets, retv, argsEnv, ev, cst, cst1, cstL, AEnv.get, AEnv.trim, envput, qstep, abin, aun, evs, evo, deref, qload, target, if_true, if_false, Nat.reduceEqDiff, reduceIte, Nat.reduceAdd, AV.cells, AV.isTuple, setMany, alen, aiaddr, afill, Nat.reduceLeDiff, Nat.reduceMul, Nat.reduceLT, afillE, List.replicate, Int.reduceBNe, decide_eq_false a1, decide_eq_false a2, decide_eq_false a3, decide_eq_false a4]
                refine dcall_pure (CheckPath_ok (n := m) (f := i) (t := j) (most := most) hd hl) (frzL_of (d := 4) (carL_cons car_netF (carL_cons rfl (carL_cons rfl (carL_cons rfl (carL_cons car_icF rfl)))))) ?_
                have first : ∀ c : Int, ckPath m ds i j most l = c → (c == 0) = true → decide (xs[j] - xs[i] > most) = false := fun c hc h0 => by
                  have := path_far hg hf (i := i) (j := j) (most := most) (l := l) (by rw [hc]; simpa using h0)
                  rw [at0_nat hxi, at0_nat hxj] at this
                  simpa using this
                generalize hck : ckPath m ds i j most l = c
                have first' := first c hck
                simp only [walkS, wl, rgets, retv, argsEnv, ev, cst, cst1, cstL, AEnv.get, AEnv.trim, envput, qstep, abin, aun, evs, evo, deref, qload, target, if_true, if_false, Nat.reduceEqDiff, reduceIte, Nat.reduceAdd, AV.cells, AV.isTuple, setMany, alen, aiaddr, afill, Nat.reduceLeDiff, Nat.reduceMul, Nat.reduceLT, afillE, List.replicate]
                cases hc0 : (c == 0) with
                | false =>
                  simp only [walkS, wl, rgets, retv, argsEnv, ev, cst, cst1, cstL, AEnv.get, AEnv.trim, envput, qstep, abin, aun, evs, evo, deref, qload, target, if_true, if_false, Nat.reduceEqDiff, reduceIte, Nat.reduceAdd, AV.cells, AV.isTuple, setMany, alen, aiaddr, afill, Nat.reduceLeDiff, Nat.reduceMul, Nat.reduceLT, afillE, List.replicate]
                  refine call_pure (Apart_ok hs i j) (frzL_of' (d := 4) (carL_cons car_netF rfl)) ?_
                  simp only [walkS, wl, rgets, retv, argsEnv, ev, cst, cst1, cstL, AEnv.get, AEnv.trim, envput, qstep, abin, aun, evs, evo, deref, qload, target, if_true, if_false, Nat.reduceEqDiff, reduceIte, Nat.reduceAdd, AV.cells, AV.isTuple, setMany, alen, aiaddr, afill, Nat.reduceLeDiff, Nat.reduceMul, Nat.reduceLT, afillE, List.replicate, apartV]
                  rw [apart_fine S hv hi hj]
                  cases hh : (lens m ds (one i)).1.has j with
                  | false =>
                    refine call_pure (Path_err hs (by rw [apart_fine S hv hi hj, hh]; rfl)) (frzL_of' (d := 4) (carL_cons car_netF rfl)) ?_
                    simp only [walkS, wl, rgets, retv, argsEnv, ev, cst, cst1, cstL, AEnv.get, AEnv.trim, envput, qstep, abin, aun, evs, evo, deref, qload, target, if_true, if_false, Nat.reduceEqDiff, reduceIte, Nat.reduceAdd, AV.cells, AV.isTuple, setMany, alen, aiaddr, afill, Nat.reduceLeDiff, Nat.reduceMul, Nat.reduceLT, afillE, List.replicate, clashV, bne_self_eq_false, Bool.false_bne, Bool.true_bne, Int.reduceBNe, Bool.not_true, Bool.not_false, Bool.false_beq, Bool.true_beq]
                    exact out_bool
                  | true =>
                    obtain ⟨q, hch⟩ := S.chain hi hj hh
                    refine call_pure (Path_way S hv hi hj hh hch) (frzL_of' (d := 4) (carL_cons car_netF rfl)) ?_
                    have k1 := way_check S hv hi hj hch ((lens m ds (one i)).1.long j)
                    have k2 := way_check S hv hi hj hch ((lens m ds (one i)).1.long j - 1)
                    rw [if_pos (Int.le_refl _)] at k1
                    rw [if_neg (by omega)] at k2
                    have bb := S.bound hi j
                    have far2 := apart_far hf hi hh
                    rw [at0_nat hxi, at0_nat hxj] at far2
                    have pl : (roundL ds (lens m ds (one i)).1 j q).length ≤ big := by
                      have h1 : (roundL ds (lens m ds (one i)).1 j q).length = q := li_length
                      have := hch.lt
                      unfold big; omega
                    generalize roundL ds (lens m ds (one i)).1 j q = p at k1 k2 pl ⊢
                    simp only [walkS, wl, rgets, retv, argsEnv, ev, cst, cst1, cstL, AEnv.get, AEnv.trim, envput, qstep, abin, aun, evs, evo, deref, qload, target, if_true, if_false, Nat.reduceEqDiff, reduceIte, Nat.reduceAdd, AV.cells, AV.isTuple, setMany, alen, aiaddr, afill, Nat.reduceLeDiff, Nat.reduceMul, Nat.reduceLT, afillE, List.replicate, clashV, bne_self_eq_false, Bool.false_bne, Bool.true_bne, Int.reduceBNe, Bool.not_true, Bool.not_false, Bool.false_beq, Bool.true_beq, ic_get hxi, ic_get hxj, ic_length]
                    rw [wrap_id (by omega) (by omega), decide_eq_true far2]
                    simp only [walkS, wl, rgets, retv, argsEnv, ev, cst, cst1, cstL, AEnv.get, AEnv.trim, envput, qstep, abin, aun, evs, evo, deref, qload, target, if_true, if_false, Nat.reduceEqDiff, reduceIte, Nat.reduceAdd, AV.cells, AV.isTuple, setMany, alen, aiaddr, afill, Nat.reduceLeDiff, Nat.reduceMul, Nat.reduceLT, afillE, List.replicate]
                    refine dcall_pure (CheckPath_ok (n := m) (f := i) (t := j) (most := (lens m ds (one i)).1.long j) (l := p) hd pl) (frzL_of (d := 4) (carL_cons car_netF (carL_cons rfl (carL_cons rfl (carL_cons rfl (carL_cons car_icF rfl)))))) ?_
                    rw [k1]
                    simp only [walkS, wl, rgets, retv, argsEnv, ev, cst, cst1, cstL, AEnv.get, AEnv.trim, envput, qstep, abin, aun, evs, evo, deref, qload, target, if_true, if_false, Nat.reduceEqDiff, reduceIte, Nat.reduceAdd, AV.cells, AV.isTuple, setMany, alen, aiaddr, afill, Nat.reduceLeDiff, Nat.reduceMul, Nat.reduceLT, afillE, List.replicate, beq_self_eq_true, Int.reduceBEq]
                    rw [wrap_id (by omega) (by omega)]
                    refine call_pure (CheckPath_ok (n := m) (f := i) (t := j) (most := (lens m ds (one i)).1.long j - 1) (l := p) hd pl) (frzL_of' (d := 4) (carL_cons car_netF (carL_cons rfl (carL_cons rfl (carL_cons rfl (carL_cons car_icF rfl)))))) ?_
                    rw [k2]
                    simp only [walkS, wl, rgets, retv, argsEnv, ev, cst, cst1, cstL, AEnv.get, AEnv.trim, envput, qstep, abin, aun, evs, evo, deref, qload, target, if_true, if_false, Nat.reduceEqDiff, reduceIte, Nat.reduceAdd, AV.cells, AV.isTuple, setMany, alen, aiaddr, afill, Nat.reduceLeDiff, Nat.reduceMul, Nat.reduceLT, afillE, List.replicate, beq_self_eq_true, Int.reduceBEq]
                    exact out_bool
                | true =>
                  simp only [walkS, wl, rgets, retv, argsEnv, ev, cst, cst1, cstL, AEnv.get, AEnv.trim, envput, qstep, abin, aun, evs, evo, deref, qload, target, if_true, if_false, Nat.reduceEqDiff, reduceIte, Nat.reduceAdd, AV.cells, AV.isTuple, setMany, alen, aiaddr, afill, Nat.reduceLeDiff, Nat.reduceMul, Nat.reduceLT, afillE, List.replicate, ic_get hxi, ic_get hxj, ic_length, first' hc0]
                  rw [wrap_id (by omega) (by omega), first' hc0]
                  simp only [walkS, wl, rgets, retv, argsEnv, ev, cst, cst1, cstL, AEnv.get, AEnv.trim, envput, qstep, abin, aun, evs, evo, deref, qload, target, if_true, if_false, Nat.reduceEqDiff, reduceIte, Nat.reduceAdd, AV.cells, AV.isTuple, setMany, alen, aiaddr, afill, Nat.reduceLeDiff, Nat.reduceMul, Nat.reduceLT, afillE, List.replicate]
                  refine call_pure (Apart_ok hs i j) (frzL_of' (d := 4) (carL_cons car_netF rfl)) ?_
                  simp only [walkS, wl, rgets, retv, argsEnv, ev, cst, cst1, cstL, AEnv.get, AEnv.trim, envput, qstep, abin, aun, evs, evo, deref, qload, target, if_true, if_false, Nat.reduceEqDiff, reduceIte, Nat.reduceAdd, AV.cells, AV.isTuple, setMany, alen, aiaddr, afill, Nat.reduceLeDiff, Nat.reduceMul, Nat.reduceLT, afillE, List.replicate, apartV]
                  rw [apart_fine S hv hi hj]
                  cases hh : (lens m ds (one i)).1.has j with
                  | false =>
                    refine call_pure (Path_err hs (by rw [apart_fine S hv hi hj, hh]; rfl)) (frzL_of' (d := 4) (carL_cons car_netF rfl)) ?_
                    simp only [walkS, wl, rgets, retv, argsEnv, ev, cst, cst1, cstL, AEnv.get, AEnv.trim, envput, qstep, abin, aun, evs, evo, deref, qload, target, if_true, if_false, Nat.reduceEqDiff, reduceIte, Nat.reduceAdd, AV.cells, AV.isTuple, setMany, alen, aiaddr, afill, Nat.reduceLeDiff, Nat.reduceMul, Nat.reduceLT, afillE, List.replicate, clashV, bne_self_eq_false, Bool.false_bne, Bool.true_bne, Int.reduceBNe, Bool.not_true, Bool.not_false, Bool.false_beq, Bool.true_beq]
                    exact out_bool
                  | true =>
                    obtain ⟨q, hch⟩ := S.chain hi hj hh
                    refine call_pure (Path_way S hv hi hj hh hch) (frzL_of' (d := 4) (carL_cons car_netF rfl)) ?_
                    have k1 := way_check S hv hi hj hch ((lens m ds (one i)).1.long j)
                    have k2 := way_check S hv hi hj hch ((lens m ds (one i)).1.long j - 1)
                    rw [if_pos (Int.le_refl _)] at k1
                    rw [if_neg (by omega)] at k2
                    have bb := S.bound hi j
                    have far2 := apart_far hf hi hh
                    rw [at0_nat hxi, at0_nat hxj] at far2
                    have pl : (roundL ds (lens m ds (one i)).1 j q).length ≤ big := by
                      have h1 : (roundL ds (lens m ds (one i)).1 j q).length = q := li_length
                      have := hch.lt
                      unfold big; omega
                    generalize roundL ds (lens m ds (one i)).1 j q = p at k1 k2 pl ⊢
                    simp only [walkS, wl, rgets, retv, argsEnv, ev, cst, cst1, cstL, AEnv.get, AEnv.trim, envput, qstep, abin, aun, evs, evo, deref, qload, target, if_true, if_false, Nat.reduceEqDiff, reduceIte, Nat.reduceAdd, AV.cells, AV.isTuple, setMany, alen, aiaddr, afill, Nat.reduceLeDiff, Nat.reduceMul, Nat.reduceLT, afillE, List.replicate, clashV, bne_self_eq_false, Bool.false_bne, Bool.true_bne, Int.reduceBNe, Bool.not_true, Bool.not_false, Bool.false_beq, Bool.true_beq, ic_get hxi, ic_get hxj, ic_length]
                    rw [wrap_id (by omega) (by omega), decide_eq_true far2]
                    simp only [walkS, wl, rgets, retv, argsEnv, ev, cst, cst1, cstL, AEnv.get, AEnv.trim, envput, qstep, abin, aun, evs, evo, deref, qload, target, if_true, if_false, Nat.reduceEqDiff, reduceIte, Nat.reduceAdd, AV.cells, AV.isTuple, setMany, alen, aiaddr, afill, Nat.reduceLeDiff, Nat.reduceMul, Nat.reduceLT, afillE, List.replicate]
                    refine dcall_pure (CheckPath_ok (n := m) (f := i) (t := j) (most := (lens m ds (one i)).1.long j) (l := p) hd pl) (frzL_of (d := 4) (carL_cons car_netF (carL_cons rfl (carL_cons rfl (carL_cons rfl (carL_cons car_icF rfl)))))) ?_
                    rw [k1]
                    simp only [walkS, wl, rgets, retv, argsEnv, ev, cst, cst1, cstL, AEnv.get, AEnv.trim, envput, qstep, abin, aun, evs, evo, deref, qload, target, if_true, if_false, Nat.reduceEqDiff, reduceIte, Nat.reduceAdd, AV.cells, AV.isTuple, setMany, alen, aiaddr, afill, Nat.reduceLeDiff, Nat.reduceMul, Nat.reduceLT, afillE, List.replicate, beq_self_eq_true, Int.reduceBEq]
                    rw [wrap_id (by omega) (by omega)]
                    refine call_pure (CheckPath_ok (n := m) (f := i) (t := j) (most := (lens m ds (one i)).1.long j - 1) (l := p) hd pl) (frzL_of' (d := 4) (carL_cons car_netF (carL_cons rfl (carL_cons rfl (carL_cons rfl (carL_cons car_icF rfl)))))) ?_
                    rw [k2]
                    simp only [walkS, wl, rgets, retv, argsEnv, ev, cst, cst1, cstL, AEnv.get, AEnv.trim, envput, qstep, abin, aun, evs, evo, deref, qload, target, if_true, if_false, Nat.reduceEqDiff, reduceIte, Nat.reduceAdd, AV.cells, AV.isTuple, setMany, alen, aiaddr, afill, Nat.reduceLeDiff, Nat.reduceMul, Nat.reduceLT, afillE, List.replicate, beq_self_eq_true, Int.reduceBEq]
                    exact out_bool
end Go.Proofs.Ytepnijjgdhldeaa
