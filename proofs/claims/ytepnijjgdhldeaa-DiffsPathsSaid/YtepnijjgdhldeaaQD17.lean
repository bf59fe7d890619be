/- CheckPath of the program and of the specification; Apart and Simple of the specification. -/
import Derived.Test.YtepnijjgdhldeaaQG8
namespace Go.Proofs.Ytepnijjgdhldeaa
open Go.Awp
set_option linter.unusedSimpArgs false
set_option linter.unusedVariables false
set_option maxRecDepth 10000
set_option maxHeartbeats 8000000
/-- CheckPath, as both programs answer. -/
def ckPath (n : Int) (ds : List Df) (f t most : Int) (l : List Int) : Int :=
  if valid n ds then (if (isNode f n && isNode t n) && idx ds l then (if (l.length : Int) > n - 1 then 43 else if (wkV ds f t l).2 = true ∧ (wkV ds f t l).1 ≤ most then 0 else 43) else 1) else 40
theorem CheckPath_ok {n : Int} {ds : List Df} {l : List Int} {f t most : Int} (hd : ds.length ≤ big) (hl : l.length ≤ big) : PCall Try.prog 38 [.agg [I n, .ro false (rows ds)], I f, I t, I most, .ro false (ic l)] (I (ckPath n ds f t most l)) := by
  refine PCall.intro text38 (by simp) ?_
  unfold ir38
  simp only [walkS, wl, rgets, retv, argsEnv, ev, cst, cst1, cstL, AEnv.get, AEnv.trim, envput, qstep, abin, aun, evs, evo, deref, qload, target, if_true, if_false, Nat.reduceEqDiff, reduceIte, Nat.reduceAdd, AV.cells, AV.isTuple, setMany, alen, aiaddr, afill, Nat.reduceLeDiff, Nat.reduceMul, Nat.reduceLT, afillE, List.replicate]
  refine dcall_pure (in_ok f 0 (IntKind.i64.wrap (n - 1))) (frzL_of (d := 4) rfl) ?_
  simp only [walkS, wl, rgets, retv, argsEnv, ev, cst, cst1, cstL, AEnv.get, AEnv.trim, envput, qstep, abin, aun, evs, evo, deref, qload, target, if_true, if_false, Nat.reduceEqDiff, reduceIte, Nat.reduceAdd, AV.cells, AV.isTuple, setMany, alen, aiaddr, afill, Nat.reduceLeDiff, Nat.reduceMul, Nat.reduceLT, afillE, List.replicate]
  refine dcall_pure (in_ok t 0 (IntKind.i64.wrap (n - 1))) (frzL_of (d := 4) rfl) ?_
  simp only [walkS, wl, rgets, retv, argsEnv, ev, cst, cst1, cstL, AEnv.get, AEnv.trim, envput, qstep, abin, aun, evs, evo, deref, qload, target, if_true, if_false, Nat.reduceEqDiff, reduceIte, Nat.reduceAdd, AV.cells, AV.isTuple, setMany, alen, aiaddr, afill, Nat.reduceLeDiff, Nat.reduceMul, Nat.reduceLT, afillE, List.replicate]
  refine dcall_pure (indices_ok (n := n) hd hl) (frzL_of (d := 4) (carL_cons car_netF (carL_cons car_icF rfl))) ?_
  simp only [walkS, wl, rgets, retv, argsEnv, ev, cst, cst1, cstL, AEnv.get, AEnv.trim, envput, qstep, abin, aun, evs, evo, deref, qload, target, if_true, if_false, Nat.reduceEqDiff, reduceIte, Nat.reduceAdd, AV.cells, AV.isTuple, setMany, alen, aiaddr, afill, Nat.reduceLeDiff, Nat.reduceMul, Nat.reduceLT, afillE, List.replicate]
  generalize hb1 : (decide (0 ≤ f) && decide (f ≤ IntKind.i64.wrap (n - 1))) = b1
  generalize hb2 : (decide (0 ≤ t) && decide (t ≤ IntKind.i64.wrap (n - 1))) = b2
  refine call_pure (asked_ok n ds [b1, b2, idx ds l] (by simp [big])) (frzL_of' (d := 4) (carL_cons car_netF (carL_cons (car_own (o := ⟨4, 1, [[.bool b1], [.bool b2], [.bool (idx ds l)]]⟩) rfl (bc_simple [b1, b2, idx ds l])) rfl))) ?_
  simp only [walkS, wl, rgets, retv, argsEnv, ev, cst, cst1, cstL, AEnv.get, AEnv.trim, envput, qstep, abin, aun, evs, evo, deref, qload, target, if_true, if_false, Nat.reduceEqDiff, reduceIte, Nat.reduceAdd, AV.cells, AV.isTuple, setMany, alen, aiaddr, afill, Nat.reduceLeDiff, Nat.reduceMul, Nat.reduceLT, afillE, List.replicate]
  have nodes : valid n ds = true → b1 = isNode f n ∧ b2 = isNode t n := fun hv => by
    have h1 := (valid_iff.1 hv).1
    rw [wrap_id (by omega) (by omega)] at hb1 hb2
    constructor
    · rw [← hb1, Bool.eq_iff_iff]; simp [isNode]; omega
    · rw [← hb2, Bool.eq_iff_iff]; simp [isNode]; omega
  refine withBool_intro ?_ ?_ <;> intro h <;> simp only [walkS, wl, rgets, retv, argsEnv, ev, cst, cst1, cstL, AEnv.get, AEnv.trim, envput, qstep, abin, aun, evs, evo, deref, qload, target, if_true, if_false, Nat.reduceEqDiff, reduceIte, Nat.reduceAdd, AV.cells, AV.isTuple, setMany, alen, aiaddr, afill, Nat.reduceLeDiff, Nat.reduceMul, Nat.reduceLT, afillE, List.replicate]
  · rcases asked_ne h with ⟨hv, e⟩ | ⟨hv, hb, e⟩
    · have e2 : ckPath n ds f t most l = 40 := by simp [ckPath, hv]
      rw [e, e2]; exact out_int
    · obtain ⟨rfl, rfl⟩ := nodes hv
      have hb' : ((isNode f n && isNode t n) && idx ds l) = false := by simp at hb ⊢; exact hb
      have e2 : ckPath n ds f t most l = 1 := by simp only [ckPath, hv, hb', if_true, Bool.false_eq_true, if_false]
      rw [e, e2]; exact out_int
  · obtain ⟨hv, hb⟩ := asked_eq h
    obtain ⟨rfl, rfl⟩ := nodes hv
    have hb' : ((isNode f n && isNode t n) && idx ds l) = true := by simp at hb ⊢; exact ⟨⟨hb.1, hb.2.1⟩, hb.2.2⟩
    have hi : idx ds l = true := by simp at hb; exact hb.2.2
    have v1 := (valid_iff.1 hv).1
    refine call_pure (walk_ok (n := n) (ds := ds) (l := l) (f := f) (t := t) (b := false) hl hi) (frzL_of' (d := 4) (carL_cons car_netF (carL_cons rfl (carL_cons rfl (carL_cons car_icF rfl))))) ?_
    have hend : ckPath n ds f t most l = if (l.length : Int) > n - 1 then 43 else if (wkV ds f t l).2 = true ∧ (wkV ds f t l).1 ≤ most then 0 else 43 := by simp only [ckPath, hv, hb', if_true]
    rw [hend]
    generalize wkV ds f t l = r
    obtain ⟨s, ok⟩ := r
    cases ok with
    | false =>
      simp only [walkS, wl, rgets, retv, argsEnv, ev, cst, cst1, cstL, AEnv.get, AEnv.trim, envput, qstep, abin, aun, evs, evo, deref, qload, target, if_true, if_false, Nat.reduceEqDiff, reduceIte, Nat.reduceAdd, AV.cells, AV.isTuple, setMany, alen, aiaddr, afill, Nat.reduceLeDiff, Nat.reduceMul, Nat.reduceLT, afillE, List.replicate]
      have : (if (l.length : Int) > n - 1 then (43 : Int) else 43) = 43 := by split <;> rfl
      simp only [false_and, if_false, this]
      exact out_int
    | true =>
      simp only [walkS, wl, rgets, retv, argsEnv, ev, cst, cst1, cstL, AEnv.get, AEnv.trim, envput, qstep, abin, aun, evs, evo, deref, qload, target, if_true, if_false, Nat.reduceEqDiff, reduceIte, Nat.reduceAdd, AV.cells, AV.isTuple, setMany, alen, aiaddr, afill, Nat.reduceLeDiff, Nat.reduceMul, Nat.reduceLT, afillE, List.replicate, ic_length]
      rw [wrap_id (by omega) (by omega)]
      by_cases h2 : (l.length : Int) > n - 1
      · simp only [walkS, wl, rgets, retv, argsEnv, ev, cst, cst1, cstL, AEnv.get, AEnv.trim, envput, qstep, abin, aun, evs, evo, deref, qload, target, if_true, if_false, Nat.reduceEqDiff, reduceIte, Nat.reduceAdd, AV.cells, AV.isTuple, setMany, alen, aiaddr, afill, Nat.reduceLeDiff, Nat.reduceMul, Nat.reduceLT, afillE, List.replicate, decide_eq_true h2]
        rw [if_pos h2]; exact out_int
      · by_cases h3 : s > most
        · simp only [walkS, wl, rgets, retv, argsEnv, ev, cst, cst1, cstL, AEnv.get, AEnv.trim, envput, qstep, abin, aun, evs, evo, deref, qload, target, if_true, if_false, Nat.reduceEqDiff, reduceIte, Nat.reduceAdd, AV.cells, AV.isTuple, setMany, alen, aiaddr, afill, Nat.reduceLeDiff, Nat.reduceMul, Nat.reduceLT, afillE, List.replicate, decide_eq_false h2, decide_eq_true h3]
          rw [if_neg h2, if_neg (by omega)]; exact out_int
        · simp only [walkS, wl, rgets, retv, argsEnv, ev, cst, cst1, cstL, AEnv.get, AEnv.trim, envput, qstep, abin, aun, evs, evo, deref, qload, target, if_true, if_false, Nat.reduceEqDiff, reduceIte, Nat.reduceAdd, AV.cells, AV.isTuple, setMany, alen, aiaddr, afill, Nat.reduceLeDiff, Nat.reduceMul, Nat.reduceLT, afillE, List.replicate, decide_eq_false h2, decide_eq_false h3]
          rw [if_neg h2, if_pos (by omega)]; exact out_int
theorem refCheckPath_ok {n : Int} {ds : List Df} {l : List Int} {f t most : Int} (hl : l.length ≤ big) : PCall Try.prog 39 [.agg [I n, .ro false (rows ds)], I f, I t, I most, .ro false (ic l)] (I (ckPath n ds f t most l)) := by
  refine PCall.intro text39 (by simp) ?_
  unfold ir39
  simp only [walkS, wl, rgets, retv, argsEnv, ev, cst, cst1, cstL, AEnv.get, AEnv.trim, envput, qstep, abin, aun, evs, evo, deref, qload, target, if_true, if_false, Nat.reduceEqDiff, reduceIte, Nat.reduceAdd, AV.cells, AV.isTuple, setMany, alen, aiaddr, afill, Nat.reduceLeDiff, Nat.reduceMul, Nat.reduceLT, afillE, List.replicate]
  refine call_pure (refCheck_ok n ds) (frzL_of' (d := 4) (carL_cons car_netF rfl)) ?_
  simp only [walkS, wl, rgets, retv, argsEnv, ev, cst, cst1, cstL, AEnv.get, AEnv.trim, envput, qstep, abin, aun, evs, evo, deref, qload, target, if_true, if_false, Nat.reduceEqDiff, reduceIte, Nat.reduceAdd, AV.cells, AV.isTuple, setMany, alen, aiaddr, afill, Nat.reduceLeDiff, Nat.reduceMul, Nat.reduceLT, afillE, List.replicate]
  refine withBool_intro ?_ ?_ <;> intro h <;> simp only [walkS, wl, rgets, retv, argsEnv, ev, cst, cst1, cstL, AEnv.get, AEnv.trim, envput, qstep, abin, aun, evs, evo, deref, qload, target, if_true, if_false, Nat.reduceEqDiff, reduceIte, Nat.reduceAdd, AV.cells, AV.isTuple, setMany, alen, aiaddr, afill, Nat.reduceLeDiff, Nat.reduceMul, Nat.reduceLT, afillE, List.replicate]
  · have hv := check_ne (by simpa using h)
    have e2 : ckPath n ds f t most l = 40 := by simp [ckPath, hv]
    rw [e2]; exact out_int
  · have hv := check_eq (by simpa using h)
    have v1 := (valid_iff.1 hv).1
    have bad : ((isNode f n && isNode t n) && idx ds l) = false → ckPath n ds f t most l = 1 := fun hb' => by simp only [ckPath, hv, hb', if_true, Bool.false_eq_true, if_false]
    refine call_pure (node_ok f n) (frzL_of' (d := 4) rfl) ?_
    rw [show (decide (0 ≤ f) && decide (f < n)) = isNode f n from rfl]
    cases h1 : isNode f n with
    | false =>
      simp only [walkS, wl, rgets, retv, argsEnv, ev, cst, cst1, cstL, AEnv.get, AEnv.trim, envput, qstep, abin, aun, evs, evo, deref, qload, target, if_true, if_false, Nat.reduceEqDiff, reduceIte, Nat.reduceAdd, AV.cells, AV.isTuple, setMany, alen, aiaddr, afill, Nat.reduceLeDiff, Nat.reduceMul, Nat.reduceLT, afillE, List.replicate]
      rw [bad (by rw [h1]; rfl)]; exact out_int
    | true =>
      simp only [walkS, wl, rgets, retv, argsEnv, ev, cst, cst1, cstL, AEnv.get, AEnv.trim, envput, qstep, abin, aun, evs, evo, deref, qload, target, if_true, if_false, Nat.reduceEqDiff, reduceIte, Nat.reduceAdd, AV.cells, AV.isTuple, setMany, alen, aiaddr, afill, Nat.reduceLeDiff, Nat.reduceMul, Nat.reduceLT, afillE, List.replicate]
      refine call_pure (node_ok t n) (frzL_of' (d := 4) rfl) ?_
      rw [show (decide (0 ≤ t) && decide (t < n)) = isNode t n from rfl]
      cases h2 : isNode t n with
      | false =>
        simp only [walkS, wl, rgets, retv, argsEnv, ev, cst, cst1, cstL, AEnv.get, AEnv.trim, envput, qstep, abin, aun, evs, evo, deref, qload, target, if_true, if_false, Nat.reduceEqDiff, reduceIte, Nat.reduceAdd, AV.cells, AV.isTuple, setMany, alen, aiaddr, afill, Nat.reduceLeDiff, Nat.reduceMul, Nat.reduceLT, afillE, List.replicate]
        rw [bad (by rw [h1, h2]; rfl)]; exact out_int
      | true =>
        simp only [walkS, wl, rgets, retv, argsEnv, ev, cst, cst1, cstL, AEnv.get, AEnv.trim, envput, qstep, abin, aun, evs, evo, deref, qload, target, if_true, if_false, Nat.reduceEqDiff, reduceIte, Nat.reduceAdd, AV.cells, AV.isTuple, setMany, alen, aiaddr, afill, Nat.reduceLeDiff, Nat.reduceMul, Nat.reduceLT, afillE, List.replicate]
        refine call_pure (refindices_ok (n := n) (ds := ds) hl) (frzL_of' (d := 4) (carL_cons car_netF (carL_cons car_icF rfl))) ?_
        cases hi : idx ds l with
        | false =>
          simp only [walkS, wl, rgets, retv, argsEnv, ev, cst, cst1, cstL, AEnv.get, AEnv.trim, envput, qstep, abin, aun, evs, evo, deref, qload, target, if_true, if_false, Nat.reduceEqDiff, reduceIte, Nat.reduceAdd, AV.cells, AV.isTuple, setMany, alen, aiaddr, afill, Nat.reduceLeDiff, Nat.reduceMul, Nat.reduceLT, afillE, List.replicate]
          rw [bad (by rw [h1, h2, hi]; rfl)]; exact out_int
        | true =>
          have hb' : ((isNode f n && isNode t n) && idx ds l) = true := by rw [h1, h2, hi]; rfl
          have hend : ckPath n ds f t most l = if (l.length : Int) > n - 1 then 43 else if (wkV ds f t l).2 = true ∧ (wkV ds f t l).1 ≤ most then 0 else 43 := by simp only [ckPath, hv, hb', if_true]
          rw [hend]
          simp only [walkS, wl, rgets, retv, argsEnv, ev, cst, cst1, cstL, AEnv.get, AEnv.trim, envput, qstep, abin, aun, evs, evo, deref, qload, target, if_true, if_false, Nat.reduceEqDiff, reduceIte, Nat.reduceAdd, AV.cells, AV.isTuple, setMany, alen, aiaddr, afill, Nat.reduceLeDiff, Nat.reduceMul, Nat.reduceLT, afillE, List.replicate, ic_length]
          rw [wrap_id (by omega) (by omega)]
          by_cases h3 : (l.length : Int) > n - 1
          · simp only [walkS, wl, rgets, retv, argsEnv, ev, cst, cst1, cstL, AEnv.get, AEnv.trim, envput, qstep, abin, aun, evs, evo, deref, qload, target, if_true, if_false, Nat.reduceEqDiff, reduceIte, Nat.reduceAdd, AV.cells, AV.isTuple, setMany, alen, aiaddr, afill, Nat.reduceLeDiff, Nat.reduceMul, Nat.reduceLT, afillE, List.replicate, decide_eq_true h3]
            rw [if_pos h3]; exact out_int
          · simp only [walkS, wl, rgets, retv, argsEnv, ev, cst, cst1, cstL, AEnv.get, AEnv.trim, envput, qstep, abin, aun, evs, evo, deref, qload, target, if_true, if_false, Nat.reduceEqDiff, reduceIte, Nat.reduceAdd, AV.cells, AV.isTuple, setMany, alen, aiaddr, afill, Nat.reduceLeDiff, Nat.reduceMul, Nat.reduceLT, afillE, List.replicate, decide_eq_false h3]
            rw [if_neg h3]
            refine call_pure (refwalk_ok (n := n) (ds := ds) (l := l) (f := f) (t := t) (b := false) hl hi) (frzL_of' (d := 4) (carL_cons car_netF (carL_cons rfl (carL_cons rfl (carL_cons car_icF rfl))))) ?_
            generalize wkV ds f t l = r
            obtain ⟨s, ok⟩ := r
            cases ok with
            | false =>
              simp only [walkS, wl, rgets, retv, argsEnv, ev, cst, cst1, cstL, AEnv.get, AEnv.trim, envput, qstep, abin, aun, evs, evo, deref, qload, target, if_true, if_false, Nat.reduceEqDiff, reduceIte, Nat.reduceAdd, AV.cells, AV.isTuple, setMany, alen, aiaddr, afill, Nat.reduceLeDiff, Nat.reduceMul, Nat.reduceLT, afillE, List.replicate]
              simp only [false_and, if_false]
              exact out_int
            | true =>
              by_cases h4 : s > most
              · simp only [walkS, wl, rgets, retv, argsEnv, ev, cst, cst1, cstL, AEnv.get, AEnv.trim, envput, qstep, abin, aun, evs, evo, deref, qload, target, if_true, if_false, Nat.reduceEqDiff, reduceIte, Nat.reduceAdd, AV.cells, AV.isTuple, setMany, alen, aiaddr, afill, Nat.reduceLeDiff, Nat.reduceMul, Nat.reduceLT, afillE, List.replicate, decide_eq_true h4]
                rw [if_neg (by omega)]; exact out_int
              · simp only [walkS, wl, rgets, retv, argsEnv, ev, cst, cst1, cstL, AEnv.get, AEnv.trim, envput, qstep, abin, aun, evs, evo, deref, qload, target, if_true, if_false, Nat.reduceEqDiff, reduceIte, Nat.reduceAdd, AV.cells, AV.isTuple, setMany, alen, aiaddr, afill, Nat.reduceLeDiff, Nat.reduceMul, Nat.reduceLT, afillE, List.replicate, decide_eq_false h4]
                rw [if_pos (by omega)]; exact out_int
theorem refApart_ok {n : Int} {ds : List Df} (hs : valid n ds = true → n ≤ 16) (i j : Int) : PCall Try.prog 40 [.agg [I n, .ro false (rows ds)], I i, I j] (apartV (apart n ds i j)) := by
  refine PCall.intro text40 (by simp) ?_
  unfold ir40
  simp only [walkS, wl, rgets, retv, argsEnv, ev, cst, cst1, cstL, AEnv.get, AEnv.trim, envput, qstep, abin, aun, evs, evo, deref, qload, target, if_true, if_false, Nat.reduceEqDiff, reduceIte, Nat.reduceAdd, AV.cells, AV.isTuple, setMany, alen, aiaddr, afill, Nat.reduceLeDiff, Nat.reduceMul, Nat.reduceLT, afillE, List.replicate]
  refine call_pure (refCheck_ok n ds) (frzL_of' (d := 4) (carL_cons car_netF rfl)) ?_
  simp only [walkS, wl, rgets, retv, argsEnv, ev, cst, cst1, cstL, AEnv.get, AEnv.trim, envput, qstep, abin, aun, evs, evo, deref, qload, target, if_true, if_false, Nat.reduceEqDiff, reduceIte, Nat.reduceAdd, AV.cells, AV.isTuple, setMany, alen, aiaddr, afill, Nat.reduceLeDiff, Nat.reduceMul, Nat.reduceLT, afillE, List.replicate]
  refine withBool_intro ?_ ?_ <;> intro h <;> simp only [walkS, wl, rgets, retv, argsEnv, ev, cst, cst1, cstL, AEnv.get, AEnv.trim, envput, qstep, abin, aun, evs, evo, deref, qload, target, if_true, if_false, Nat.reduceEqDiff, reduceIte, Nat.reduceAdd, AV.cells, AV.isTuple, setMany, alen, aiaddr, afill, Nat.reduceLeDiff, Nat.reduceMul, Nat.reduceLT, afillE, List.replicate]
  · have hv := check_ne (by simpa using h)
    have e2 : apart n ds i j = (0, false, 40) := by simp [apart, hv]
    rw [e2]; exact out_apart
  · have hv := check_eq (by simpa using h)
    have bad : (isNode i n && isNode j n) = false → apart n ds i j = (0, false, 1) := fun hb' => by simp only [apart, hv, hb', if_true, Bool.false_eq_true, if_false]
    refine call_pure (node_ok i n) (frzL_of' (d := 4) rfl) ?_
    rw [show (decide (0 ≤ i) && decide (i < n)) = isNode i n from rfl]
    cases h1 : isNode i n with
    | false =>
      simp only [walkS, wl, rgets, retv, argsEnv, ev, cst, cst1, cstL, AEnv.get, AEnv.trim, envput, qstep, abin, aun, evs, evo, deref, qload, target, if_true, if_false, Nat.reduceEqDiff, reduceIte, Nat.reduceAdd, AV.cells, AV.isTuple, setMany, alen, aiaddr, afill, Nat.reduceLeDiff, Nat.reduceMul, Nat.reduceLT, afillE, List.replicate]
      rw [bad (by rw [h1]; rfl)]; exact out_apart
    | true =>
      simp only [walkS, wl, rgets, retv, argsEnv, ev, cst, cst1, cstL, AEnv.get, AEnv.trim, envput, qstep, abin, aun, evs, evo, deref, qload, target, if_true, if_false, Nat.reduceEqDiff, reduceIte, Nat.reduceAdd, AV.cells, AV.isTuple, setMany, alen, aiaddr, afill, Nat.reduceLeDiff, Nat.reduceMul, Nat.reduceLT, afillE, List.replicate]
      refine call_pure (node_ok j n) (frzL_of' (d := 4) rfl) ?_
      rw [show (decide (0 ≤ j) && decide (j < n)) = isNode j n from rfl]
      cases h2 : isNode j n with
      | false =>
        simp only [walkS, wl, rgets, retv, argsEnv, ev, cst, cst1, cstL, AEnv.get, AEnv.trim, envput, qstep, abin, aun, evs, evo, deref, qload, target, if_true, if_false, Nat.reduceEqDiff, reduceIte, Nat.reduceAdd, AV.cells, AV.isTuple, setMany, alen, aiaddr, afill, Nat.reduceLeDiff, Nat.reduceMul, Nat.reduceLT, afillE, List.replicate]
        rw [bad (by rw [h1, h2]; rfl)]; exact out_apart
      | true =>
        have hb' : (isNode i n && isNode j n) = true := by rw [h1, h2]; rfl
        obtain ⟨m, rfl, hg, hm⟩ := good_of hv (hs hv)
        have hij : (0 ≤ i ∧ i < m) ∧ (0 ≤ j ∧ j < m) := by simpa [isNode] using hb'
        obtain ⟨i, rfl⟩ : ∃ k : Nat, i = k := ⟨i.toNat, (Int.toNat_of_nonneg hij.1.1).symm⟩
        obtain ⟨j, rfl⟩ : ∃ k : Nat, j = k := ⟨j.toNat, (Int.toNat_of_nonneg hij.2.1).symm⟩
        have hj : j < m := by omega
        simp only [walkS, wl, rgets, retv, argsEnv, ev, cst, cst1, cstL, AEnv.get, AEnv.trim, envput, qstep, abin, aun, evs, evo, deref, qload, target, if_true, if_false, Nat.reduceEqDiff, reduceIte, Nat.reduceAdd, AV.cells, AV.isTuple, setMany, alen, aiaddr, afill, Nat.reduceLeDiff, Nat.reduceMul, Nat.reduceLT, afillE, List.replicate]
        refine call_pure (Solvable_ok hg) (frzL_of' (d := 4) (carL_cons car_netF rfl)) ?_
        cases hl : (lens m ds (everyone m)).2 with
        | false =>
          simp only [walkS, wl, rgets, retv, argsEnv, ev, cst, cst1, cstL, AEnv.get, AEnv.trim, envput, qstep, abin, aun, evs, evo, deref, qload, target, if_true, if_false, Nat.reduceEqDiff, reduceIte, Nat.reduceAdd, AV.cells, AV.isTuple, setMany, alen, aiaddr, afill, Nat.reduceLeDiff, Nat.reduceMul, Nat.reduceLT, afillE, List.replicate]
          have e2 : apart m ds i j = (0, false, 41) := by simp only [apart, hv, hb', hl, if_true, Bool.false_eq_true, if_false, Int.toNat_natCast]
          rw [e2]; exact out_apart
        | true =>
          simp only [walkS, wl, rgets, retv, argsEnv, ev, cst, cst1, cstL, AEnv.get, AEnv.trim, envput, qstep, abin, aun, evs, evo, deref, qload, target, if_true, if_false, Nat.reduceEqDiff, reduceIte, Nat.reduceAdd, AV.cells, AV.isTuple, setMany, alen, aiaddr, afill, Nat.reduceLeDiff, Nat.reduceMul, Nat.reduceLT, afillE, List.replicate]
          refine dcall_pure (marks_ok (ds := ds) (all := false) (one := i) (by omega)) (frzL_of (d := 4) (carL_cons car_netF rfl)) ?_
          rw [lb_one]
          simp only [walkS, wl, rgets, retv, argsEnv, ev, cst, cst1, cstL, AEnv.get, AEnv.trim, envput, qstep, abin, aun, evs, evo, deref, qload, target, if_true, if_false, Nat.reduceEqDiff, reduceIte, Nat.reduceAdd, AV.cells, AV.isTuple, setMany, alen, aiaddr, afill, Nat.reduceLeDiff, Nat.reduceMul, Nat.reduceLT, afillE, List.replicate]
          refine dcall_pure (Lengths_ok hg (S := one i) (b := false)) (frzL_of (d := 4) (carL_cons car_netF (carL_cons (car_ro_false (bc_simple _)) rfl))) ?_
          rw [show lenR ds (startL (one i)) (m + 1) 0 = lens m ds (one i) from rfl]
          simp only [walkS, wl, rgets, retv, argsEnv, ev, cst, cst1, cstL, AEnv.get, AEnv.trim, envput, qstep, abin, aun, evs, evo, deref, qload, target, if_true, if_false, Nat.reduceEqDiff, reduceIte, Nat.reduceAdd, AV.cells, AV.isTuple, setMany, alen, aiaddr, afill, Nat.reduceLeDiff, Nat.reduceMul, Nat.reduceLT, afillE, List.replicate, lb_get hj, li_get hj, ic_length, li_length, bc_length, lb_length]
          cases hh : (lens m ds (one i)).1.has j with
          | false =>
            simp only [walkS, wl, rgets, retv, argsEnv, ev, cst, cst1, cstL, AEnv.get, AEnv.trim, envput, qstep, abin, aun, evs, evo, deref, qload, target, if_true, if_false, Nat.reduceEqDiff, reduceIte, Nat.reduceAdd, AV.cells, AV.isTuple, setMany, alen, aiaddr, afill, Nat.reduceLeDiff, Nat.reduceMul, Nat.reduceLT, afillE, List.replicate]
            have e2 : apart m ds i j = (0, false, 0) := by simp only [apart, hv, hb', hl, hh, if_true, Bool.false_eq_true, if_false, Int.toNat_natCast]
            rw [e2]; exact out_apart
          | true =>
            simp only [walkS, wl, rgets, retv, argsEnv, ev, cst, cst1, cstL, AEnv.get, AEnv.trim, envput, qstep, abin, aun, evs, evo, deref, qload, target, if_true, if_false, Nat.reduceEqDiff, reduceIte, Nat.reduceAdd, AV.cells, AV.isTuple, setMany, alen, aiaddr, afill, Nat.reduceLeDiff, Nat.reduceMul, Nat.reduceLT, afillE, List.replicate, lb_get hj, li_get hj, ic_length, li_length, bc_length, lb_length]
            have e2 : apart m ds i j = ((lens m ds (one i)).1.long j, true, 0) := by simp only [apart, hv, hb', hl, hh, if_true, Int.toNat_natCast]
            rw [e2]; exact out_apart
/-- Where a list of differences leads. -/
def tos (ds : List Df) (l : List Int) : List Int := l.map fun k => (dd ds k).2.1
theorem Simple_ok {n : Int} {ds : List Df} {l : List Int} {f : Int} {b : Bool} (hl : l.length ≤ 1048576) (hi : idx ds l = true) (hnd : (f :: tos ds l).Nodup) : PCall Try.prog 42 [.agg [I n, .ro false (rows ds)], I f, .ro b (ic l)] (.bool true) := by
  refine PCall.intro text42 (by simp) ?_
  unfold ir42
  simp only [walkS, wl, rgets, retv, argsEnv, ev, cst, cst1, cstL, AEnv.get, AEnv.trim, envput, qstep, abin, aun, evs, evo, deref, qload, target, if_true, if_false, Nat.reduceEqDiff, reduceIte, Nat.reduceAdd, AV.cells, AV.isTuple, setMany, alen, aiaddr, afill, Nat.reduceLeDiff, Nat.reduceMul, Nat.reduceLT, afillE, List.replicate]
  refine awp_loop (σ := Nat × Nat) (fun s => [(2, .ro b (ic l)), (3, .ptr 0 1 0 0), (7, .own s.2 (s.1 + 1) 0 (s.1 + 1)), (8, I s.1)]) (fun s H => AHeap.obj H 0 = some ⟨24, 2, [[I n, .ro false (rows ds)]]⟩ ∧ AHeap.obj H s.2 = some ⟨3, 1, ic (f :: (tos ds l).take s.1)⟩) (fun s => s.1 ≤ l.length ∧ s.2 ≠ 0) (fun s => l.length - s.1) (0, 1) ⟨Nat.zero_le _, by decide⟩ rfl ⟨rfl, rfl⟩ ?_
  rintro ⟨k, h⟩ H ⟨hk, hne⟩ ⟨o0, o1⟩
  simp only at hk hne o1
  have tl : (tos ds l).length = l.length := by simp [tos]
  simp only [walkS, wl, rgets, retv, argsEnv, ev, cst, cst1, cstL, AEnv.get, AEnv.trim, envput, qstep, abin, aun, evs, evo, deref, qload, target, if_true, if_false, Nat.reduceEqDiff, reduceIte, Nat.reduceAdd, AV.cells, AV.isTuple, setMany, alen, aiaddr, afill, Nat.reduceLeDiff, Nat.reduceMul, Nat.reduceLT, afillE, List.replicate, ic_length]
  refine withBool_intro ?_ ?_ <;> intro hb <;> simp only [walkS, wl, rgets, retv, argsEnv, ev, cst, cst1, cstL, AEnv.get, AEnv.trim, envput, qstep, abin, aun, evs, evo, deref, qload, target, if_true, if_false, Nat.reduceEqDiff, reduceIte, Nat.reduceAdd, AV.cells, AV.isTuple, setMany, alen, aiaddr, afill, Nat.reduceLeDiff, Nat.reduceMul, Nat.reduceLT, afillE, List.replicate]
  · have hlt : k < l.length := by simpa using hb
    obtain ⟨i1, i2, i3, i4⟩ := dd_get (List.all_eq_true.1 hi _ (List.getElem_mem hlt))
    simp only [walkS, wl, rgets, retv, argsEnv, ev, cst, cst1, cstL, AEnv.get, AEnv.trim, envput, qstep, abin, aun, evs, evo, deref, qload, target, if_true, if_false, Nat.reduceEqDiff, reduceIte, Nat.reduceAdd, AV.cells, AV.isTuple, setMany, alen, aiaddr, afill, Nat.reduceLeDiff, Nat.reduceMul, Nat.reduceLT, afillE, List.replicate, o0, ic_get hlt, ic_length, rows_length, if_pos i1, i3]
    have hkt : k < (tos ds l).length := by omega
    have htk : (tos ds l)[k] = (dd ds l[k]).2.1 := by simp [tos]
    have hlen : (f :: (tos ds l).take k).length = k + 1 := by simp; omega
    have hnm : (dd ds l[k]).2.1 ∉ f :: (tos ds l).take k := by
      rw [← htk]
      intro hm
      have hsub : ((f :: (tos ds l).take k) ++ [(tos ds l)[k]]).Nodup := by
        rw [List.cons_append, ← List.take_succ_eq_append_getElem hkt]
        exact hnd.sublist (List.Sublist.cons_cons _ (List.take_sublist _ _))
      exact (List.nodup_append.1 hsub).2.2 _ hm _ (List.mem_singleton.2 rfl) rfl
    refine awp_loop (σ := Nat) (fun j => [(2, .ro b (ic l)), (3, .ptr 0 1 0 0), (7, .own h (k + 1) 0 (k + 1)), (8, I k), (9, I (dd ds l[k]).2.1), (10, I j)]) (fun _ H => AHeap.obj H 0 = some ⟨24, 2, [[I n, .ro false (rows ds)]]⟩ ∧ AHeap.obj H h = some ⟨3, 1, ic (f :: (tos ds l).take k)⟩) (fun j => j ≤ k + 1) (fun j => k + 1 - j) 0 (Nat.zero_le _) rfl ⟨o0, o1⟩ ?_
    clear o0 o1 H
    rintro j H hj ⟨o0, o1⟩
    simp only [walkS, wl, rgets, retv, argsEnv, ev, cst, cst1, cstL, AEnv.get, AEnv.trim, envput, qstep, abin, aun, evs, evo, deref, qload, target, if_true, if_false, Nat.reduceEqDiff, reduceIte, Nat.reduceAdd, AV.cells, AV.isTuple, setMany, alen, aiaddr, afill, Nat.reduceLeDiff, Nat.reduceMul, Nat.reduceLT, afillE, List.replicate, o1, ic_length, hlen]
    refine withBool_intro ?_ ?_ <;> intro hb2 <;> simp only [walkS, wl, rgets, retv, argsEnv, ev, cst, cst1, cstL, AEnv.get, AEnv.trim, envput, qstep, abin, aun, evs, evo, deref, qload, target, if_true, if_false, Nat.reduceEqDiff, reduceIte, Nat.reduceAdd, AV.cells, AV.isTuple, setMany, alen, aiaddr, afill, Nat.reduceLeDiff, Nat.reduceMul, Nat.reduceLT, afillE, List.replicate]
    · have hjk : j < k + 1 := by simp at hb2; omega
      have hjl : j < (f :: (tos ds l).take k).length := by omega
      simp only [walkS, wl, rgets, retv, argsEnv, ev, cst, cst1, cstL, AEnv.get, AEnv.trim, envput, qstep, abin, aun, evs, evo, deref, qload, target, if_true, if_false, Nat.reduceEqDiff, reduceIte, Nat.reduceAdd, AV.cells, AV.isTuple, setMany, alen, aiaddr, afill, Nat.reduceLeDiff, Nat.reduceMul, Nat.reduceLT, afillE, List.replicate, o1, ic_length, hlen, ic_get hjl, if_pos (show (j : Int) < ((k + 1 : Nat) : Int) by omega)]
      have hne2 : ((f :: (tos ds l).take k)[j] == (dd ds l[k]).2.1) = false := beq_eq_false_iff_ne.2 fun e => hnm (by rw [← e]; exact List.getElem_mem _)
      rw [hne2]
      simp only [walkS, wl, rgets, retv, argsEnv, ev, cst, cst1, cstL, AEnv.get, AEnv.trim, envput, qstep, abin, aun, evs, evo, deref, qload, target, if_true, if_false, Nat.reduceEqDiff, reduceIte, Nat.reduceAdd, AV.cells, AV.isTuple, setMany, alen, aiaddr, afill, Nat.reduceLeDiff, Nat.reduceMul, Nat.reduceLT, afillE, List.replicate]
      rw [wrap_id (by omega) (by omega)]
      exact loop_end (j + 1) (by omega) (by omega) rfl ⟨o0, o1⟩
    · refine accS_append (els := ic (f :: (tos ds l).take k)) (ho := some h) (hl := H.length) (r := [I (dd ds l[k]).2.1]) ?_ rfl rfl AHeap.obj_push_eq ?_ fun h' H' l1 e1 w1 kp1 => ?_
      · exact .inr ⟨h, rfl, by rw [ic_length, hlen], obj_keep o1⟩
      · rw [ic_length, hlen]; omega
      have hh : h' = h := by
        rcases w1 with w | ⟨w, _⟩
        · cases w; rfl
        · cases w
      subst hh
      simp only [walkS, wl, rgets, retv, argsEnv, ev, cst, cst1, cstL, AEnv.get, AEnv.trim, envput, qstep, abin, aun, evs, evo, deref, qload, target, if_true, if_false, Nat.reduceEqDiff, reduceIte, Nat.reduceAdd, AV.cells, AV.isTuple, setMany, alen, aiaddr, afill, Nat.reduceLeDiff, Nat.reduceMul, Nat.reduceLT, afillE, List.replicate]
      rw [wrap_id (by omega) (by omega)]
      refine loop_end (k + 1, h') ⟨hlt, hne⟩ (by simp only; omega) (by rw [ic_length, hlen]; rfl) ⟨?_, ?_⟩
      · rw [kp1 0 (by have := AHeap.obj_lt o0; rw [List.length_append]; omega) (Ne.symm hne)]; exact obj_keep o0
      · rw [e1, ← ic_snoc, List.cons_append, ← htk, ← List.take_succ_eq_append_getElem hkt]
  · exact out_bool
end Go.Proofs.Ytepnijjgdhldeaa
