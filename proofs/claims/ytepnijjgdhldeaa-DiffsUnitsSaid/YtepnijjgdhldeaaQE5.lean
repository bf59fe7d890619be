/- The law DiffsUnits, walked. -/
import Derived.Test.YtepnijjgdhldeaaQV4
import Derived.Test.YtepnijjgdhldeaaQT65
namespace Go.Proofs.Ytepnijjgdhldeaa
open Go.Awp
set_option linter.unusedSimpArgs false
set_option linter.unusedVariables false
set_option maxRecDepth 10000
set_option maxHeartbeats 4000000
theorem wg_li {m : Nat} {f : Nat → Int} {v : Nat} (h : v < m) : wg (li m f) v = f v := by simp [wg, li, h]
theorem weighty_li {m : Nat} {f : Nat → Int} (h : ∀ v, -4096 ≤ f v ∧ f v ≤ 4096) : weightyB m (li m f) = true := by
  simp only [weightyB, li_length, Bool.and_eq_true, decide_eq_true_eq, Bool.not_eq_true', true_and]
  rw [List.any_eq_false]
  intro x hx
  obtain ⟨v, _, rfl⟩ := List.mem_map.1 hx
  have := h v
  simp [wfar]; omega
theorem most_apart {m : Nat} {ds : List Df} {f : Nat → Int} {a b : Nat} (hv : valid m ds = true) (hg : Good m ds) (hK : ds.length ≤ 60) (ha : a < m) (hb : b < m) (hab : a ≠ b) (ha0 : 0 < a) (hf : ∀ v, 0 < v → v < m → f v = dl a v - dl b v) (hr : ∀ v, -4096 ≤ f v ∧ f v ≤ 4096) : mostV m ds (li m f) = apart m ds b a := by
  cases hs : (lens m ds (everyone m)).2 with
  | true =>
    have sol : Sol m ds := ⟨hg, hs⟩
    have e : bestE m ds (li m f) = 0 := by simp [bestE, hv, weighty_li hr, hs]
    unfold mostV
    rw [if_pos e, apart_fine sol hv hb ha, Int.toNat_natCast, unit_most (i := a) (k := b) sol (by omega) ha hb hab ha0 fun v h0 hv' => by rw [wg_li hv', hf v h0 hv']]
    split <;> rfl
  | false =>
    have e : bestE m ds (li m f) = 41 := by simp [bestE, hv, weighty_li hr, hs]
    unfold mostV
    have hnode : (isNode b m && isNode a m) = true := by simp [isNode]; omega
    rw [e, if_neg (by decide)]
    simp only [apart, hv, hnode, hs, if_true, Bool.false_eq_true, if_false, Int.toNat_natCast]
theorem law5_ok {n : Int} {ds : List Df} {i k : Int} : PCall Try.prog 5 [.agg [I n, .ro false (rows ds)], I i, I k] (.bool true) := by
  refine PCall.intro text5 (by simp) ?_
  unfold ir5
  simp only [walkS, wl, rgets, retv, argsEnv, ev, cst, cst1, cstL, AEnv.get, AEnv.trim, envput, qstep, abin, aun, evs, evo, deref, qload, target, if_true, if_false, Nat.reduceEqDiff, reduceIte, Nat.reduceAdd, AV.cells, AV.isTuple, setMany, alen, aiaddr, afill, Nat.reduceLeDiff, Nat.reduceMul, Nat.reduceLT, afillE, List.replicate]
  refine call_pure sane_ok (frzL_of' (d := 4) rfl) ?_
  simp only [walkS, wl, rgets, retv, argsEnv, ev, cst, cst1, cstL, AEnv.get, AEnv.trim, envput, qstep, abin, aun, evs, evo, deref, qload, target, if_true, if_false, Nat.reduceEqDiff, reduceIte, Nat.reduceAdd, AV.cells, AV.isTuple, setMany, alen, aiaddr, afill, Nat.reduceLeDiff, Nat.reduceMul, Nat.reduceLT, afillE, List.replicate]
  refine call_pure (check_ok n ds) (frzL_of' (d := 4) (carL_cons car_netF rfl)) ?_
  simp only [walkS, wl, rgets, retv, argsEnv, ev, cst, cst1, cstL, AEnv.get, AEnv.trim, envput, qstep, abin, aun, evs, evo, deref, qload, target, if_true, if_false, Nat.reduceEqDiff, reduceIte, Nat.reduceAdd, AV.cells, AV.isTuple, setMany, alen, aiaddr, afill, Nat.reduceLeDiff, Nat.reduceMul, Nat.reduceLT, afillE, List.replicate]
  refine withGuard_intro ?_ ?_ <;> intro h <;> simp only [walkS, wl, rgets, retv, argsEnv, ev, cst, cst1, cstL, AEnv.get, AEnv.trim, envput, qstep, abin, aun, evs, evo, deref, qload, target, if_true, if_false, Nat.reduceEqDiff, reduceIte, Nat.reduceAdd, AV.cells, AV.isTuple, setMany, alen, aiaddr, afill, Nat.reduceLeDiff, Nat.reduceMul, Nat.reduceLT, afillE, List.replicate, h]
  · have hv := check_eq (n := n) (ds := ds) (by simpa using h)
    refine call_pure (small_ok (n := n) (ds := ds)) (frzL_of' (d := 4) (carL_cons car_netF rfl)) ?_
    simp only [walkS, wl, rgets, retv, argsEnv, ev, cst, cst1, cstL, AEnv.get, AEnv.trim, envput, qstep, abin, aun, evs, evo, deref, qload, target, if_true, if_false, Nat.reduceEqDiff, reduceIte, Nat.reduceAdd, AV.cells, AV.isTuple, setMany, alen, aiaddr, afill, Nat.reduceLeDiff, Nat.reduceMul, Nat.reduceLT, afillE, List.replicate]
    generalize hsm : (decide (n ≤ 16) && decide (ds.length ≤ 60)) = sm
    cases sm with
    | false => simp only [walkS, wl, rgets, retv, argsEnv, ev, cst, cst1, cstL, AEnv.get, AEnv.trim, envput, qstep, abin, aun, evs, evo, deref, qload, target, if_true, if_false, Nat.reduceEqDiff, reduceIte, Nat.reduceAdd, AV.cells, AV.isTuple, setMany, alen, aiaddr, afill, Nat.reduceLeDiff, Nat.reduceMul, Nat.reduceLT, afillE, List.replicate, Bool.not_false]; exact out_bool
    | true =>
      simp at hsm
      obtain ⟨m, rfl, hg, hm⟩ := good_of hv hsm.1
      by_cases i1 : i < 1
      · simp only [walkS, wl, rgets, retv, argsEnv, ev, cst, cst1, cstL, AEnv.get, AEnv.trim, envput, qstep, abin, aun, evs, evo, deref, qload, target, if_true, if_false, Nat.reduceEqDiff, reduceIte, Nat.reduceAdd, AV.cells, AV.isTuple, setMany, alen, aiaddr, afill, Nat.reduceLeDiff, Nat.reduceMul, Nat.reduceLT, afillE, List.replicate, Bool.not_true, decide_eq_true i1]; exact out_bool
      · by_cases i2 : i ≥ m
        · simp only [walkS, wl, rgets, retv, argsEnv, ev, cst, cst1, cstL, AEnv.get, AEnv.trim, envput, qstep, abin, aun, evs, evo, deref, qload, target, if_true, if_false, Nat.reduceEqDiff, reduceIte, Nat.reduceAdd, AV.cells, AV.isTuple, setMany, alen, aiaddr, afill, Nat.reduceLeDiff, Nat.reduceMul, Nat.reduceLT, afillE, List.replicate, Bool.not_true, decide_eq_false i1, decide_eq_true i2]; exact out_bool
        · by_cases k1 : k < 0
          · simp only [walkS, wl, rgets, retv, argsEnv, ev, cst, cst1, cstL, AEnv.get, AEnv.trim, envput, qstep, abin, aun, evs, evo, deref, qload, target, if_true, if_false, Nat.reduceEqDiff, reduceIte, Nat.reduceAdd, AV.cells, AV.isTuple, setMany, alen, aiaddr, afill, Nat.reduceLeDiff, Nat.reduceMul, Nat.reduceLT, afillE, List.replicate, Bool.not_true, decide_eq_false i1, decide_eq_false i2, decide_eq_true k1]; exact out_bool
          · by_cases k2 : k ≥ m
            · simp only [walkS, wl, rgets, retv, argsEnv, ev, cst, cst1, cstL, AEnv.get, AEnv.trim, envput, qstep, abin, aun, evs, evo, deref, qload, target, if_true, if_false, Nat.reduceEqDiff, reduceIte, Nat.reduceAdd, AV.cells, AV.isTuple, setMany, alen, aiaddr, afill, Nat.reduceLeDiff, Nat.reduceMul, Nat.reduceLT, afillE, List.replicate, Bool.not_true, decide_eq_false i1, decide_eq_false i2, decide_eq_false k1, decide_eq_true k2]; exact out_bool
            · obtain ⟨a, rfl⟩ : ∃ a : Nat, i = a := ⟨i.toNat, by omega⟩
              obtain ⟨b, rfl⟩ : ∃ b : Nat, k = b := ⟨k.toNat, by omega⟩
              by_cases hab : a = b
              · have e : ((a : Int) == (b : Int)) = true := by simp [hab]
                simp only [walkS, wl, rgets, retv, argsEnv, ev, cst, cst1, cstL, AEnv.get, AEnv.trim, envput, qstep, abin, aun, evs, evo, deref, qload, target, if_true, if_false, Nat.reduceEqDiff, reduceIte, Nat.reduceAdd, AV.cells, AV.isTuple, setMany, alen, aiaddr, afill, Nat.reduceLeDiff, Nat.reduceMul, Nat.reduceLT, afillE, List.replicate, Bool.not_true, decide_eq_false i1, decide_eq_false i2, decide_eq_false k1, decide_eq_false k2, e]; exact out_bool
              · have e : ((a : Int) == (b : Int)) = false := by simp; omega
                have hs : valid m ds = true → (m : Int) ≤ 16 ∧ ds.length ≤ 60 := fun _ => hsm
                have ha : a < m := by omega
                have hb : b < m := by omega
                have c1 : (m : Int) ≤ m ∧ ((8 : Nat) : Int) * m ≤ 281474976710656 ∧ (m : Int) ≤ 9223372036854775807 := by omega
                simp only [walkS, wl, rgets, retv, argsEnv, ev, cst, cst1, cstL, AEnv.get, AEnv.trim, envput, qstep, abin, aun, evs, evo, deref, qload, target, if_true, if_false, Nat.reduceEqDiff, reduceIte, Nat.reduceAdd, AV.cells, AV.isTuple, setMany, alen, aiaddr, afill, Nat.reduceLeDiff, Nat.reduceMul, Nat.reduceLT, afillE, List.replicate, Bool.not_true, decide_eq_false i1, decide_eq_false i2, decide_eq_false k1, decide_eq_false k2, e, if_pos c1, li_const, ic_length, li_length, if_pos (show (a : Int) < m by omega)]
                refine storeR rfl rfl rfl (li_get ha) ⟨by simp [ic_length, li_length], rfl, rfl, by simp⟩ fun H1 y1 y2 y3 => ?_
                simp only [AV.cells, setMany, List.set_cons_zero, li_set] at y2
                have o0 : AHeap.obj H1 0 = some ⟨24, 2, [[I m, .ro false (rows ds)]]⟩ := by rw [y3 0 (by omega)]; rfl
                simp only [walkS, wl, rgets, retv, argsEnv, ev, cst, cst1, cstL, AEnv.get, AEnv.trim, envput, qstep, abin, aun, evs, evo, deref, qload, target, if_true, if_false, Nat.reduceEqDiff, reduceIte, Nat.reduceAdd, AV.cells, AV.isTuple, setMany, alen, aiaddr, afill, Nat.reduceLeDiff, Nat.reduceMul, Nat.reduceLT, afillE, List.replicate, o0]
                refine call_pure (Most_ok (n := m) (ds := ds) (ws := li m (upd (fun _ => 0) a 1)) (by rw [li_length]; unfold big; omega) hs) (frzL_of' (d := 4) (carL_cons car_netF (carL_cons (car_ownN y2 (by rw [ic_length, li_length]) (ic_simple _)) rfl))) ?_
                have hz : a ≠ 0 := by omega
                have m1 := most_apart (f := upd (fun _ => 0) a 1) (a := a) (b := 0) hv hg hsm.2 ha (by omega) hz (by omega) (fun v h0 hv' => by
                  by_cases e : v = a
                  · subst e; rw [upd_eq]; simp [dl]; omega
                  · rw [upd_ne e]; simp only [dl]; rw [if_neg (Ne.symm e), if_neg (by omega)]; rfl) (fun v => by simp only [upd]; split <;> omega)
                rw [m1, show ((0 : Nat) : Int) = 0 from rfl]
                simp only [walkS, wl, rgets, retv, argsEnv, ev, cst, cst1, cstL, AEnv.get, AEnv.trim, envput, qstep, abin, aun, evs, evo, deref, qload, target, if_true, if_false, Nat.reduceEqDiff, reduceIte, Nat.reduceAdd, AV.cells, AV.isTuple, setMany, alen, aiaddr, afill, Nat.reduceLeDiff, Nat.reduceMul, Nat.reduceLT, afillE, List.replicate, o0]
                refine call_pure (Apart_ok (fun h => (hs h).1) 0 a) (frzL_of' (d := 4) (carL_cons car_netF rfl)) ?_
                generalize apart m ds 0 a = r
                obtain ⟨r1, r2, r3⟩ := r
                simp only [walkS, wl, rgets, retv, argsEnv, ev, cst, cst1, cstL, AEnv.get, AEnv.trim, envput, qstep, abin, aun, evs, evo, deref, qload, target, if_true, if_false, Nat.reduceEqDiff, reduceIte, Nat.reduceAdd, AV.cells, AV.isTuple, setMany, alen, aiaddr, afill, Nat.reduceLeDiff, Nat.reduceMul, Nat.reduceLT, afillE, List.replicate, apartV, bne_self_eq_false, beq_self_eq_true, Bool.not_true, y2, ic_length, li_length, if_pos (show (b : Int) < m by omega)]
                refine storeR rfl rfl y2 (li_get hb) ⟨by simp [ic_length, li_length], rfl, rfl, by simp⟩ fun H2 z1 z2 z3 => ?_
                simp only [AV.cells, setMany, List.set_cons_zero, li_set] at z2
                have p0 := (z3 0 (by omega)).trans o0
                simp only [walkS, wl, rgets, retv, argsEnv, ev, cst, cst1, cstL, AEnv.get, AEnv.trim, envput, qstep, abin, aun, evs, evo, deref, qload, target, if_true, if_false, Nat.reduceEqDiff, reduceIte, Nat.reduceAdd, AV.cells, AV.isTuple, setMany, alen, aiaddr, afill, Nat.reduceLeDiff, Nat.reduceMul, Nat.reduceLT, afillE, List.replicate, p0]
                refine call_pure (Most_ok (n := m) (ds := ds) (ws := li m (upd (upd (fun _ => 0) a 1) b (-1))) (by rw [li_length]; unfold big; omega) hs) (frzL_of' (d := 4) (carL_cons car_netF (carL_cons (car_ownN z2 (by rw [ic_length, li_length]) (ic_simple _)) rfl))) ?_
                have m2 := most_apart (f := upd (upd (fun _ => 0) a 1) b (-1)) (a := a) (b := b) hv hg hsm.2 ha hb hab (by omega) (fun v h0 hv' => by
                  by_cases e2 : v = b
                  · subst e2; rw [upd_eq]; simp [dl, hab]
                  · rw [upd_ne e2]
                    by_cases e : v = a
                    · subst e; rw [upd_eq]; simp [dl, Ne.symm hab]
                    · rw [upd_ne e]; simp only [dl]; rw [if_neg (Ne.symm e), if_neg (Ne.symm e2)]; rfl) (fun v => by simp only [upd]; split <;> (try split) <;> omega)
                rw [m2]
                simp only [walkS, wl, rgets, retv, argsEnv, ev, cst, cst1, cstL, AEnv.get, AEnv.trim, envput, qstep, abin, aun, evs, evo, deref, qload, target, if_true, if_false, Nat.reduceEqDiff, reduceIte, Nat.reduceAdd, AV.cells, AV.isTuple, setMany, alen, aiaddr, afill, Nat.reduceLeDiff, Nat.reduceMul, Nat.reduceLT, afillE, List.replicate, p0]
                refine call_pure (Apart_ok (fun h => (hs h).1) b a) (frzL_of' (d := 4) (carL_cons car_netF rfl)) ?_
                generalize apart m ds b a = r
                obtain ⟨s1, s2, s3⟩ := r
                simp only [walkS, wl, rgets, retv, argsEnv, ev, cst, cst1, cstL, AEnv.get, AEnv.trim, envput, qstep, abin, aun, evs, evo, deref, qload, target, if_true, if_false, Nat.reduceEqDiff, reduceIte, Nat.reduceAdd, AV.cells, AV.isTuple, setMany, alen, aiaddr, afill, Nat.reduceLeDiff, Nat.reduceMul, Nat.reduceLT, afillE, List.replicate, apartV, beq_self_eq_true]
                exact out_bool
  · exact out_bool
end Go.Proofs.Ytepnijjgdhldeaa
