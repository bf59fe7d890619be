/- CourseStands holds. -/
import Derived.Test.YtgadlckkmhhmbaaDoorQE10d
set_option linter.unusedVariables false
set_option linter.unusedSimpArgs false
set_option linter.unusedSectionVars false
namespace Go.Proofs.YtgadlckkmhhmbaaDoor
open Go.Awp Go.Grams
set_option linter.unusedSimpArgs false
set_option linter.unusedVariables false
set_option linter.unusedSectionVars false
set_option maxRecDepth 10000
theorem inner10e {no rate d0 d1 d2 left : Int} {ts : List Tst} {l : List Sht} {wd A : List Int} {n i k : Nat} {H : AHeap} {Q : AX → AEnv → AHeap → Prop} (hl : l.length ≤ 300) (hkl : k < l.length) (q3 : ∀ j, j < l.length → repl l d0 k j = false) (p0 : AHeap.obj H 0 = some ⟨24, 3, [[I no, I rate, .ro false (trows ts)]]⟩) (p1 : AHeap.obj H 1 = some ⟨65, 1, [[.ro false (srows l)]]⟩) (p2 : AHeap.obj H 2 = some ⟨38, 3, [[I d0, I d1, I d2]]⟩)
    (hK : ∀ (G : AHeap) (X : AEnv), AHeap.obj G 0 = some ⟨24, 3, [[I no, I rate, .ro false (trows ts)]]⟩ → AHeap.obj G 1 = some ⟨65, 1, [[.ro false (srows l)]]⟩ → AHeap.obj G 2 = some ⟨38, 3, [[I d0, I d1, I d2]]⟩ → Q .normal ((2, .ro false (ic wd)) :: (4, I left) :: (5, .ptr 0 1 0 0) :: (6, .ptr 1 1 0 0) :: (8, .ptr 2 1 0 0) :: (11, .ro true (ic A)) :: (14, I k) :: (66, .ro true (ic A)) :: (67, I n) :: (68, I i) :: X) G) :
    awp Tryd.prog ir10e Q [(2, .ro false (ic wd)), (4, I left), (5, .ptr 0 1 0 0), (6, .ptr 1 1 0 0), (8, .ptr 2 1 0 0), (11, .ro true (ic A)), (14, I k), (66, .ro true (ic A)), (67, I n), (68, I i), (112, .bool false)] H := by
  unfold ir10e
  simp only [walkS, wl, rgets, retv, argsEnv, ev, cst, cst1, cstL, AEnv.get, AEnv.trim, envput, qstep, abin, aun, evs, evo, deref, qload, target, if_true, if_false, Nat.reduceEqDiff, reduceIte, Nat.reduceAdd, AV.cells, AV.isTuple, setMany, alen, aiaddr, afill, Nat.reduceLeDiff, Nat.reduceMul, Nat.reduceLT, afillE, List.replicate, p1, srows_length]
  refine awp_loop (σ := Nat) (fun j => [(2, .ro false (ic wd)), (4, I left), (5, .ptr 0 1 0 0), (6, .ptr 1 1 0 0), (8, .ptr 2 1 0 0), (11, .ro true (ic A)), (14, I k), (66, .ro true (ic A)), (67, I n), (68, I i), (113, .ro false (srows l)), (114, I l.length), (115, I j)]) (fun j G => AHeap.obj G 0 = some ⟨24, 3, [[I no, I rate, .ro false (trows ts)]]⟩ ∧ AHeap.obj G 1 = some ⟨65, 1, [[.ro false (srows l)]]⟩ ∧ AHeap.obj G 2 = some ⟨38, 3, [[I d0, I d1, I d2]]⟩) (fun j => j ≤ l.length) (fun j => l.length - j) 0 (Nat.zero_le _) rfl ⟨p0, p1, p2⟩ ?_
  rintro j G hj ⟨p0, p1, p2⟩
  have hG := AHeap.obj_lt p2
  simp only [walkS, wl, rgets, retv, argsEnv, ev, cst, cst1, cstL, AEnv.get, AEnv.trim, envput, qstep, abin, aun, evs, evo, deref, qload, target, if_true, if_false, Nat.reduceEqDiff, reduceIte, Nat.reduceAdd, AV.cells, AV.isTuple, setMany, alen, aiaddr, afill, Nat.reduceLeDiff, Nat.reduceMul, Nat.reduceLT, afillE, List.replicate]
  refine withBool_intro ?_ ?_ <;> intro hb2 <;> simp only [walkS, wl, rgets, retv, argsEnv, ev, cst, cst1, cstL, AEnv.get, AEnv.trim, envput, qstep, abin, aun, evs, evo, deref, qload, target, if_true, if_false, Nat.reduceEqDiff, reduceIte, Nat.reduceAdd, AV.cells, AV.isTuple, setMany, alen, aiaddr, afill, Nat.reduceLeDiff, Nat.reduceMul, Nat.reduceLT, afillE, List.replicate]
  · have hjl : j < l.length := by simpa using hb2
    have w2 := w_succ (k := j) (by omega)
    have nr : ¬ (l[k].no = l[j].no ∧ l[j].known ≤ d0 ∧ (l[j].known > l[k].known ∨ (l[j].known = l[k].known ∧ j > k))) := fun h => by
      have := q3 j hjl
      rw [← Bool.not_eq_true, repl_iff] at this
      apply this
      unfold lt; rw [shAt_eq hkl, shAt_eq hjl]; exact h
    simp only [walkS, wl, rgets, retv, argsEnv, ev, cst, cst1, cstL, AEnv.get, AEnv.trim, envput, qstep, abin, aun, evs, evo, deref, qload, target, if_true, if_false, Nat.reduceEqDiff, reduceIte, Nat.reduceAdd, AV.cells, AV.isTuple, setMany, alen, aiaddr, afill, Nat.reduceLeDiff, Nat.reduceMul, Nat.reduceLT, afillE, List.replicate, srows_get hjl]
    refine storeR rfl rfl AHeap.obj_push_eq rfl ⟨rfl, rfl, rfl, by simp⟩ fun H1 y1 y2 y3 => ?_
    simp only [AV.cells, setMany, List.set_cons_zero, List.set_cons_succ] at y2
    simp only [List.length_append, List.length_cons, List.length_nil] at y1
    have p0 := (y3 0 (by omega)).trans (obj_keep p0)
    have p1 := (y3 1 (by omega)).trans (obj_keep p1)
    have p2 := (y3 2 (by omega)).trans (obj_keep p2)
    simp only [walkS, wl, rgets, retv, argsEnv, ev, cst, cst1, cstL, AEnv.get, AEnv.trim, envput, qstep, abin, aun, evs, evo, deref, qload, target, if_true, if_false, Nat.reduceEqDiff, reduceIte, Nat.reduceAdd, AV.cells, AV.isTuple, setMany, alen, aiaddr, afill, Nat.reduceLeDiff, Nat.reduceMul, Nat.reduceLT, afillE, List.replicate, y2, p1, p2, srows_get hkl]
    refine withGuard_intro ?_ ?_ <;> intro g2 <;> simp only [walkS, wl, rgets, retv, argsEnv, ev, cst, cst1, cstL, AEnv.get, AEnv.trim, envput, qstep, abin, aun, evs, evo, deref, qload, target, if_true, if_false, Nat.reduceEqDiff, reduceIte, Nat.reduceAdd, AV.cells, AV.isTuple, setMany, alen, aiaddr, afill, Nat.reduceLeDiff, Nat.reduceMul, Nat.reduceLT, afillE, List.replicate, g2, y2, p1, p2, srows_get hkl, ix0, tn0]
    · have e2 : l[j].no = l[k].no := by simpa using g2
      refine withGuard_intro ?_ ?_ <;> intro g3 <;> simp only [walkS, wl, rgets, retv, argsEnv, ev, cst, cst1, cstL, AEnv.get, AEnv.trim, envput, qstep, abin, aun, evs, evo, deref, qload, target, if_true, if_false, Nat.reduceEqDiff, reduceIte, Nat.reduceAdd, AV.cells, AV.isTuple, setMany, alen, aiaddr, afill, Nat.reduceLeDiff, Nat.reduceMul, Nat.reduceLT, afillE, List.replicate, g3, y2, p1, p2, srows_get hkl, ix0, tn0]
      · refine withGuard_intro ?_ ?_ <;> intro g4 <;> simp only [walkS, wl, rgets, retv, argsEnv, ev, cst, cst1, cstL, AEnv.get, AEnv.trim, envput, qstep, abin, aun, evs, evo, deref, qload, target, if_true, if_false, Nat.reduceEqDiff, reduceIte, Nat.reduceAdd, AV.cells, AV.isTuple, setMany, alen, aiaddr, afill, Nat.reduceLeDiff, Nat.reduceMul, Nat.reduceLT, afillE, List.replicate, g4, y2, p1, p2, srows_get hkl, ix0, tn0]
        · refine withGuard_intro ?_ ?_ <;> intro g5 <;> simp only [walkS, wl, rgets, retv, argsEnv, ev, cst, cst1, cstL, AEnv.get, AEnv.trim, envput, qstep, abin, aun, evs, evo, deref, qload, target, if_true, if_false, Nat.reduceEqDiff, reduceIte, Nat.reduceAdd, AV.cells, AV.isTuple, setMany, alen, aiaddr, afill, Nat.reduceLeDiff, Nat.reduceMul, Nat.reduceLT, afillE, List.replicate, g5, y2, p1, p2, srows_get hkl, ix0, tn0]
          · refine withGuard_intro ?_ ?_ <;> intro g6 <;> simp only [walkS, wl, rgets, retv, argsEnv, ev, cst, cst1, cstL, AEnv.get, AEnv.trim, envput, qstep, abin, aun, evs, evo, deref, qload, target, if_true, if_false, Nat.reduceEqDiff, reduceIte, Nat.reduceAdd, AV.cells, AV.isTuple, setMany, alen, aiaddr, afill, Nat.reduceLeDiff, Nat.reduceMul, Nat.reduceLT, afillE, List.replicate, g6, y2, p1, p2, srows_get hkl, ix0, tn0]
            · have c5 : decide ((j : Int) > (k : Int)) = false := by
                simp at g4 g5 g6
                simp
                have : ¬ j > k := fun h => nr ⟨e2.symm, g4, .inr ⟨g6, h⟩⟩
                omega
              simp only [walkS, wl, rgets, retv, argsEnv, ev, cst, cst1, cstL, AEnv.get, AEnv.trim, envput, qstep, abin, aun, evs, evo, deref, qload, target, if_true, if_false, Nat.reduceEqDiff, reduceIte, Nat.reduceAdd, AV.cells, AV.isTuple, setMany, alen, aiaddr, afill, Nat.reduceLeDiff, Nat.reduceMul, Nat.reduceLT, afillE, List.replicate, c5, w2]
              exact loop_end (j + 1) hjl (by omega) rfl ⟨p0, p1, p2⟩
            · simp only [walkS, wl, rgets, retv, argsEnv, ev, cst, cst1, cstL, AEnv.get, AEnv.trim, envput, qstep, abin, aun, evs, evo, deref, qload, target, if_true, if_false, Nat.reduceEqDiff, reduceIte, Nat.reduceAdd, AV.cells, AV.isTuple, setMany, alen, aiaddr, afill, Nat.reduceLeDiff, Nat.reduceMul, Nat.reduceLT, afillE, List.replicate, w2]
              exact loop_end (j + 1) hjl (by omega) rfl ⟨p0, p1, p2⟩
          · exfalso
            simp at g4 g5
            exact nr ⟨e2.symm, g4, .inl g5⟩
        · simp only [walkS, wl, rgets, retv, argsEnv, ev, cst, cst1, cstL, AEnv.get, AEnv.trim, envput, qstep, abin, aun, evs, evo, deref, qload, target, if_true, if_false, Nat.reduceEqDiff, reduceIte, Nat.reduceAdd, AV.cells, AV.isTuple, setMany, alen, aiaddr, afill, Nat.reduceLeDiff, Nat.reduceMul, Nat.reduceLT, afillE, List.replicate, w2]
          exact loop_end (j + 1) hjl (by omega) rfl ⟨p0, p1, p2⟩
      · simp only [walkS, wl, rgets, retv, argsEnv, ev, cst, cst1, cstL, AEnv.get, AEnv.trim, envput, qstep, abin, aun, evs, evo, deref, qload, target, if_true, if_false, Nat.reduceEqDiff, reduceIte, Nat.reduceAdd, AV.cells, AV.isTuple, setMany, alen, aiaddr, afill, Nat.reduceLeDiff, Nat.reduceMul, Nat.reduceLT, afillE, List.replicate, w2]
        exact loop_end (j + 1) hjl (by omega) rfl ⟨p0, p1, p2⟩
    · simp only [walkS, wl, rgets, retv, argsEnv, ev, cst, cst1, cstL, AEnv.get, AEnv.trim, envput, qstep, abin, aun, evs, evo, deref, qload, target, if_true, if_false, Nat.reduceEqDiff, reduceIte, Nat.reduceAdd, AV.cells, AV.isTuple, setMany, alen, aiaddr, afill, Nat.reduceLeDiff, Nat.reduceMul, Nat.reduceLT, afillE, List.replicate, w2]
      exact loop_end (j + 1) hjl (by omega) rfl ⟨p0, p1, p2⟩
  · have hj' : j = l.length := by simp at hb2; omega
    exact hK _ _ p0 p1 p2
theorem CourseStands_ok (no rate : Int) (ts : List Tst) (l : List Sht) (wd : List Int) (d0 d1 d2 left : Int) : PCall Tryd.prog 10 [sc no rate ts, .ro false (srows l), .ro false (ic wd), .agg [I d0, I d1, I d2], I left] (.bool true) := by
  refine PCall.intro text10 (by simp) ?_
  unfold ir10
  simp only [walkS, wl, rgets, retv, argsEnv, ev, cst, cst1, cstL, AEnv.get, AEnv.trim, envput, qstep, abin, aun, evs, evo, deref, qload, target, if_true, if_false, Nat.reduceEqDiff, reduceIte, Nat.reduceAdd, AV.cells, AV.isTuple, setMany, alen, aiaddr, afill, Nat.reduceLeDiff, Nat.reduceMul, Nat.reduceLT, afillE, List.replicate]
  refine call_pure sane_ok .nil ?_
  simp only [walkS, wl, rgets, retv, argsEnv, ev, cst, cst1, cstL, AEnv.get, AEnv.trim, envput, qstep, abin, aun, evs, evo, deref, qload, target, if_true, if_false, Nat.reduceEqDiff, reduceIte, Nat.reduceAdd, AV.cells, AV.isTuple, setMany, alen, aiaddr, afill, Nat.reduceLeDiff, Nat.reduceMul, Nat.reduceLT, afillE, List.replicate, trows_length]
  refine withGuard_intro ?_ ?_ <;> intro f1 <;> simp only [walkS, wl, rgets, retv, argsEnv, ev, cst, cst1, cstL, AEnv.get, AEnv.trim, envput, qstep, abin, aun, evs, evo, deref, qload, target, if_true, if_false, Nat.reduceEqDiff, reduceIte, Nat.reduceAdd, AV.cells, AV.isTuple, setMany, alen, aiaddr, afill, Nat.reduceLeDiff, Nat.reduceMul, Nat.reduceLT, afillE, List.replicate, f1, srows_length]
  · refine withGuard_intro ?_ ?_ <;> intro f2 <;> simp only [walkS, wl, rgets, retv, argsEnv, ev, cst, cst1, cstL, AEnv.get, AEnv.trim, envput, qstep, abin, aun, evs, evo, deref, qload, target, if_true, if_false, Nat.reduceEqDiff, reduceIte, Nat.reduceAdd, AV.cells, AV.isTuple, setMany, alen, aiaddr, afill, Nat.reduceLeDiff, Nat.reduceMul, Nat.reduceLT, afillE, List.replicate, f2]
    · refine call_pure (short_ok l) (frzL_of' (d := 5) (carL_cons car_srows rfl)) ?_
      simp only [walkS, wl, rgets, retv, argsEnv, ev, cst, cst1, cstL, AEnv.get, AEnv.trim, envput, qstep, abin, aun, evs, evo, deref, qload, target, if_true, if_false, Nat.reduceEqDiff, reduceIte, Nat.reduceAdd, AV.cells, AV.isTuple, setMany, alen, aiaddr, afill, Nat.reduceLeDiff, Nat.reduceMul, Nat.reduceLT, afillE, List.replicate]
      refine withGuard_intro ?_ ?_ <;> intro f3 <;> simp only [walkS, wl, rgets, retv, argsEnv, ev, cst, cst1, cstL, AEnv.get, AEnv.trim, envput, qstep, abin, aun, evs, evo, deref, qload, target, if_true, if_false, Nat.reduceEqDiff, reduceIte, Nat.reduceAdd, AV.cells, AV.isTuple, setMany, alen, aiaddr, afill, Nat.reduceLeDiff, Nat.reduceMul, Nat.reduceLT, afillE, List.replicate, f3, ic_length]
      · refine withBool_intro ?_ ?_ <;> intro f4 <;> simp only [walkS, wl, rgets, retv, argsEnv, ev, cst, cst1, cstL, AEnv.get, AEnv.trim, envput, qstep, abin, aun, evs, evo, deref, qload, target, if_true, if_false, Nat.reduceEqDiff, reduceIte, Nat.reduceAdd, AV.cells, AV.isTuple, setMany, alen, aiaddr, afill, Nat.reduceLeDiff, Nat.reduceMul, Nat.reduceLT, afillE, List.replicate, ix0, tn0]
        · exact out_bool
        · have hwd : wd.length ≤ 100000 := by simp at f4; omega
          have hl : l.length ≤ 300 := by simp at f2; omega
          refine call_pure (Standing_ok l wd d0 hwd) (frzL_of' (d := 5) (carL_cons car_srows (carL_cons car_ic rfl))) ?_
          unfold stV
          simp only [walkS, wl, rgets, retv, argsEnv, ev, cst, cst1, cstL, AEnv.get, AEnv.trim, envput, qstep, abin, aun, evs, evo, deref, qload, target, if_true, if_false, Nat.reduceEqDiff, reduceIte, Nat.reduceAdd, AV.cells, AV.isTuple, setMany, alen, aiaddr, afill, Nat.reduceLeDiff, Nat.reduceMul, Nat.reduceLT, afillE, List.replicate]
          refine withBool_intro ?_ ?_ <;> intro f5 <;> simp only [walkS, wl, rgets, retv, argsEnv, ev, cst, cst1, cstL, AEnv.get, AEnv.trim, envput, qstep, abin, aun, evs, evo, deref, qload, target, if_true, if_false, Nat.reduceEqDiff, reduceIte, Nat.reduceAdd, AV.cells, AV.isTuple, setMany, alen, aiaddr, afill, Nat.reduceLeDiff, Nat.reduceMul, Nat.reduceLT, afillE, List.replicate, ic_length]
          · have : stL l wd d0 = [] := by unfold stL; rw [if_neg (by simpa using f5)]
            rw [this]; exact out_boolE (by simp)
          · have hE : stE l wd d0 = 0 := by simpa using f5
            have hA := stL_len (l := l) (wd := wd) (d := d0)
            refine awp_loop (σ := Nat) (fun i => [(2, .ro false (ic wd)), (4, I left), (5, .ptr 0 1 0 0), (6, .ptr 1 1 0 0), (8, .ptr 2 1 0 0), (11, .ro true (ic (stL l wd d0))), (66, .ro true (ic (stL l wd d0))), (67, I (stL l wd d0).length), (68, I i)]) (fun i G => AHeap.obj G 0 = some ⟨24, 3, [[I no, I rate, .ro false (trows ts)]]⟩ ∧ AHeap.obj G 1 = some ⟨65, 1, [[.ro false (srows l)]]⟩ ∧ AHeap.obj G 2 = some ⟨38, 3, [[I d0, I d1, I d2]]⟩) (fun i => i ≤ (stL l wd d0).length) (fun i => (stL l wd d0).length - i) 0 (Nat.zero_le _) rfl ⟨rfl, rfl, rfl⟩ ?_
            rintro i G hi ⟨p0, p1, p2⟩
            simp only [walkS, wl, rgets, retv, argsEnv, ev, cst, cst1, cstL, AEnv.get, AEnv.trim, envput, qstep, abin, aun, evs, evo, deref, qload, target, if_true, if_false, Nat.reduceEqDiff, reduceIte, Nat.reduceAdd, AV.cells, AV.isTuple, setMany, alen, aiaddr, afill, Nat.reduceLeDiff, Nat.reduceMul, Nat.reduceLT, afillE, List.replicate]
            refine withBool_intro ?_ ?_ <;> intro hb <;> simp only [walkS, wl, rgets, retv, argsEnv, ev, cst, cst1, cstL, AEnv.get, AEnv.trim, envput, qstep, abin, aun, evs, evo, deref, qload, target, if_true, if_false, Nat.reduceEqDiff, reduceIte, Nat.reduceAdd, AV.cells, AV.isTuple, setMany, alen, aiaddr, afill, Nat.reduceLeDiff, Nat.reduceMul, Nat.reduceLT, afillE, List.replicate]
            · have hlt : i < (stL l wd d0).length := by simpa using hb
              have w1 := w_succ (k := i) (by omega)
              have hget : ∀ (j : Nat) (hj : j < (stL l wd d0).length), ∃ k : Nat, (stL l wd d0)[j] = (k : Int) ∧ k < l.length ∧ stq l wd d0 k = true := fun j hj => by
                have e := stL_good hE
                have hlt3 : j < (idxs (stq l wd d0) l.length).length := by rw [← e]; exact hj
                obtain ⟨k, h1, h2, h3⟩ := idxs_get_lt hlt3
                exact ⟨k, by rw [← h1]; simp only [e], h2, h3⟩
              obtain ⟨k, hk, hkl, hq⟩ := hget i hlt
              obtain ⟨q1, q2, q3⟩ := stq_iff.1 hq
              rw [shAt_eq hkl] at q1 q2
              have c1 : decide ((k : Int) < 0) = false := by simp
              have c2 : decide ((k : Int) ≥ (l.length : Int)) = false := by simp; omega
              have c3 : decide (l[k].known > d0) = false := by simp; omega
              have body : ∀ b, b = true → b = false → False := by intro b h1 h2; rw [h1] at h2; cases h2
              simp only [walkS, wl, rgets, retv, argsEnv, ev, cst, cst1, cstL, AEnv.get, AEnv.trim, envput, qstep, abin, aun, evs, evo, deref, qload, target, if_true, if_false, Nat.reduceEqDiff, reduceIte, Nat.reduceAdd, AV.cells, AV.isTuple, setMany, alen, aiaddr, afill, Nat.reduceLeDiff, Nat.reduceMul, Nat.reduceLT, afillE, List.replicate, ic_get hlt, hk, c1, p1, srows_length, c2]
              refine withGuard_intro ?_ ?_ <;> intro g1 <;> simp only [walkS, wl, rgets, retv, argsEnv, ev, cst, cst1, cstL, AEnv.get, AEnv.trim, envput, qstep, abin, aun, evs, evo, deref, qload, target, if_true, if_false, Nat.reduceEqDiff, reduceIte, Nat.reduceAdd, AV.cells, AV.isTuple, setMany, alen, aiaddr, afill, Nat.reduceLeDiff, Nat.reduceMul, Nat.reduceLT, afillE, List.replicate, g1]
              · have h0 : 0 < i := by simp at g1; omega
                have hlt1 : i - 1 < (stL l wd d0).length := by omega
                obtain ⟨k1, hk1, -, -⟩ := hget (i - 1) hlt1
                have up : (stL l wd d0)[i - 1] < (stL l wd d0)[i] := by
                  have e := stL_good hE
                  have := idxs_up (q := stq l wd d0) (m := l.length) (i := i - 1) (by rw [← e]; omega)
                  simp only [e]
                  have e2 : i - 1 + 1 = i := by omega
                  simp only [e2] at this
                  exact this
                rw [hk1, hk] at up
                have c4 : decide ((k1 : Int) ≥ (k : Int)) = false := by simp; omega
                simp only [walkS, wl, rgets, retv, argsEnv, ev, cst, cst1, cstL, AEnv.get, AEnv.trim, envput, qstep, abin, aun, evs, evo, deref, qload, target, if_true, if_false, Nat.reduceEqDiff, reduceIte, Nat.reduceAdd, AV.cells, AV.isTuple, setMany, alen, aiaddr, afill, Nat.reduceLeDiff, Nat.reduceMul, Nat.reduceLT, afillE, List.replicate, w_pred h0 (by omega), ic_get hlt1, hk1, c4, p1, srows_length, srows_get hkl]
                refine dcall_pure (contains_ok wd _ hwd) (fun X => frzL_of (d := 4) (carL_cons car_ic rfl) X) ?_
                simp only [walkS, wl, rgets, retv, argsEnv, ev, cst, cst1, cstL, AEnv.get, AEnv.trim, envput, qstep, abin, aun, evs, evo, deref, qload, target, if_true, if_false, Nat.reduceEqDiff, reduceIte, Nat.reduceAdd, AV.cells, AV.isTuple, setMany, alen, aiaddr, afill, Nat.reduceLeDiff, Nat.reduceMul, Nat.reduceLT, afillE, List.replicate, q1, p1, p2, srows_get hkl, ix0, tn0, c3, srows_length]
                refine inner10e hl hkl q3 p0 p1 p2 fun G X p0 p1 p2 => ?_
                simp only [walkS, wl, rgets, retv, argsEnv, ev, cst, cst1, cstL, AEnv.get, AEnv.trim, envput, qstep, abin, aun, evs, evo, deref, qload, target, if_true, if_false, Nat.reduceEqDiff, reduceIte, Nat.reduceAdd, AV.cells, AV.isTuple, setMany, alen, aiaddr, afill, Nat.reduceLeDiff, Nat.reduceMul, Nat.reduceLT, afillE, List.replicate, w1]
                exact loop_end (i + 1) hlt (by omega) rfl ⟨p0, p1, p2⟩
              · simp only [walkS, wl, rgets, retv, argsEnv, ev, cst, cst1, cstL, AEnv.get, AEnv.trim, envput, qstep, abin, aun, evs, evo, deref, qload, target, if_true, if_false, Nat.reduceEqDiff, reduceIte, Nat.reduceAdd, AV.cells, AV.isTuple, setMany, alen, aiaddr, afill, Nat.reduceLeDiff, Nat.reduceMul, Nat.reduceLT, afillE, List.replicate, p1, srows_length, srows_get hkl]
                refine dcall_pure (contains_ok wd _ hwd) (fun X => frzL_of (d := 4) (carL_cons car_ic rfl) X) ?_
                simp only [walkS, wl, rgets, retv, argsEnv, ev, cst, cst1, cstL, AEnv.get, AEnv.trim, envput, qstep, abin, aun, evs, evo, deref, qload, target, if_true, if_false, Nat.reduceEqDiff, reduceIte, Nat.reduceAdd, AV.cells, AV.isTuple, setMany, alen, aiaddr, afill, Nat.reduceLeDiff, Nat.reduceMul, Nat.reduceLT, afillE, List.replicate, q1, p1, p2, srows_get hkl, ix0, tn0, c3, srows_length]
                refine inner10e hl hkl q3 p0 p1 p2 fun G X p0 p1 p2 => ?_
                simp only [walkS, wl, rgets, retv, argsEnv, ev, cst, cst1, cstL, AEnv.get, AEnv.trim, envput, qstep, abin, aun, evs, evo, deref, qload, target, if_true, if_false, Nat.reduceEqDiff, reduceIte, Nat.reduceAdd, AV.cells, AV.isTuple, setMany, alen, aiaddr, afill, Nat.reduceLeDiff, Nat.reduceMul, Nat.reduceLT, afillE, List.replicate, w1]
                exact loop_end (i + 1) hlt (by omega) rfl ⟨p0, p1, p2⟩
            · exact tail10b hl hwd hE p0 p1 p2
      · exact out_bool
    · exact out_bool
  · exact out_bool
end Go.Proofs.YtgadlckkmhhmbaaDoor
