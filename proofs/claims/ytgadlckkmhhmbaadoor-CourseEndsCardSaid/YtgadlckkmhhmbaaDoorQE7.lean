/- CourseEnds: the closure 'reach'. -/
import Derived.Test.YtgadlckkmhhmbaaDoorQT7
import Derived.Test.YtgadlckkmhhmbaaDoorQE0
set_option linter.unusedVariables false
set_option linter.unusedSimpArgs false
set_option linter.unusedSectionVars false
namespace Go.Proofs.YtgadlckkmhhmbaaDoor
open Go.Awp Go.Grams
set_option linter.unusedSimpArgs false
set_option linter.unusedVariables false
set_option linter.unusedSectionVars false
set_option maxRecDepth 10000
theorem two_hist {rate known a b x y : Int} {ts : List Tst} : hist rate ts known [(a, x), (b, y)] ↔ ((driftV rate ts a known).1 ≤ x ∧ x ≤ (driftV rate ts a known).2) ∧ ((driftV rate ts b known).1 ≤ y ∧ y ≤ (driftV rate ts b known).2) ∧ far x y ≤ rate * far a b := by
  constructor
  · intro h
    exact ⟨h.1 (a, x) (by simp), h.1 (b, y) (by simp), h.2 0 1 (by simp) (by simp)⟩
  · rintro ⟨h1, h2, h3⟩
    refine ⟨fun p hp => ?_, fun i j hi hj => ?_⟩
    · rcases List.mem_cons.1 hp with rfl | hp
      · exact h1
      · obtain rfl := List.mem_singleton.1 hp
        exact h2
    · have h3' : near rate (a, x) (b, y) := h3
      match i, j, hi, hj with
      | 0, 0, _, _ => exact near_self _
      | 0, 1, _, _ => exact h3'
      | 1, 0, _, _ => exact near_symm h3'
      | 1, 1, _, _ => exact near_self _
      | n + 2, _, h, _ => exact absurd h (by simp)
      | 0, n + 2, _, h => exact absurd h (by simp)
      | 1, n + 2, _, h => exact absurd h (by simp)
theorem one_hist {rate known a x : Int} {ts : List Tst} : hist rate ts known [(a, x)] ↔ ((driftV rate ts a known).1 ≤ x ∧ x ≤ (driftV rate ts a known).2) := by
  constructor
  · intro h
    exact h.1 (a, x) (by simp)
  · rintro h1
    refine ⟨fun p hp => ?_, fun i j hi hj => ?_⟩
    · obtain rfl := List.mem_singleton.1 hp
      exact h1
    · match i, j, hi, hj with
      | 0, 0, _, _ => exact near_self _
      | n + 1, _, h, _ => exact absurd h (by simp)
      | 0, n + 1, _, h => exact absurd h (by simp)
theorem rising2 {a b : Int} (ha : okDay a = true) (hb : okDay b = true) (h : a < b) : risingV [a, b] = true := by
  simp [risingV, upI, ha, hb, h]
theorem far_add {x n : Int} : far x (x + n) = far 0 n := by unfold far; omega
theorem reach_ok {no rate a b day n : Int} {ts : List Tst} (hw : well no rate ts = true) (hc : calm rate ts) (hchk : chkS no rate ts = 0) (ha : okDay a = true) (hb : okDay b = true) (hd : okDay day = true) (hab : a ≠ b) {H : AHeap} {p1 p2 p3 p4 p5 : Nat}
    (q1 : AHeap.obj H p1 = some ⟨24, 3, [[I no, I rate, .ro false (trows ts)]]⟩) (q2 : AHeap.obj H p2 = some ⟨3, 1, [[I b]]⟩) (q3 : AHeap.obj H p3 = some ⟨3, 1, [[I day]]⟩) (q4 : AHeap.obj H p4 = some ⟨40, 2, [[I (driftV rate ts a day).1, I (driftV rate ts a day).2]]⟩) (q5 : AHeap.obj H p5 = some ⟨3, 1, [[I a]]⟩) :
    ACall Tryd.prog 37 [I n, .ptr p1 1 0 0, .ptr p2 1 0 0, .ptr p3 1 0 0, .ptr p4 1 0 0, .ptr p5 1 0 0] H fun r H' => r = .tuple [.bool (decide ((turnV rate ts a b day).1 ≤ n ∧ n ≤ (turnV rate ts a b day).2)), .bool true] ∧ H.length ≤ H'.length ∧ ∀ i, i < H.length → AHeap.obj H' i = AHeap.obj H i := by
  refine ACall.intro text37 (by simp) ?_
  unfold ir37
  obtain ⟨-, hr, hlen, hok, -⟩ := well_iff.1 hw
  have tb := turn_box (a := a) (b := b) (known := day) hr.1 hok hc
  have ba := drift_box (on := a) (known := day) hr.1 hok hc
  have bb := drift_box (on := b) (known := day) hr.1 hok hc
  have tr := turn_reach (a := a) (b := b) (known := day) (n := n) hr.1 hok hc
  have l1 := AHeap.obj_lt q1
  have l2 := AHeap.obj_lt q2
  have l3 := AHeap.obj_lt q3
  have l4 := AHeap.obj_lt q4
  have l5 := AHeap.obj_lt q5
  simp only [walkS, wl, rgets, retv, argsEnv, ev, cst, cst1, cstL, AEnv.get, AEnv.trim, envput, qstep, abin, aun, evs, evo, deref, qload, target, if_true, if_false, Nat.reduceEqDiff, reduceIte, Nat.reduceAdd, AV.cells, AV.isTuple, setMany, alen, aiaddr, afill, Nat.reduceLeDiff, Nat.reduceMul, Nat.reduceLT, afillE, List.replicate]
  refine withGuard_intro ?_ ?_ <;> intro g1 <;> simp only [walkS, wl, rgets, retv, argsEnv, ev, cst, cst1, cstL, AEnv.get, AEnv.trim, envput, qstep, abin, aun, evs, evo, deref, qload, target, if_true, if_false, Nat.reduceEqDiff, reduceIte, Nat.reduceAdd, AV.cells, AV.isTuple, setMany, alen, aiaddr, afill, Nat.reduceLeDiff, Nat.reduceMul, Nat.reduceLT, afillE, List.replicate, g1]
  · refine withBool_intro ?_ ?_ <;> intro g2 <;> simp only [walkS, wl, rgets, retv, argsEnv, ev, cst, cst1, cstL, AEnv.get, AEnv.trim, envput, qstep, abin, aun, evs, evo, deref, qload, target, if_true, if_false, Nat.reduceEqDiff, reduceIte, Nat.reduceAdd, AV.cells, AV.isTuple, setMany, alen, aiaddr, afill, Nat.reduceLeDiff, Nat.reduceMul, Nat.reduceLT, afillE, List.replicate]
    · refine ⟨?_, Nat.le_refl _, by intros; first | rfl | trivial⟩
      rw [decide_eq_false (by simp at g2; omega)]
    · have hn : -4194304 ≤ n ∧ n ≤ 4194304 := by simp at g1 g2; omega
      simp only [walkS, wl, rgets, retv, argsEnv, ev, cst, cst1, cstL, AEnv.get, AEnv.trim, envput, qstep, abin, aun, evs, evo, deref, qload, target, if_true, if_false, Nat.reduceEqDiff, reduceIte, Nat.reduceAdd, AV.cells, AV.isTuple, setMany, alen, aiaddr, afill, Nat.reduceLeDiff, Nat.reduceMul, Nat.reduceLT, afillE, List.replicate, q1, q2, q3]
      refine call_pure (Drift_ok no rate ts b day) (frzL_of' (d := 4) (carL_cons car_sc rfl)) ?_
      have z1 : askV no rate ts [b, day] = 0 := by simp [askV, hchk, hb, hd]
      have z2 : dvS no rate ts b day = driftV rate ts b day := by simp [dvS, z1]
      unfold dvV
      rw [z1, z2]
      simp only [walkS, wl, rgets, retv, argsEnv, ev, cst, cst1, cstL, AEnv.get, AEnv.trim, envput, qstep, abin, aun, evs, evo, deref, qload, target, if_true, if_false, Nat.reduceEqDiff, reduceIte, Nat.reduceAdd, AV.cells, AV.isTuple, setMany, alen, aiaddr, afill, Nat.reduceLeDiff, Nat.reduceMul, Nat.reduceLT, afillE, List.replicate]
      refine storeR rfl rfl AHeap.obj_push_eq rfl ⟨rfl, rfl, rfl, by simp⟩ fun H1 y1 y2 y3 => ?_
      simp only [AV.cells, setMany, List.set_cons_zero, List.set_cons_succ] at y2
      simp only [List.length_append, List.length_cons, List.length_nil] at y1
      have r1 := (y3 p1 (by omega)).trans (obj_keep q1)
      have r2 := (y3 p2 (by omega)).trans (obj_keep q2)
      have r3 := (y3 p3 (by omega)).trans (obj_keep q3)
      have r4 := (y3 p4 (by omega)).trans (obj_keep q4)
      have r5 := (y3 p5 (by omega)).trans (obj_keep q5)
      have keep : ∀ X i, i < H.length → AHeap.obj (H1 ++ X) i = AHeap.obj H i := fun X i hi => by
        rw [AHeap.obj_push_lt (by omega), y3 i (by omega), AHeap.obj_push_lt hi]
      have e1 : IntKind.i64.wrap ((driftV rate ts b day).1 - n) = (driftV rate ts b day).1 - n := wrap_id (by omega) (by omega)
      have e2 : IntKind.i64.wrap ((driftV rate ts b day).2 - n) = (driftV rate ts b day).2 - n := wrap_id (by omega) (by omega)
      obtain ⟨lo, hlo⟩ : ∃ lo, lo = max (driftV rate ts a day).1 ((driftV rate ts b day).1 - n) := ⟨_, rfl⟩
      obtain ⟨hi, hhi⟩ : ∃ hi, hi = min (driftV rate ts a day).2 ((driftV rate ts b day).2 - n) := ⟨_, rfl⟩
      simp only [walkS, wl, rgets, retv, argsEnv, ev, cst, cst1, cstL, AEnv.get, AEnv.trim, envput, qstep, abin, aun, evs, evo, deref, qload, target, if_true, if_false, Nat.reduceEqDiff, reduceIte, Nat.reduceAdd, AV.cells, AV.isTuple, setMany, alen, aiaddr, afill, Nat.reduceLeDiff, Nat.reduceMul, Nat.reduceLT, afillE, List.replicate, y2, r1, r2, r3, r4, r5, e1, e2, amm, amm.go, amin, amax', bne_self_eq_false, ← hlo, ← hhi]
      refine withBool_intro ?_ ?_ <;> intro g3 <;> simp only [walkS, wl, rgets, retv, argsEnv, ev, cst, cst1, cstL, AEnv.get, AEnv.trim, envput, qstep, abin, aun, evs, evo, deref, qload, target, if_true, if_false, Nat.reduceEqDiff, reduceIte, Nat.reduceAdd, AV.cells, AV.isTuple, setMany, alen, aiaddr, afill, Nat.reduceLeDiff, Nat.reduceMul, Nat.reduceLT, afillE, List.replicate, beq_self_eq_true]
      · refine ⟨?_, by omega, fun i hi' => by rw [y3 i (by omega), AHeap.obj_push_lt hi']⟩
        rw [decide_eq_false (fun h => by have := (tr.1 h).1; simp at g3; omega)]
      · have hle : lo ≤ hi := by simp at g3; omega
        have e3 : IntKind.i64.wrap (lo + n) = lo + n := wrap_id (by omega) (by omega)
        have k1 : ∀ X, AHeap.obj (H1 ++ X) p1 = _ := fun X => obj_keep r1
        have k2 : ∀ X, AHeap.obj (H1 ++ X) p2 = _ := fun X => obj_keep r2
        have k3 : ∀ X, AHeap.obj (H1 ++ X) p3 = _ := fun X => obj_keep r3
        have k5 : ∀ X, AHeap.obj (H1 ++ X) p5 = _ := fun X => obj_keep r5
        simp only [walkS, wl, rgets, retv, argsEnv, ev, cst, cst1, cstL, AEnv.get, AEnv.trim, envput, qstep, abin, aun, evs, evo, deref, qload, target, if_true, if_false, Nat.reduceEqDiff, reduceIte, Nat.reduceAdd, AV.cells, AV.isTuple, setMany, alen, aiaddr, afill, Nat.reduceLeDiff, Nat.reduceMul, Nat.reduceLT, afillE, List.replicate, r2, r5, k2, k5, e3]
        have fin : ∀ (E : Int) (B : Bool), E = 0 → (B = true ↔ (driftV rate ts a day).1 ≤ lo ∧ lo ≤ (driftV rate ts a day).2 ∧ (driftV rate ts b day).1 ≤ lo + n ∧ lo + n ≤ (driftV rate ts b day).2 ∧ far 0 n ≤ rate * far a b) → AV.tuple [.bool B, .bool (E == 0)] = AV.tuple [.bool (decide ((turnV rate ts a b day).1 ≤ n ∧ n ≤ (turnV rate ts a b day).2)), .bool true] := fun E B hE hB => by
          subst hE
          have hf : far 0 n ≤ rate * far a b ↔ -(rate * far a b) ≤ n ∧ n ≤ rate * far a b := by unfold far; omega
          have : B = decide ((turnV rate ts a b day).1 ≤ n ∧ n ≤ (turnV rate ts a b day).2) := by
            rw [Bool.eq_iff_iff, hB, decide_eq_true_iff, tr, ← hlo, ← hhi, hf]
            constructor
            · rintro ⟨-, -, -, -, h⟩; exact ⟨hle, h⟩
            · rintro ⟨-, h⟩; refine ⟨by omega, by omega, by omega, by omega, h⟩
          rw [this]; rfl
        have hE0 : ∀ d1 d2 g1 g2 : Int, okDay d1 = true → okDay d2 = true → d1 < d2 → hisE no rate ts day [d1, d2] [g1, g2] = 0 := fun d1 d2 g1 g2 h1 h2 h3 => by
          unfold hisE; rw [if_neg (by simp [hchk]), if_pos ⟨hd, rfl, rising2 h1 h2 h3⟩]
        have hB0 : ∀ d1 d2 g1 g2 : Int, hisE no rate ts day [d1, d2] [g1, g2] = 0 → (hisB no rate ts day [d1, d2] [g1, g2] = true ↔ ((driftV rate ts d1 day).1 ≤ g1 ∧ g1 ≤ (driftV rate ts d1 day).2) ∧ ((driftV rate ts d2 day).1 ≤ g2 ∧ g2 ≤ (driftV rate ts d2 day).2) ∧ far g1 g2 ≤ rate * far d1 d2) := fun d1 d2 g1 g2 h => by
          unfold hisB; rw [h, decide_eq_true rfl, Bool.true_and, histB_iff]; exact two_hist
        refine withBool_intro ?_ ?_ <;> intro g4 <;> simp only [walkS, wl, rgets, retv, argsEnv, ev, cst, cst1, cstL, AEnv.get, AEnv.trim, envput, qstep, abin, aun, evs, evo, deref, qload, target, if_true, if_false, Nat.reduceEqDiff, reduceIte, Nat.reduceAdd, AV.cells, AV.isTuple, setMany, alen, aiaddr, afill, Nat.reduceLeDiff, Nat.reduceMul, Nat.reduceLT, afillE, List.replicate, r2, r5, k2, k5, e3, r1, r3, k1, k3]
        · have hlt : b < a := by simpa using g4
          have E0 := hE0 b a (lo + n) lo hb ha hlt
          refine call_pure (History_ok no rate day ts [b, a] [lo + n, lo] (by simp)) (frzL_of' (d := 4) (carL_cons car_sc (carL_cons car_int (carL_cons (car_own2 (by simp only [obj_app_add, obj_app, obj_succ, obj_zero]; first | rfl | done)) (carL_cons (car_own2 (by simp only [obj_app_add, obj_app, obj_succ, obj_zero]; first | rfl | done)) rfl))))) ?_
          unfold hisV
          simp only [walkS, wl, rgets, retv, argsEnv, ev, cst, cst1, cstL, AEnv.get, AEnv.trim, envput, qstep, abin, aun, evs, evo, deref, qload, target, if_true, if_false, Nat.reduceEqDiff, reduceIte, Nat.reduceAdd, AV.cells, AV.isTuple, setMany, alen, aiaddr, afill, Nat.reduceLeDiff, Nat.reduceMul, Nat.reduceLT, afillE, List.replicate]
          refine ⟨fin _ _ E0 ?_, by omega, keep _⟩
          rw [hB0 _ _ _ _ E0, far_comm (lo + n), far_add, far_comm b]
          constructor <;> intro h <;> omega
        · have hlt : a < b := by simp at g4; omega
          have E0 := hE0 a b lo (lo + n) ha hb hlt
          refine call_pure (History_ok no rate day ts [a, b] [lo, lo + n] (by simp)) (frzL_of' (d := 4) (carL_cons car_sc (carL_cons car_int (carL_cons (car_own2 (by simp only [obj_app_add, obj_app, obj_succ, obj_zero]; first | rfl | done)) (carL_cons (car_own2 (by simp only [obj_app_add, obj_app, obj_succ, obj_zero]; first | rfl | done)) rfl))))) ?_
          unfold hisV
          simp only [walkS, wl, rgets, retv, argsEnv, ev, cst, cst1, cstL, AEnv.get, AEnv.trim, envput, qstep, abin, aun, evs, evo, deref, qload, target, if_true, if_false, Nat.reduceEqDiff, reduceIte, Nat.reduceAdd, AV.cells, AV.isTuple, setMany, alen, aiaddr, afill, Nat.reduceLeDiff, Nat.reduceMul, Nat.reduceLT, afillE, List.replicate]
          refine ⟨fin _ _ E0 ?_, by omega, keep _⟩
          rw [hB0 _ _ _ _ E0, far_add]
          constructor <;> intro h <;> omega
  · refine ⟨?_, Nat.le_refl _, by intros; first | rfl | trivial⟩
    rw [decide_eq_false (by simp at g1; omega)]
theorem ask_two {no rate a b day : Int} {ts : List Tst} : (askV no rate ts [a, day] ≠ 0 → askV no rate ts [a, b, day] ≠ 0) ∧ (askV no rate ts [a, day] = 0 → askV no rate ts [a, b, day] = 0 ∨ askV no rate ts [a, b, day] = 1) := by
  unfold askV
  by_cases h : chkS no rate ts = 0
  · simp only [h, ne_eq, not_true_eq_false, if_false, List.all_cons, List.all_nil, Bool.and_true]
    cases okDay a <;> cases okDay b <;> cases okDay day <;> simp
  · simp [h]
/-- What the loop of CourseEnds leans on. -/
def Six (no rate : Int) (ts : List Tst) (a b day tn : Int) (H : AHeap) : Prop := AHeap.obj H 0 = some ⟨24, 3, [[I no, I rate, .ro false (trows ts)]]⟩ ∧ AHeap.obj H 1 = some ⟨3, 1, [[I a]]⟩ ∧ AHeap.obj H 2 = some ⟨3, 1, [[I b]]⟩ ∧ AHeap.obj H 3 = some ⟨3, 1, [[I day]]⟩ ∧
  AHeap.obj H 4 = some ⟨40, 2, [[I (driftV rate ts a day).1, I (driftV rate ts a day).2]]⟩ ∧ AHeap.obj H 5 = some ⟨40, 2, [[I (turnV rate ts a b day).1, I (turnV rate ts a b day).2]]⟩ ∧ AHeap.obj H 8 = some ⟨3, 1, [[I (turnV rate ts a b day).1], [I (turnV rate ts a b day).2], [I tn]]⟩
set_option maxHeartbeats 1600000 in
theorem CourseEnds_ok (no rate : Int) (ts : List Tst) (a b day grams tn : Int) : PCall Tryd.prog 7 [sc no rate ts, I a, I b, I day, I grams, I tn] (.bool true) := by
  refine PCall.intro text7 (by simp) ?_
  unfold ir7
  simp only [walk, wl, rgets, retv, argsEnv, ev, cst, cst1, cstL, AEnv.get, AEnv.trim, envput, qstep, abin, aun, evs, evo, deref, qload, target, if_true, if_false, Nat.reduceEqDiff, reduceIte, Nat.reduceAdd, AV.cells, AV.isTuple, setMany, alen, aiaddr, afill, Nat.reduceLeDiff, Nat.reduceMul, Nat.reduceLT, afillE, List.replicate]
  refine call_pure sane_ok .nil ?_
  simp only [walk, wl, rgets, retv, argsEnv, ev, cst, cst1, cstL, AEnv.get, AEnv.trim, envput, qstep, abin, aun, evs, evo, deref, qload, target, if_true, if_false, Nat.reduceEqDiff, reduceIte, Nat.reduceAdd, AV.cells, AV.isTuple, setMany, alen, aiaddr, afill, Nat.reduceLeDiff, Nat.reduceMul, Nat.reduceLT, afillE, List.replicate, trows_length]
  refine withBool_intro ?_ ?_ <;> intro hf <;> simp only [walk, wl, rgets, retv, argsEnv, ev, cst, cst1, cstL, AEnv.get, AEnv.trim, envput, qstep, abin, aun, evs, evo, deref, qload, target, if_true, if_false, Nat.reduceEqDiff, reduceIte, Nat.reduceAdd, AV.cells, AV.isTuple, setMany, alen, aiaddr, afill, Nat.reduceLeDiff, Nat.reduceMul, Nat.reduceLT, afillE, List.replicate]
  · exact out_bool
  · refine call_pure (Drift_ok no rate ts a day) (frzL_of' (d := 4) (carL_cons car_sc rfl)) ?_
    unfold dvV
    simp only [walk, wl, rgets, retv, argsEnv, ev, cst, cst1, cstL, AEnv.get, AEnv.trim, envput, qstep, abin, aun, evs, evo, deref, qload, target, if_true, if_false, Nat.reduceEqDiff, reduceIte, Nat.reduceAdd, AV.cells, AV.isTuple, setMany, alen, aiaddr, afill, Nat.reduceLeDiff, Nat.reduceMul, Nat.reduceLT, afillE, List.replicate]
    refine call_pure (Turn_ok no rate ts a b day) (frzL_of' (d := 4) (carL_cons car_sc rfl)) ?_
    unfold tvV
    obtain ⟨ea, eb⟩ := ask_two (no := no) (rate := rate) (a := a) (b := b) (day := day) (ts := ts)
    by_cases h0 : askV no rate ts [a, day] = 0
    · rcases eb h0 with h1 | h1
      · have hx : dvS no rate ts a day = driftV rate ts a day := by simp [dvS, h0]
        have hy : tvS no rate ts a b day = turnV rate ts a b day := by simp [tvS, h1]
        obtain ⟨hw, hc, hdd⟩ := askV_zero h1
        obtain ⟨-, hr, hlen, hok, -⟩ := well_iff.1 hw
        have ha := hdd a (by simp)
        have hb := hdd b (by simp)
        have hd := hdd day (by simp)
        have hchk : chkS no rate ts = 0 := by
          unfold askV at h1; split at h1
          · omega
          · rename_i h; simpa using h
        have hE : hisE no rate ts day [a] [grams] = 0 := by
          unfold hisE; rw [if_neg (by simp [hchk]), if_pos ⟨hd, rfl, by simp [risingV, upI, ha]⟩]
        have hB : hisB no rate ts day [a] [grams] = decide ((driftV rate ts a day).1 ≤ grams ∧ grams ≤ (driftV rate ts a day).2) := by
          unfold hisB; rw [hE, decide_eq_true rfl, Bool.true_and, Bool.eq_iff_iff, histB_iff, decide_eq_true_iff]
          exact one_hist
        have tb := turn_box (a := a) (b := b) (known := day) hr.1 hok hc
        rw [hx, hy, h0, h1]
        simp only [walk, wl, rgets, retv, argsEnv, ev, cst, cst1, cstL, AEnv.get, AEnv.trim, envput, qstep, abin, aun, evs, evo, deref, qload, target, if_true, if_false, Nat.reduceEqDiff, reduceIte, Nat.reduceAdd, AV.cells, AV.isTuple, setMany, alen, aiaddr, afill, Nat.reduceLeDiff, Nat.reduceMul, Nat.reduceLT, afillE, List.replicate, bne_self_eq_false]
        refine call_pure (History_ok no rate day ts [a] [grams] (by simp)) (frzL_of' (d := 4) (carL_cons car_sc (carL_cons car_int (carL_cons (car_own1 rfl) (carL_cons (car_own1 rfl) rfl))))) ?_
        unfold hisV
        rw [hE, hB]
        simp only [walk, wl, rgets, retv, argsEnv, ev, cst, cst1, cstL, AEnv.get, AEnv.trim, envput, qstep, abin, aun, evs, evo, deref, qload, target, if_true, if_false, Nat.reduceEqDiff, reduceIte, Nat.reduceAdd, AV.cells, AV.isTuple, setMany, alen, aiaddr, afill, Nat.reduceLeDiff, Nat.reduceMul, Nat.reduceLT, afillE, List.replicate, bne_self_eq_false]
        refine withGuard_intro ?_ ?_ <;> intro g1 <;> simp only [walk, wl, rgets, retv, argsEnv, ev, cst, cst1, cstL, AEnv.get, AEnv.trim, envput, qstep, abin, aun, evs, evo, deref, qload, target, if_true, if_false, Nat.reduceEqDiff, reduceIte, Nat.reduceAdd, AV.cells, AV.isTuple, setMany, alen, aiaddr, afill, Nat.reduceLeDiff, Nat.reduceMul, Nat.reduceLT, afillE, List.replicate, g1]
        · have g1' : (driftV rate ts a day).1 ≤ grams := by simpa using g1
          have z : (!(decide ((driftV rate ts a day).1 ≤ grams ∧ grams ≤ (driftV rate ts a day).2) == decide (grams ≤ (driftV rate ts a day).2))) = false := by simp [g1']
          simp only [walk, wl, rgets, retv, argsEnv, ev, cst, cst1, cstL, AEnv.get, AEnv.trim, envput, qstep, abin, aun, evs, evo, deref, qload, target, if_true, if_false, Nat.reduceEqDiff, reduceIte, Nat.reduceAdd, AV.cells, AV.isTuple, setMany, alen, aiaddr, afill, Nat.reduceLeDiff, Nat.reduceMul, Nat.reduceLT, afillE, List.replicate, z]
          refine withBool_intro ?_ ?_ <;> intro g2 <;> simp only [walk, wl, rgets, retv, argsEnv, ev, cst, cst1, cstL, AEnv.get, AEnv.trim, envput, qstep, abin, aun, evs, evo, deref, qload, target, if_true, if_false, Nat.reduceEqDiff, reduceIte, Nat.reduceAdd, AV.cells, AV.isTuple, setMany, alen, aiaddr, afill, Nat.reduceLeDiff, Nat.reduceMul, Nat.reduceLT, afillE, List.replicate]
          · obtain rfl : a = b := by simpa using g2
            rw [turn_self hr.1 hok hc]
            simp only [walk, wl, rgets, retv, argsEnv, ev, cst, cst1, cstL, AEnv.get, AEnv.trim, envput, qstep, abin, aun, evs, evo, deref, qload, target, if_true, if_false, Nat.reduceEqDiff, reduceIte, Nat.reduceAdd, AV.cells, AV.isTuple, setMany, alen, aiaddr, afill, Nat.reduceLeDiff, Nat.reduceMul, Nat.reduceLT, afillE, List.replicate, aeqO, Nat.reduceAdd, beq_self_eq_true, Bool.and_self, Bool.and_true]
            exact out_bool
          · have hab : a ≠ b := by simpa using g2
            have zz : ∀ v : Int, (turnV rate ts a b day).1 ≤ v → (!(decide ((turnV rate ts a b day).1 ≤ v ∧ v ≤ (turnV rate ts a b day).2) == decide (v ≤ (turnV rate ts a b day).2))) = false := fun v h => by simp [h]
            have zf : ∀ v : Int, ¬ (turnV rate ts a b day).1 ≤ v → (!(decide ((turnV rate ts a b day).1 ≤ v ∧ v ≤ (turnV rate ts a b day).2) == false)) = false := fun v h => by simp [h]
            refine awp_loop (σ := Nat) (fun k => [(15, .ptr 5 1 0 0), (18, .func (.func 37) [] [.ptr 0 1 0 0, .ptr 2 1 0 0, .ptr 3 1 0 0, .ptr 4 1 0 0, .ptr 1 1 0 0]), (116, .own 8 3 0 3), (117, I ((3 : Nat) : Int)), (118, I k)]) (fun _ H => 9 ≤ H.length ∧ Six no rate ts a b day tn H) (fun k => k ≤ 3) (fun k => 3 - k) 0 (Nat.zero_le _) rfl ⟨by simp, rfl, rfl, rfl, rfl, rfl, rfl, rfl⟩ ?_
            rintro k H hk ⟨hH, o0, o1, o2, o3, o4, o5, o8⟩
            simp only [walkS, wl, rgets, retv, argsEnv, ev, cst, cst1, cstL, AEnv.get, AEnv.trim, envput, qstep, abin, aun, evs, evo, deref, qload, target, if_true, if_false, Nat.reduceEqDiff, reduceIte, Nat.reduceAdd, AV.cells, AV.isTuple, setMany, alen, aiaddr, afill, Nat.reduceLeDiff, Nat.reduceMul, Nat.reduceLT, afillE, List.replicate]
            refine withBool_intro ?_ ?_ <;> intro hb2 <;> simp only [walkS, wl, rgets, retv, argsEnv, ev, cst, cst1, cstL, AEnv.get, AEnv.trim, envput, qstep, abin, aun, evs, evo, deref, qload, target, if_true, if_false, Nat.reduceEqDiff, reduceIte, Nat.reduceAdd, AV.cells, AV.isTuple, setMany, alen, aiaddr, afill, Nat.reduceLeDiff, Nat.reduceMul, Nat.reduceLT, afillE, List.replicate]
            · have hk3 : k < 3 := by simp at hb2; omega
              have c0 : ((0 : Nat) : Int) < ((3 : Nat) : Int) := by decide
              have c1 : ((1 : Nat) : Int) < ((3 : Nat) : Int) := by decide
              have c2 : ((2 : Nat) : Int) < ((3 : Nat) : Int) := by decide
              have w0 := w_succ (k := 0) (by omega)
              have w1 := w_succ (k := 1) (by omega)
              have w2 := w_succ (k := 2) (by omega)
              rcases (by omega : k = 0 ∨ k = 1 ∨ k = 2) with rfl | rfl | rfl
              all_goals
                simp only [walkS, wl, rgets, retv, argsEnv, ev, cst, cst1, cstL, AEnv.get, AEnv.trim, envput, qstep, abin, aun, evs, evo, deref, qload, target, if_true, if_false, Nat.reduceEqDiff, reduceIte, Nat.reduceAdd, AV.cells, AV.isTuple, setMany, alen, aiaddr, afill, Nat.reduceLeDiff, Nat.reduceMul, Nat.reduceLT, afillE, List.replicate, o8, c0, c1, c2]
                refine acall_callv ?_
                simp only [walkS, wl, rgets, retv, argsEnv, ev, cst, cst1, cstL, AEnv.get, AEnv.trim, envput, qstep, abin, aun, evs, evo, deref, qload, target, if_true, if_false, Nat.reduceEqDiff, reduceIte, Nat.reduceAdd, AV.cells, AV.isTuple, setMany, alen, aiaddr, afill, Nat.reduceLeDiff, Nat.reduceMul, Nat.reduceLT, afillE, List.replicate, withFun_app, funK_app]
                refine (reach_ok hw hc hchk ha hb hd hab o0 o2 o3 o4 o1).mono ?_
                rintro r H1 ⟨rfl, hl1, hkeep⟩
                have hS : Six no rate ts a b day tn H1 := ⟨(hkeep 0 (by omega)).trans o0, (hkeep 1 (by omega)).trans o1, (hkeep 2 (by omega)).trans o2, (hkeep 3 (by omega)).trans o3, (hkeep 4 (by omega)).trans o4, (hkeep 5 (by omega)).trans o5, (hkeep 8 (by omega)).trans o8⟩
                have p5 := hS.2.2.2.2.2.1
                simp only [walkS, wl, rgets, retv, argsEnv, ev, cst, cst1, cstL, AEnv.get, AEnv.trim, envput, qstep, abin, aun, evs, evo, deref, qload, target, if_true, if_false, Nat.reduceEqDiff, reduceIte, Nat.reduceAdd, AV.cells, AV.isTuple, setMany, alen, aiaddr, afill, Nat.reduceLeDiff, Nat.reduceMul, Nat.reduceLT, afillE, List.replicate, p5]
                refine withGuard_intro ?_ ?_ <;> intro g3 <;> simp only [walkS, wl, rgets, retv, argsEnv, ev, cst, cst1, cstL, AEnv.get, AEnv.trim, envput, qstep, abin, aun, evs, evo, deref, qload, target, if_true, if_false, Nat.reduceEqDiff, reduceIte, Nat.reduceAdd, AV.cells, AV.isTuple, setMany, alen, aiaddr, afill, Nat.reduceLeDiff, Nat.reduceMul, Nat.reduceLT, afillE, List.replicate, g3, p5]
                · simp only [walkS, wl, rgets, retv, argsEnv, ev, cst, cst1, cstL, AEnv.get, AEnv.trim, envput, qstep, abin, aun, evs, evo, deref, qload, target, if_true, if_false, Nat.reduceEqDiff, reduceIte, Nat.reduceAdd, AV.cells, AV.isTuple, setMany, alen, aiaddr, afill, Nat.reduceLeDiff, Nat.reduceMul, Nat.reduceLT, afillE, List.replicate, zz _ (of_decide_eq_true g3), w0, w1, w2]
                  first | exact loop_end 1 (by omega) (by omega) rfl ⟨by omega, hS⟩ | exact loop_end 2 (by omega) (by omega) rfl ⟨by omega, hS⟩ | exact loop_end 3 (by omega) (by omega) rfl ⟨by omega, hS⟩
                · simp only [walkS, wl, rgets, retv, argsEnv, ev, cst, cst1, cstL, AEnv.get, AEnv.trim, envput, qstep, abin, aun, evs, evo, deref, qload, target, if_true, if_false, Nat.reduceEqDiff, reduceIte, Nat.reduceAdd, AV.cells, AV.isTuple, setMany, alen, aiaddr, afill, Nat.reduceLeDiff, Nat.reduceMul, Nat.reduceLT, afillE, List.replicate, zf _ (of_decide_eq_false g3), w0, w1, w2]
                  first | exact loop_end 1 (by omega) (by omega) rfl ⟨by omega, hS⟩ | exact loop_end 2 (by omega) (by omega) rfl ⟨by omega, hS⟩ | exact loop_end 3 (by omega) (by omega) rfl ⟨by omega, hS⟩
            · have e1 : IntKind.i64.wrap ((turnV rate ts a b day).1 - 1) = (turnV rate ts a b day).1 - 1 := wrap_id (by omega) (by omega)
              have e2 : IntKind.i64.wrap ((turnV rate ts a b day).2 + 1) = (turnV rate ts a b day).2 + 1 := wrap_id (by omega) (by omega)
              simp only [walkS, wl, rgets, retv, argsEnv, ev, cst, cst1, cstL, AEnv.get, AEnv.trim, envput, qstep, abin, aun, evs, evo, deref, qload, target, if_true, if_false, Nat.reduceEqDiff, reduceIte, Nat.reduceAdd, AV.cells, AV.isTuple, setMany, alen, aiaddr, afill, Nat.reduceLeDiff, Nat.reduceMul, Nat.reduceLT, afillE, List.replicate, o5, e1]
              refine acall_callv ?_
              simp only [walkS, wl, rgets, retv, argsEnv, ev, cst, cst1, cstL, AEnv.get, AEnv.trim, envput, qstep, abin, aun, evs, evo, deref, qload, target, if_true, if_false, Nat.reduceEqDiff, reduceIte, Nat.reduceAdd, AV.cells, AV.isTuple, setMany, alen, aiaddr, afill, Nat.reduceLeDiff, Nat.reduceMul, Nat.reduceLT, afillE, List.replicate, withFun_app, funK_app]
              refine (reach_ok hw hc hchk ha hb hd hab o0 o2 o3 o4 o1).mono ?_
              rintro r H1 ⟨rfl, hl1, hkeep⟩
              have hS : Six no rate ts a b day tn H1 := ⟨(hkeep 0 (by omega)).trans o0, (hkeep 1 (by omega)).trans o1, (hkeep 2 (by omega)).trans o2, (hkeep 3 (by omega)).trans o3, (hkeep 4 (by omega)).trans o4, (hkeep 5 (by omega)).trans o5, (hkeep 8 (by omega)).trans o8⟩
              obtain ⟨s0, s1, s2, s3, s4, s5, s8⟩ := hS
              simp only [walkS, wl, rgets, retv, argsEnv, ev, cst, cst1, cstL, AEnv.get, AEnv.trim, envput, qstep, abin, aun, evs, evo, deref, qload, target, if_true, if_false, Nat.reduceEqDiff, reduceIte, Nat.reduceAdd, AV.cells, AV.isTuple, setMany, alen, aiaddr, afill, Nat.reduceLeDiff, Nat.reduceMul, Nat.reduceLT, afillE, List.replicate, s5, e2]
              refine acall_callv ?_
              simp only [walkS, wl, rgets, retv, argsEnv, ev, cst, cst1, cstL, AEnv.get, AEnv.trim, envput, qstep, abin, aun, evs, evo, deref, qload, target, if_true, if_false, Nat.reduceEqDiff, reduceIte, Nat.reduceAdd, AV.cells, AV.isTuple, setMany, alen, aiaddr, afill, Nat.reduceLeDiff, Nat.reduceMul, Nat.reduceLT, afillE, List.replicate, withFun_app, funK_app]
              refine (reach_ok hw hc hchk ha hb hd hab s0 s2 s3 s4 s1).mono ?_
              rintro r H2 ⟨rfl, hl2, hkeep2⟩
              have t5 := (hkeep2 5 (by omega)).trans s5
              have n1 : decide ((turnV rate ts a b day).1 ≤ (turnV rate ts a b day).1 - 1 ∧ (turnV rate ts a b day).1 - 1 ≤ (turnV rate ts a b day).2) = false := decide_eq_false (by omega)
              have n2 : decide ((turnV rate ts a b day).1 ≤ (turnV rate ts a b day).2 + 1 ∧ (turnV rate ts a b day).2 + 1 ≤ (turnV rate ts a b day).2) = false := decide_eq_false (by omega)
              have n3 : decide ((turnV rate ts a b day).1 ≤ (turnV rate ts a b day).2) = true := decide_eq_true (by omega)
              simp only [walkS, wl, rgets, retv, argsEnv, ev, cst, cst1, cstL, AEnv.get, AEnv.trim, envput, qstep, abin, aun, evs, evo, deref, qload, target, if_true, if_false, Nat.reduceEqDiff, reduceIte, Nat.reduceAdd, AV.cells, AV.isTuple, setMany, alen, aiaddr, afill, Nat.reduceLeDiff, Nat.reduceMul, Nat.reduceLT, afillE, List.replicate, n1, n2, n3, t5]
              exact out_bool
        · have g1' : ¬ (driftV rate ts a day).1 ≤ grams := by simpa using g1
          have z : (!(decide ((driftV rate ts a day).1 ≤ grams ∧ grams ≤ (driftV rate ts a day).2) == false)) = false := by simp [g1']
          simp only [walk, wl, rgets, retv, argsEnv, ev, cst, cst1, cstL, AEnv.get, AEnv.trim, envput, qstep, abin, aun, evs, evo, deref, qload, target, if_true, if_false, Nat.reduceEqDiff, reduceIte, Nat.reduceAdd, AV.cells, AV.isTuple, setMany, alen, aiaddr, afill, Nat.reduceLeDiff, Nat.reduceMul, Nat.reduceLT, afillE, List.replicate, z]
          refine withBool_intro ?_ ?_ <;> intro g2 <;> simp only [walk, wl, rgets, retv, argsEnv, ev, cst, cst1, cstL, AEnv.get, AEnv.trim, envput, qstep, abin, aun, evs, evo, deref, qload, target, if_true, if_false, Nat.reduceEqDiff, reduceIte, Nat.reduceAdd, AV.cells, AV.isTuple, setMany, alen, aiaddr, afill, Nat.reduceLeDiff, Nat.reduceMul, Nat.reduceLT, afillE, List.replicate]
          · obtain rfl : a = b := by simpa using g2
            rw [turn_self hr.1 hok hc]
            simp only [walk, wl, rgets, retv, argsEnv, ev, cst, cst1, cstL, AEnv.get, AEnv.trim, envput, qstep, abin, aun, evs, evo, deref, qload, target, if_true, if_false, Nat.reduceEqDiff, reduceIte, Nat.reduceAdd, AV.cells, AV.isTuple, setMany, alen, aiaddr, afill, Nat.reduceLeDiff, Nat.reduceMul, Nat.reduceLT, afillE, List.replicate, aeqO, Nat.reduceAdd, beq_self_eq_true, Bool.and_self, Bool.and_true]
            exact out_bool
          · have hab : a ≠ b := by simpa using g2
            have zz : ∀ v : Int, (turnV rate ts a b day).1 ≤ v → (!(decide ((turnV rate ts a b day).1 ≤ v ∧ v ≤ (turnV rate ts a b day).2) == decide (v ≤ (turnV rate ts a b day).2))) = false := fun v h => by simp [h]
            have zf : ∀ v : Int, ¬ (turnV rate ts a b day).1 ≤ v → (!(decide ((turnV rate ts a b day).1 ≤ v ∧ v ≤ (turnV rate ts a b day).2) == false)) = false := fun v h => by simp [h]
            refine awp_loop (σ := Nat) (fun k => [(15, .ptr 5 1 0 0), (18, .func (.func 37) [] [.ptr 0 1 0 0, .ptr 2 1 0 0, .ptr 3 1 0 0, .ptr 4 1 0 0, .ptr 1 1 0 0]), (116, .own 8 3 0 3), (117, I ((3 : Nat) : Int)), (118, I k)]) (fun _ H => 9 ≤ H.length ∧ Six no rate ts a b day tn H) (fun k => k ≤ 3) (fun k => 3 - k) 0 (Nat.zero_le _) rfl ⟨by simp, rfl, rfl, rfl, rfl, rfl, rfl, rfl⟩ ?_
            rintro k H hk ⟨hH, o0, o1, o2, o3, o4, o5, o8⟩
            simp only [walkS, wl, rgets, retv, argsEnv, ev, cst, cst1, cstL, AEnv.get, AEnv.trim, envput, qstep, abin, aun, evs, evo, deref, qload, target, if_true, if_false, Nat.reduceEqDiff, reduceIte, Nat.reduceAdd, AV.cells, AV.isTuple, setMany, alen, aiaddr, afill, Nat.reduceLeDiff, Nat.reduceMul, Nat.reduceLT, afillE, List.replicate]
            refine withBool_intro ?_ ?_ <;> intro hb2 <;> simp only [walkS, wl, rgets, retv, argsEnv, ev, cst, cst1, cstL, AEnv.get, AEnv.trim, envput, qstep, abin, aun, evs, evo, deref, qload, target, if_true, if_false, Nat.reduceEqDiff, reduceIte, Nat.reduceAdd, AV.cells, AV.isTuple, setMany, alen, aiaddr, afill, Nat.reduceLeDiff, Nat.reduceMul, Nat.reduceLT, afillE, List.replicate]
            · have hk3 : k < 3 := by simp at hb2; omega
              have c0 : ((0 : Nat) : Int) < ((3 : Nat) : Int) := by decide
              have c1 : ((1 : Nat) : Int) < ((3 : Nat) : Int) := by decide
              have c2 : ((2 : Nat) : Int) < ((3 : Nat) : Int) := by decide
              have w0 := w_succ (k := 0) (by omega)
              have w1 := w_succ (k := 1) (by omega)
              have w2 := w_succ (k := 2) (by omega)
              rcases (by omega : k = 0 ∨ k = 1 ∨ k = 2) with rfl | rfl | rfl
              all_goals
                simp only [walkS, wl, rgets, retv, argsEnv, ev, cst, cst1, cstL, AEnv.get, AEnv.trim, envput, qstep, abin, aun, evs, evo, deref, qload, target, if_true, if_false, Nat.reduceEqDiff, reduceIte, Nat.reduceAdd, AV.cells, AV.isTuple, setMany, alen, aiaddr, afill, Nat.reduceLeDiff, Nat.reduceMul, Nat.reduceLT, afillE, List.replicate, o8, c0, c1, c2]
                refine acall_callv ?_
                simp only [walkS, wl, rgets, retv, argsEnv, ev, cst, cst1, cstL, AEnv.get, AEnv.trim, envput, qstep, abin, aun, evs, evo, deref, qload, target, if_true, if_false, Nat.reduceEqDiff, reduceIte, Nat.reduceAdd, AV.cells, AV.isTuple, setMany, alen, aiaddr, afill, Nat.reduceLeDiff, Nat.reduceMul, Nat.reduceLT, afillE, List.replicate, withFun_app, funK_app]
                refine (reach_ok hw hc hchk ha hb hd hab o0 o2 o3 o4 o1).mono ?_
                rintro r H1 ⟨rfl, hl1, hkeep⟩
                have hS : Six no rate ts a b day tn H1 := ⟨(hkeep 0 (by omega)).trans o0, (hkeep 1 (by omega)).trans o1, (hkeep 2 (by omega)).trans o2, (hkeep 3 (by omega)).trans o3, (hkeep 4 (by omega)).trans o4, (hkeep 5 (by omega)).trans o5, (hkeep 8 (by omega)).trans o8⟩
                have p5 := hS.2.2.2.2.2.1
                simp only [walkS, wl, rgets, retv, argsEnv, ev, cst, cst1, cstL, AEnv.get, AEnv.trim, envput, qstep, abin, aun, evs, evo, deref, qload, target, if_true, if_false, Nat.reduceEqDiff, reduceIte, Nat.reduceAdd, AV.cells, AV.isTuple, setMany, alen, aiaddr, afill, Nat.reduceLeDiff, Nat.reduceMul, Nat.reduceLT, afillE, List.replicate, p5]
                refine withGuard_intro ?_ ?_ <;> intro g3 <;> simp only [walkS, wl, rgets, retv, argsEnv, ev, cst, cst1, cstL, AEnv.get, AEnv.trim, envput, qstep, abin, aun, evs, evo, deref, qload, target, if_true, if_false, Nat.reduceEqDiff, reduceIte, Nat.reduceAdd, AV.cells, AV.isTuple, setMany, alen, aiaddr, afill, Nat.reduceLeDiff, Nat.reduceMul, Nat.reduceLT, afillE, List.replicate, g3, p5]
                · simp only [walkS, wl, rgets, retv, argsEnv, ev, cst, cst1, cstL, AEnv.get, AEnv.trim, envput, qstep, abin, aun, evs, evo, deref, qload, target, if_true, if_false, Nat.reduceEqDiff, reduceIte, Nat.reduceAdd, AV.cells, AV.isTuple, setMany, alen, aiaddr, afill, Nat.reduceLeDiff, Nat.reduceMul, Nat.reduceLT, afillE, List.replicate, zz _ (of_decide_eq_true g3), w0, w1, w2]
                  first | exact loop_end 1 (by omega) (by omega) rfl ⟨by omega, hS⟩ | exact loop_end 2 (by omega) (by omega) rfl ⟨by omega, hS⟩ | exact loop_end 3 (by omega) (by omega) rfl ⟨by omega, hS⟩
                · simp only [walkS, wl, rgets, retv, argsEnv, ev, cst, cst1, cstL, AEnv.get, AEnv.trim, envput, qstep, abin, aun, evs, evo, deref, qload, target, if_true, if_false, Nat.reduceEqDiff, reduceIte, Nat.reduceAdd, AV.cells, AV.isTuple, setMany, alen, aiaddr, afill, Nat.reduceLeDiff, Nat.reduceMul, Nat.reduceLT, afillE, List.replicate, zf _ (of_decide_eq_false g3), w0, w1, w2]
                  first | exact loop_end 1 (by omega) (by omega) rfl ⟨by omega, hS⟩ | exact loop_end 2 (by omega) (by omega) rfl ⟨by omega, hS⟩ | exact loop_end 3 (by omega) (by omega) rfl ⟨by omega, hS⟩
            · have e1 : IntKind.i64.wrap ((turnV rate ts a b day).1 - 1) = (turnV rate ts a b day).1 - 1 := wrap_id (by omega) (by omega)
              have e2 : IntKind.i64.wrap ((turnV rate ts a b day).2 + 1) = (turnV rate ts a b day).2 + 1 := wrap_id (by omega) (by omega)
              simp only [walkS, wl, rgets, retv, argsEnv, ev, cst, cst1, cstL, AEnv.get, AEnv.trim, envput, qstep, abin, aun, evs, evo, deref, qload, target, if_true, if_false, Nat.reduceEqDiff, reduceIte, Nat.reduceAdd, AV.cells, AV.isTuple, setMany, alen, aiaddr, afill, Nat.reduceLeDiff, Nat.reduceMul, Nat.reduceLT, afillE, List.replicate, o5, e1]
              refine acall_callv ?_
              simp only [walkS, wl, rgets, retv, argsEnv, ev, cst, cst1, cstL, AEnv.get, AEnv.trim, envput, qstep, abin, aun, evs, evo, deref, qload, target, if_true, if_false, Nat.reduceEqDiff, reduceIte, Nat.reduceAdd, AV.cells, AV.isTuple, setMany, alen, aiaddr, afill, Nat.reduceLeDiff, Nat.reduceMul, Nat.reduceLT, afillE, List.replicate, withFun_app, funK_app]
              refine (reach_ok hw hc hchk ha hb hd hab o0 o2 o3 o4 o1).mono ?_
              rintro r H1 ⟨rfl, hl1, hkeep⟩
              have hS : Six no rate ts a b day tn H1 := ⟨(hkeep 0 (by omega)).trans o0, (hkeep 1 (by omega)).trans o1, (hkeep 2 (by omega)).trans o2, (hkeep 3 (by omega)).trans o3, (hkeep 4 (by omega)).trans o4, (hkeep 5 (by omega)).trans o5, (hkeep 8 (by omega)).trans o8⟩
              obtain ⟨s0, s1, s2, s3, s4, s5, s8⟩ := hS
              simp only [walkS, wl, rgets, retv, argsEnv, ev, cst, cst1, cstL, AEnv.get, AEnv.trim, envput, qstep, abin, aun, evs, evo, deref, qload, target, if_true, if_false, Nat.reduceEqDiff, reduceIte, Nat.reduceAdd, AV.cells, AV.isTuple, setMany, alen, aiaddr, afill, Nat.reduceLeDiff, Nat.reduceMul, Nat.reduceLT, afillE, List.replicate, s5, e2]
              refine acall_callv ?_
              simp only [walkS, wl, rgets, retv, argsEnv, ev, cst, cst1, cstL, AEnv.get, AEnv.trim, envput, qstep, abin, aun, evs, evo, deref, qload, target, if_true, if_false, Nat.reduceEqDiff, reduceIte, Nat.reduceAdd, AV.cells, AV.isTuple, setMany, alen, aiaddr, afill, Nat.reduceLeDiff, Nat.reduceMul, Nat.reduceLT, afillE, List.replicate, withFun_app, funK_app]
              refine (reach_ok hw hc hchk ha hb hd hab s0 s2 s3 s4 s1).mono ?_
              rintro r H2 ⟨rfl, hl2, hkeep2⟩
              have t5 := (hkeep2 5 (by omega)).trans s5
              have n1 : decide ((turnV rate ts a b day).1 ≤ (turnV rate ts a b day).1 - 1 ∧ (turnV rate ts a b day).1 - 1 ≤ (turnV rate ts a b day).2) = false := decide_eq_false (by omega)
              have n2 : decide ((turnV rate ts a b day).1 ≤ (turnV rate ts a b day).2 + 1 ∧ (turnV rate ts a b day).2 + 1 ≤ (turnV rate ts a b day).2) = false := decide_eq_false (by omega)
              have n3 : decide ((turnV rate ts a b day).1 ≤ (turnV rate ts a b day).2) = true := decide_eq_true (by omega)
              simp only [walkS, wl, rgets, retv, argsEnv, ev, cst, cst1, cstL, AEnv.get, AEnv.trim, envput, qstep, abin, aun, evs, evo, deref, qload, target, if_true, if_false, Nat.reduceEqDiff, reduceIte, Nat.reduceAdd, AV.cells, AV.isTuple, setMany, alen, aiaddr, afill, Nat.reduceLeDiff, Nat.reduceMul, Nat.reduceLT, afillE, List.replicate, n1, n2, n3, t5]
              exact out_bool
      · have hy : tvS no rate ts a b day = (0, 0) := by simp [tvS, h1]
        rw [hy, h0, h1]
        simp only [walk, wl, rgets, retv, argsEnv, ev, cst, cst1, cstL, AEnv.get, AEnv.trim, envput, qstep, abin, aun, evs, evo, deref, qload, target, if_true, if_false, Nat.reduceEqDiff, reduceIte, Nat.reduceAdd, AV.cells, AV.isTuple, setMany, alen, aiaddr, afill, Nat.reduceLeDiff, Nat.reduceMul, Nat.reduceLT, afillE, List.replicate, bne_self_eq_false, beq_self_eq_true, Int.reduceBEq, Int.reduceBNe, aeqO, Nat.reduceAdd, Bool.and_self, Bool.and_true]
        refine withGuard_intro ?_ ?_ <;> intro g1 <;> simp only [walk, wl, rgets, retv, argsEnv, ev, cst, cst1, cstL, AEnv.get, AEnv.trim, envput, qstep, abin, aun, evs, evo, deref, qload, target, if_true, if_false, Nat.reduceEqDiff, reduceIte, Nat.reduceAdd, AV.cells, AV.isTuple, setMany, alen, aiaddr, afill, Nat.reduceLeDiff, Nat.reduceMul, Nat.reduceLT, afillE, List.replicate, g1, bne_self_eq_false, beq_self_eq_true, Int.reduceBEq, Int.reduceBNe, aeqO, Nat.reduceAdd, Bool.and_self, Bool.and_true]
        · exact out_bool
        · exact out_bool
    · have h1 := ea h0
      have hx : dvS no rate ts a day = (0, 0) := by simp [dvS, h0]
      have hy : tvS no rate ts a b day = (0, 0) := by simp [tvS, h1]
      have z0 : (askV no rate ts [a, day] != 0) = true := by simpa using h0
      have z1 : (askV no rate ts [a, b, day] != 0) = true := by simpa using h1
      rw [hx, hy]
      simp only [walk, wl, rgets, retv, argsEnv, ev, cst, cst1, cstL, AEnv.get, AEnv.trim, envput, qstep, abin, aun, evs, evo, deref, qload, target, if_true, if_false, Nat.reduceEqDiff, reduceIte, Nat.reduceAdd, AV.cells, AV.isTuple, setMany, alen, aiaddr, afill, Nat.reduceLeDiff, Nat.reduceMul, Nat.reduceLT, afillE, List.replicate, z0, z1, aeqO, Nat.reduceAdd, beq_self_eq_true, Bool.and_self, Bool.and_true]
      exact out_bool
end Go.Proofs.YtgadlckkmhhmbaaDoor
