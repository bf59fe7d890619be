/- Contracts: Narrow of the package. -/
import Derived.Test.YtepnijjgdhldeaaQD26
namespace Go.Proofs.Ytepnijjgdhldeaa
open Go.Awp
set_option linter.unusedSimpArgs false
set_option linter.unusedVariables false
set_option linter.unusedSectionVars false
set_option maxRecDepth 10000
noncomputable def narrowV (n : Int) (l : List Int) (m : List Bool) (d : Df) : Int × List Int × List Bool × Int :=
  if tabB n l m then (if right d n then (if hq m (to d * n.toNat + fr d) && decide (mg l (to d * n.toNat + fr d) + d.2.2 < 0) then (0, [], [], 41) else
    (n, li (n.toNat * n.toNat) (nM n.toNat l m (fr d) (to d) d.2.2), lb (n.toNat * n.toNat) (nH n.toNat l m (fr d) (to d) d.2.2), 0)) else (0, [], [], 1)) else (0, [], [], 40)
noncomputable def narrowA (b : Bool) (r : Int × List Int × List Bool × Int) : AV := .tuple [tabV b r.1 r.2.1 r.2.2.1, I r.2.2.2]
theorem li_mg {K : Nat} {l : List Int} (h : l.length = K) : li K (mg l) = l := by
  subst h
  refine List.ext_getElem (by simp [li_length]) fun i h1 h2 => ?_
  simp [li, mg, h2]
theorem lb_hq {K : Nat} {l : List Bool} (h : l.length = K) : lb K (hq l) = l := by
  subst h
  refine List.ext_getElem (by simp [lb_length]) fun i h1 h2 => ?_
  simp [lb, hq, h2]
theorem upM_zero {N : Nat} {l : List Int} {m : List Bool} {u v : Nat} {w : Int} : upM N l m u v w 0 = mg l := by funext x; simp [upM]
theorem upH_zero {N : Nat} {l : List Int} {m : List Bool} {u v : Nat} {w : Int} : upH N l m u v w 0 = hq m := by funext x; simp [upH]
theorem narrow_fin {N : Nat} {l : List Int} {m : List Bool} {u v : Nat} {w : Int} {p1 q1 p2 q2 g6 g7 : Nat} {H : AHeap} {Q : AX → AEnv → AHeap → Prop} (hT : Tab N l m) (hu : u < N) (hv : v < N) (hw : -1073741824 ≤ w ∧ w ≤ 1073741824)
    (ni : 3 ≤ p2 ∧ 3 ≤ q2 ∧ p2 ≠ p1 ∧ p2 ≠ q1 ∧ p2 ≠ q2 ∧ p2 ≠ g6 ∧ p2 ≠ g7 ∧ q2 ≠ p1 ∧ q2 ≠ q1 ∧ q2 ≠ g6 ∧ q2 ≠ g7)
    (o0 : AHeap.obj H 0 = some ⟨73, 3, [[I N, .ro false (ic l), .ro false (bc m)]]⟩)
    (o1 : AHeap.obj H 1 = some ⟨39, 3, [[I u, I v, I w]]⟩)
    (o2 : AHeap.obj H 2 = some ⟨73, 3, [[I 0, .nilSlice, .nilSlice]]⟩)
    (w1 : AHeap.obj H p1 = some ⟨3, 1, ic l⟩)
    (w2 : AHeap.obj H q1 = some ⟨4, 1, bc m⟩)
    (x1 : AHeap.obj H p2 = some ⟨3, 1, ic l⟩)
    (x2 : AHeap.obj H q2 = some ⟨4, 1, bc m⟩)
    (y6 : AHeap.obj H g6 = some ⟨120, 4, [[I N, .own p1 l.length 0 l.length, I N, .own q1 m.length 0 m.length]]⟩)
    (y7 : AHeap.obj H g7 = some ⟨120, 4, [[I N, .own p2 l.length 0 l.length, I N, .own q2 m.length 0 m.length]]⟩)
    (hClash : hq m (v * N + u) = true → mg l (v * N + u) + w < 0 → ∀ H, AHeap.obj H 2 = some ⟨73, 3, [[I 0, .nilSlice, .nilSlice]]⟩ → Q .ret [(4, .ptr 2 1 0 0), (5, I 41)] H)
    (hDone : ¬ (hq m (v * N + u) = true ∧ mg l (v * N + u) + w < 0) → ∀ H, AHeap.obj H 2 = some ⟨73, 3, [[I N, .own p2 (N * N) 0 (N * N), .own q2 (N * N) 0 (N * N)]]⟩ → AHeap.obj H p2 = some ⟨3, 1, ic (li (N * N) (nM N l m u v w))⟩ → AHeap.obj H q2 = some ⟨4, 1, bc (lb (N * N) (nH N l m u v w))⟩ → Q .ret [(4, .ptr 2 1 0 0), (5, I 0)] H) :
    awp Try.prog ir65r Q [(2, .ptr 0 1 0 0), (3, .ptr 1 1 0 0), (4, .ptr 2 1 0 0), (6, .ptr g6 1 0 0), (7, .ptr g7 1 0 0)] H :=
  narrow_rest hT.pos hT.most hT.ll hT.lm hT hu hv hw ⟨ni⟩ ⟨o0, o1, o2, w1, w2, by rw [upM_zero, li_mg hT.ll]; exact x1, by rw [upH_zero, lb_hq hT.lm]; exact x2, y6, by rw [hT.ll, hT.lm] at y7; exact y7⟩ hClash hDone
theorem narrow_out {N p q : Nat} {f : Nat → Int} {g : Nat → Bool} {H : AHeap} (hp : AHeap.obj H p = some ⟨3, 1, ic (li (N * N) f)⟩) (hq' : AHeap.obj H q = some ⟨4, 1, bc (lb (N * N) g)⟩) :
    Out H (.tuple [.agg [I N, .own p (N * N) 0 (N * N), .own q (N * N) 0 (N * N)], I 0]) (narrowA true (N, li (N * N) f, lb (N * N) g, 0)) :=
  out_two (out_agg3 out_int (out_of (d := 2) (car_ownN hp (by rw [ic_length, li_length]) (ic_simple _))) (out_of (d := 2) (car_ownN hq' (by rw [bc_length, lb_length]) (bc_simple _))) rfl rfl rfl) out_int
theorem Narrow_ok {n : Int} {l : List Int} {m : List Bool} {d : Df} (hl : l.length ≤ big) (hm : m.length ≤ big) : PCall Try.prog 65 [.agg [I n, .ro false (ic l), .ro false (bc m)], .agg (dc d)] (narrowA true (narrowV n l m d)) := by
  refine PCall.intro text65 (by simp) ?_
  unfold ir65
  simp only [walkS, wl, rgets, retv, argsEnv, ev, cst, cst1, cstL, AEnv.get, AEnv.trim, envput, qstep, abin, aun, evs, evo, deref, qload, target, if_true, if_false, Nat.reduceEqDiff, reduceIte, Nat.reduceAdd, AV.cells, AV.isTuple, setMany, alen, aiaddr, afill, Nat.reduceLeDiff, Nat.reduceMul, Nat.reduceLT, afillE, List.replicate, dc]
  refine call_pure (checked_ok hl hm) (frzL_of' (d := 4) (carL_cons (car_agg (carL_cons rfl (carL_cons (car_ro_false (ic_simple _)) (carL_cons (car_ro_false (bc_simple _)) rfl)))) rfl)) ?_
  cases ht : tabB n l m with
  | false =>
    simp only [walkS, wl, rgets, retv, argsEnv, ev, cst, cst1, cstL, AEnv.get, AEnv.trim, envput, qstep, abin, aun, evs, evo, deref, qload, target, if_true, if_false, Nat.reduceEqDiff, reduceIte, Nat.reduceAdd, AV.cells, AV.isTuple, setMany, alen, aiaddr, afill, Nat.reduceLeDiff, Nat.reduceMul, Nat.reduceLT, afillE, List.replicate]
    refine storeR rfl rfl rfl rfl ⟨rfl, rfl, rfl, by simp⟩ fun H3 z1 z2 z3 => ?_
    simp only [AV.cells, setMany, List.set_cons_zero, List.set_cons_succ, Nat.zero_add, Nat.reduceAdd] at z2
    simp only [walkS, wl, rgets, retv, argsEnv, ev, cst, cst1, cstL, AEnv.get, AEnv.trim, envput, qstep, abin, aun, evs, evo, deref, qload, target, if_true, if_false, Nat.reduceEqDiff, reduceIte, Nat.reduceAdd, AV.cells, AV.isTuple, setMany, alen, aiaddr, afill, Nat.reduceLeDiff, Nat.reduceMul, Nat.reduceLT, afillE, List.replicate, z2]
    have e2 : narrowV n l m d = (0, [], [], 40) := by simp [narrowV, ht]
    rw [e2]
    exact out_tab0
  | true =>
    obtain ⟨N, rfl, hT⟩ := tabB_iff.1 ht
    have hN0 := hT.pos
    have hN := hT.most
    have h1 := hT.ll
    have h2 := hT.lm
    have hNN : N * N ≤ 64 * 64 := Nat.mul_le_mul hN hN
    have hp : 0 < N * N := Nat.mul_pos (by omega) (by omega)
    have hl0 : l ≠ [] := by intro h; rw [h] at h1; simp at h1; omega
    have hm0 : m ≠ [] := by intro h; rw [h] at h2; simp at h2; omega
    simp only [walkS, wl, rgets, retv, argsEnv, ev, cst, cst1, cstL, AEnv.get, AEnv.trim, envput, qstep, abin, aun, evs, evo, deref, qload, target, if_true, if_false, Nat.reduceEqDiff, reduceIte, Nat.reduceAdd, AV.cells, AV.isTuple, setMany, alen, aiaddr, afill, Nat.reduceLeDiff, Nat.reduceMul, Nat.reduceLT, afillE, List.replicate]
    refine call_pure (right_ok d N (by omega) (by omega)) (frzL_of' (d := 4) rfl) ?_
    cases hr : right d N with
    | false =>
      simp only [walkS, wl, rgets, retv, argsEnv, ev, cst, cst1, cstL, AEnv.get, AEnv.trim, envput, qstep, abin, aun, evs, evo, deref, qload, target, if_true, if_false, Nat.reduceEqDiff, reduceIte, Nat.reduceAdd, AV.cells, AV.isTuple, setMany, alen, aiaddr, afill, Nat.reduceLeDiff, Nat.reduceMul, Nat.reduceLT, afillE, List.replicate]
      refine storeR rfl rfl rfl rfl ⟨rfl, rfl, rfl, by simp⟩ fun H3 z1 z2 z3 => ?_
      simp only [AV.cells, setMany, List.set_cons_zero, List.set_cons_succ, Nat.zero_add, Nat.reduceAdd] at z2
      simp only [walkS, wl, rgets, retv, argsEnv, ev, cst, cst1, cstL, AEnv.get, AEnv.trim, envput, qstep, abin, aun, evs, evo, deref, qload, target, if_true, if_false, Nat.reduceEqDiff, reduceIte, Nat.reduceAdd, AV.cells, AV.isTuple, setMany, alen, aiaddr, afill, Nat.reduceLeDiff, Nat.reduceMul, Nat.reduceLT, afillE, List.replicate, z2]
      have e2 : narrowV N l m d = (0, [], [], 1) := by simp [narrowV, ht, hr]
      rw [e2]
      exact out_tab0
    | true =>
      have hd : ((0 ≤ d.1 ∧ d.1 < N) ∧ (0 ≤ d.2.1 ∧ d.2.1 < N) ∧ -1073741824 ≤ d.2.2 ∧ d.2.2 ≤ 1073741824) := by
        simp [right] at hr; omega
      obtain ⟨u, v, w, rfl⟩ := trip d hd.1.1 hd.2.1.1
      simp only at hd
      generalize hH : ([some ⟨73, 3, [[I N, .ro false (ic l), .ro false (bc m)]]⟩, some ⟨39, 3, [[I u, I v, I w]]⟩, some ⟨73, 3, [[I 0, .nilSlice, .nilSlice]]⟩] : AHeap) = H0
      have a0 : AHeap.obj H0 0 = some ⟨73, 3, [[I N, .ro false (ic l), .ro false (bc m)]]⟩ := by rw [← hH]; rfl
      have a1 : AHeap.obj H0 1 = some ⟨39, 3, [[I u, I v, I w]]⟩ := by rw [← hH]; rfl
      have a2 : AHeap.obj H0 2 = some ⟨73, 3, [[I 0, .nilSlice, .nilSlice]]⟩ := by rw [← hH]; rfl
      have hL : H0.length = 3 := by rw [← hH]; rfl
      have a0' : ∀ X, AHeap.obj (H0 ++ X) 0 = some ⟨73, 3, [[I N, .ro false (ic l), .ro false (bc m)]]⟩ := fun X => obj_keep a0
      simp only [walkS, wl, rgets, retv, argsEnv, ev, cst, cst1, cstL, AEnv.get, AEnv.trim, envput, qstep, abin, aun, evs, evo, deref, qload, target, if_true, if_false, Nat.reduceEqDiff, reduceIte, Nat.reduceAdd, AV.cells, AV.isTuple, setMany, alen, aiaddr, afill, Nat.reduceLeDiff, Nat.reduceMul, Nat.reduceLT, afillE, List.replicate, a0, a0', List.contains_cons, List.contains_nil, Nat.reduceBEq, Bool.or_true, Bool.true_or, Bool.or_false, Bool.false_or, ite_self, true_and]
      have hu : u < N := by omega
      have hv : v < N := by omega
      have hw : -1073741824 ≤ w ∧ w ≤ 1073741824 := hd.2.2
      have efr : fr ((u : Int), (v : Int), w) = u := Int.toNat_natCast u
      have eto : to ((u : Int), (v : Int), w) = v := Int.toNat_natCast v
      have e41 : hq m (v * N + u) = true → mg l (v * N + u) + w < 0 → narrowV N l m (u, v, w) = (0, [], [], 41) := fun c1 c2 => by
        simp only [narrowV, ht, hr, efr, eto, Int.toNat_natCast, c1, decide_eq_true c2, if_true, Bool.and_self]
      have e0 : ¬ (hq m (v * N + u) = true ∧ mg l (v * N + u) + w < 0) → narrowV N l m (u, v, w) = ((N : Int), li (N * N) (nM N l m u v w), lb (N * N) (nH N l m u v w), 0) := fun c => by
        simp only [narrowV, ht, hr, efr, eto, Int.toNat_natCast, if_true]
        rw [if_neg (by simpa using c)]
      refine ⟨?_, ?_⟩
      · refine (opened_at (b := false) (c := false) hl0 hm0 (by omega) (by omega)).mono fun x1 H1 hx1 => ?_
        obtain ⟨kp1, p1, q1, r1, s1, rfl, o1, oo1⟩ := hx1
        have kl1 : H0.length + 0 ≤ H1.length := by have := kp1.1; omega
        have rl1 : H0.length + 0 ≤ p1 := by omega
        have ql1 := AHeap.obj_lt oo1
        have pl1 := AHeap.obj_lt o1
        have a0_1 : AHeap.obj H1 0 = some ⟨73, 3, [[I N, .ro false (ic l), .ro false (bc m)]]⟩ := (kp1.2 0 (by omega)).trans (a0)
        have a1_1 : AHeap.obj H1 1 = some ⟨39, 3, [[I u, I v, I w]]⟩ := (kp1.2 1 (by omega)).trans (a1)
        have a2_1 : AHeap.obj H1 2 = some ⟨73, 3, [[I 0, .nilSlice, .nilSlice]]⟩ := (kp1.2 2 (by omega)).trans (a2)
        have a0k_1 : ∀ X, AHeap.obj (H1 ++ X) 0 = some ⟨73, 3, [[I N, .ro false (ic l), .ro false (bc m)]]⟩ := fun X => obj_keep a0_1
        simp only [walkS, wl, rgets, retv, argsEnv, ev, cst, cst1, cstL, AEnv.get, AEnv.trim, envput, qstep, abin, aun, evs, evo, deref, qload, target, if_true, if_false, Nat.reduceEqDiff, reduceIte, Nat.reduceAdd, AV.cells, AV.isTuple, setMany, alen, aiaddr, afill, Nat.reduceLeDiff, Nat.reduceMul, Nat.reduceLT, afillE, List.replicate, a0_1, a0k_1, List.contains_cons, List.contains_nil, Nat.reduceBEq, Bool.or_true, Bool.true_or, Bool.or_false, Bool.false_or, ite_self, true_and]
        refine ⟨?_, ?_⟩
        · refine (opened_at (b := false) (c := false) hl0 hm0 (by omega) (by omega)).mono fun x2 H2 hx2 => ?_
          obtain ⟨kp2, p2, q2, r2, s2, rfl, o2, oo2⟩ := hx2
          have kl2 : H1.length + 0 ≤ H2.length := by have := kp2.1; omega
          have rl2 : H1.length + 0 ≤ p2 := by omega
          have ql2 := AHeap.obj_lt oo2
          have pl2 := AHeap.obj_lt o2
          have a0_1_2 : AHeap.obj H2 0 = some ⟨73, 3, [[I N, .ro false (ic l), .ro false (bc m)]]⟩ := (kp2.2 0 (by omega)).trans (a0_1)
          have a1_1_2 : AHeap.obj H2 1 = some ⟨39, 3, [[I u, I v, I w]]⟩ := (kp2.2 1 (by omega)).trans (a1_1)
          have a2_1_2 : AHeap.obj H2 2 = some ⟨73, 3, [[I 0, .nilSlice, .nilSlice]]⟩ := (kp2.2 2 (by omega)).trans (a2_1)
          have o1_2 : AHeap.obj H2 p1 = some ⟨3, 1, ic l⟩ := (kp2.2 p1 (by omega)).trans (o1)
          have oo1_2 : AHeap.obj H2 q1 = some ⟨4, 1, bc m⟩ := (kp2.2 q1 (by omega)).trans (oo1)
          have a0k_2 : ∀ X, AHeap.obj (H2 ++ X) 0 = some ⟨73, 3, [[I N, .ro false (ic l), .ro false (bc m)]]⟩ := fun X => obj_keep a0_1_2
          simp only [walkS, wl, rgets, retv, argsEnv, ev, cst, cst1, cstL, AEnv.get, AEnv.trim, envput, qstep, abin, aun, evs, evo, deref, qload, target, if_true, if_false, Nat.reduceEqDiff, reduceIte, Nat.reduceAdd, AV.cells, AV.isTuple, setMany, alen, aiaddr, afill, Nat.reduceLeDiff, Nat.reduceMul, Nat.reduceLT, afillE, List.replicate, a0_1_2, a0k_2, List.contains_cons, List.contains_nil, Nat.reduceBEq, Bool.or_true, Bool.true_or, Bool.or_false, Bool.false_or, ite_self, true_and]
          refine ⟨?_, ?_⟩
          · have b0 := fun X => obj_keep (X := X) a0_1_2
            have b1 := fun X => obj_keep (X := X) a1_1_2
            have b2 := fun X => obj_keep (X := X) a2_1_2
            have b3 := fun X => obj_keep (X := X) o1_2
            have b4 := fun X => obj_keep (X := X) oo1_2
            have b5 := fun X => obj_keep (X := X) o2
            have b6 := fun X => obj_keep (X := X) oo2
            refine storeR rfl rfl ((obj_app_add (k := 0)).trans rfl) rfl ⟨rfl, rfl, rfl, by simp⟩ fun Ha y1 y2 y3 => ?_
            simp only [AV.cells, setMany, List.set_cons_zero, List.set_cons_succ, Nat.zero_add, Nat.reduceAdd] at y2
            simp only [walkS, wl, rgets, retv, argsEnv, ev, cst, cst1, cstL, AEnv.get, AEnv.trim, envput, qstep, abin, aun, evs, evo, deref, qload, target, if_true, if_false, Nat.reduceEqDiff, reduceIte, Nat.reduceAdd, AV.cells, AV.isTuple, setMany, alen, aiaddr, afill, Nat.reduceLeDiff, Nat.reduceMul, Nat.reduceLT, afillE, List.replicate]
            refine storeR rfl rfl ((y3 (H2.length + 1) (by omega)).trans ((obj_app_add (k := 1)).trans rfl)) rfl ⟨rfl, rfl, rfl, by simp⟩ fun Hc t1 t2 t3 => ?_
            simp only [AV.cells, setMany, List.set_cons_zero, List.set_cons_succ, Nat.zero_add, Nat.reduceAdd] at t2
            simp only [walkS, wl, rgets, retv, argsEnv, ev, cst, cst1, cstL, AEnv.get, AEnv.trim, envput, qstep, abin, aun, evs, evo, deref, qload, target, if_true, if_false, Nat.reduceEqDiff, reduceIte, Nat.reduceAdd, AV.cells, AV.isTuple, setMany, alen, aiaddr, afill, Nat.reduceLeDiff, Nat.reduceMul, Nat.reduceLT, afillE, List.replicate]
            exact narrow_fin (p1 := p1) (q1 := q1) (p2 := p2) (q2 := q2) (g6 := H2.length) (g7 := (H2.length + 1)) hT hu hv hw (by omega) (by rw [t3 _ (by omega), y3 _ (by omega)]; exact b0 _) (by rw [t3 _ (by omega), y3 _ (by omega)]; exact b1 _) (by rw [t3 _ (by omega), y3 _ (by omega)]; exact b2 _) (by rw [t3 _ (by omega), y3 _ (by omega)]; exact b3 _) (by rw [t3 _ (by omega), y3 _ (by omega)]; exact b4 _) (by rw [t3 _ (by omega), y3 _ (by omega)]; exact b5 _) (by rw [t3 _ (by omega), y3 _ (by omega)]; exact b6 _) (by rw [t3 _ (by omega)]; exact y2) t2 (fun c1 c2 H o => by simp only [walkS, wl, rgets, retv, argsEnv, ev, cst, cst1, cstL, AEnv.get, AEnv.trim, envput, qstep, abin, aun, evs, evo, deref, qload, target, if_true, if_false, Nat.reduceEqDiff, reduceIte, Nat.reduceAdd, AV.cells, AV.isTuple, setMany, alen, aiaddr, afill, Nat.reduceLeDiff, Nat.reduceMul, Nat.reduceLT, afillE, List.replicate, o]; rw [e41 c1 c2]; exact out_tab0) (fun c H o x y => by simp only [walkS, wl, rgets, retv, argsEnv, ev, cst, cst1, cstL, AEnv.get, AEnv.trim, envput, qstep, abin, aun, evs, evo, deref, qload, target, if_true, if_false, Nat.reduceEqDiff, reduceIte, Nat.reduceAdd, AV.cells, AV.isTuple, setMany, alen, aiaddr, afill, Nat.reduceLeDiff, Nat.reduceMul, Nat.reduceLT, afillE, List.replicate, o]; rw [e0 c]; exact narrow_out x y)
          have b0 := fun X => obj_keep (X := X) a0_1_2
          have b1 := fun X => obj_keep (X := X) a1_1_2
          have b2 := fun X => obj_keep (X := X) a2_1_2
          have b3 := fun X => obj_keep (X := X) o1_2
          have b4 := fun X => obj_keep (X := X) oo1_2
          have b5 := fun X => obj_keep (X := X) o2
          have b6 := fun X => obj_keep (X := X) oo2
          refine storeR rfl rfl ((obj_app_add (k := 1)).trans rfl) rfl ⟨rfl, rfl, rfl, by simp⟩ fun Ha y1 y2 y3 => ?_
          simp only [AV.cells, setMany, List.set_cons_zero, List.set_cons_succ, Nat.zero_add, Nat.reduceAdd] at y2
          simp only [walkS, wl, rgets, retv, argsEnv, ev, cst, cst1, cstL, AEnv.get, AEnv.trim, envput, qstep, abin, aun, evs, evo, deref, qload, target, if_true, if_false, Nat.reduceEqDiff, reduceIte, Nat.reduceAdd, AV.cells, AV.isTuple, setMany, alen, aiaddr, afill, Nat.reduceLeDiff, Nat.reduceMul, Nat.reduceLT, afillE, List.replicate]
          refine storeR rfl rfl ((y3 H2.length (by omega)).trans ((obj_app_add (k := 0)).trans rfl)) rfl ⟨rfl, rfl, rfl, by simp⟩ fun Hc t1 t2 t3 => ?_
          simp only [AV.cells, setMany, List.set_cons_zero, List.set_cons_succ, Nat.zero_add, Nat.reduceAdd] at t2
          simp only [walkS, wl, rgets, retv, argsEnv, ev, cst, cst1, cstL, AEnv.get, AEnv.trim, envput, qstep, abin, aun, evs, evo, deref, qload, target, if_true, if_false, Nat.reduceEqDiff, reduceIte, Nat.reduceAdd, AV.cells, AV.isTuple, setMany, alen, aiaddr, afill, Nat.reduceLeDiff, Nat.reduceMul, Nat.reduceLT, afillE, List.replicate]
          exact narrow_fin (p1 := p1) (q1 := q1) (p2 := p2) (q2 := q2) (g6 := (H2.length + 1)) (g7 := H2.length) hT hu hv hw (by omega) (by rw [t3 _ (by omega), y3 _ (by omega)]; exact b0 _) (by rw [t3 _ (by omega), y3 _ (by omega)]; exact b1 _) (by rw [t3 _ (by omega), y3 _ (by omega)]; exact b2 _) (by rw [t3 _ (by omega), y3 _ (by omega)]; exact b3 _) (by rw [t3 _ (by omega), y3 _ (by omega)]; exact b4 _) (by rw [t3 _ (by omega), y3 _ (by omega)]; exact b5 _) (by rw [t3 _ (by omega), y3 _ (by omega)]; exact b6 _) (by rw [t3 _ (by omega)]; exact y2) t2 (fun c1 c2 H o => by simp only [walkS, wl, rgets, retv, argsEnv, ev, cst, cst1, cstL, AEnv.get, AEnv.trim, envput, qstep, abin, aun, evs, evo, deref, qload, target, if_true, if_false, Nat.reduceEqDiff, reduceIte, Nat.reduceAdd, AV.cells, AV.isTuple, setMany, alen, aiaddr, afill, Nat.reduceLeDiff, Nat.reduceMul, Nat.reduceLT, afillE, List.replicate, o]; rw [e41 c1 c2]; exact out_tab0) (fun c H o x y => by simp only [walkS, wl, rgets, retv, argsEnv, ev, cst, cst1, cstL, AEnv.get, AEnv.trim, envput, qstep, abin, aun, evs, evo, deref, qload, target, if_true, if_false, Nat.reduceEqDiff, reduceIte, Nat.reduceAdd, AV.cells, AV.isTuple, setMany, alen, aiaddr, afill, Nat.reduceLeDiff, Nat.reduceMul, Nat.reduceLT, afillE, List.replicate, o]; rw [e0 c]; exact narrow_out x y)
        refine ⟨?_, ?_⟩
        · refine ⟨?_, ?_⟩
          · refine (opened_at (b := false) (c := false) hl0 hm0 (by omega) (by omega)).mono fun x3 H3 hx3 => ?_
            obtain ⟨kp3, p3, q3, r3, s3, rfl, o3, oo3⟩ := hx3
            have kl3 : H1.length + 1 ≤ H3.length := by have := kp3.1; simp only [List.length_append, List.length_cons, List.length_nil] at this; omega
            have rl3 : H1.length + 1 ≤ p3 := by simp only [List.length_append, List.length_cons, List.length_nil] at r3; omega
            have ql3 := AHeap.obj_lt oo3
            have pl3 := AHeap.obj_lt o3
            have a0_1_3 : AHeap.obj H3 0 = some ⟨73, 3, [[I N, .ro false (ic l), .ro false (bc m)]]⟩ := (kp3.2 0 (by simp only [List.length_append, List.length_cons, List.length_nil]; omega)).trans (obj_keep a0_1)
            have a1_1_3 : AHeap.obj H3 1 = some ⟨39, 3, [[I u, I v, I w]]⟩ := (kp3.2 1 (by simp only [List.length_append, List.length_cons, List.length_nil]; omega)).trans (obj_keep a1_1)
            have a2_1_3 : AHeap.obj H3 2 = some ⟨73, 3, [[I 0, .nilSlice, .nilSlice]]⟩ := (kp3.2 2 (by simp only [List.length_append, List.length_cons, List.length_nil]; omega)).trans (obj_keep a2_1)
            have o1_3 : AHeap.obj H3 p1 = some ⟨3, 1, ic l⟩ := (kp3.2 p1 (by simp only [List.length_append, List.length_cons, List.length_nil]; omega)).trans (obj_keep o1)
            have oo1_3 : AHeap.obj H3 q1 = some ⟨4, 1, bc m⟩ := (kp3.2 q1 (by simp only [List.length_append, List.length_cons, List.length_nil]; omega)).trans (obj_keep oo1)
            have z6_3 : AHeap.obj H3 H1.length = some ⟨120, 4, [[I 0, .nilSlice, I 0, .nilSlice]]⟩ := (kp3.2 H1.length (by simp only [List.length_append, List.length_cons, List.length_nil]; omega)).trans ((obj_app_add (k := 0)).trans rfl)
            have a0k_3 : ∀ X, AHeap.obj (H3 ++ X) 0 = some ⟨73, 3, [[I N, .ro false (ic l), .ro false (bc m)]]⟩ := fun X => obj_keep a0_1_3
            simp only [walkS, wl, rgets, retv, argsEnv, ev, cst, cst1, cstL, AEnv.get, AEnv.trim, envput, qstep, abin, aun, evs, evo, deref, qload, target, if_true, if_false, Nat.reduceEqDiff, reduceIte, Nat.reduceAdd, AV.cells, AV.isTuple, setMany, alen, aiaddr, afill, Nat.reduceLeDiff, Nat.reduceMul, Nat.reduceLT, afillE, List.replicate, a0_1_3, a0k_3, List.contains_cons, List.contains_nil, Nat.reduceBEq, Bool.or_true, Bool.true_or, Bool.or_false, Bool.false_or, ite_self, true_and]
            have b0 := fun X => obj_keep (X := X) a0_1_3
            have b1 := fun X => obj_keep (X := X) a1_1_3
            have b2 := fun X => obj_keep (X := X) a2_1_3
            have b3 := fun X => obj_keep (X := X) o1_3
            have b4 := fun X => obj_keep (X := X) oo1_3
            have b5 := fun X => obj_keep (X := X) o3
            have b6 := fun X => obj_keep (X := X) oo3
            refine storeR rfl rfl (obj_keep z6_3) rfl ⟨rfl, rfl, rfl, by simp⟩ fun Ha y1 y2 y3 => ?_
            simp only [AV.cells, setMany, List.set_cons_zero, List.set_cons_succ, Nat.zero_add, Nat.reduceAdd] at y2
            simp only [walkS, wl, rgets, retv, argsEnv, ev, cst, cst1, cstL, AEnv.get, AEnv.trim, envput, qstep, abin, aun, evs, evo, deref, qload, target, if_true, if_false, Nat.reduceEqDiff, reduceIte, Nat.reduceAdd, AV.cells, AV.isTuple, setMany, alen, aiaddr, afill, Nat.reduceLeDiff, Nat.reduceMul, Nat.reduceLT, afillE, List.replicate]
            refine storeR rfl rfl ((y3 H3.length (by omega)).trans ((obj_app_add (k := 0)).trans rfl)) rfl ⟨rfl, rfl, rfl, by simp⟩ fun Hc t1 t2 t3 => ?_
            simp only [AV.cells, setMany, List.set_cons_zero, List.set_cons_succ, Nat.zero_add, Nat.reduceAdd] at t2
            simp only [walkS, wl, rgets, retv, argsEnv, ev, cst, cst1, cstL, AEnv.get, AEnv.trim, envput, qstep, abin, aun, evs, evo, deref, qload, target, if_true, if_false, Nat.reduceEqDiff, reduceIte, Nat.reduceAdd, AV.cells, AV.isTuple, setMany, alen, aiaddr, afill, Nat.reduceLeDiff, Nat.reduceMul, Nat.reduceLT, afillE, List.replicate]
            exact narrow_fin (p1 := p1) (q1 := q1) (p2 := p3) (q2 := q3) (g6 := H1.length) (g7 := H3.length) hT hu hv hw (by omega) (by rw [t3 _ (by omega), y3 _ (by omega)]; exact b0 _) (by rw [t3 _ (by omega), y3 _ (by omega)]; exact b1 _) (by rw [t3 _ (by omega), y3 _ (by omega)]; exact b2 _) (by rw [t3 _ (by omega), y3 _ (by omega)]; exact b3 _) (by rw [t3 _ (by omega), y3 _ (by omega)]; exact b4 _) (by rw [t3 _ (by omega), y3 _ (by omega)]; exact b5 _) (by rw [t3 _ (by omega), y3 _ (by omega)]; exact b6 _) (by rw [t3 _ (by omega)]; exact y2) t2 (fun c1 c2 H o => by simp only [walkS, wl, rgets, retv, argsEnv, ev, cst, cst1, cstL, AEnv.get, AEnv.trim, envput, qstep, abin, aun, evs, evo, deref, qload, target, if_true, if_false, Nat.reduceEqDiff, reduceIte, Nat.reduceAdd, AV.cells, AV.isTuple, setMany, alen, aiaddr, afill, Nat.reduceLeDiff, Nat.reduceMul, Nat.reduceLT, afillE, List.replicate, o]; rw [e41 c1 c2]; exact out_tab0) (fun c H o x y => by simp only [walkS, wl, rgets, retv, argsEnv, ev, cst, cst1, cstL, AEnv.get, AEnv.trim, envput, qstep, abin, aun, evs, evo, deref, qload, target, if_true, if_false, Nat.reduceEqDiff, reduceIte, Nat.reduceAdd, AV.cells, AV.isTuple, setMany, alen, aiaddr, afill, Nat.reduceLeDiff, Nat.reduceMul, Nat.reduceLT, afillE, List.replicate, o]; rw [e0 c]; exact narrow_out x y)
          refine (opened_at (b := false) (c := false) hl0 hm0 (by omega) (by omega)).mono fun x4 H4 hx4 => ?_
          obtain ⟨kp4, p4, q4, r4, s4, rfl, o4, oo4⟩ := hx4
          have kl4 : H1.length + 2 ≤ H4.length := by have := kp4.1; simp only [List.length_append, List.length_cons, List.length_nil] at this; omega
          have rl4 : H1.length + 2 ≤ p4 := by simp only [List.length_append, List.length_cons, List.length_nil] at r4; omega
          have ql4 := AHeap.obj_lt oo4
          have pl4 := AHeap.obj_lt o4
          have a0_1_4 : AHeap.obj H4 0 = some ⟨73, 3, [[I N, .ro false (ic l), .ro false (bc m)]]⟩ := (kp4.2 0 (by simp only [List.length_append, List.length_cons, List.length_nil]; omega)).trans (obj_keep a0_1)
          have a1_1_4 : AHeap.obj H4 1 = some ⟨39, 3, [[I u, I v, I w]]⟩ := (kp4.2 1 (by simp only [List.length_append, List.length_cons, List.length_nil]; omega)).trans (obj_keep a1_1)
          have a2_1_4 : AHeap.obj H4 2 = some ⟨73, 3, [[I 0, .nilSlice, .nilSlice]]⟩ := (kp4.2 2 (by simp only [List.length_append, List.length_cons, List.length_nil]; omega)).trans (obj_keep a2_1)
          have o1_4 : AHeap.obj H4 p1 = some ⟨3, 1, ic l⟩ := (kp4.2 p1 (by simp only [List.length_append, List.length_cons, List.length_nil]; omega)).trans (obj_keep o1)
          have oo1_4 : AHeap.obj H4 q1 = some ⟨4, 1, bc m⟩ := (kp4.2 q1 (by simp only [List.length_append, List.length_cons, List.length_nil]; omega)).trans (obj_keep oo1)
          have z6_4 : AHeap.obj H4 H1.length = some ⟨120, 4, [[I 0, .nilSlice, I 0, .nilSlice]]⟩ := (kp4.2 H1.length (by simp only [List.length_append, List.length_cons, List.length_nil]; omega)).trans ((obj_app_add (k := 0)).trans rfl)
          have z7_4 : AHeap.obj H4 (H1.length + 1) = some ⟨120, 4, [[I 0, .nilSlice, I 0, .nilSlice]]⟩ := (kp4.2 (H1.length + 1) (by simp only [List.length_append, List.length_cons, List.length_nil]; omega)).trans ((obj_app_add (k := 1)).trans rfl)
          have a0k_4 : ∀ X, AHeap.obj (H4 ++ X) 0 = some ⟨73, 3, [[I N, .ro false (ic l), .ro false (bc m)]]⟩ := fun X => obj_keep a0_1_4
          simp only [walkS, wl, rgets, retv, argsEnv, ev, cst, cst1, cstL, AEnv.get, AEnv.trim, envput, qstep, abin, aun, evs, evo, deref, qload, target, if_true, if_false, Nat.reduceEqDiff, reduceIte, Nat.reduceAdd, AV.cells, AV.isTuple, setMany, alen, aiaddr, afill, Nat.reduceLeDiff, Nat.reduceMul, Nat.reduceLT, afillE, List.replicate, a0_1_4, a0k_4, List.contains_cons, List.contains_nil, Nat.reduceBEq, Bool.or_true, Bool.true_or, Bool.or_false, Bool.false_or, ite_self, true_and]
          have b0 := a0_1_4
          have b1 := a1_1_4
          have b2 := a2_1_4
          have b3 := o1_4
          have b4 := oo1_4
          have b5 := o4
          have b6 := oo4
          refine storeR rfl rfl z6_4 rfl ⟨rfl, rfl, rfl, by simp⟩ fun Ha y1 y2 y3 => ?_
          simp only [AV.cells, setMany, List.set_cons_zero, List.set_cons_succ, Nat.zero_add, Nat.reduceAdd] at y2
          simp only [walkS, wl, rgets, retv, argsEnv, ev, cst, cst1, cstL, AEnv.get, AEnv.trim, envput, qstep, abin, aun, evs, evo, deref, qload, target, if_true, if_false, Nat.reduceEqDiff, reduceIte, Nat.reduceAdd, AV.cells, AV.isTuple, setMany, alen, aiaddr, afill, Nat.reduceLeDiff, Nat.reduceMul, Nat.reduceLT, afillE, List.replicate]
          refine storeR rfl rfl ((y3 (H1.length + 1) (by omega)).trans z7_4) rfl ⟨rfl, rfl, rfl, by simp⟩ fun Hc t1 t2 t3 => ?_
          simp only [AV.cells, setMany, List.set_cons_zero, List.set_cons_succ, Nat.zero_add, Nat.reduceAdd] at t2
          simp only [walkS, wl, rgets, retv, argsEnv, ev, cst, cst1, cstL, AEnv.get, AEnv.trim, envput, qstep, abin, aun, evs, evo, deref, qload, target, if_true, if_false, Nat.reduceEqDiff, reduceIte, Nat.reduceAdd, AV.cells, AV.isTuple, setMany, alen, aiaddr, afill, Nat.reduceLeDiff, Nat.reduceMul, Nat.reduceLT, afillE, List.replicate]
          exact narrow_fin (p1 := p1) (q1 := q1) (p2 := p4) (q2 := q4) (g6 := H1.length) (g7 := (H1.length + 1)) hT hu hv hw (by omega) (by rw [t3 _ (by omega), y3 _ (by omega)]; exact b0) (by rw [t3 _ (by omega), y3 _ (by omega)]; exact b1) (by rw [t3 _ (by omega), y3 _ (by omega)]; exact b2) (by rw [t3 _ (by omega), y3 _ (by omega)]; exact b3) (by rw [t3 _ (by omega), y3 _ (by omega)]; exact b4) (by rw [t3 _ (by omega), y3 _ (by omega)]; exact b5) (by rw [t3 _ (by omega), y3 _ (by omega)]; exact b6) (by rw [t3 _ (by omega)]; exact y2) t2 (fun c1 c2 H o => by simp only [walkS, wl, rgets, retv, argsEnv, ev, cst, cst1, cstL, AEnv.get, AEnv.trim, envput, qstep, abin, aun, evs, evo, deref, qload, target, if_true, if_false, Nat.reduceEqDiff, reduceIte, Nat.reduceAdd, AV.cells, AV.isTuple, setMany, alen, aiaddr, afill, Nat.reduceLeDiff, Nat.reduceMul, Nat.reduceLT, afillE, List.replicate, o]; rw [e41 c1 c2]; exact out_tab0) (fun c H o x y => by simp only [walkS, wl, rgets, retv, argsEnv, ev, cst, cst1, cstL, AEnv.get, AEnv.trim, envput, qstep, abin, aun, evs, evo, deref, qload, target, if_true, if_false, Nat.reduceEqDiff, reduceIte, Nat.reduceAdd, AV.cells, AV.isTuple, setMany, alen, aiaddr, afill, Nat.reduceLeDiff, Nat.reduceMul, Nat.reduceLT, afillE, List.replicate, o]; rw [e0 c]; exact narrow_out x y)
        refine ⟨?_, ?_⟩
        · refine (opened_at (b := false) (c := false) hl0 hm0 (by omega) (by omega)).mono fun x5 H5 hx5 => ?_
          obtain ⟨kp5, p5, q5, r5, s5, rfl, o5, oo5⟩ := hx5
          have kl5 : H1.length + 1 ≤ H5.length := by have := kp5.1; simp only [List.length_append, List.length_cons, List.length_nil] at this; omega
          have rl5 : H1.length + 1 ≤ p5 := by simp only [List.length_append, List.length_cons, List.length_nil] at r5; omega
          have ql5 := AHeap.obj_lt oo5
          have pl5 := AHeap.obj_lt o5
          have a0_1_5 : AHeap.obj H5 0 = some ⟨73, 3, [[I N, .ro false (ic l), .ro false (bc m)]]⟩ := (kp5.2 0 (by simp only [List.length_append, List.length_cons, List.length_nil]; omega)).trans (obj_keep a0_1)
          have a1_1_5 : AHeap.obj H5 1 = some ⟨39, 3, [[I u, I v, I w]]⟩ := (kp5.2 1 (by simp only [List.length_append, List.length_cons, List.length_nil]; omega)).trans (obj_keep a1_1)
          have a2_1_5 : AHeap.obj H5 2 = some ⟨73, 3, [[I 0, .nilSlice, .nilSlice]]⟩ := (kp5.2 2 (by simp only [List.length_append, List.length_cons, List.length_nil]; omega)).trans (obj_keep a2_1)
          have o1_5 : AHeap.obj H5 p1 = some ⟨3, 1, ic l⟩ := (kp5.2 p1 (by simp only [List.length_append, List.length_cons, List.length_nil]; omega)).trans (obj_keep o1)
          have oo1_5 : AHeap.obj H5 q1 = some ⟨4, 1, bc m⟩ := (kp5.2 q1 (by simp only [List.length_append, List.length_cons, List.length_nil]; omega)).trans (obj_keep oo1)
          have z7_5 : AHeap.obj H5 H1.length = some ⟨120, 4, [[I 0, .nilSlice, I 0, .nilSlice]]⟩ := (kp5.2 H1.length (by simp only [List.length_append, List.length_cons, List.length_nil]; omega)).trans ((obj_app_add (k := 0)).trans rfl)
          have a0k_5 : ∀ X, AHeap.obj (H5 ++ X) 0 = some ⟨73, 3, [[I N, .ro false (ic l), .ro false (bc m)]]⟩ := fun X => obj_keep a0_1_5
          simp only [walkS, wl, rgets, retv, argsEnv, ev, cst, cst1, cstL, AEnv.get, AEnv.trim, envput, qstep, abin, aun, evs, evo, deref, qload, target, if_true, if_false, Nat.reduceEqDiff, reduceIte, Nat.reduceAdd, AV.cells, AV.isTuple, setMany, alen, aiaddr, afill, Nat.reduceLeDiff, Nat.reduceMul, Nat.reduceLT, afillE, List.replicate, a0_1_5, a0k_5, List.contains_cons, List.contains_nil, Nat.reduceBEq, Bool.or_true, Bool.true_or, Bool.or_false, Bool.false_or, ite_self, true_and]
          have b0 := fun X => obj_keep (X := X) a0_1_5
          have b1 := fun X => obj_keep (X := X) a1_1_5
          have b2 := fun X => obj_keep (X := X) a2_1_5
          have b3 := fun X => obj_keep (X := X) o1_5
          have b4 := fun X => obj_keep (X := X) oo1_5
          have b5 := fun X => obj_keep (X := X) o5
          have b6 := fun X => obj_keep (X := X) oo5
          refine storeR rfl rfl ((obj_app_add (k := 0)).trans rfl) rfl ⟨rfl, rfl, rfl, by simp⟩ fun Ha y1 y2 y3 => ?_
          simp only [AV.cells, setMany, List.set_cons_zero, List.set_cons_succ, Nat.zero_add, Nat.reduceAdd] at y2
          simp only [walkS, wl, rgets, retv, argsEnv, ev, cst, cst1, cstL, AEnv.get, AEnv.trim, envput, qstep, abin, aun, evs, evo, deref, qload, target, if_true, if_false, Nat.reduceEqDiff, reduceIte, Nat.reduceAdd, AV.cells, AV.isTuple, setMany, alen, aiaddr, afill, Nat.reduceLeDiff, Nat.reduceMul, Nat.reduceLT, afillE, List.replicate]
          refine storeR rfl rfl ((y3 H1.length (by omega)).trans (obj_keep z7_5)) rfl ⟨rfl, rfl, rfl, by simp⟩ fun Hc t1 t2 t3 => ?_
          simp only [AV.cells, setMany, List.set_cons_zero, List.set_cons_succ, Nat.zero_add, Nat.reduceAdd] at t2
          simp only [walkS, wl, rgets, retv, argsEnv, ev, cst, cst1, cstL, AEnv.get, AEnv.trim, envput, qstep, abin, aun, evs, evo, deref, qload, target, if_true, if_false, Nat.reduceEqDiff, reduceIte, Nat.reduceAdd, AV.cells, AV.isTuple, setMany, alen, aiaddr, afill, Nat.reduceLeDiff, Nat.reduceMul, Nat.reduceLT, afillE, List.replicate]
          exact narrow_fin (p1 := p1) (q1 := q1) (p2 := p5) (q2 := q5) (g6 := H5.length) (g7 := H1.length) hT hu hv hw (by omega) (by rw [t3 _ (by omega), y3 _ (by omega)]; exact b0 _) (by rw [t3 _ (by omega), y3 _ (by omega)]; exact b1 _) (by rw [t3 _ (by omega), y3 _ (by omega)]; exact b2 _) (by rw [t3 _ (by omega), y3 _ (by omega)]; exact b3 _) (by rw [t3 _ (by omega), y3 _ (by omega)]; exact b4 _) (by rw [t3 _ (by omega), y3 _ (by omega)]; exact b5 _) (by rw [t3 _ (by omega), y3 _ (by omega)]; exact b6 _) (by rw [t3 _ (by omega)]; exact y2) t2 (fun c1 c2 H o => by simp only [walkS, wl, rgets, retv, argsEnv, ev, cst, cst1, cstL, AEnv.get, AEnv.trim, envput, qstep, abin, aun, evs, evo, deref, qload, target, if_true, if_false, Nat.reduceEqDiff, reduceIte, Nat.reduceAdd, AV.cells, AV.isTuple, setMany, alen, aiaddr, afill, Nat.reduceLeDiff, Nat.reduceMul, Nat.reduceLT, afillE, List.replicate, o]; rw [e41 c1 c2]; exact out_tab0) (fun c H o x y => by simp only [walkS, wl, rgets, retv, argsEnv, ev, cst, cst1, cstL, AEnv.get, AEnv.trim, envput, qstep, abin, aun, evs, evo, deref, qload, target, if_true, if_false, Nat.reduceEqDiff, reduceIte, Nat.reduceAdd, AV.cells, AV.isTuple, setMany, alen, aiaddr, afill, Nat.reduceLeDiff, Nat.reduceMul, Nat.reduceLT, afillE, List.replicate, o]; rw [e0 c]; exact narrow_out x y)
        refine (opened_at (b := false) (c := false) hl0 hm0 (by omega) (by omega)).mono fun x6 H6 hx6 => ?_
        obtain ⟨kp6, p6, q6, r6, s6, rfl, o6, oo6⟩ := hx6
        have kl6 : H1.length + 2 ≤ H6.length := by have := kp6.1; simp only [List.length_append, List.length_cons, List.length_nil] at this; omega
        have rl6 : H1.length + 2 ≤ p6 := by simp only [List.length_append, List.length_cons, List.length_nil] at r6; omega
        have ql6 := AHeap.obj_lt oo6
        have pl6 := AHeap.obj_lt o6
        have a0_1_6 : AHeap.obj H6 0 = some ⟨73, 3, [[I N, .ro false (ic l), .ro false (bc m)]]⟩ := (kp6.2 0 (by simp only [List.length_append, List.length_cons, List.length_nil]; omega)).trans (obj_keep a0_1)
        have a1_1_6 : AHeap.obj H6 1 = some ⟨39, 3, [[I u, I v, I w]]⟩ := (kp6.2 1 (by simp only [List.length_append, List.length_cons, List.length_nil]; omega)).trans (obj_keep a1_1)
        have a2_1_6 : AHeap.obj H6 2 = some ⟨73, 3, [[I 0, .nilSlice, .nilSlice]]⟩ := (kp6.2 2 (by simp only [List.length_append, List.length_cons, List.length_nil]; omega)).trans (obj_keep a2_1)
        have o1_6 : AHeap.obj H6 p1 = some ⟨3, 1, ic l⟩ := (kp6.2 p1 (by simp only [List.length_append, List.length_cons, List.length_nil]; omega)).trans (obj_keep o1)
        have oo1_6 : AHeap.obj H6 q1 = some ⟨4, 1, bc m⟩ := (kp6.2 q1 (by simp only [List.length_append, List.length_cons, List.length_nil]; omega)).trans (obj_keep oo1)
        have z7_6 : AHeap.obj H6 H1.length = some ⟨120, 4, [[I 0, .nilSlice, I 0, .nilSlice]]⟩ := (kp6.2 H1.length (by simp only [List.length_append, List.length_cons, List.length_nil]; omega)).trans ((obj_app_add (k := 0)).trans rfl)
        have z6_6 : AHeap.obj H6 (H1.length + 1) = some ⟨120, 4, [[I 0, .nilSlice, I 0, .nilSlice]]⟩ := (kp6.2 (H1.length + 1) (by simp only [List.length_append, List.length_cons, List.length_nil]; omega)).trans ((obj_app_add (k := 1)).trans rfl)
        have a0k_6 : ∀ X, AHeap.obj (H6 ++ X) 0 = some ⟨73, 3, [[I N, .ro false (ic l), .ro false (bc m)]]⟩ := fun X => obj_keep a0_1_6
        simp only [walkS, wl, rgets, retv, argsEnv, ev, cst, cst1, cstL, AEnv.get, AEnv.trim, envput, qstep, abin, aun, evs, evo, deref, qload, target, if_true, if_false, Nat.reduceEqDiff, reduceIte, Nat.reduceAdd, AV.cells, AV.isTuple, setMany, alen, aiaddr, afill, Nat.reduceLeDiff, Nat.reduceMul, Nat.reduceLT, afillE, List.replicate, a0_1_6, a0k_6, List.contains_cons, List.contains_nil, Nat.reduceBEq, Bool.or_true, Bool.true_or, Bool.or_false, Bool.false_or, ite_self, true_and]
        have b0 := a0_1_6
        have b1 := a1_1_6
        have b2 := a2_1_6
        have b3 := o1_6
        have b4 := oo1_6
        have b5 := o6
        have b6 := oo6
        refine storeR rfl rfl z6_6 rfl ⟨rfl, rfl, rfl, by simp⟩ fun Ha y1 y2 y3 => ?_
        simp only [AV.cells, setMany, List.set_cons_zero, List.set_cons_succ, Nat.zero_add, Nat.reduceAdd] at y2
        simp only [walkS, wl, rgets, retv, argsEnv, ev, cst, cst1, cstL, AEnv.get, AEnv.trim, envput, qstep, abin, aun, evs, evo, deref, qload, target, if_true, if_false, Nat.reduceEqDiff, reduceIte, Nat.reduceAdd, AV.cells, AV.isTuple, setMany, alen, aiaddr, afill, Nat.reduceLeDiff, Nat.reduceMul, Nat.reduceLT, afillE, List.replicate]
        refine storeR rfl rfl ((y3 H1.length (by omega)).trans z7_6) rfl ⟨rfl, rfl, rfl, by simp⟩ fun Hc t1 t2 t3 => ?_
        simp only [AV.cells, setMany, List.set_cons_zero, List.set_cons_succ, Nat.zero_add, Nat.reduceAdd] at t2
        simp only [walkS, wl, rgets, retv, argsEnv, ev, cst, cst1, cstL, AEnv.get, AEnv.trim, envput, qstep, abin, aun, evs, evo, deref, qload, target, if_true, if_false, Nat.reduceEqDiff, reduceIte, Nat.reduceAdd, AV.cells, AV.isTuple, setMany, alen, aiaddr, afill, Nat.reduceLeDiff, Nat.reduceMul, Nat.reduceLT, afillE, List.replicate]
        exact narrow_fin (p1 := p1) (q1 := q1) (p2 := p6) (q2 := q6) (g6 := (H1.length + 1)) (g7 := H1.length) hT hu hv hw (by omega) (by rw [t3 _ (by omega), y3 _ (by omega)]; exact b0) (by rw [t3 _ (by omega), y3 _ (by omega)]; exact b1) (by rw [t3 _ (by omega), y3 _ (by omega)]; exact b2) (by rw [t3 _ (by omega), y3 _ (by omega)]; exact b3) (by rw [t3 _ (by omega), y3 _ (by omega)]; exact b4) (by rw [t3 _ (by omega), y3 _ (by omega)]; exact b5) (by rw [t3 _ (by omega), y3 _ (by omega)]; exact b6) (by rw [t3 _ (by omega)]; exact y2) t2 (fun c1 c2 H o => by simp only [walkS, wl, rgets, retv, argsEnv, ev, cst, cst1, cstL, AEnv.get, AEnv.trim, envput, qstep, abin, aun, evs, evo, deref, qload, target, if_true, if_false, Nat.reduceEqDiff, reduceIte, Nat.reduceAdd, AV.cells, AV.isTuple, setMany, alen, aiaddr, afill, Nat.reduceLeDiff, Nat.reduceMul, Nat.reduceLT, afillE, List.replicate, o]; rw [e41 c1 c2]; exact out_tab0) (fun c H o x y => by simp only [walkS, wl, rgets, retv, argsEnv, ev, cst, cst1, cstL, AEnv.get, AEnv.trim, envput, qstep, abin, aun, evs, evo, deref, qload, target, if_true, if_false, Nat.reduceEqDiff, reduceIte, Nat.reduceAdd, AV.cells, AV.isTuple, setMany, alen, aiaddr, afill, Nat.reduceLeDiff, Nat.reduceMul, Nat.reduceLT, afillE, List.replicate, o]; rw [e0 c]; exact narrow_out x y)
      refine ⟨?_, ?_⟩
      · refine ⟨?_, ?_⟩
        · refine (opened_at (b := false) (c := false) hl0 hm0 (by omega) (by omega)).mono fun x7 H7 hx7 => ?_
          obtain ⟨kp7, p7, q7, r7, s7, rfl, o7, oo7⟩ := hx7
          have kl7 : H0.length + 1 ≤ H7.length := by have := kp7.1; simp only [List.length_append, List.length_cons, List.length_nil] at this; omega
          have rl7 : H0.length + 1 ≤ p7 := by simp only [List.length_append, List.length_cons, List.length_nil] at r7; omega
          have ql7 := AHeap.obj_lt oo7
          have pl7 := AHeap.obj_lt o7
          have a0_7 : AHeap.obj H7 0 = some ⟨73, 3, [[I N, .ro false (ic l), .ro false (bc m)]]⟩ := (kp7.2 0 (by simp only [List.length_append, List.length_cons, List.length_nil]; omega)).trans (obj_keep a0)
          have a1_7 : AHeap.obj H7 1 = some ⟨39, 3, [[I u, I v, I w]]⟩ := (kp7.2 1 (by simp only [List.length_append, List.length_cons, List.length_nil]; omega)).trans (obj_keep a1)
          have a2_7 : AHeap.obj H7 2 = some ⟨73, 3, [[I 0, .nilSlice, .nilSlice]]⟩ := (kp7.2 2 (by simp only [List.length_append, List.length_cons, List.length_nil]; omega)).trans (obj_keep a2)
          have z6_7 : AHeap.obj H7 H0.length = some ⟨120, 4, [[I 0, .nilSlice, I 0, .nilSlice]]⟩ := (kp7.2 H0.length (by simp only [List.length_append, List.length_cons, List.length_nil]; omega)).trans ((obj_app_add (k := 0)).trans rfl)
          have a0k_7 : ∀ X, AHeap.obj (H7 ++ X) 0 = some ⟨73, 3, [[I N, .ro false (ic l), .ro false (bc m)]]⟩ := fun X => obj_keep a0_7
          simp only [walkS, wl, rgets, retv, argsEnv, ev, cst, cst1, cstL, AEnv.get, AEnv.trim, envput, qstep, abin, aun, evs, evo, deref, qload, target, if_true, if_false, Nat.reduceEqDiff, reduceIte, Nat.reduceAdd, AV.cells, AV.isTuple, setMany, alen, aiaddr, afill, Nat.reduceLeDiff, Nat.reduceMul, Nat.reduceLT, afillE, List.replicate, a0_7, a0k_7, List.contains_cons, List.contains_nil, Nat.reduceBEq, Bool.or_true, Bool.true_or, Bool.or_false, Bool.false_or, ite_self, true_and]
          refine ⟨?_, ?_⟩
          · refine (opened_at (b := false) (c := false) hl0 hm0 (by omega) (by omega)).mono fun x8 H8 hx8 => ?_
            obtain ⟨kp8, p8, q8, r8, s8, rfl, o8, oo8⟩ := hx8
            have kl8 : H7.length + 0 ≤ H8.length := by have := kp8.1; omega
            have rl8 : H7.length + 0 ≤ p8 := by omega
            have ql8 := AHeap.obj_lt oo8
            have pl8 := AHeap.obj_lt o8
            have a0_7_8 : AHeap.obj H8 0 = some ⟨73, 3, [[I N, .ro false (ic l), .ro false (bc m)]]⟩ := (kp8.2 0 (by omega)).trans (a0_7)
            have a1_7_8 : AHeap.obj H8 1 = some ⟨39, 3, [[I u, I v, I w]]⟩ := (kp8.2 1 (by omega)).trans (a1_7)
            have a2_7_8 : AHeap.obj H8 2 = some ⟨73, 3, [[I 0, .nilSlice, .nilSlice]]⟩ := (kp8.2 2 (by omega)).trans (a2_7)
            have z6_7_8 : AHeap.obj H8 H0.length = some ⟨120, 4, [[I 0, .nilSlice, I 0, .nilSlice]]⟩ := (kp8.2 H0.length (by omega)).trans (z6_7)
            have o7_8 : AHeap.obj H8 p7 = some ⟨3, 1, ic l⟩ := (kp8.2 p7 (by omega)).trans (o7)
            have oo7_8 : AHeap.obj H8 q7 = some ⟨4, 1, bc m⟩ := (kp8.2 q7 (by omega)).trans (oo7)
            have a0k_8 : ∀ X, AHeap.obj (H8 ++ X) 0 = some ⟨73, 3, [[I N, .ro false (ic l), .ro false (bc m)]]⟩ := fun X => obj_keep a0_7_8
            simp only [walkS, wl, rgets, retv, argsEnv, ev, cst, cst1, cstL, AEnv.get, AEnv.trim, envput, qstep, abin, aun, evs, evo, deref, qload, target, if_true, if_false, Nat.reduceEqDiff, reduceIte, Nat.reduceAdd, AV.cells, AV.isTuple, setMany, alen, aiaddr, afill, Nat.reduceLeDiff, Nat.reduceMul, Nat.reduceLT, afillE, List.replicate, a0_7_8, a0k_8, List.contains_cons, List.contains_nil, Nat.reduceBEq, Bool.or_true, Bool.true_or, Bool.or_false, Bool.false_or, ite_self, true_and]
            have b0 := fun X => obj_keep (X := X) a0_7_8
            have b1 := fun X => obj_keep (X := X) a1_7_8
            have b2 := fun X => obj_keep (X := X) a2_7_8
            have b3 := fun X => obj_keep (X := X) o7_8
            have b4 := fun X => obj_keep (X := X) oo7_8
            have b5 := fun X => obj_keep (X := X) o8
            have b6 := fun X => obj_keep (X := X) oo8
            refine storeR rfl rfl (obj_keep z6_7_8) rfl ⟨rfl, rfl, rfl, by simp⟩ fun Ha y1 y2 y3 => ?_
            simp only [AV.cells, setMany, List.set_cons_zero, List.set_cons_succ, Nat.zero_add, Nat.reduceAdd] at y2
            simp only [walkS, wl, rgets, retv, argsEnv, ev, cst, cst1, cstL, AEnv.get, AEnv.trim, envput, qstep, abin, aun, evs, evo, deref, qload, target, if_true, if_false, Nat.reduceEqDiff, reduceIte, Nat.reduceAdd, AV.cells, AV.isTuple, setMany, alen, aiaddr, afill, Nat.reduceLeDiff, Nat.reduceMul, Nat.reduceLT, afillE, List.replicate]
            refine storeR rfl rfl ((y3 H8.length (by omega)).trans ((obj_app_add (k := 0)).trans rfl)) rfl ⟨rfl, rfl, rfl, by simp⟩ fun Hc t1 t2 t3 => ?_
            simp only [AV.cells, setMany, List.set_cons_zero, List.set_cons_succ, Nat.zero_add, Nat.reduceAdd] at t2
            simp only [walkS, wl, rgets, retv, argsEnv, ev, cst, cst1, cstL, AEnv.get, AEnv.trim, envput, qstep, abin, aun, evs, evo, deref, qload, target, if_true, if_false, Nat.reduceEqDiff, reduceIte, Nat.reduceAdd, AV.cells, AV.isTuple, setMany, alen, aiaddr, afill, Nat.reduceLeDiff, Nat.reduceMul, Nat.reduceLT, afillE, List.replicate]
            exact narrow_fin (p1 := p7) (q1 := q7) (p2 := p8) (q2 := q8) (g6 := H0.length) (g7 := H8.length) hT hu hv hw (by omega) (by rw [t3 _ (by omega), y3 _ (by omega)]; exact b0 _) (by rw [t3 _ (by omega), y3 _ (by omega)]; exact b1 _) (by rw [t3 _ (by omega), y3 _ (by omega)]; exact b2 _) (by rw [t3 _ (by omega), y3 _ (by omega)]; exact b3 _) (by rw [t3 _ (by omega), y3 _ (by omega)]; exact b4 _) (by rw [t3 _ (by omega), y3 _ (by omega)]; exact b5 _) (by rw [t3 _ (by omega), y3 _ (by omega)]; exact b6 _) (by rw [t3 _ (by omega)]; exact y2) t2 (fun c1 c2 H o => by simp only [walkS, wl, rgets, retv, argsEnv, ev, cst, cst1, cstL, AEnv.get, AEnv.trim, envput, qstep, abin, aun, evs, evo, deref, qload, target, if_true, if_false, Nat.reduceEqDiff, reduceIte, Nat.reduceAdd, AV.cells, AV.isTuple, setMany, alen, aiaddr, afill, Nat.reduceLeDiff, Nat.reduceMul, Nat.reduceLT, afillE, List.replicate, o]; rw [e41 c1 c2]; exact out_tab0) (fun c H o x y => by simp only [walkS, wl, rgets, retv, argsEnv, ev, cst, cst1, cstL, AEnv.get, AEnv.trim, envput, qstep, abin, aun, evs, evo, deref, qload, target, if_true, if_false, Nat.reduceEqDiff, reduceIte, Nat.reduceAdd, AV.cells, AV.isTuple, setMany, alen, aiaddr, afill, Nat.reduceLeDiff, Nat.reduceMul, Nat.reduceLT, afillE, List.replicate, o]; rw [e0 c]; exact narrow_out x y)
          refine (opened_at (b := false) (c := false) hl0 hm0 (by omega) (by omega)).mono fun x9 H9 hx9 => ?_
          obtain ⟨kp9, p9, q9, r9, s9, rfl, o9, oo9⟩ := hx9
          have kl9 : H7.length + 1 ≤ H9.length := by have := kp9.1; simp only [List.length_append, List.length_cons, List.length_nil] at this; omega
          have rl9 : H7.length + 1 ≤ p9 := by simp only [List.length_append, List.length_cons, List.length_nil] at r9; omega
          have ql9 := AHeap.obj_lt oo9
          have pl9 := AHeap.obj_lt o9
          have a0_7_9 : AHeap.obj H9 0 = some ⟨73, 3, [[I N, .ro false (ic l), .ro false (bc m)]]⟩ := (kp9.2 0 (by simp only [List.length_append, List.length_cons, List.length_nil]; omega)).trans (obj_keep a0_7)
          have a1_7_9 : AHeap.obj H9 1 = some ⟨39, 3, [[I u, I v, I w]]⟩ := (kp9.2 1 (by simp only [List.length_append, List.length_cons, List.length_nil]; omega)).trans (obj_keep a1_7)
          have a2_7_9 : AHeap.obj H9 2 = some ⟨73, 3, [[I 0, .nilSlice, .nilSlice]]⟩ := (kp9.2 2 (by simp only [List.length_append, List.length_cons, List.length_nil]; omega)).trans (obj_keep a2_7)
          have z6_7_9 : AHeap.obj H9 H0.length = some ⟨120, 4, [[I 0, .nilSlice, I 0, .nilSlice]]⟩ := (kp9.2 H0.length (by simp only [List.length_append, List.length_cons, List.length_nil]; omega)).trans (obj_keep z6_7)
          have o7_9 : AHeap.obj H9 p7 = some ⟨3, 1, ic l⟩ := (kp9.2 p7 (by simp only [List.length_append, List.length_cons, List.length_nil]; omega)).trans (obj_keep o7)
          have oo7_9 : AHeap.obj H9 q7 = some ⟨4, 1, bc m⟩ := (kp9.2 q7 (by simp only [List.length_append, List.length_cons, List.length_nil]; omega)).trans (obj_keep oo7)
          have z7_9 : AHeap.obj H9 H7.length = some ⟨120, 4, [[I 0, .nilSlice, I 0, .nilSlice]]⟩ := (kp9.2 H7.length (by simp only [List.length_append, List.length_cons, List.length_nil]; omega)).trans ((obj_app_add (k := 0)).trans rfl)
          have a0k_9 : ∀ X, AHeap.obj (H9 ++ X) 0 = some ⟨73, 3, [[I N, .ro false (ic l), .ro false (bc m)]]⟩ := fun X => obj_keep a0_7_9
          simp only [walkS, wl, rgets, retv, argsEnv, ev, cst, cst1, cstL, AEnv.get, AEnv.trim, envput, qstep, abin, aun, evs, evo, deref, qload, target, if_true, if_false, Nat.reduceEqDiff, reduceIte, Nat.reduceAdd, AV.cells, AV.isTuple, setMany, alen, aiaddr, afill, Nat.reduceLeDiff, Nat.reduceMul, Nat.reduceLT, afillE, List.replicate, a0_7_9, a0k_9, List.contains_cons, List.contains_nil, Nat.reduceBEq, Bool.or_true, Bool.true_or, Bool.or_false, Bool.false_or, ite_self, true_and]
          have b0 := a0_7_9
          have b1 := a1_7_9
          have b2 := a2_7_9
          have b3 := o7_9
          have b4 := oo7_9
          have b5 := o9
          have b6 := oo9
          refine storeR rfl rfl z6_7_9 rfl ⟨rfl, rfl, rfl, by simp⟩ fun Ha y1 y2 y3 => ?_
          simp only [AV.cells, setMany, List.set_cons_zero, List.set_cons_succ, Nat.zero_add, Nat.reduceAdd] at y2
          simp only [walkS, wl, rgets, retv, argsEnv, ev, cst, cst1, cstL, AEnv.get, AEnv.trim, envput, qstep, abin, aun, evs, evo, deref, qload, target, if_true, if_false, Nat.reduceEqDiff, reduceIte, Nat.reduceAdd, AV.cells, AV.isTuple, setMany, alen, aiaddr, afill, Nat.reduceLeDiff, Nat.reduceMul, Nat.reduceLT, afillE, List.replicate]
          refine storeR rfl rfl ((y3 H7.length (by omega)).trans z7_9) rfl ⟨rfl, rfl, rfl, by simp⟩ fun Hc t1 t2 t3 => ?_
          simp only [AV.cells, setMany, List.set_cons_zero, List.set_cons_succ, Nat.zero_add, Nat.reduceAdd] at t2
          simp only [walkS, wl, rgets, retv, argsEnv, ev, cst, cst1, cstL, AEnv.get, AEnv.trim, envput, qstep, abin, aun, evs, evo, deref, qload, target, if_true, if_false, Nat.reduceEqDiff, reduceIte, Nat.reduceAdd, AV.cells, AV.isTuple, setMany, alen, aiaddr, afill, Nat.reduceLeDiff, Nat.reduceMul, Nat.reduceLT, afillE, List.replicate]
          exact narrow_fin (p1 := p7) (q1 := q7) (p2 := p9) (q2 := q9) (g6 := H0.length) (g7 := H7.length) hT hu hv hw (by omega) (by rw [t3 _ (by omega), y3 _ (by omega)]; exact b0) (by rw [t3 _ (by omega), y3 _ (by omega)]; exact b1) (by rw [t3 _ (by omega), y3 _ (by omega)]; exact b2) (by rw [t3 _ (by omega), y3 _ (by omega)]; exact b3) (by rw [t3 _ (by omega), y3 _ (by omega)]; exact b4) (by rw [t3 _ (by omega), y3 _ (by omega)]; exact b5) (by rw [t3 _ (by omega), y3 _ (by omega)]; exact b6) (by rw [t3 _ (by omega)]; exact y2) t2 (fun c1 c2 H o => by simp only [walkS, wl, rgets, retv, argsEnv, ev, cst, cst1, cstL, AEnv.get, AEnv.trim, envput, qstep, abin, aun, evs, evo, deref, qload, target, if_true, if_false, Nat.reduceEqDiff, reduceIte, Nat.reduceAdd, AV.cells, AV.isTuple, setMany, alen, aiaddr, afill, Nat.reduceLeDiff, Nat.reduceMul, Nat.reduceLT, afillE, List.replicate, o]; rw [e41 c1 c2]; exact out_tab0) (fun c H o x y => by simp only [walkS, wl, rgets, retv, argsEnv, ev, cst, cst1, cstL, AEnv.get, AEnv.trim, envput, qstep, abin, aun, evs, evo, deref, qload, target, if_true, if_false, Nat.reduceEqDiff, reduceIte, Nat.reduceAdd, AV.cells, AV.isTuple, setMany, alen, aiaddr, afill, Nat.reduceLeDiff, Nat.reduceMul, Nat.reduceLT, afillE, List.replicate, o]; rw [e0 c]; exact narrow_out x y)
        refine (opened_at (b := false) (c := false) hl0 hm0 (by omega) (by omega)).mono fun x10 H10 hx10 => ?_
        obtain ⟨kp10, p10, q10, r10, s10, rfl, o10, oo10⟩ := hx10
        have kl10 : H0.length + 2 ≤ H10.length := by have := kp10.1; simp only [List.length_append, List.length_cons, List.length_nil] at this; omega
        have rl10 : H0.length + 2 ≤ p10 := by simp only [List.length_append, List.length_cons, List.length_nil] at r10; omega
        have ql10 := AHeap.obj_lt oo10
        have pl10 := AHeap.obj_lt o10
        have a0_10 : AHeap.obj H10 0 = some ⟨73, 3, [[I N, .ro false (ic l), .ro false (bc m)]]⟩ := (kp10.2 0 (by simp only [List.length_append, List.length_cons, List.length_nil]; omega)).trans (obj_keep a0)
        have a1_10 : AHeap.obj H10 1 = some ⟨39, 3, [[I u, I v, I w]]⟩ := (kp10.2 1 (by simp only [List.length_append, List.length_cons, List.length_nil]; omega)).trans (obj_keep a1)
        have a2_10 : AHeap.obj H10 2 = some ⟨73, 3, [[I 0, .nilSlice, .nilSlice]]⟩ := (kp10.2 2 (by simp only [List.length_append, List.length_cons, List.length_nil]; omega)).trans (obj_keep a2)
        have z6_10 : AHeap.obj H10 H0.length = some ⟨120, 4, [[I 0, .nilSlice, I 0, .nilSlice]]⟩ := (kp10.2 H0.length (by simp only [List.length_append, List.length_cons, List.length_nil]; omega)).trans ((obj_app_add (k := 0)).trans rfl)
        have z7_10 : AHeap.obj H10 (H0.length + 1) = some ⟨120, 4, [[I 0, .nilSlice, I 0, .nilSlice]]⟩ := (kp10.2 (H0.length + 1) (by simp only [List.length_append, List.length_cons, List.length_nil]; omega)).trans ((obj_app_add (k := 1)).trans rfl)
        have a0k_10 : ∀ X, AHeap.obj (H10 ++ X) 0 = some ⟨73, 3, [[I N, .ro false (ic l), .ro false (bc m)]]⟩ := fun X => obj_keep a0_10
        simp only [walkS, wl, rgets, retv, argsEnv, ev, cst, cst1, cstL, AEnv.get, AEnv.trim, envput, qstep, abin, aun, evs, evo, deref, qload, target, if_true, if_false, Nat.reduceEqDiff, reduceIte, Nat.reduceAdd, AV.cells, AV.isTuple, setMany, alen, aiaddr, afill, Nat.reduceLeDiff, Nat.reduceMul, Nat.reduceLT, afillE, List.replicate, a0_10, a0k_10, List.contains_cons, List.contains_nil, Nat.reduceBEq, Bool.or_true, Bool.true_or, Bool.or_false, Bool.false_or, ite_self, true_and]
        refine (opened_at (b := false) (c := false) hl0 hm0 (by omega) (by omega)).mono fun x11 H11 hx11 => ?_
        obtain ⟨kp11, p11, q11, r11, s11, rfl, o11, oo11⟩ := hx11
        have kl11 : H10.length + 0 ≤ H11.length := by have := kp11.1; omega
        have rl11 : H10.length + 0 ≤ p11 := by omega
        have ql11 := AHeap.obj_lt oo11
        have pl11 := AHeap.obj_lt o11
        have a0_10_11 : AHeap.obj H11 0 = some ⟨73, 3, [[I N, .ro false (ic l), .ro false (bc m)]]⟩ := (kp11.2 0 (by omega)).trans (a0_10)
        have a1_10_11 : AHeap.obj H11 1 = some ⟨39, 3, [[I u, I v, I w]]⟩ := (kp11.2 1 (by omega)).trans (a1_10)
        have a2_10_11 : AHeap.obj H11 2 = some ⟨73, 3, [[I 0, .nilSlice, .nilSlice]]⟩ := (kp11.2 2 (by omega)).trans (a2_10)
        have z6_10_11 : AHeap.obj H11 H0.length = some ⟨120, 4, [[I 0, .nilSlice, I 0, .nilSlice]]⟩ := (kp11.2 H0.length (by omega)).trans (z6_10)
        have z7_10_11 : AHeap.obj H11 (H0.length + 1) = some ⟨120, 4, [[I 0, .nilSlice, I 0, .nilSlice]]⟩ := (kp11.2 (H0.length + 1) (by omega)).trans (z7_10)
        have o10_11 : AHeap.obj H11 p10 = some ⟨3, 1, ic l⟩ := (kp11.2 p10 (by omega)).trans (o10)
        have oo10_11 : AHeap.obj H11 q10 = some ⟨4, 1, bc m⟩ := (kp11.2 q10 (by omega)).trans (oo10)
        have a0k_11 : ∀ X, AHeap.obj (H11 ++ X) 0 = some ⟨73, 3, [[I N, .ro false (ic l), .ro false (bc m)]]⟩ := fun X => obj_keep a0_10_11
        simp only [walkS, wl, rgets, retv, argsEnv, ev, cst, cst1, cstL, AEnv.get, AEnv.trim, envput, qstep, abin, aun, evs, evo, deref, qload, target, if_true, if_false, Nat.reduceEqDiff, reduceIte, Nat.reduceAdd, AV.cells, AV.isTuple, setMany, alen, aiaddr, afill, Nat.reduceLeDiff, Nat.reduceMul, Nat.reduceLT, afillE, List.replicate, a0_10_11, a0k_11, List.contains_cons, List.contains_nil, Nat.reduceBEq, Bool.or_true, Bool.true_or, Bool.or_false, Bool.false_or, ite_self, true_and]
        have b0 := a0_10_11
        have b1 := a1_10_11
        have b2 := a2_10_11
        have b3 := o10_11
        have b4 := oo10_11
        have b5 := o11
        have b6 := oo11
        refine storeR rfl rfl z6_10_11 rfl ⟨rfl, rfl, rfl, by simp⟩ fun Ha y1 y2 y3 => ?_
        simp only [AV.cells, setMany, List.set_cons_zero, List.set_cons_succ, Nat.zero_add, Nat.reduceAdd] at y2
        simp only [walkS, wl, rgets, retv, argsEnv, ev, cst, cst1, cstL, AEnv.get, AEnv.trim, envput, qstep, abin, aun, evs, evo, deref, qload, target, if_true, if_false, Nat.reduceEqDiff, reduceIte, Nat.reduceAdd, AV.cells, AV.isTuple, setMany, alen, aiaddr, afill, Nat.reduceLeDiff, Nat.reduceMul, Nat.reduceLT, afillE, List.replicate]
        refine storeR rfl rfl ((y3 (H0.length + 1) (by omega)).trans z7_10_11) rfl ⟨rfl, rfl, rfl, by simp⟩ fun Hc t1 t2 t3 => ?_
        simp only [AV.cells, setMany, List.set_cons_zero, List.set_cons_succ, Nat.zero_add, Nat.reduceAdd] at t2
        simp only [walkS, wl, rgets, retv, argsEnv, ev, cst, cst1, cstL, AEnv.get, AEnv.trim, envput, qstep, abin, aun, evs, evo, deref, qload, target, if_true, if_false, Nat.reduceEqDiff, reduceIte, Nat.reduceAdd, AV.cells, AV.isTuple, setMany, alen, aiaddr, afill, Nat.reduceLeDiff, Nat.reduceMul, Nat.reduceLT, afillE, List.replicate]
        exact narrow_fin (p1 := p10) (q1 := q10) (p2 := p11) (q2 := q11) (g6 := H0.length) (g7 := (H0.length + 1)) hT hu hv hw (by omega) (by rw [t3 _ (by omega), y3 _ (by omega)]; exact b0) (by rw [t3 _ (by omega), y3 _ (by omega)]; exact b1) (by rw [t3 _ (by omega), y3 _ (by omega)]; exact b2) (by rw [t3 _ (by omega), y3 _ (by omega)]; exact b3) (by rw [t3 _ (by omega), y3 _ (by omega)]; exact b4) (by rw [t3 _ (by omega), y3 _ (by omega)]; exact b5) (by rw [t3 _ (by omega), y3 _ (by omega)]; exact b6) (by rw [t3 _ (by omega)]; exact y2) t2 (fun c1 c2 H o => by simp only [walkS, wl, rgets, retv, argsEnv, ev, cst, cst1, cstL, AEnv.get, AEnv.trim, envput, qstep, abin, aun, evs, evo, deref, qload, target, if_true, if_false, Nat.reduceEqDiff, reduceIte, Nat.reduceAdd, AV.cells, AV.isTuple, setMany, alen, aiaddr, afill, Nat.reduceLeDiff, Nat.reduceMul, Nat.reduceLT, afillE, List.replicate, o]; rw [e41 c1 c2]; exact out_tab0) (fun c H o x y => by simp only [walkS, wl, rgets, retv, argsEnv, ev, cst, cst1, cstL, AEnv.get, AEnv.trim, envput, qstep, abin, aun, evs, evo, deref, qload, target, if_true, if_false, Nat.reduceEqDiff, reduceIte, Nat.reduceAdd, AV.cells, AV.isTuple, setMany, alen, aiaddr, afill, Nat.reduceLeDiff, Nat.reduceMul, Nat.reduceLT, afillE, List.replicate, o]; rw [e0 c]; exact narrow_out x y)
      refine ⟨?_, ?_⟩
      · refine (opened_at (b := false) (c := false) hl0 hm0 (by omega) (by omega)).mono fun x12 H12 hx12 => ?_
        obtain ⟨kp12, p12, q12, r12, s12, rfl, o12, oo12⟩ := hx12
        have kl12 : H0.length + 1 ≤ H12.length := by have := kp12.1; simp only [List.length_append, List.length_cons, List.length_nil] at this; omega
        have rl12 : H0.length + 1 ≤ p12 := by simp only [List.length_append, List.length_cons, List.length_nil] at r12; omega
        have ql12 := AHeap.obj_lt oo12
        have pl12 := AHeap.obj_lt o12
        have a0_12 : AHeap.obj H12 0 = some ⟨73, 3, [[I N, .ro false (ic l), .ro false (bc m)]]⟩ := (kp12.2 0 (by simp only [List.length_append, List.length_cons, List.length_nil]; omega)).trans (obj_keep a0)
        have a1_12 : AHeap.obj H12 1 = some ⟨39, 3, [[I u, I v, I w]]⟩ := (kp12.2 1 (by simp only [List.length_append, List.length_cons, List.length_nil]; omega)).trans (obj_keep a1)
        have a2_12 : AHeap.obj H12 2 = some ⟨73, 3, [[I 0, .nilSlice, .nilSlice]]⟩ := (kp12.2 2 (by simp only [List.length_append, List.length_cons, List.length_nil]; omega)).trans (obj_keep a2)
        have z7_12 : AHeap.obj H12 H0.length = some ⟨120, 4, [[I 0, .nilSlice, I 0, .nilSlice]]⟩ := (kp12.2 H0.length (by simp only [List.length_append, List.length_cons, List.length_nil]; omega)).trans ((obj_app_add (k := 0)).trans rfl)
        have a0k_12 : ∀ X, AHeap.obj (H12 ++ X) 0 = some ⟨73, 3, [[I N, .ro false (ic l), .ro false (bc m)]]⟩ := fun X => obj_keep a0_12
        simp only [walkS, wl, rgets, retv, argsEnv, ev, cst, cst1, cstL, AEnv.get, AEnv.trim, envput, qstep, abin, aun, evs, evo, deref, qload, target, if_true, if_false, Nat.reduceEqDiff, reduceIte, Nat.reduceAdd, AV.cells, AV.isTuple, setMany, alen, aiaddr, afill, Nat.reduceLeDiff, Nat.reduceMul, Nat.reduceLT, afillE, List.replicate, a0_12, a0k_12, List.contains_cons, List.contains_nil, Nat.reduceBEq, Bool.or_true, Bool.true_or, Bool.or_false, Bool.false_or, ite_self, true_and]
        refine ⟨?_, ?_⟩
        · refine (opened_at (b := false) (c := false) hl0 hm0 (by omega) (by omega)).mono fun x13 H13 hx13 => ?_
          obtain ⟨kp13, p13, q13, r13, s13, rfl, o13, oo13⟩ := hx13
          have kl13 : H12.length + 0 ≤ H13.length := by have := kp13.1; omega
          have rl13 : H12.length + 0 ≤ p13 := by omega
          have ql13 := AHeap.obj_lt oo13
          have pl13 := AHeap.obj_lt o13
          have a0_12_13 : AHeap.obj H13 0 = some ⟨73, 3, [[I N, .ro false (ic l), .ro false (bc m)]]⟩ := (kp13.2 0 (by omega)).trans (a0_12)
          have a1_12_13 : AHeap.obj H13 1 = some ⟨39, 3, [[I u, I v, I w]]⟩ := (kp13.2 1 (by omega)).trans (a1_12)
          have a2_12_13 : AHeap.obj H13 2 = some ⟨73, 3, [[I 0, .nilSlice, .nilSlice]]⟩ := (kp13.2 2 (by omega)).trans (a2_12)
          have z7_12_13 : AHeap.obj H13 H0.length = some ⟨120, 4, [[I 0, .nilSlice, I 0, .nilSlice]]⟩ := (kp13.2 H0.length (by omega)).trans (z7_12)
          have o12_13 : AHeap.obj H13 p12 = some ⟨3, 1, ic l⟩ := (kp13.2 p12 (by omega)).trans (o12)
          have oo12_13 : AHeap.obj H13 q12 = some ⟨4, 1, bc m⟩ := (kp13.2 q12 (by omega)).trans (oo12)
          have a0k_13 : ∀ X, AHeap.obj (H13 ++ X) 0 = some ⟨73, 3, [[I N, .ro false (ic l), .ro false (bc m)]]⟩ := fun X => obj_keep a0_12_13
          simp only [walkS, wl, rgets, retv, argsEnv, ev, cst, cst1, cstL, AEnv.get, AEnv.trim, envput, qstep, abin, aun, evs, evo, deref, qload, target, if_true, if_false, Nat.reduceEqDiff, reduceIte, Nat.reduceAdd, AV.cells, AV.isTuple, setMany, alen, aiaddr, afill, Nat.reduceLeDiff, Nat.reduceMul, Nat.reduceLT, afillE, List.replicate, a0_12_13, a0k_13, List.contains_cons, List.contains_nil, Nat.reduceBEq, Bool.or_true, Bool.true_or, Bool.or_false, Bool.false_or, ite_self, true_and]
          have b0 := fun X => obj_keep (X := X) a0_12_13
          have b1 := fun X => obj_keep (X := X) a1_12_13
          have b2 := fun X => obj_keep (X := X) a2_12_13
          have b3 := fun X => obj_keep (X := X) o12_13
          have b4 := fun X => obj_keep (X := X) oo12_13
          have b5 := fun X => obj_keep (X := X) o13
          have b6 := fun X => obj_keep (X := X) oo13
          refine storeR rfl rfl ((obj_app_add (k := 0)).trans rfl) rfl ⟨rfl, rfl, rfl, by simp⟩ fun Ha y1 y2 y3 => ?_
          simp only [AV.cells, setMany, List.set_cons_zero, List.set_cons_succ, Nat.zero_add, Nat.reduceAdd] at y2
          simp only [walkS, wl, rgets, retv, argsEnv, ev, cst, cst1, cstL, AEnv.get, AEnv.trim, envput, qstep, abin, aun, evs, evo, deref, qload, target, if_true, if_false, Nat.reduceEqDiff, reduceIte, Nat.reduceAdd, AV.cells, AV.isTuple, setMany, alen, aiaddr, afill, Nat.reduceLeDiff, Nat.reduceMul, Nat.reduceLT, afillE, List.replicate]
          refine storeR rfl rfl ((y3 H0.length (by omega)).trans (obj_keep z7_12_13)) rfl ⟨rfl, rfl, rfl, by simp⟩ fun Hc t1 t2 t3 => ?_
          simp only [AV.cells, setMany, List.set_cons_zero, List.set_cons_succ, Nat.zero_add, Nat.reduceAdd] at t2
          simp only [walkS, wl, rgets, retv, argsEnv, ev, cst, cst1, cstL, AEnv.get, AEnv.trim, envput, qstep, abin, aun, evs, evo, deref, qload, target, if_true, if_false, Nat.reduceEqDiff, reduceIte, Nat.reduceAdd, AV.cells, AV.isTuple, setMany, alen, aiaddr, afill, Nat.reduceLeDiff, Nat.reduceMul, Nat.reduceLT, afillE, List.replicate]
          exact narrow_fin (p1 := p12) (q1 := q12) (p2 := p13) (q2 := q13) (g6 := H13.length) (g7 := H0.length) hT hu hv hw (by omega) (by rw [t3 _ (by omega), y3 _ (by omega)]; exact b0 _) (by rw [t3 _ (by omega), y3 _ (by omega)]; exact b1 _) (by rw [t3 _ (by omega), y3 _ (by omega)]; exact b2 _) (by rw [t3 _ (by omega), y3 _ (by omega)]; exact b3 _) (by rw [t3 _ (by omega), y3 _ (by omega)]; exact b4 _) (by rw [t3 _ (by omega), y3 _ (by omega)]; exact b5 _) (by rw [t3 _ (by omega), y3 _ (by omega)]; exact b6 _) (by rw [t3 _ (by omega)]; exact y2) t2 (fun c1 c2 H o => by simp only [walkS, wl, rgets, retv, argsEnv, ev, cst, cst1, cstL, AEnv.get, AEnv.trim, envput, qstep, abin, aun, evs, evo, deref, qload, target, if_true, if_false, Nat.reduceEqDiff, reduceIte, Nat.reduceAdd, AV.cells, AV.isTuple, setMany, alen, aiaddr, afill, Nat.reduceLeDiff, Nat.reduceMul, Nat.reduceLT, afillE, List.replicate, o]; rw [e41 c1 c2]; exact out_tab0) (fun c H o x y => by simp only [walkS, wl, rgets, retv, argsEnv, ev, cst, cst1, cstL, AEnv.get, AEnv.trim, envput, qstep, abin, aun, evs, evo, deref, qload, target, if_true, if_false, Nat.reduceEqDiff, reduceIte, Nat.reduceAdd, AV.cells, AV.isTuple, setMany, alen, aiaddr, afill, Nat.reduceLeDiff, Nat.reduceMul, Nat.reduceLT, afillE, List.replicate, o]; rw [e0 c]; exact narrow_out x y)
        refine (opened_at (b := false) (c := false) hl0 hm0 (by omega) (by omega)).mono fun x14 H14 hx14 => ?_
        obtain ⟨kp14, p14, q14, r14, s14, rfl, o14, oo14⟩ := hx14
        have kl14 : H12.length + 1 ≤ H14.length := by have := kp14.1; simp only [List.length_append, List.length_cons, List.length_nil] at this; omega
        have rl14 : H12.length + 1 ≤ p14 := by simp only [List.length_append, List.length_cons, List.length_nil] at r14; omega
        have ql14 := AHeap.obj_lt oo14
        have pl14 := AHeap.obj_lt o14
        have a0_12_14 : AHeap.obj H14 0 = some ⟨73, 3, [[I N, .ro false (ic l), .ro false (bc m)]]⟩ := (kp14.2 0 (by simp only [List.length_append, List.length_cons, List.length_nil]; omega)).trans (obj_keep a0_12)
        have a1_12_14 : AHeap.obj H14 1 = some ⟨39, 3, [[I u, I v, I w]]⟩ := (kp14.2 1 (by simp only [List.length_append, List.length_cons, List.length_nil]; omega)).trans (obj_keep a1_12)
        have a2_12_14 : AHeap.obj H14 2 = some ⟨73, 3, [[I 0, .nilSlice, .nilSlice]]⟩ := (kp14.2 2 (by simp only [List.length_append, List.length_cons, List.length_nil]; omega)).trans (obj_keep a2_12)
        have z7_12_14 : AHeap.obj H14 H0.length = some ⟨120, 4, [[I 0, .nilSlice, I 0, .nilSlice]]⟩ := (kp14.2 H0.length (by simp only [List.length_append, List.length_cons, List.length_nil]; omega)).trans (obj_keep z7_12)
        have o12_14 : AHeap.obj H14 p12 = some ⟨3, 1, ic l⟩ := (kp14.2 p12 (by simp only [List.length_append, List.length_cons, List.length_nil]; omega)).trans (obj_keep o12)
        have oo12_14 : AHeap.obj H14 q12 = some ⟨4, 1, bc m⟩ := (kp14.2 q12 (by simp only [List.length_append, List.length_cons, List.length_nil]; omega)).trans (obj_keep oo12)
        have z6_14 : AHeap.obj H14 H12.length = some ⟨120, 4, [[I 0, .nilSlice, I 0, .nilSlice]]⟩ := (kp14.2 H12.length (by simp only [List.length_append, List.length_cons, List.length_nil]; omega)).trans ((obj_app_add (k := 0)).trans rfl)
        have a0k_14 : ∀ X, AHeap.obj (H14 ++ X) 0 = some ⟨73, 3, [[I N, .ro false (ic l), .ro false (bc m)]]⟩ := fun X => obj_keep a0_12_14
        simp only [walkS, wl, rgets, retv, argsEnv, ev, cst, cst1, cstL, AEnv.get, AEnv.trim, envput, qstep, abin, aun, evs, evo, deref, qload, target, if_true, if_false, Nat.reduceEqDiff, reduceIte, Nat.reduceAdd, AV.cells, AV.isTuple, setMany, alen, aiaddr, afill, Nat.reduceLeDiff, Nat.reduceMul, Nat.reduceLT, afillE, List.replicate, a0_12_14, a0k_14, List.contains_cons, List.contains_nil, Nat.reduceBEq, Bool.or_true, Bool.true_or, Bool.or_false, Bool.false_or, ite_self, true_and]
        have b0 := a0_12_14
        have b1 := a1_12_14
        have b2 := a2_12_14
        have b3 := o12_14
        have b4 := oo12_14
        have b5 := o14
        have b6 := oo14
        refine storeR rfl rfl z6_14 rfl ⟨rfl, rfl, rfl, by simp⟩ fun Ha y1 y2 y3 => ?_
        simp only [AV.cells, setMany, List.set_cons_zero, List.set_cons_succ, Nat.zero_add, Nat.reduceAdd] at y2
        simp only [walkS, wl, rgets, retv, argsEnv, ev, cst, cst1, cstL, AEnv.get, AEnv.trim, envput, qstep, abin, aun, evs, evo, deref, qload, target, if_true, if_false, Nat.reduceEqDiff, reduceIte, Nat.reduceAdd, AV.cells, AV.isTuple, setMany, alen, aiaddr, afill, Nat.reduceLeDiff, Nat.reduceMul, Nat.reduceLT, afillE, List.replicate]
        refine storeR rfl rfl ((y3 H0.length (by omega)).trans z7_12_14) rfl ⟨rfl, rfl, rfl, by simp⟩ fun Hc t1 t2 t3 => ?_
        simp only [AV.cells, setMany, List.set_cons_zero, List.set_cons_succ, Nat.zero_add, Nat.reduceAdd] at t2
        simp only [walkS, wl, rgets, retv, argsEnv, ev, cst, cst1, cstL, AEnv.get, AEnv.trim, envput, qstep, abin, aun, evs, evo, deref, qload, target, if_true, if_false, Nat.reduceEqDiff, reduceIte, Nat.reduceAdd, AV.cells, AV.isTuple, setMany, alen, aiaddr, afill, Nat.reduceLeDiff, Nat.reduceMul, Nat.reduceLT, afillE, List.replicate]
        exact narrow_fin (p1 := p12) (q1 := q12) (p2 := p14) (q2 := q14) (g6 := H12.length) (g7 := H0.length) hT hu hv hw (by omega) (by rw [t3 _ (by omega), y3 _ (by omega)]; exact b0) (by rw [t3 _ (by omega), y3 _ (by omega)]; exact b1) (by rw [t3 _ (by omega), y3 _ (by omega)]; exact b2) (by rw [t3 _ (by omega), y3 _ (by omega)]; exact b3) (by rw [t3 _ (by omega), y3 _ (by omega)]; exact b4) (by rw [t3 _ (by omega), y3 _ (by omega)]; exact b5) (by rw [t3 _ (by omega), y3 _ (by omega)]; exact b6) (by rw [t3 _ (by omega)]; exact y2) t2 (fun c1 c2 H o => by simp only [walkS, wl, rgets, retv, argsEnv, ev, cst, cst1, cstL, AEnv.get, AEnv.trim, envput, qstep, abin, aun, evs, evo, deref, qload, target, if_true, if_false, Nat.reduceEqDiff, reduceIte, Nat.reduceAdd, AV.cells, AV.isTuple, setMany, alen, aiaddr, afill, Nat.reduceLeDiff, Nat.reduceMul, Nat.reduceLT, afillE, List.replicate, o]; rw [e41 c1 c2]; exact out_tab0) (fun c H o x y => by simp only [walkS, wl, rgets, retv, argsEnv, ev, cst, cst1, cstL, AEnv.get, AEnv.trim, envput, qstep, abin, aun, evs, evo, deref, qload, target, if_true, if_false, Nat.reduceEqDiff, reduceIte, Nat.reduceAdd, AV.cells, AV.isTuple, setMany, alen, aiaddr, afill, Nat.reduceLeDiff, Nat.reduceMul, Nat.reduceLT, afillE, List.replicate, o]; rw [e0 c]; exact narrow_out x y)
      refine (opened_at (b := false) (c := false) hl0 hm0 (by omega) (by omega)).mono fun x15 H15 hx15 => ?_
      obtain ⟨kp15, p15, q15, r15, s15, rfl, o15, oo15⟩ := hx15
      have kl15 : H0.length + 2 ≤ H15.length := by have := kp15.1; simp only [List.length_append, List.length_cons, List.length_nil] at this; omega
      have rl15 : H0.length + 2 ≤ p15 := by simp only [List.length_append, List.length_cons, List.length_nil] at r15; omega
      have ql15 := AHeap.obj_lt oo15
      have pl15 := AHeap.obj_lt o15
      have a0_15 : AHeap.obj H15 0 = some ⟨73, 3, [[I N, .ro false (ic l), .ro false (bc m)]]⟩ := (kp15.2 0 (by simp only [List.length_append, List.length_cons, List.length_nil]; omega)).trans (obj_keep a0)
      have a1_15 : AHeap.obj H15 1 = some ⟨39, 3, [[I u, I v, I w]]⟩ := (kp15.2 1 (by simp only [List.length_append, List.length_cons, List.length_nil]; omega)).trans (obj_keep a1)
      have a2_15 : AHeap.obj H15 2 = some ⟨73, 3, [[I 0, .nilSlice, .nilSlice]]⟩ := (kp15.2 2 (by simp only [List.length_append, List.length_cons, List.length_nil]; omega)).trans (obj_keep a2)
      have z7_15 : AHeap.obj H15 H0.length = some ⟨120, 4, [[I 0, .nilSlice, I 0, .nilSlice]]⟩ := (kp15.2 H0.length (by simp only [List.length_append, List.length_cons, List.length_nil]; omega)).trans ((obj_app_add (k := 0)).trans rfl)
      have z6_15 : AHeap.obj H15 (H0.length + 1) = some ⟨120, 4, [[I 0, .nilSlice, I 0, .nilSlice]]⟩ := (kp15.2 (H0.length + 1) (by simp only [List.length_append, List.length_cons, List.length_nil]; omega)).trans ((obj_app_add (k := 1)).trans rfl)
      have a0k_15 : ∀ X, AHeap.obj (H15 ++ X) 0 = some ⟨73, 3, [[I N, .ro false (ic l), .ro false (bc m)]]⟩ := fun X => obj_keep a0_15
      simp only [walkS, wl, rgets, retv, argsEnv, ev, cst, cst1, cstL, AEnv.get, AEnv.trim, envput, qstep, abin, aun, evs, evo, deref, qload, target, if_true, if_false, Nat.reduceEqDiff, reduceIte, Nat.reduceAdd, AV.cells, AV.isTuple, setMany, alen, aiaddr, afill, Nat.reduceLeDiff, Nat.reduceMul, Nat.reduceLT, afillE, List.replicate, a0_15, a0k_15, List.contains_cons, List.contains_nil, Nat.reduceBEq, Bool.or_true, Bool.true_or, Bool.or_false, Bool.false_or, ite_self, true_and]
      refine (opened_at (b := false) (c := false) hl0 hm0 (by omega) (by omega)).mono fun x16 H16 hx16 => ?_
      obtain ⟨kp16, p16, q16, r16, s16, rfl, o16, oo16⟩ := hx16
      have kl16 : H15.length + 0 ≤ H16.length := by have := kp16.1; omega
      have rl16 : H15.length + 0 ≤ p16 := by omega
      have ql16 := AHeap.obj_lt oo16
      have pl16 := AHeap.obj_lt o16
      have a0_15_16 : AHeap.obj H16 0 = some ⟨73, 3, [[I N, .ro false (ic l), .ro false (bc m)]]⟩ := (kp16.2 0 (by omega)).trans (a0_15)
      have a1_15_16 : AHeap.obj H16 1 = some ⟨39, 3, [[I u, I v, I w]]⟩ := (kp16.2 1 (by omega)).trans (a1_15)
      have a2_15_16 : AHeap.obj H16 2 = some ⟨73, 3, [[I 0, .nilSlice, .nilSlice]]⟩ := (kp16.2 2 (by omega)).trans (a2_15)
      have z7_15_16 : AHeap.obj H16 H0.length = some ⟨120, 4, [[I 0, .nilSlice, I 0, .nilSlice]]⟩ := (kp16.2 H0.length (by omega)).trans (z7_15)
      have z6_15_16 : AHeap.obj H16 (H0.length + 1) = some ⟨120, 4, [[I 0, .nilSlice, I 0, .nilSlice]]⟩ := (kp16.2 (H0.length + 1) (by omega)).trans (z6_15)
      have o15_16 : AHeap.obj H16 p15 = some ⟨3, 1, ic l⟩ := (kp16.2 p15 (by omega)).trans (o15)
      have oo15_16 : AHeap.obj H16 q15 = some ⟨4, 1, bc m⟩ := (kp16.2 q15 (by omega)).trans (oo15)
      have a0k_16 : ∀ X, AHeap.obj (H16 ++ X) 0 = some ⟨73, 3, [[I N, .ro false (ic l), .ro false (bc m)]]⟩ := fun X => obj_keep a0_15_16
      simp only [walkS, wl, rgets, retv, argsEnv, ev, cst, cst1, cstL, AEnv.get, AEnv.trim, envput, qstep, abin, aun, evs, evo, deref, qload, target, if_true, if_false, Nat.reduceEqDiff, reduceIte, Nat.reduceAdd, AV.cells, AV.isTuple, setMany, alen, aiaddr, afill, Nat.reduceLeDiff, Nat.reduceMul, Nat.reduceLT, afillE, List.replicate, a0_15_16, a0k_16, List.contains_cons, List.contains_nil, Nat.reduceBEq, Bool.or_true, Bool.true_or, Bool.or_false, Bool.false_or, ite_self, true_and]
      have b0 := a0_15_16
      have b1 := a1_15_16
      have b2 := a2_15_16
      have b3 := o15_16
      have b4 := oo15_16
      have b5 := o16
      have b6 := oo16
      refine storeR rfl rfl z6_15_16 rfl ⟨rfl, rfl, rfl, by simp⟩ fun Ha y1 y2 y3 => ?_
      simp only [AV.cells, setMany, List.set_cons_zero, List.set_cons_succ, Nat.zero_add, Nat.reduceAdd] at y2
      simp only [walkS, wl, rgets, retv, argsEnv, ev, cst, cst1, cstL, AEnv.get, AEnv.trim, envput, qstep, abin, aun, evs, evo, deref, qload, target, if_true, if_false, Nat.reduceEqDiff, reduceIte, Nat.reduceAdd, AV.cells, AV.isTuple, setMany, alen, aiaddr, afill, Nat.reduceLeDiff, Nat.reduceMul, Nat.reduceLT, afillE, List.replicate]
      refine storeR rfl rfl ((y3 H0.length (by omega)).trans z7_15_16) rfl ⟨rfl, rfl, rfl, by simp⟩ fun Hc t1 t2 t3 => ?_
      simp only [AV.cells, setMany, List.set_cons_zero, List.set_cons_succ, Nat.zero_add, Nat.reduceAdd] at t2
      simp only [walkS, wl, rgets, retv, argsEnv, ev, cst, cst1, cstL, AEnv.get, AEnv.trim, envput, qstep, abin, aun, evs, evo, deref, qload, target, if_true, if_false, Nat.reduceEqDiff, reduceIte, Nat.reduceAdd, AV.cells, AV.isTuple, setMany, alen, aiaddr, afill, Nat.reduceLeDiff, Nat.reduceMul, Nat.reduceLT, afillE, List.replicate]
      exact narrow_fin (p1 := p15) (q1 := q15) (p2 := p16) (q2 := q16) (g6 := (H0.length + 1)) (g7 := H0.length) hT hu hv hw (by omega) (by rw [t3 _ (by omega), y3 _ (by omega)]; exact b0) (by rw [t3 _ (by omega), y3 _ (by omega)]; exact b1) (by rw [t3 _ (by omega), y3 _ (by omega)]; exact b2) (by rw [t3 _ (by omega), y3 _ (by omega)]; exact b3) (by rw [t3 _ (by omega), y3 _ (by omega)]; exact b4) (by rw [t3 _ (by omega), y3 _ (by omega)]; exact b5) (by rw [t3 _ (by omega), y3 _ (by omega)]; exact b6) (by rw [t3 _ (by omega)]; exact y2) t2 (fun c1 c2 H o => by simp only [walkS, wl, rgets, retv, argsEnv, ev, cst, cst1, cstL, AEnv.get, AEnv.trim, envput, qstep, abin, aun, evs, evo, deref, qload, target, if_true, if_false, Nat.reduceEqDiff, reduceIte, Nat.reduceAdd, AV.cells, AV.isTuple, setMany, alen, aiaddr, afill, Nat.reduceLeDiff, Nat.reduceMul, Nat.reduceLT, afillE, List.replicate, o]; rw [e41 c1 c2]; exact out_tab0) (fun c H o x y => by simp only [walkS, wl, rgets, retv, argsEnv, ev, cst, cst1, cstL, AEnv.get, AEnv.trim, envput, qstep, abin, aun, evs, evo, deref, qload, target, if_true, if_false, Nat.reduceEqDiff, reduceIte, Nat.reduceAdd, AV.cells, AV.isTuple, setMany, alen, aiaddr, afill, Nat.reduceLeDiff, Nat.reduceMul, Nat.reduceLT, afillE, List.replicate, o]; rw [e0 c]; exact narrow_out x y)
end Go.Proofs.Ytepnijjgdhldeaa
