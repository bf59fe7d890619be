/- Path: what it hands back. -/
import Derived.Test.YtepnijjgdhldeaaQD17
namespace Go.Proofs.Ytepnijjgdhldeaa
open Go.Awp
set_option linter.unusedSimpArgs false
set_option linter.unusedVariables false
set_option maxRecDepth 10000
set_option maxHeartbeats 8000000
theorem Reverse_nil {H0 : AHeap} : ACall Try.prog 86 [.nilSlice] H0 fun _ H' => H' = H0 := by
  refine ACall.intro text86 (by simp) ?_
  unfold ir86
  simp only [walkS, wl, rgets, retv, argsEnv, ev, cst, cst1, cstL, AEnv.get, AEnv.trim, envput, qstep, abin, aun, evs, evo, deref, qload, target, if_true, if_false, Nat.reduceEqDiff, reduceIte, Nat.reduceAdd, AV.cells, AV.isTuple, setMany, alen, aiaddr, afill, Nat.reduceLeDiff, Nat.reduceMul, Nat.reduceLT, afillE, List.replicate]
  rw [show (IntKind.i64.wrap (0 - 1) : Int) = -1 by decide]
  refine awp_loop (σ := Unit) (fun _ => [(0, .nilSlice), (2, I 0), (3, I (-1))]) (fun _ H => H = H0) (fun _ => True) (fun _ => 0) () trivial rfl rfl ?_
  rintro _ H _ rfl
  simp only [walkS, wl, rgets, retv, argsEnv, ev, cst, cst1, cstL, AEnv.get, AEnv.trim, envput, qstep, abin, aun, evs, evo, deref, qload, target, if_true, if_false, Nat.reduceEqDiff, reduceIte, Nat.reduceAdd, AV.cells, AV.isTuple, setMany, alen, aiaddr, afill, Nat.reduceLeDiff, Nat.reduceMul, Nat.reduceLT, afillE, List.replicate]
  refine withBool_intro ?_ ?_ <;> intro hb <;> simp only [walkS, wl, rgets, retv, argsEnv, ev, cst, cst1, cstL, AEnv.get, AEnv.trim, envput, qstep, abin, aun, evs, evo, deref, qload, target, if_true, if_false, Nat.reduceEqDiff, reduceIte, Nat.reduceAdd, AV.cells, AV.isTuple, setMany, alen, aiaddr, afill, Nat.reduceLeDiff, Nat.reduceMul, Nat.reduceLT, afillE, List.replicate]
  · simp at hb
/-- What Path hands back: where Apart fails, or there is no way; and the way. -/
theorem Path_err {n : Int} {ds : List Df} (hs : valid n ds = true → n ≤ 16) {i j e : Int} (h : apart n ds i j = (0, false, e)) : PCall Try.prog 41 [.agg [I n, .ro false (rows ds)], I i, I j] (clashV [] false e) := by
  refine PCall.intro text41 (by simp) ?_
  unfold ir41
  simp only [walkS, wl, rgets, retv, argsEnv, ev, cst, cst1, cstL, AEnv.get, AEnv.trim, envput, qstep, abin, aun, evs, evo, deref, qload, target, if_true, if_false, Nat.reduceEqDiff, reduceIte, Nat.reduceAdd, AV.cells, AV.isTuple, setMany, alen, aiaddr, afill, Nat.reduceLeDiff, Nat.reduceMul, Nat.reduceLT, afillE, List.replicate]
  refine dcall_pure (in_ok i 0 (IntKind.i64.wrap (n - 1))) (frzL_of (d := 4) rfl) ?_
  simp only [walkS, wl, rgets, retv, argsEnv, ev, cst, cst1, cstL, AEnv.get, AEnv.trim, envput, qstep, abin, aun, evs, evo, deref, qload, target, if_true, if_false, Nat.reduceEqDiff, reduceIte, Nat.reduceAdd, AV.cells, AV.isTuple, setMany, alen, aiaddr, afill, Nat.reduceLeDiff, Nat.reduceMul, Nat.reduceLT, afillE, List.replicate]
  refine dcall_pure (in_ok j 0 (IntKind.i64.wrap (n - 1))) (frzL_of (d := 4) rfl) ?_
  simp only [walkS, wl, rgets, retv, argsEnv, ev, cst, cst1, cstL, AEnv.get, AEnv.trim, envput, qstep, abin, aun, evs, evo, deref, qload, target, if_true, if_false, Nat.reduceEqDiff, reduceIte, Nat.reduceAdd, AV.cells, AV.isTuple, setMany, alen, aiaddr, afill, Nat.reduceLeDiff, Nat.reduceMul, Nat.reduceLT, afillE, List.replicate]
  generalize hb1 : (decide (0 ≤ i) && decide (i ≤ IntKind.i64.wrap (n - 1))) = b1
  generalize hb2 : (decide (0 ≤ j) && decide (j ≤ IntKind.i64.wrap (n - 1))) = b2
  refine call_pure (asked_ok n ds [b1, b2] (by simp [big])) (frzL_of' (d := 4) (carL_cons car_netF (carL_cons (car_own (o := ⟨4, 1, [[.bool b1], [.bool b2]]⟩) rfl (bc_simple [b1, b2])) rfl))) ?_
  simp only [walkS, wl, rgets, retv, argsEnv, ev, cst, cst1, cstL, AEnv.get, AEnv.trim, envput, qstep, abin, aun, evs, evo, deref, qload, target, if_true, if_false, Nat.reduceEqDiff, reduceIte, Nat.reduceAdd, AV.cells, AV.isTuple, setMany, alen, aiaddr, afill, Nat.reduceLeDiff, Nat.reduceMul, Nat.reduceLT, afillE, List.replicate]
  have nodes : valid n ds = true → b1 = isNode i n ∧ b2 = isNode j n := fun hv => by
    have h1 := (valid_iff.1 hv).1
    rw [wrap_id (by omega) (by omega)] at hb1 hb2
    constructor
    · rw [← hb1, Bool.eq_iff_iff]; simp [isNode]; omega
    · rw [← hb2, Bool.eq_iff_iff]; simp [isNode]; omega
  refine withBool_intro ?_ ?_ <;> intro hq <;> simp only [walkS, wl, rgets, retv, argsEnv, ev, cst, cst1, cstL, AEnv.get, AEnv.trim, envput, qstep, abin, aun, evs, evo, deref, qload, target, if_true, if_false, Nat.reduceEqDiff, reduceIte, Nat.reduceAdd, AV.cells, AV.isTuple, setMany, alen, aiaddr, afill, Nat.reduceLeDiff, Nat.reduceMul, Nat.reduceLT, afillE, List.replicate]
  · rcases asked_ne hq with ⟨hv, e1⟩ | ⟨hv, hb, e1⟩
    · have e2 : apart n ds i j = (0, false, 40) := by simp [apart, hv]
      rw [e2] at h
      have : e = 40 := by cases h; rfl
      rw [e1, this]; exact out_clash0
    · obtain ⟨rfl, rfl⟩ := nodes hv
      have hb' : (isNode i n && isNode j n) = false := by simpa using hb
      have e2 : apart n ds i j = (0, false, 1) := by simp only [apart, hv, hb', if_true, Bool.false_eq_true, if_false]
      rw [e2] at h
      have : e = 1 := by cases h; rfl
      rw [e1, this]; exact out_clash0
  · obtain ⟨hv, hb⟩ := asked_eq hq
    obtain ⟨rfl, rfl⟩ := nodes hv
    have hb' : (isNode i n && isNode j n) = true := by simpa using hb
    obtain ⟨m, rfl, hg, hm⟩ := good_of hv (hs hv)
    have hij : (0 ≤ i ∧ i < m) ∧ (0 ≤ j ∧ j < m) := by simpa [isNode] using hb'
    obtain ⟨i, rfl⟩ : ∃ k : Nat, i = k := ⟨i.toNat, (Int.toNat_of_nonneg hij.1.1).symm⟩
    obtain ⟨j, rfl⟩ : ∃ k : Nat, j = k := ⟨j.toNat, (Int.toNat_of_nonneg hij.2.1).symm⟩
    have hi : i < m := by omega
    have hj : j < m := by omega
    refine (reach_at hg (b := false) hi).mono fun x H1 hx => ?_
    obtain ⟨_, ⟨hbad, rfl⟩ | ⟨hbad, h1, h2, h3, rfl, g1, g2, g3, o1, o2, o3⟩⟩ := hx
    · simp only [walkS, wl, rgets, retv, argsEnv, ev, cst, cst1, cstL, AEnv.get, AEnv.trim, envput, qstep, abin, aun, evs, evo, deref, qload, target, if_true, if_false, Nat.reduceEqDiff, reduceIte, Nat.reduceAdd, AV.cells, AV.isTuple, setMany, alen, aiaddr, afill, Nat.reduceLeDiff, Nat.reduceMul, Nat.reduceLT, afillE, List.replicate]
      refine storeR rfl rfl AHeap.obj_push_eq rfl ⟨rfl, rfl, rfl, by simp⟩ fun H2 z1 z2 z3 => ?_
      simp only [walkS, wl, rgets, retv, argsEnv, ev, cst, cst1, cstL, AEnv.get, AEnv.trim, envput, qstep, abin, aun, evs, evo, deref, qload, target, if_true, if_false, Nat.reduceEqDiff, reduceIte, Nat.reduceAdd, AV.cells, AV.isTuple, setMany, alen, aiaddr, afill, Nat.reduceLeDiff, Nat.reduceMul, Nat.reduceLT, afillE, List.replicate, Int.reduceBNe]
      have hl : (lens m ds (everyone m)).2 = false := (solvable_iff hg).1 hbad
      have e2 : apart m ds i j = (0, false, 41) := by simp only [apart, hv, hb', hl, if_true, Bool.false_eq_true, if_false, Int.toNat_natCast]
      rw [e2] at h
      have : e = 41 := by cases h; rfl
      rw [this]; exact out_clash0
    · have hl : (lens m ds (everyone m)).2 = true := by
        cases hl : (lens m ds (everyone m)).2 with
        | true => rfl
        | false => exact absurd ((solvable_iff hg).2 hl) hbad
      have hgr : grown m ds (fun x => decide (x = i)) = ((lens m ds (one i)).1, -1) := (lens_grown hg (solvable_one hg hl hi)).1
      rw [hgr] at o1 o2 o3
      have hl3 := AHeap.obj_lt o3
      simp only [walkS, wl, rgets, retv, argsEnv, ev, cst, cst1, cstL, AEnv.get, AEnv.trim, envput, qstep, abin, aun, evs, evo, deref, qload, target, if_true, if_false, Nat.reduceEqDiff, reduceIte, Nat.reduceAdd, AV.cells, AV.isTuple, setMany, alen, aiaddr, afill, Nat.reduceLeDiff, Nat.reduceMul, Nat.reduceLT, afillE, List.replicate]
      refine storeR rfl rfl AHeap.obj_push_eq rfl ⟨rfl, rfl, rfl, by simp⟩ fun H2 z1 z2 z3 => ?_
      simp only [AV.cells, setMany, List.set_cons_zero, List.set_cons_succ, Nat.zero_add, Nat.reduceAdd] at z2
      have z4 : ∀ q, q < H1.length → AHeap.obj H2 q = AHeap.obj H1 q := fun q hq => by rw [z3 q (by omega), AHeap.obj_push_lt hq]
      have p2 := (z4 h2 (by omega)).trans o2
      have hh' : (lens m ds (one i)).1.has j = false := by
        cases hh : (lens m ds (one i)).1.has j with
        | false => rfl
        | true =>
          have e2 : apart m ds i j = ((lens m ds (one i)).1.long j, true, 0) := by simp only [apart, hv, hb', hl, hh, if_true, Int.toNat_natCast]
          rw [e2] at h; simp at h
      have e2 : apart m ds i j = (0, false, 0) := by simp only [apart, hv, hb', hl, hh', if_true, Bool.false_eq_true, if_false, Int.toNat_natCast]
      rw [e2] at h
      have : e = 0 := by cases h; rfl
      simp only [walkS, wl, rgets, retv, argsEnv, ev, cst, cst1, cstL, AEnv.get, AEnv.trim, envput, qstep, abin, aun, evs, evo, deref, qload, target, if_true, if_false, Nat.reduceEqDiff, reduceIte, Nat.reduceAdd, AV.cells, AV.isTuple, setMany, alen, aiaddr, afill, Nat.reduceLeDiff, Nat.reduceMul, Nat.reduceLT, afillE, List.replicate, z2, Int.reduceBNe, p2, lb_get hj, bc_length, lb_length, if_pos (show (j : Int) < m by omega), hh']
      rw [this]; exact out_clash0
theorem Path_way {m : Nat} {ds : List Df} (h : Sol m ds) (hv : valid m ds = true) {i j q : Nat} (hi : i < m) (hj : j < m) (hh : (lens m ds (one i)).1.has j = true) (hc : Chain m ds (lens m ds (one i)).1 i j q) : PCall Try.prog 41 [.agg [I m, .ro false (rows ds)], I i, I j] (clashV (roundL ds (lens m ds (one i)).1 j q) true 0) := by
  have hg := h.good
  have hsm := hg.small
  have hdl := hg.len
  have hlt := hc.lt
  have v1 := (valid_iff.1 hv).1
  have n1 : (decide (0 ≤ (i : Int)) && decide ((i : Int) ≤ (m : Int) - 1)) = true := by simp; omega
  have n2 : (decide (0 ≤ (j : Int)) && decide ((j : Int) ≤ (m : Int) - 1)) = true := by simp; omega
  refine PCall.intro text41 (by simp) ?_
  unfold ir41
  simp only [walkS, wl, rgets, retv, argsEnv, ev, cst, cst1, cstL, AEnv.get, AEnv.trim, envput, qstep, abin, aun, evs, evo, deref, qload, target, if_true, if_false, Nat.reduceEqDiff, reduceIte, Nat.reduceAdd, AV.cells, AV.isTuple, setMany, alen, aiaddr, afill, Nat.reduceLeDiff, Nat.reduceMul, Nat.reduceLT, afillE, List.replicate]
  rw [wrap_id (by omega) (by omega)]
  refine dcall_pure (in_ok i 0 (m - 1)) (frzL_of (d := 4) rfl) ?_
  rw [n1]
  simp only [walkS, wl, rgets, retv, argsEnv, ev, cst, cst1, cstL, AEnv.get, AEnv.trim, envput, qstep, abin, aun, evs, evo, deref, qload, target, if_true, if_false, Nat.reduceEqDiff, reduceIte, Nat.reduceAdd, AV.cells, AV.isTuple, setMany, alen, aiaddr, afill, Nat.reduceLeDiff, Nat.reduceMul, Nat.reduceLT, afillE, List.replicate]
  rw [wrap_id (by omega) (by omega)]
  refine dcall_pure (in_ok j 0 (m - 1)) (frzL_of (d := 4) rfl) ?_
  rw [n2]
  simp only [walkS, wl, rgets, retv, argsEnv, ev, cst, cst1, cstL, AEnv.get, AEnv.trim, envput, qstep, abin, aun, evs, evo, deref, qload, target, if_true, if_false, Nat.reduceEqDiff, reduceIte, Nat.reduceAdd, AV.cells, AV.isTuple, setMany, alen, aiaddr, afill, Nat.reduceLeDiff, Nat.reduceMul, Nat.reduceLT, afillE, List.replicate]
  refine call_pure (asked_ok m ds [true, true] (by simp [big])) (frzL_of' (d := 4) (carL_cons car_netF (carL_cons (car_own (o := ⟨4, 1, [[.bool true], [.bool true]]⟩) rfl (bc_simple [true, true])) rfl))) ?_
  have e0 : asked m ds [true, true] = 0 := by simp [asked, hv]
  rw [e0]
  simp only [walkS, wl, rgets, retv, argsEnv, ev, cst, cst1, cstL, AEnv.get, AEnv.trim, envput, qstep, abin, aun, evs, evo, deref, qload, target, if_true, if_false, Nat.reduceEqDiff, reduceIte, Nat.reduceAdd, AV.cells, AV.isTuple, setMany, alen, aiaddr, afill, Nat.reduceLeDiff, Nat.reduceMul, Nat.reduceLT, afillE, List.replicate, Int.reduceBNe]
  refine (reach_at hg (b := false) hi).mono fun x H1 hx => ?_
  obtain ⟨⟨hlk, kp⟩, ⟨hbad, rfl⟩ | ⟨hbad, h1, h2, h3, rfl, g1, g2, g3, o1, o2, o3⟩⟩ := hx
  · rw [(lens_grown hg h.sol).1] at hbad; simp at hbad
  · have hgr : grown m ds (fun x => decide (x = i)) = ((lens m ds (one i)).1, -1) := (lens_grown hg (solvable_one hg h.sol hi)).1
    rw [hgr] at o1 o2 o3
    simp only at o1 o2 o3
    generalize (lens m ds (one i)).1 = s at hh hc o1 o2 o3 ⊢
    have hl3 := AHeap.obj_lt o3
    simp only [List.length_cons, List.length_nil] at hlk g1 kp
    have c0 : AHeap.obj H1 0 = some ⟨24, 2, [[I m, .ro false (rows ds)]]⟩ := by rw [kp 0 (by omega)]; rfl
    simp only [walkS, wl, rgets, retv, argsEnv, ev, cst, cst1, cstL, AEnv.get, AEnv.trim, envput, qstep, abin, aun, evs, evo, deref, qload, target, if_true, if_false, Nat.reduceEqDiff, reduceIte, Nat.reduceAdd, AV.cells, AV.isTuple, setMany, alen, aiaddr, afill, Nat.reduceLeDiff, Nat.reduceMul, Nat.reduceLT, afillE, List.replicate]
    refine storeR rfl rfl AHeap.obj_push_eq rfl ⟨rfl, rfl, rfl, by simp⟩ fun H2 z1 z2 z3 => ?_
    simp only [AV.cells, setMany, List.set_cons_zero, List.set_cons_succ, Nat.zero_add, Nat.reduceAdd] at z2
    have z4 : ∀ q, q < H1.length → AHeap.obj H2 q = AHeap.obj H1 q := fun q hq => by rw [z3 q (by omega), AHeap.obj_push_lt hq]
    have hL2 : H2.length = H1.length + 1 := by rw [z1]; simp
    have p0 := (z4 0 (by omega)).trans c0
    have p2 := (z4 h2 (by omega)).trans o2
    have p3 := (z4 h3 (by omega)).trans o3
    simp only [walkS, wl, rgets, retv, argsEnv, ev, cst, cst1, cstL, AEnv.get, AEnv.trim, envput, qstep, abin, aun, evs, evo, deref, qload, target, if_true, if_false, Nat.reduceEqDiff, reduceIte, Nat.reduceAdd, AV.cells, AV.isTuple, setMany, alen, aiaddr, afill, Nat.reduceLeDiff, Nat.reduceMul, Nat.reduceLT, afillE, List.replicate, z2, Int.reduceBNe, p2, lb_get hj, bc_length, lb_length, if_pos (show (j : Int) < m by omega), hh]
    have hnode : ∀ t, t ≤ q → itp ds s t j < m := fun t ht => by
      cases t with
      | zero => exact hc.node
      | succ t =>
        obtain ⟨k, d, _, p2, _, p4⟩ := hc.led t (by omega)
        rw [← p4]; exact hg.fit.fr d (List.mem_of_getElem? p2)
    refine awp_loop (σ := Nat × AV) (fun u => [(3, .ptr 0 1 0 0), (10, .ptr H1.length 1 0 0), (12, u.2), (13, I (itp ds s u.1 j))])
      (fun u H => AHeap.obj H 0 = some ⟨24, 2, [[I m, .ro false (rows ds)]]⟩ ∧ AHeap.obj H H1.length = some ⟨88, 3, [[.own h1 m 0 m, .own h2 m 0 m, .own h3 m 0 m]]⟩ ∧ AHeap.obj H h3 = some ⟨3, 1, ic (li m s.last)⟩ ∧ H2.length ≤ H.length ∧ (u.1 = 0 → u.2 = .nilSlice) ∧ Acc H2.length H u.2 3 1 (ic (li u.1 fun v => s.last (itp ds s v j))))
      (fun u => u.1 ≤ q) (fun u => q - u.1) (0, .nilSlice) (Nat.zero_le _) rfl ⟨p0, z2, p3, Nat.le_refl _, fun _ => rfl, .inl ⟨rfl, rfl⟩⟩ ?_
    rintro ⟨t, acc⟩ H ht ⟨w0, w1, w3, hlen, hnil, hacc⟩
    simp only at ht hacc hnil
    have hat := hnode t ht
    simp only [walkS, wl, rgets, retv, argsEnv, ev, cst, cst1, cstL, AEnv.get, AEnv.trim, envput, qstep, abin, aun, evs, evo, deref, qload, target, if_true, if_false, Nat.reduceEqDiff, reduceIte, Nat.reduceAdd, AV.cells, AV.isTuple, setMany, alen, aiaddr, afill, Nat.reduceLeDiff, Nat.reduceMul, Nat.reduceLT, afillE, List.replicate, w1, w3, li_get hat, ic_length, li_length, if_pos (show ((itp ds s t j : Nat) : Int) < m by omega)]
    by_cases htq : t = q
    · subst htq
      have hneg : ¬ s.last (itp ds s t j) ≥ 0 := by have := hc.stop; omega
      rw [decide_eq_false hneg]
      simp only [walkS, wl, rgets, retv, argsEnv, ev, cst, cst1, cstL, AEnv.get, AEnv.trim, envput, qstep, abin, aun, evs, evo, deref, qload, target, if_true, if_false, Nat.reduceEqDiff, reduceIte, Nat.reduceAdd, AV.cells, AV.isTuple, setMany, alen, aiaddr, afill, Nat.reduceLeDiff, Nat.reduceMul, Nat.reduceLT, afillE, List.replicate]
      rcases Nat.eq_zero_or_pos t with e | e
      · subst e
        obtain rfl := hnil rfl
        refine Reverse_nil.mono fun x H3 hx => ?_
        simp only [walkS, wl, rgets, retv, argsEnv, ev, cst, cst1, cstL, AEnv.get, AEnv.trim, envput, qstep, abin, aun, evs, evo, deref, qload, target, if_true, if_false, Nat.reduceEqDiff, reduceIte, Nat.reduceAdd, AV.cells, AV.isTuple, setMany, alen, aiaddr, afill, Nat.reduceLeDiff, Nat.reduceMul, Nat.reduceLT, afillE, List.replicate]
        exact out_clash0
      · obtain ⟨r, r1, rfl, r3⟩ := hacc.resolve_left (by intro h; have := congrArg List.length h.1; rw [ic_length, li_length] at this; simp at this; omega)
        simp only [ic_length, li_length]
        refine (Reverse_at (n := t) (f := fun u => s.last (itp ds s u j)) (by omega) r3).mono fun x H3 hx => ?_
        obtain ⟨_, hx2, _⟩ := hx
        simp only [walkS, wl, rgets, retv, argsEnv, ev, cst, cst1, cstL, AEnv.get, AEnv.trim, envput, qstep, abin, aun, evs, evo, deref, qload, target, if_true, if_false, Nat.reduceEqDiff, reduceIte, Nat.reduceAdd, AV.cells, AV.isTuple, setMany, alen, aiaddr, afill, Nat.reduceLeDiff, Nat.reduceMul, Nat.reduceLT, afillE, List.replicate]
        exact out_tuple (.cons (out_of (d := 2) (car_ownN hx2 (by rw [ic_length]; exact li_length) (ic_simple _))) (.cons out_bool (.cons out_int .nil)))
    · obtain ⟨k, d, q1, q2, q3, q4⟩ := hc.led t (by omega)
      have hk : k < ds.length := (List.getElem?_eq_some_iff.1 q2).1
      have hdk : (rows ds)[k]? = some [I d.1, I d.2.1, I d.2.2] := by simp [rows, q2, dc]
      have hfr : ((fr d : Nat) : Int) = d.1 := Int.toNat_of_nonneg (hg.fit.ge1 d (List.mem_of_getElem? q2))
      have hge : s.last (itp ds s t j) ≥ 0 := by omega
      rw [decide_eq_true hge]
      simp only [walkS, wl, rgets, retv, argsEnv, ev, cst, cst1, cstL, AEnv.get, AEnv.trim, envput, qstep, abin, aun, evs, evo, deref, qload, target, if_true, if_false, Nat.reduceEqDiff, reduceIte, Nat.reduceAdd, AV.cells, AV.isTuple, setMany, alen, aiaddr, afill, Nat.reduceLeDiff, Nat.reduceMul, Nat.reduceLT, afillE, List.replicate, w1, w3, li_get hat, ic_length, li_length, if_pos (show ((itp ds s t j : Nat) : Int) < m by omega), q1]
      refine acc_append (lo := H2.length) (by simp; omega) (hacc.push _) rfl rfl AHeap.obj_push_eq (by simp [ic_length, li_length]; omega) fun a' H' hl' hacc' hkeep => ?_
      simp only [List.length_append, List.length_cons, List.length_nil] at hl'
      have e : ∀ i, i < H2.length → AHeap.obj H' i = AHeap.obj H i := fun i hi => by rw [hkeep i hi, AHeap.obj_push_lt (by omega)]
      have w0' := (e 0 (by omega)).trans w0
      have w1' := (e H1.length (by omega)).trans w1
      have w3' := (e h3 (by omega)).trans w3
      rw [← q1] at hacc'
      rw [li_snoc (f := fun u => s.last (itp ds s u j))] at hacc'
      simp only [walkS, wl, rgets, retv, argsEnv, ev, cst, cst1, cstL, AEnv.get, AEnv.trim, envput, qstep, abin, aun, evs, evo, deref, qload, target, if_true, if_false, Nat.reduceEqDiff, reduceIte, Nat.reduceAdd, AV.cells, AV.isTuple, setMany, alen, aiaddr, afill, Nat.reduceLeDiff, Nat.reduceMul, Nat.reduceLT, afillE, List.replicate, w0', w1', w3', li_get hat, ic_length, li_length, if_pos (show ((itp ds s t j : Nat) : Int) < m by omega), q1, rows_length, hdk, if_pos (show (k : Int) < ds.length by omega)]
      rw [← hfr, q4]
      exact loop_end (t + 1, a') (by simp only; omega) (by simp only; omega) rfl ⟨w0', w1', w3', by omega, fun h => by simp at h, hacc'⟩
end Go.Proofs.Ytepnijjgdhldeaa
