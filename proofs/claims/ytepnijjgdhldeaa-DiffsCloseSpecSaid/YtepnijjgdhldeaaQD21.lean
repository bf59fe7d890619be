/- Close of the specification: what it hands back. -/
import Derived.Test.YtepnijjgdhldeaaQD20
namespace Go.Proofs.Ytepnijjgdhldeaa
open Go.Awp
set_option linter.unusedSimpArgs false
set_option linter.unusedVariables false
set_option maxRecDepth 10000
set_option maxHeartbeats 8000000
abbrev Two := (AV × Option Nat) × (AV × Option Nat)
structure CF (m : Nat) (ds : List Df) (c : Nat) (w : Two) (H : AHeap) : Prop where
  o0 : AHeap.obj H 0 = some ⟨24, 2, [[I m, .ro false (rows ds)]]⟩
  o1 : AHeap.obj H 1 = some ⟨73, 3, [[I 0, .nilSlice, .nilSlice]]⟩
  o2 : AHeap.obj H 2 = some ⟨73, 3, [[I m, w.1.1, w.2.1]]⟩
  a1 : AccS H w.1.1 3 1 (ic (li c (cellOf m ds))) w.1.2
  a2 : AccS H w.2.1 4 1 (bc (lb c (hasOf m ds))) w.2.2
structure CI (w : Two) : Prop where
  z1 : ∀ h, w.1.2 = some h → 3 ≤ h
  z2 : ∀ h, w.2.2 = some h → 3 ≤ h
  zd : ∀ h, w.1.2 = some h → w.2.2 ≠ some h
theorem AccS.lt {H : AHeap} {a : AV} {e s : Nat} {els : List (List AV)} {ho : Option Nat} (h : AccS H a e s els ho) : ∀ q, ho = some q → q < H.length := fun q hq => by
  rcases h with ⟨e, _⟩ | ⟨c, e, _, e3⟩
  · rw [e] at hq; cases hq
  · rw [e] at hq; cases hq; exact AHeap.obj_lt e3
theorem refClose_ok {n : Int} {ds : List Df} (hs : valid n ds = true → n ≤ 16 ∨ n > 64) : PCall Try.prog 64 [.agg [I n, .ro false (rows ds)]] (.tuple [tabV true (closeV n ds).1 (closeV n ds).2.1 (closeV n ds).2.2.1, I (closeV n ds).2.2.2]) := by
  refine PCall.intro text64 (by simp) ?_
  unfold ir64
  simp only [walkS, wl, rgets, retv, argsEnv, ev, cst, cst1, cstL, AEnv.get, AEnv.trim, envput, qstep, abin, aun, evs, evo, deref, qload, target, if_true, if_false, Nat.reduceEqDiff, reduceIte, Nat.reduceAdd, AV.cells, AV.isTuple, setMany, alen, aiaddr, afill, Nat.reduceLeDiff, Nat.reduceMul, Nat.reduceLT, afillE, List.replicate]
  refine call_pure (refCheck_ok n ds) (frzL_of' (d := 4) (carL_cons car_netF rfl)) ?_
  simp only [walkS, wl, rgets, retv, argsEnv, ev, cst, cst1, cstL, AEnv.get, AEnv.trim, envput, qstep, abin, aun, evs, evo, deref, qload, target, if_true, if_false, Nat.reduceEqDiff, reduceIte, Nat.reduceAdd, AV.cells, AV.isTuple, setMany, alen, aiaddr, afill, Nat.reduceLeDiff, Nat.reduceMul, Nat.reduceLT, afillE, List.replicate]
  cases hv : valid n ds with
  | false =>
    have e1 : check n ds = 40 := by simp [check, hv]
    have e2 : closeV n ds = (0, [], [], 40) := by simp [closeV, hv]
    rw [e1, e2]
    simp only [walkS, wl, rgets, retv, argsEnv, ev, cst, cst1, cstL, AEnv.get, AEnv.trim, envput, qstep, abin, aun, evs, evo, deref, qload, target, if_true, if_false, Nat.reduceEqDiff, reduceIte, Nat.reduceAdd, AV.cells, AV.isTuple, setMany, alen, aiaddr, afill, Nat.reduceLeDiff, Nat.reduceMul, Nat.reduceLT, afillE, List.replicate, Int.reduceBNe, sstep_store]
    exact out_tab0
  | true =>
    have e1 : check n ds = 0 := by simp [check, hv]
    rw [e1]
    simp only [walkS, wl, rgets, retv, argsEnv, ev, cst, cst1, cstL, AEnv.get, AEnv.trim, envput, qstep, abin, aun, evs, evo, deref, qload, target, if_true, if_false, Nat.reduceEqDiff, reduceIte, Nat.reduceAdd, AV.cells, AV.isTuple, setMany, alen, aiaddr, afill, Nat.reduceLeDiff, Nat.reduceMul, Nat.reduceLT, afillE, List.replicate, Int.reduceBNe]
    by_cases h64 : n > 64
    · have e2 : closeV n ds = (0, [], [], 2) := by simp only [closeV, hv, if_true, if_pos h64]
      rw [e2]
      simp only [walkS, wl, rgets, retv, argsEnv, ev, cst, cst1, cstL, AEnv.get, AEnv.trim, envput, qstep, abin, aun, evs, evo, deref, qload, target, if_true, if_false, Nat.reduceEqDiff, reduceIte, Nat.reduceAdd, AV.cells, AV.isTuple, setMany, alen, aiaddr, afill, Nat.reduceLeDiff, Nat.reduceMul, Nat.reduceLT, afillE, List.replicate, decide_eq_true h64, sstep_store]
      exact out_tab0
    · obtain ⟨m, rfl, hg, hm⟩ := good_of hv (by rcases hs hv with h | h <;> omega)
      have hn1 := hg.pos
      simp only [walkS, wl, rgets, retv, argsEnv, ev, cst, cst1, cstL, AEnv.get, AEnv.trim, envput, qstep, abin, aun, evs, evo, deref, qload, target, if_true, if_false, Nat.reduceEqDiff, reduceIte, Nat.reduceAdd, AV.cells, AV.isTuple, setMany, alen, aiaddr, afill, Nat.reduceLeDiff, Nat.reduceMul, Nat.reduceLT, afillE, List.replicate, decide_eq_false h64]
      refine call_pure (Solvable_ok hg) (frzL_of' (d := 4) (carL_cons car_netF rfl)) ?_
      cases hl : (lens m ds (everyone m)).2 with
      | false =>
        have e2 : closeV m ds = (0, [], [], 41) := by simp only [closeV, hv, if_true, if_neg h64, Int.toNat_natCast, hl, Bool.false_eq_true, if_false]
        rw [e2]
        simp only [walkS, wl, rgets, retv, argsEnv, ev, cst, cst1, cstL, AEnv.get, AEnv.trim, envput, qstep, abin, aun, evs, evo, deref, qload, target, if_true, if_false, Nat.reduceEqDiff, reduceIte, Nat.reduceAdd, AV.cells, AV.isTuple, setMany, alen, aiaddr, afill, Nat.reduceLeDiff, Nat.reduceMul, Nat.reduceLT, afillE, List.replicate, sstep_store]
        exact out_tab0
      | true =>
        have e2 : closeV m ds = ((m : Int), li (m * m) (cellOf m ds), lb (m * m) (hasOf m ds), 0) := by simp only [closeV, hv, if_true, if_neg h64, Int.toNat_natCast, hl]
        rw [e2]
        simp only [walkS, wl, rgets, retv, argsEnv, ev, cst, cst1, cstL, AEnv.get, AEnv.trim, envput, qstep, abin, aun, evs, evo, deref, qload, target, if_true, if_false, Nat.reduceEqDiff, reduceIte, Nat.reduceAdd, AV.cells, AV.isTuple, setMany, alen, aiaddr, afill, Nat.reduceLeDiff, Nat.reduceMul, Nat.reduceLT, afillE, List.replicate, sstep_store]
        refine awp_loop (σ := Nat × Two) (fun s => [(1, .ptr 0 1 0 0), (2, .ptr 1 1 0 0), (4, .ptr 2 1 0 0), (5, I s.1)]) (fun s H => CF m ds (s.1 * m) s.2 H) (fun s => s.1 ≤ m ∧ CI s.2) (fun s => m - s.1) (0, (.nilSlice, none), (.nilSlice, none)) ⟨Nat.zero_le _, by simp, by simp, by simp⟩ rfl
          ⟨rfl, rfl, rfl, .inl ⟨rfl, by simp [li, ic], rfl⟩, .inl ⟨rfl, by simp [lb, bc], rfl⟩⟩ ?_
        rintro ⟨i, w⟩ H ⟨hi, ci⟩ cf
        simp only at hi ci cf
        simp only [walkS, wl, rgets, retv, argsEnv, ev, cst, cst1, cstL, AEnv.get, AEnv.trim, envput, qstep, abin, aun, evs, evo, deref, qload, target, if_true, if_false, Nat.reduceEqDiff, reduceIte, Nat.reduceAdd, AV.cells, AV.isTuple, setMany, alen, aiaddr, afill, Nat.reduceLeDiff, Nat.reduceMul, Nat.reduceLT, afillE, List.replicate, cf.o0]
        refine withBool_intro ?_ ?_ <;> intro hb2 <;> simp only [walkS, wl, rgets, retv, argsEnv, ev, cst, cst1, cstL, AEnv.get, AEnv.trim, envput, qstep, abin, aun, evs, evo, deref, qload, target, if_true, if_false, Nat.reduceEqDiff, reduceIte, Nat.reduceAdd, AV.cells, AV.isTuple, setMany, alen, aiaddr, afill, Nat.reduceLeDiff, Nat.reduceMul, Nat.reduceLT, afillE, List.replicate, cf.o0]
        · have hlt : i < m := by simpa using hb2
          refine dcall_pure (marks_ok (ds := ds) (all := false) (one := i) (by omega)) (frzL_of (d := 4) (carL_cons car_netF rfl)) ?_
          rw [lb_one]
          simp only [walkS, wl, rgets, retv, argsEnv, ev, cst, cst1, cstL, AEnv.get, AEnv.trim, envput, qstep, abin, aun, evs, evo, deref, qload, target, if_true, if_false, Nat.reduceEqDiff, reduceIte, Nat.reduceAdd, AV.cells, AV.isTuple, setMany, alen, aiaddr, afill, Nat.reduceLeDiff, Nat.reduceMul, Nat.reduceLT, afillE, List.replicate, cf.o0]
          refine dcall_pure (Lengths_ok hg (S := one i) (b := false)) (frzL_of (d := 4) (carL_cons car_netF (carL_cons (car_ro_false (bc_simple _)) rfl))) ?_
          rw [show lenR ds (startL (one i)) (m + 1) 0 = lens m ds (one i) from rfl]
          simp only [walkS, wl, rgets, retv, argsEnv, ev, cst, cst1, cstL, AEnv.get, AEnv.trim, envput, qstep, abin, aun, evs, evo, deref, qload, target, if_true, if_false, Nat.reduceEqDiff, reduceIte, Nat.reduceAdd, AV.cells, AV.isTuple, setMany, alen, aiaddr, afill, Nat.reduceLeDiff, Nat.reduceMul, Nat.reduceLT, afillE, List.replicate]
          refine awp_loop (σ := Nat × Two) (fun s => [(1, .ptr 0 1 0 0), (2, .ptr 1 1 0 0), (4, .ptr 2 1 0 0), (5, I i), (6, .ro true (ic (li m (lens m ds (one i)).1.long))), (7, .ro true (bc (lb m (lens m ds (one i)).1.has))), (9, I s.1)]) (fun s H => CF m ds (i * m + s.1) s.2 H) (fun s => s.1 ≤ m ∧ CI s.2) (fun s => m - s.1) (0, w) ⟨Nat.zero_le _, ci⟩ rfl cf ?_
          clear cf ci H w hb2
          rintro ⟨j, ⟨a1, p1⟩, a2, p2⟩ H ⟨hj, ci⟩ cf
          simp only at hj
          obtain ⟨z1, z2, zd⟩ := ci
          obtain ⟨o0, o1, o2, acc1, acc2⟩ := cf
          simp only at z1 z2 zd o2 acc1 acc2
          simp only [walkS, wl, rgets, retv, argsEnv, ev, cst, cst1, cstL, AEnv.get, AEnv.trim, envput, qstep, abin, aun, evs, evo, deref, qload, target, if_true, if_false, Nat.reduceEqDiff, reduceIte, Nat.reduceAdd, AV.cells, AV.isTuple, setMany, alen, aiaddr, afill, Nat.reduceLeDiff, Nat.reduceMul, Nat.reduceLT, afillE, List.replicate, o0]
          refine withBool_intro ?_ ?_ <;> intro hb3 <;> simp only [walkS, wl, rgets, retv, argsEnv, ev, cst, cst1, cstL, AEnv.get, AEnv.trim, envput, qstep, abin, aun, evs, evo, deref, qload, target, if_true, if_false, Nat.reduceEqDiff, reduceIte, Nat.reduceAdd, AV.cells, AV.isTuple, setMany, alen, aiaddr, afill, Nat.reduceLeDiff, Nat.reduceMul, Nat.reduceLT, afillE, List.replicate, o0]
          · have hjm : j < m := by simpa using hb3
            have hc1 : cellOf m ds (i * m + j) = (lens m ds (one i)).1.long j := by simp only [cellOf, (divmod hjm).1, (divmod hjm).2]
            have hc2 : hasOf m ds (i * m + j) = (lens m ds (one i)).1.has j := by simp only [hasOf, (divmod hjm).1, (divmod hjm).2]
            have him : i * m ≤ 20 * 20 := Nat.mul_le_mul (by omega) hg.small
            have l2 := AHeap.obj_lt o2
            simp only [walkS, wl, rgets, retv, argsEnv, ev, cst, cst1, cstL, AEnv.get, AEnv.trim, envput, qstep, abin, aun, evs, evo, deref, qload, target, if_true, if_false, Nat.reduceEqDiff, reduceIte, Nat.reduceAdd, AV.cells, AV.isTuple, setMany, alen, aiaddr, afill, Nat.reduceLeDiff, Nat.reduceMul, Nat.reduceLT, afillE, List.replicate, o2, li_get hjm, ic_length, li_length, ← hc1]
            refine accS_append (acc1.keep fun q _ hq => AHeap.obj_push_lt hq) rfl rfl AHeap.obj_push_eq (by simp only [ic_length, li_length]; omega) fun r1 H3 m1 e1 c1 k1 => ?_
            simp only [List.length_append, List.length_cons, List.length_nil] at m1 c1 k1
            have hr1 : 3 ≤ r1 ∧ ∀ h, p2 = some h → h ≠ r1 := by
              rcases c1 with c | ⟨c, c'⟩
              · exact ⟨z1 r1 c, fun h hh e => zd r1 c (by rw [← e]; exact hh)⟩
              · exact ⟨by omega, fun h hh e => by have := acc2.lt h hh; omega⟩
            have kk : ∀ q, q < H.length → q ≠ r1 → AHeap.obj H3 q = AHeap.obj H q := fun q hq hne => by rw [k1 q (by omega) hne, AHeap.obj_push_lt hq]
            have o0a := (kk 0 (by omega) (by omega)).trans o0
            have o1a := (kk 1 (by omega) (by omega)).trans o1
            have o2a := (kk 2 (by omega) (by omega)).trans o2
            have acc2a : AccS H3 a2 4 1 (bc (lb (i * m + j) (hasOf m ds))) p2 := acc2.keep fun q hq hql => kk q hql (hr1.2 q hq)
            have lr1 := AHeap.obj_lt e1
            rw [li_snoc] at e1
            simp only [walkS, wl, rgets, retv, argsEnv, ev, cst, cst1, cstL, AEnv.get, AEnv.trim, envput, qstep, abin, aun, evs, evo, deref, qload, target, if_true, if_false, Nat.reduceEqDiff, reduceIte, Nat.reduceAdd, AV.cells, AV.isTuple, setMany, alen, aiaddr, afill, Nat.reduceLeDiff, Nat.reduceMul, Nat.reduceLT, afillE, List.replicate]
            refine storeR rfl rfl o2a rfl ⟨rfl, rfl, rfl, by simp⟩ fun H4 b1 b2 b3 => ?_
            simp only [AV.cells, setMany, List.set_cons_zero, List.set_cons_succ, Nat.zero_add, Nat.reduceAdd] at b2
            have acc2b : AccS H4 a2 4 1 (bc (lb (i * m + j) (hasOf m ds))) p2 := acc2a.keep fun q hq _ => b3 q (by have := z2 q hq; omega)
            simp only [walkS, wl, rgets, retv, argsEnv, ev, cst, cst1, cstL, AEnv.get, AEnv.trim, envput, qstep, abin, aun, evs, evo, deref, qload, target, if_true, if_false, Nat.reduceEqDiff, reduceIte, Nat.reduceAdd, AV.cells, AV.isTuple, setMany, alen, aiaddr, afill, Nat.reduceLeDiff, Nat.reduceMul, Nat.reduceLT, afillE, List.replicate, b2, lb_get hjm, bc_length, lb_length, ← hc2]
            refine accS_append (acc2b.keep fun q _ hq => AHeap.obj_push_lt hq) rfl rfl AHeap.obj_push_eq (by simp only [bc_length, lb_length]; omega) fun r2 H5 m2 e2 c2 k2 => ?_
            simp only [List.length_append, List.length_cons, List.length_nil] at m2 c2 k2
            have hr2 : 3 ≤ r2 ∧ r2 ≠ r1 := by
              rcases c2 with c | ⟨c, c'⟩
              · exact ⟨z2 r2 c, hr1.2 r2 c⟩
              · exact ⟨by omega, by omega⟩
            have kk2 : ∀ q, q < H4.length → q ≠ r2 → AHeap.obj H5 q = AHeap.obj H4 q := fun q hq hne => by rw [k2 q (by omega) hne, AHeap.obj_push_lt hq]
            rw [lb_snoc] at e2
            have o2b := (kk2 2 (by omega) (by omega)).trans b2
            simp only [walkS, wl, rgets, retv, argsEnv, ev, cst, cst1, cstL, AEnv.get, AEnv.trim, envput, qstep, abin, aun, evs, evo, deref, qload, target, if_true, if_false, Nat.reduceEqDiff, reduceIte, Nat.reduceAdd, AV.cells, AV.isTuple, setMany, alen, aiaddr, afill, Nat.reduceLeDiff, Nat.reduceMul, Nat.reduceLT, afillE, List.replicate]
            refine storeR rfl rfl o2b rfl ⟨rfl, rfl, rfl, by simp⟩ fun H6 d1 d2 d3 => ?_
            simp only [AV.cells, setMany, List.set_cons_zero, List.set_cons_succ, Nat.zero_add, Nat.reduceAdd] at d2
            simp only [walkS, wl, rgets, retv, argsEnv, ev, cst, cst1, cstL, AEnv.get, AEnv.trim, envput, qstep, abin, aun, evs, evo, deref, qload, target, if_true, if_false, Nat.reduceEqDiff, reduceIte, Nat.reduceAdd, AV.cells, AV.isTuple, setMany, alen, aiaddr, afill, Nat.reduceLeDiff, Nat.reduceMul, Nat.reduceLT, afillE, List.replicate]
            rw [wrap_id (by omega) (by omega)]
            refine loop_end (j + 1, (_, some r1), (_, some r2)) ⟨hjm, ⟨by intro h hh; cases hh; exact hr1.1, by intro h hh; cases hh; exact hr2.1, by intro h hh e; cases hh; cases e; exact hr2.2 rfl⟩⟩ (by simp only; omega) rfl
              ⟨?_, ?_, d2, .inr ⟨r1, rfl, ?_, ?_⟩, .inr ⟨r2, rfl, ?_, ?_⟩⟩
            · rw [d3 0 (by omega), kk2 0 (by omega) (by omega), b3 0 (by omega)]; exact o0a
            · rw [d3 1 (by omega), kk2 1 (by omega) (by omega), b3 1 (by omega)]; exact o1a
            · simp only [ic_length, li_length, Nat.add_assoc]
            · rw [d3 r1 (by omega), kk2 r1 (by omega) (Ne.symm hr2.2), b3 r1 (by omega), e1]; rfl
            · simp only [bc_length, lb_length, Nat.add_assoc]
            · rw [d3 r2 (by omega), e2]; rfl
          · have hjm : j = m := by simp at hb3; omega
            subst hjm
            rw [wrap_id (by omega) (by omega)]
            refine loop_end (i + 1, (a1, p1), a2, p2) ⟨hlt, ⟨z1, z2, zd⟩⟩ (by simp only; omega) rfl ?_
            have e : (i + 1) * j = i * j + j := Nat.succ_mul ..
            simp only [e]
            exact ⟨o0, o1, o2, acc1, acc2⟩
        · have hk' : i = m := by simp at hb2; omega
          subst hk'
          obtain ⟨⟨a1, p1⟩, a2, p2⟩ := w
          obtain ⟨z1, z2, zd⟩ := ci
          obtain ⟨o0, o1, o2, acc1, acc2⟩ := cf
          simp only at z1 z2 zd o2 acc1 acc2
          have hpp : 0 < i * i := Nat.mul_pos hn1 hn1
          obtain ⟨h1, rfl, rfl, w1⟩ := acc1.resolve_left (by intro h; have := congrArg List.length h.2.1; rw [ic_length, li_length] at this; simp only [List.length_nil] at this; omega)
          obtain ⟨h2, rfl, rfl, w2⟩ := acc2.resolve_left (by intro h; have := congrArg List.length h.2.1; rw [bc_length, lb_length] at this; simp only [List.length_nil] at this; omega)
          have g1 := z1 h1 rfl
          have g2 := z2 h2 rfl
          simp only [walkS, wl, rgets, retv, argsEnv, ev, cst, cst1, cstL, AEnv.get, AEnv.trim, envput, qstep, abin, aun, evs, evo, deref, qload, target, if_true, if_false, Nat.reduceEqDiff, reduceIte, Nat.reduceAdd, AV.cells, AV.isTuple, setMany, alen, aiaddr, afill, Nat.reduceLeDiff, Nat.reduceMul, Nat.reduceLT, afillE, List.replicate, o2]
          refine storeR rfl rfl o1 rfl ⟨rfl, rfl, rfl, by simp⟩ fun H2 y1 y2 y3 => ?_
          simp only [AV.cells, setMany, List.set_cons_zero, List.set_cons_succ, Nat.zero_add, Nat.reduceAdd] at y2
          simp only [walkS, wl, rgets, retv, argsEnv, ev, cst, cst1, cstL, AEnv.get, AEnv.trim, envput, qstep, abin, aun, evs, evo, deref, qload, target, if_true, if_false, Nat.reduceEqDiff, reduceIte, Nat.reduceAdd, AV.cells, AV.isTuple, setMany, alen, aiaddr, afill, Nat.reduceLeDiff, Nat.reduceMul, Nat.reduceLT, afillE, List.replicate, y2]
          exact out_two (out_agg3 out_int (out_of (d := 2) (car_ownN ((y3 h1 (by omega)).trans w1) rfl (ic_simple _))) (out_of (d := 2) (car_ownN ((y3 h2 (by omega)).trans w2) rfl (bc_simple _))) rfl rfl rfl) out_int
end Go.Proofs.Ytepnijjgdhldeaa
