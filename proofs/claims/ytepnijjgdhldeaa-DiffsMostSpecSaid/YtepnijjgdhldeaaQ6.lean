/- Lengths of the specification: what it hands back. -/
import Derived.Test.YtepnijjgdhldeaaQ5
namespace Go.Proofs.Ytepnijjgdhldeaa
open Go.Awp
set_option linter.unusedSimpArgs false
set_option linter.unusedVariables false
set_option maxRecDepth 10000
structure LF (h1 h2 n : Nat) (m : Int) (ds : List Df) (s : Gs) (H : AHeap) : Prop where
  o0 : AHeap.obj H 0 = some ⟨24, 2, [[I m, .ro false (rows ds)]]⟩
  o1 : AHeap.obj H h1 = some ⟨3, 1, ic (li n s.long)⟩
  o2 : AHeap.obj H h2 = some ⟨4, 1, bc (lb n s.has)⟩
theorem LF.other {h1 h2 n : Nat} {m : Int} {ds : List Df} {s : Gs} {H H1 : AHeap} (h : LF h1 h2 n m ds s H) (hk : ∀ q, q < H.length → AHeap.obj H1 q = AHeap.obj H q) : LF h1 h2 n m ds s H1 :=
  ⟨by rw [hk _ (AHeap.obj_lt h.o0)]; exact h.o0, by rw [hk _ (AHeap.obj_lt h.o1)]; exact h.o1, by rw [hk _ (AHeap.obj_lt h.o2)]; exact h.o2⟩
theorem lenR_step {ds : List Df} {s : Gs} {f r : Nat} : lenR ds s (f + 1) r = if chg ds s r < 0 then (iter ds s (r + 1), true) else lenR ds s f (r + 1) := rfl
theorem Lengths_ok {n : Nat} {ds : List Df} (hg : Good n ds) {S : Nat → Bool} {b : Bool} : PCall Try.prog 71 [.agg [I n, .ro false (rows ds)], .ro b (bc (lb n S))]
    (.tuple [.ro true (ic (li n (lenR ds (startL S) (n + 1) 0).1.long)), .ro true (bc (lb n (lenR ds (startL S) (n + 1) 0).1.has)), .bool (lenR ds (startL S) (n + 1) 0).2]) := by
  have hn1 := hg.pos
  have hn2 := hg.small
  have hdl := hg.len
  refine PCall.intro text71 (by simp) ?_
  unfold ir71
  simp only [walkS, wl, rgets, retv, argsEnv, ev, cst, cst1, cstL, AEnv.get, AEnv.trim, envput, qstep, abin, aun, evs, evo, deref, qload, target, if_true, if_false, Nat.reduceEqDiff, reduceIte, Nat.reduceAdd, AV.cells, AV.isTuple, setMany, alen, aiaddr, afill, Nat.reduceLeDiff, Nat.reduceMul, Nat.reduceLT, afillE, List.replicate]
  refine awp_loop (σ := Nat × (AV × Option Nat) × (AV × Option Nat)) (fun s => [(1, .ro b (bc (lb n S))), (2, .ptr 0 1 0 0), (4, s.2.1.1), (5, s.2.2.1), (7, I s.1)])
    (fun s H => AHeap.obj H 0 = some ⟨24, 2, [[I n, .ro false (rows ds)]]⟩ ∧ AccS H s.2.1.1 3 1 (ic (li s.1 fun _ => 0)) s.2.1.2 ∧ AccS H s.2.2.1 4 1 (bc (lb s.1 S)) s.2.2.2)
    (fun s => s.1 ≤ n ∧ s.2.1.2 ≠ some 0 ∧ s.2.2.2 ≠ some 0 ∧ ∀ h, s.2.1.2 = some h → s.2.2.2 ≠ some h) (fun s => n - s.1) (0, (.nilSlice, none), (.nilSlice, none)) ⟨Nat.zero_le _, by simp, by simp, by simp⟩ rfl ⟨rfl, .inl ⟨rfl, rfl, rfl⟩, .inl ⟨rfl, rfl, rfl⟩⟩ ?_
  rintro ⟨k, ⟨a1, p1⟩, a2, p2⟩ H ⟨hk, z1, z2, zd⟩ ⟨o0, acc1, acc2⟩
  simp only at hk z1 z2 zd acc1 acc2
  simp only [walkS, wl, rgets, retv, argsEnv, ev, cst, cst1, cstL, AEnv.get, AEnv.trim, envput, qstep, abin, aun, evs, evo, deref, qload, target, if_true, if_false, Nat.reduceEqDiff, reduceIte, Nat.reduceAdd, AV.cells, AV.isTuple, setMany, alen, aiaddr, afill, Nat.reduceLeDiff, Nat.reduceMul, Nat.reduceLT, afillE, List.replicate, o0]
  refine withBool_intro ?_ ?_ <;> intro hb <;> simp only [walkS, wl, rgets, retv, argsEnv, ev, cst, cst1, cstL, AEnv.get, AEnv.trim, envput, qstep, abin, aun, evs, evo, deref, qload, target, if_true, if_false, Nat.reduceEqDiff, reduceIte, Nat.reduceAdd, AV.cells, AV.isTuple, setMany, alen, aiaddr, afill, Nat.reduceLeDiff, Nat.reduceMul, Nat.reduceLT, afillE, List.replicate]
  · have hlt : k < n := by simpa using hb
    have h0 := AHeap.obj_lt o0
    refine accS_append (acc1.keep fun i _ hi => AHeap.obj_push_lt hi) rfl rfl AHeap.obj_push_eq (by simp [ic_length, li_length]; omega) fun q1 H1 l1 e1 w1 kp1 => ?_
    simp only [List.length_append, List.length_cons, List.length_nil] at l1 w1 kp1
    have hq1 : q1 ≠ 0 := by
      intro e; subst e
      rcases w1 with w1 | ⟨_, w1⟩
      · exact z1 w1
      · omega
    have hd1 : ∀ i, p2 = some i → i < H.length → i ≠ q1 := by
      intro i hi hil e; subst e
      rcases w1 with w1 | ⟨_, w1⟩
      · exact zd i w1 hi
      · omega
    have keep1 : ∀ i, i < H.length → i ≠ q1 → AHeap.obj H1 i = AHeap.obj H i := fun i hi hne => by rw [kp1 i (by omega) hne, AHeap.obj_push_lt hi]
    have acc2' : AccS H1 a2 4 1 (bc (lb k S)) p2 := acc2.keep fun i hi hil => keep1 i hil (hd1 i hi hil)
    have o0' : AHeap.obj H1 0 = some ⟨24, 2, [[I n, .ro false (rows ds)]]⟩ := by rw [keep1 0 h0 (Ne.symm hq1)]; exact o0
    have hq1l := AHeap.obj_lt e1
    simp only [walkS, wl, rgets, retv, argsEnv, ev, cst, cst1, cstL, AEnv.get, AEnv.trim, envput, qstep, abin, aun, evs, evo, deref, qload, target, if_true, if_false, Nat.reduceEqDiff, reduceIte, Nat.reduceAdd, AV.cells, AV.isTuple, setMany, alen, aiaddr, afill, Nat.reduceLeDiff, Nat.reduceMul, Nat.reduceLT, afillE, List.replicate, lb_get hlt, bc_length, lb_length, if_pos (show (k : Int) < n by omega)]
    refine accS_append (acc2'.keep fun i _ hi => AHeap.obj_push_lt hi) rfl rfl AHeap.obj_push_eq (by simp [bc_length, lb_length]; omega) fun q2 H2 l2 e2 w2 kp2 => ?_
    simp only [List.length_append, List.length_cons, List.length_nil] at l2 w2 kp2
    have hq2 : q2 ≠ 0 ∧ q2 ≠ q1 := by
      rcases w2 with w2 | ⟨_, w2⟩
      · refine ⟨fun e => z2 (by rw [w2, e]), fun e => ?_⟩
        subst e
        rcases acc2 with ⟨c, _⟩ | ⟨c, c1, c2, c3⟩
        · rw [c] at w2; cases w2
        · rw [c1] at w2; cases w2
          exact hd1 _ c1 (AHeap.obj_lt c3) rfl
      · exact ⟨by omega, by omega⟩
    simp only [walkS, wl, rgets, retv, argsEnv, ev, cst, cst1, cstL, AEnv.get, AEnv.trim, envput, qstep, abin, aun, evs, evo, deref, qload, target, if_true, if_false, Nat.reduceEqDiff, reduceIte, Nat.reduceAdd, AV.cells, AV.isTuple, setMany, alen, aiaddr, afill, Nat.reduceLeDiff, Nat.reduceMul, Nat.reduceLT, afillE, List.replicate]
    rw [wrap_id (by omega) (by omega)]
    refine loop_end (k + 1, (_, some q1), (_, some q2)) ⟨hlt, by simp only; simpa using hq1, by simp only; simpa using hq2.1, by simp only; intro h hh; cases hh; simpa using hq2.2⟩ (by simp only; omega) rfl ⟨?_, .inr ⟨q1, rfl, ?_, ?_⟩, .inr ⟨q2, rfl, ?_, ?_⟩⟩
    · rw [kp2 0 (by omega) (Ne.symm hq2.1), AHeap.obj_push_lt (by omega)]; exact o0'
    · simp [ic_length, li_length]
    · rw [kp2 q1 (by omega) (Ne.symm hq2.2), AHeap.obj_push_lt hq1l, e1, li_snoc]
    · simp [bc_length, lb_length]
    · rw [e2, lb_snoc]
  · have hk' : n = k := by simp at hb; omega
    subst hk'
    obtain ⟨h1, rfl, rfl, o1⟩ := acc1.resolve_left (by intro h; have := congrArg List.length h.2.1; rw [ic_length, li_length] at this; simp at this; omega)
    obtain ⟨h2, rfl, rfl, o2⟩ := acc2.resolve_left (by intro h; have := congrArg List.length h.2.1; rw [bc_length, lb_length] at this; simp at this; omega)
    have g1 : h1 ≠ 0 := fun e => z1 (by rw [e])
    have g2 : h2 ≠ 0 := fun e => z2 (by rw [e])
    have g3 : h1 ≠ h2 := fun e => zd h1 rfl (by rw [e])
    clear z1 z2 zd
    simp only [ic_length, li_length, bc_length, lb_length]
    refine awp_loop (σ := Nat) (fun r => [(2, .ptr 0 1 0 0), (4, .own h1 n 0 n), (5, .own h2 n 0 n), (8, I r)]) (fun r H => LF h1 h2 n n ds (iter ds (startL S) r) H) (fun r => r ≤ n + 1 ∧ lenR ds (startL S) (n + 1) 0 = lenR ds (startL S) (n + 1 - r) r) (fun r => n + 1 - r) 0 ⟨Nat.zero_le _, rfl⟩ rfl ⟨o0, o1, o2⟩ ?_
    clear o0 o1 o2 hb acc1 acc2 H
    rintro r H ⟨hr, hlr⟩ lf
    simp only [walkS, wl, rgets, retv, argsEnv, ev, cst, cst1, cstL, AEnv.get, AEnv.trim, envput, qstep, abin, aun, evs, evo, deref, qload, target, if_true, if_false, Nat.reduceEqDiff, reduceIte, Nat.reduceAdd, AV.cells, AV.isTuple, setMany, alen, aiaddr, afill, Nat.reduceLeDiff, Nat.reduceMul, Nat.reduceLT, afillE, List.replicate, lf.o0]
    rw [hlr]
    refine withBool_intro ?_ ?_ <;> intro hb <;> simp only [walkS, wl, rgets, retv, argsEnv, ev, cst, cst1, cstL, AEnv.get, AEnv.trim, envput, qstep, abin, aun, evs, evo, deref, qload, target, if_true, if_false, Nat.reduceEqDiff, reduceIte, Nat.reduceAdd, AV.cells, AV.isTuple, setMany, alen, aiaddr, afill, Nat.reduceLeDiff, Nat.reduceMul, Nat.reduceLT, afillE, List.replicate]
    · have hrk : r ≤ n := by simp at hb; omega
      obtain ⟨f, hf⟩ : ∃ f, n + 1 - r = f + 1 := ⟨n - r, by omega⟩
      rw [hf] at hlr ⊢
      refine awp_loop (σ := Nat) (fun k => [(2, .ptr 0 1 0 0), (4, .own h1 n 0 n), (5, .own h2 n 0 n), (8, I r), (9, .bool (decide (0 ≤ (part ds (iter ds (startL S) r) k).2))), (10, I k)]) (fun k H => LF h1 h2 n n ds (part ds (iter ds (startL S) r) k).1 H) (fun k => k ≤ ds.length) (fun k => ds.length - k) 0 (Nat.zero_le _) rfl lf ?_
      clear lf hb H
      rintro k H hk lf
      simp only [walkS, wl, rgets, retv, argsEnv, ev, cst, cst1, cstL, AEnv.get, AEnv.trim, envput, qstep, abin, aun, evs, evo, deref, qload, target, if_true, if_false, Nat.reduceEqDiff, reduceIte, Nat.reduceAdd, AV.cells, AV.isTuple, setMany, alen, aiaddr, afill, Nat.reduceLeDiff, Nat.reduceMul, Nat.reduceLT, afillE, List.replicate, lf.o0, rows_length]
      refine withBool_intro ?_ ?_ <;> intro hb <;> simp only [walkS, wl, rgets, retv, argsEnv, ev, cst, cst1, cstL, AEnv.get, AEnv.trim, envput, qstep, abin, aun, evs, evo, deref, qload, target, if_true, if_false, Nat.reduceEqDiff, reduceIte, Nat.reduceAdd, AV.cells, AV.isTuple, setMany, alen, aiaddr, afill, Nat.reduceLeDiff, Nat.reduceMul, Nat.reduceLT, afillE, List.replicate, lf.o0]
      · have hlt : k < ds.length := by simpa using hb
        have hd : ds[k]? = some ds[k] := List.getElem?_eq_getElem hlt
        obtain ⟨u, v, w, hdw⟩ := trip ds[k] (hg.fit.ge1 _ (List.getElem_mem hlt)) (hg.fit.ge _ (List.getElem_mem hlt))
        have hfu := hg.fit.fr _ (List.getElem_mem hlt)
        have hfv := hg.fit.to _ (List.getElem_mem hlt)
        have hw := hg.w _ (List.getElem_mem hlt)
        rw [hdw] at hfu hfv hw hd
        simp only [fr, to, Int.toNat_natCast] at hfu hfv hw
        have hrow : (rows ds)[k]? = some [I u, I v, I w] := by simp [rows, hd, dc]
        simp only [walkS, wl, rgets, retv, argsEnv, ev, cst, cst1, cstL, AEnv.get, AEnv.trim, envput, qstep, abin, aun, evs, evo, deref, qload, target, if_true, if_false, Nat.reduceEqDiff, reduceIte, Nat.reduceAdd, AV.cells, AV.isTuple, setMany, alen, aiaddr, afill, Nat.reduceLeDiff, Nat.reduceMul, Nat.reduceLT, afillE, List.replicate, lf.o0, hrow, rows_length, if_pos (show (k : Int) < ds.length by omega)]
        have hh1 := AHeap.obj_lt lf.o1
        have hh2 := AHeap.obj_lt lf.o2
        have hh0 := AHeap.obj_lt lf.o0
        refine storeR rfl rfl AHeap.obj_push_eq rfl ⟨rfl, rfl, rfl, by simp⟩ fun H1 q1 q2 q3 => ?_
        have lf1 := lf.other (H1 := H1) fun q hq => by rw [q3 q (by omega), AHeap.obj_push_lt hq]
        have hL1 : H1.length = H.length + 1 := by rw [q1]; simp
        simp only [List.set_cons_zero, List.set_cons_succ, setMany, AV.cells, Nat.zero_add, Nat.reduceAdd] at q2
        have hbd := part_bound hg.w (iter_bound hg.w (s := startL S) (fun _ => rfl) r) k
        have hsteps : r * ds.length + k ≤ 180224 := by
          have : r * ds.length ≤ 21 * 8192 := Nat.mul_le_mul (by omega) hg.len
          omega
        have hps := part_succ (s := iter ds (startL S) r) hd
        generalize hp : part ds (iter ds (startL S) r) k = p at lf1 hbd hps ⊢
        obtain ⟨p, c⟩ := p
        simp only at lf1 hbd hps
        have b1 := hbd u
        have b2 := hbd v
        obtain ⟨o0, o1, o2⟩ := lf1
        have hu' : (u : Int) < n := by omega
        have hv' : (v : Int) < n := by omega
        simp only [walkS, wl, rgets, retv, argsEnv, ev, cst, cst1, cstL, AEnv.get, AEnv.trim, envput, qstep, abin, aun, evs, evo, deref, qload, target, if_true, if_false, Nat.reduceEqDiff, reduceIte, Nat.reduceAdd, AV.cells, AV.isTuple, setMany, alen, aiaddr, afill, Nat.reduceLeDiff, Nat.reduceMul, Nat.reduceLT, afillE, List.replicate, o0, o1, o2, q2, lb_get hfu, lb_get hfv, li_get hfu, li_get hfv, lb_length, bc_length, li_length, ic_length, if_pos hu', if_pos hv']
        refine withGuard_intro ?_ ?_ <;> intro hu <;> simp only [walkS, wl, rgets, retv, argsEnv, ev, cst, cst1, cstL, AEnv.get, AEnv.trim, envput, qstep, abin, aun, evs, evo, deref, qload, target, if_true, if_false, Nat.reduceEqDiff, reduceIte, Nat.reduceAdd, AV.cells, AV.isTuple, setMany, alen, aiaddr, afill, Nat.reduceLeDiff, Nat.reduceMul, Nat.reduceLT, afillE, List.replicate, hu, o0, o1, o2, q2, lb_get hfu, lb_get hfv, li_get hfu, li_get hfv, lb_length, bc_length, li_length, ic_length, if_pos hu', if_pos hv']
        · refine withGuard_intro ?_ ?_ <;> intro hv <;> simp only [walkS, wl, rgets, retv, argsEnv, ev, cst, cst1, cstL, AEnv.get, AEnv.trim, envput, qstep, abin, aun, evs, evo, deref, qload, target, if_true, if_false, Nat.reduceEqDiff, reduceIte, Nat.reduceAdd, AV.cells, AV.isTuple, setMany, alen, aiaddr, afill, Nat.reduceLeDiff, Nat.reduceMul, Nat.reduceLT, afillE, List.replicate, hu, hv, o0, o1, o2, q2, lb_get hfu, lb_get hfv, li_get hfu, li_get hfv, lb_length, bc_length, li_length, ic_length, if_pos hu', if_pos hv']
          · rw [wrap_id (by omega) (by omega)]
            refine withBool_intro ?_ ?_ <;> intro hc <;> simp only [walkS, wl, rgets, retv, argsEnv, ev, cst, cst1, cstL, AEnv.get, AEnv.trim, envput, qstep, abin, aun, evs, evo, deref, qload, target, if_true, if_false, Nat.reduceEqDiff, reduceIte, Nat.reduceAdd, AV.cells, AV.isTuple, setMany, alen, aiaddr, afill, Nat.reduceLeDiff, Nat.reduceMul, Nat.reduceLT, afillE, List.replicate, hu, hv, o0, o1, o2, q2, lb_get hfu, lb_get hfv, li_get hfu, li_get hfv, lb_length, bc_length, li_length, ic_length, if_pos hu', if_pos hv']
            · skip
              rw [wrap_id (by omega) (by omega)]
              refine storeR rfl rfl o1 (li_get hfv) ⟨by simp [ic_length, li_length], rfl, rfl, by simp⟩ fun H2 r1 r2 r3 => ?_
              have o0' := (r3 0 (by omega)).trans o0
              have o2' := (r3 h2 (by omega)).trans o2
              have q2' := (r3 H.length (by omega)).trans q2
              simp only [AV.cells, setMany, List.set_cons_zero, li_set] at r2
              simp only [walkS, wl, rgets, retv, argsEnv, ev, cst, cst1, cstL, AEnv.get, AEnv.trim, envput, qstep, abin, aun, evs, evo, deref, qload, target, if_true, if_false, Nat.reduceEqDiff, reduceIte, Nat.reduceAdd, AV.cells, AV.isTuple, setMany, alen, aiaddr, afill, Nat.reduceLeDiff, Nat.reduceMul, Nat.reduceLT, afillE, List.replicate, o0', r2, o2', q2', lb_get hfu, lb_get hfv, lb_length, bc_length, li_length, ic_length, if_pos hu', if_pos hv']
              refine storeR rfl rfl o2' (lb_get hfv) ⟨by simp [bc_length, lb_length], rfl, rfl, by simp⟩ fun H3 x1 x2 x3 => ?_
              simp only [AV.cells, setMany, List.set_cons_zero, lb_set] at x2
              simp only [walkS, wl, rgets, retv, argsEnv, ev, cst, cst1, cstL, AEnv.get, AEnv.trim, envput, qstep, abin, aun, evs, evo, deref, qload, target, if_true, if_false, Nat.reduceEqDiff, reduceIte, Nat.reduceAdd, AV.cells, AV.isTuple, setMany, alen, aiaddr, afill, Nat.reduceLeDiff, Nat.reduceMul, Nat.reduceLT, afillE, List.replicate]
              rw [wrap_id (by omega) (by omega)]
              have hbt : better p ((u : Int), (v : Int), w) = true := better_iff.2 ⟨hu, fun hvv => by simpa [fr, to] using hc⟩
              rw [hbt, if_pos rfl] at hps
              refine loop_end (k + 1) hlt (by omega) ?_ ?_
              · simp only [hps]
                have : decide (0 ≤ (v : Int)) = true := by simp
                rw [this]; rfl
              · simp only [hps]
                exact ⟨(x3 0 (by omega)).trans o0', (x3 h1 (by omega)).trans r2, x2⟩
            · rw [wrap_id (by omega) (by omega)]
              have hbf : ¬ better p ((u : Int), (v : Int), w) = true := fun hbt => by
                have := (better_iff.1 hbt).2 (by simpa [to] using hv)
                simp [fr, to] at this hc
                omega
              rw [if_neg hbf] at hps
              refine loop_end (k + 1) hlt (by omega) ?_ ?_
              · simp only [hps]; rfl
              · simp only [hps]; exact ⟨o0, o1, o2⟩
          · skip
            rw [wrap_id (by omega) (by omega)]
            refine storeR rfl rfl o1 (li_get hfv) ⟨by simp [ic_length, li_length], rfl, rfl, by simp⟩ fun H2 r1 r2 r3 => ?_
            have o0' := (r3 0 (by omega)).trans o0
            have o2' := (r3 h2 (by omega)).trans o2
            have q2' := (r3 H.length (by omega)).trans q2
            simp only [AV.cells, setMany, List.set_cons_zero, li_set] at r2
            simp only [walkS, wl, rgets, retv, argsEnv, ev, cst, cst1, cstL, AEnv.get, AEnv.trim, envput, qstep, abin, aun, evs, evo, deref, qload, target, if_true, if_false, Nat.reduceEqDiff, reduceIte, Nat.reduceAdd, AV.cells, AV.isTuple, setMany, alen, aiaddr, afill, Nat.reduceLeDiff, Nat.reduceMul, Nat.reduceLT, afillE, List.replicate, o0', r2, o2', q2', lb_get hfu, lb_get hfv, lb_length, bc_length, li_length, ic_length, if_pos hu', if_pos hv']
            refine storeR rfl rfl o2' (lb_get hfv) ⟨by simp [bc_length, lb_length], rfl, rfl, by simp⟩ fun H3 x1 x2 x3 => ?_
            simp only [AV.cells, setMany, List.set_cons_zero, lb_set] at x2
            simp only [walkS, wl, rgets, retv, argsEnv, ev, cst, cst1, cstL, AEnv.get, AEnv.trim, envput, qstep, abin, aun, evs, evo, deref, qload, target, if_true, if_false, Nat.reduceEqDiff, reduceIte, Nat.reduceAdd, AV.cells, AV.isTuple, setMany, alen, aiaddr, afill, Nat.reduceLeDiff, Nat.reduceMul, Nat.reduceLT, afillE, List.replicate]
            rw [wrap_id (by omega) (by omega)]
            have hbt : better p ((u : Int), (v : Int), w) = true := better_iff.2 ⟨hu, fun hvv => by simp only [to, Int.toNat_natCast] at hvv; rw [hvv] at hv; cases hv⟩
            rw [hbt, if_pos rfl] at hps
            refine loop_end (k + 1) hlt (by omega) ?_ ?_
            · simp only [hps]
              have : decide (0 ≤ (v : Int)) = true := by simp
              rw [this]; rfl
            · simp only [hps]
              exact ⟨(x3 0 (by omega)).trans o0', (x3 h1 (by omega)).trans r2, x2⟩
        · rw [wrap_id (by omega) (by omega)]
          have hbf : ¬ better p ((u : Int), (v : Int), w) = true := fun hbt => by
            have := (better_iff.1 hbt).1
            simp [fr, hu] at this
          rw [if_neg hbf] at hps
          refine loop_end (k + 1) hlt (by omega) ?_ ?_
          · simp only [hps]; rfl
          · simp only [hps]; exact ⟨o0, o1, o2⟩
      · have hk' : k = ds.length := by simp at hb; omega
        subst hk'
        have e1 : (part ds (iter ds (startL S) r) ds.length).1 = iter ds (startL S) (r + 1) := rfl
        have e2 : (part ds (iter ds (startL S) r) ds.length).2 = chg ds (startL S) r := rfl
        rw [e1] at lf
        rw [e2]
        refine withBool_intro ?_ ?_ <;> intro hc <;> simp only [walkS, wl, rgets, retv, argsEnv, ev, cst, cst1, cstL, AEnv.get, AEnv.trim, envput, qstep, abin, aun, evs, evo, deref, qload, target, if_true, if_false, Nat.reduceEqDiff, reduceIte, Nat.reduceAdd, AV.cells, AV.isTuple, setMany, alen, aiaddr, afill, Nat.reduceLeDiff, Nat.reduceMul, Nat.reduceLT, afillE, List.replicate]
        · have hneg : chg ds (startL S) r < 0 := by simp at hc; omega
          rw [lenR_step, if_pos hneg]
          exact out_tuple (.cons (out_of (d := 2) (car_ownN lf.o1 (by rw [ic_length, li_length]) (ic_simple _))) (.cons (out_of (d := 2) (car_ownN lf.o2 (by rw [bc_length, lb_length]) (bc_simple _))) (.cons out_bool .nil)))
        · have hneg : ¬ chg ds (startL S) r < 0 := by simp at hc; omega
          rw [wrap_id (by omega) (by omega)]
          refine loop_end (r + 1) ⟨by omega, ?_⟩ (by omega) rfl lf
          rw [lenR_step, if_neg hneg]
          congr 1
          omega
    · have hrk : r = n + 1 := by
        have : ¬ r ≤ n := by simp at hb; omega
        omega
      subst hrk
      rw [Nat.sub_self]
      exact out_tuple (.cons (out_of (d := 2) (car_ownN lf.o1 (by rw [ic_length, li_length]) (ic_simple _))) (.cons (out_of (d := 2) (car_ownN lf.o2 (by rw [bc_length, lb_length]) (bc_simple _))) (.cons out_bool .nil)))
end Go.Proofs.Ytepnijjgdhldeaa
