/- Contracts: Narrow of the specification. -/
import Derived.Test.YtepnijjgdhldeaaQD27
namespace Go.Proofs.Ytepnijjgdhldeaa
open Go.Awp
set_option linter.unusedSimpArgs false
set_option linter.unusedVariables false
set_option linter.unusedSectionVars false
set_option maxRecDepth 10000
set_option maxHeartbeats 8000000
structure CN (N : Nat) (l : List Int) (m : List Bool) (u v : Nat) (w : Int) (c : Nat) (t : Two) (H : AHeap) : Prop where
  o0 : AHeap.obj H 0 = some ⟨73, 3, [[I N, .ro false (ic l), .ro false (bc m)]]⟩
  o1 : AHeap.obj H 1 = some ⟨39, 3, [[I u, I v, I w]]⟩
  o2 : AHeap.obj H 2 = some ⟨73, 3, [[I 0, .nilSlice, .nilSlice]]⟩
  o3 : AHeap.obj H 3 = some ⟨73, 3, [[I N, t.1.1, t.2.1]]⟩
  a1 : AccS H t.1.1 3 1 (ic (li c (nM N l m u v w))) t.1.2
  a2 : AccS H t.2.1 4 1 (bc (lb c (nH N l m u v w))) t.2.2
structure CJ (w : Two) : Prop where
  z1 : ∀ h, w.1.2 = some h → 4 ≤ h
  z2 : ∀ h, w.2.2 = some h → 4 ≤ h
  zd : ∀ h, w.1.2 = some h → w.2.2 ≠ some h
theorem refN_app {N : Nat} {l : List Int} {m : List Bool} {u v : Nat} {w : Int} {c i j : Nat} {t : Two} {H : AHeap} {env : AEnv} {a b x : Int} {h : Bool} {Q : AX → AEnv → AHeap → Prop} (hc : c ≤ 4096) (ci : CJ t) (cf : CN N l m u v w c t H) (hx : x = nM N l m u v w c) (hh : h = nH N l m u v w c)
    (hE : env = [(2, .ptr 0 1 0 0), (3, .ptr 1 1 0 0), (4, .ptr 2 1 0 0), (7, .ptr 3 1 0 0), (8, I i), (9, I j), (13, I x), (14, .bool h)] ∨ env = [(2, .ptr 0 1 0 0), (3, .ptr 1 1 0 0), (4, .ptr 2 1 0 0), (7, .ptr 3 1 0 0), (8, I i), (9, I j), (10, I a), (11, I b), (13, I x), (14, .bool h), (128, .bool false)])
    (hQ : ∀ t' H', CJ t' → CN N l m u v w (c + 1) t' H' → Q .normal [(2, .ptr 0 1 0 0), (3, .ptr 1 1 0 0), (4, .ptr 2 1 0 0), (7, .ptr 3 1 0 0), (8, I i), (9, I j)] H') :
    awp Try.prog ir66r Q env H := by
  obtain ⟨⟨a1, p1⟩, a2, p2⟩ := t
  obtain ⟨z1, z2, zd⟩ := ci
  obtain ⟨o0, o1, o2, o3, acc1, acc2⟩ := cf
  simp only at z1 z2 zd o3 acc1 acc2
  subst hx
  subst hh
  unfold ir66r
  have l3 := AHeap.obj_lt o3
  rcases hE with rfl | rfl
  all_goals
    simp only [walkS, wl, rgets, retv, argsEnv, ev, cst, cst1, cstL, AEnv.get, AEnv.trim, envput, qstep, abin, aun, evs, evo, deref, qload, target, if_true, if_false, Nat.reduceEqDiff, reduceIte, Nat.reduceAdd, AV.cells, AV.isTuple, setMany, alen, aiaddr, afill, Nat.reduceLeDiff, Nat.reduceMul, Nat.reduceLT, afillE, List.replicate, o3]
    refine accS_append (acc1.keep fun q _ hq => AHeap.obj_push_lt hq) rfl rfl AHeap.obj_push_eq (by simp only [ic_length, li_length]; omega) fun r1 H3 m1 e1 c1 k1 => ?_
    simp only [List.length_append, List.length_cons, List.length_nil] at m1 c1 k1
    have hr1 : 4 ≤ r1 ∧ ∀ h, p2 = some h → h ≠ r1 := by
      rcases c1 with c | ⟨c, c'⟩
      · exact ⟨z1 r1 c, fun h hh e => zd r1 c (by rw [← e]; exact hh)⟩
      · exact ⟨by omega, fun h hh e => by have := acc2.lt h hh; omega⟩
    have kk : ∀ q, q < H.length → q ≠ r1 → AHeap.obj H3 q = AHeap.obj H q := fun q hq hne => by rw [k1 q (by omega) hne, AHeap.obj_push_lt hq]
    have o0a := (kk 0 (by omega) (by omega)).trans o0
    have o1a := (kk 1 (by omega) (by omega)).trans o1
    have o2a := (kk 2 (by omega) (by omega)).trans o2
    have o3a := (kk 3 (by omega) (by omega)).trans o3
    have acc2a : AccS H3 a2 4 1 (bc (lb c (nH N l m u v w))) p2 := acc2.keep fun q hq hql => kk q hql (hr1.2 q hq)
    have lr1 := AHeap.obj_lt e1
    rw [li_snoc] at e1
    simp only [walkS, wl, rgets, retv, argsEnv, ev, cst, cst1, cstL, AEnv.get, AEnv.trim, envput, qstep, abin, aun, evs, evo, deref, qload, target, if_true, if_false, Nat.reduceEqDiff, reduceIte, Nat.reduceAdd, AV.cells, AV.isTuple, setMany, alen, aiaddr, afill, Nat.reduceLeDiff, Nat.reduceMul, Nat.reduceLT, afillE, List.replicate]
    refine storeR rfl rfl o3a rfl ⟨rfl, rfl, rfl, by simp⟩ fun H4 b1 b2 b3 => ?_
    simp only [AV.cells, setMany, List.set_cons_zero, List.set_cons_succ, Nat.zero_add, Nat.reduceAdd] at b2
    have acc2b : AccS H4 a2 4 1 (bc (lb c (nH N l m u v w))) p2 := acc2a.keep fun q hq _ => b3 q (by have := z2 q hq; omega)
    simp only [walkS, wl, rgets, retv, argsEnv, ev, cst, cst1, cstL, AEnv.get, AEnv.trim, envput, qstep, abin, aun, evs, evo, deref, qload, target, if_true, if_false, Nat.reduceEqDiff, reduceIte, Nat.reduceAdd, AV.cells, AV.isTuple, setMany, alen, aiaddr, afill, Nat.reduceLeDiff, Nat.reduceMul, Nat.reduceLT, afillE, List.replicate, b2]
    refine accS_append (acc2b.keep fun q _ hq => AHeap.obj_push_lt hq) rfl rfl AHeap.obj_push_eq (by simp only [bc_length, lb_length]; omega) fun r2 H5 m2 e2 c2 k2 => ?_
    simp only [List.length_append, List.length_cons, List.length_nil] at m2 c2 k2
    have hr2 : 4 ≤ r2 ∧ r2 ≠ r1 := by
      rcases c2 with c | ⟨c, c'⟩
      · exact ⟨z2 r2 c, hr1.2 r2 c⟩
      · exact ⟨by omega, by omega⟩
    have kk2 : ∀ q, q < H4.length → q ≠ r2 → AHeap.obj H5 q = AHeap.obj H4 q := fun q hq hne => by rw [k2 q (by omega) hne, AHeap.obj_push_lt hq]
    rw [lb_snoc] at e2
    have o3b := (kk2 3 (by omega) (by omega)).trans b2
    simp only [walkS, wl, rgets, retv, argsEnv, ev, cst, cst1, cstL, AEnv.get, AEnv.trim, envput, qstep, abin, aun, evs, evo, deref, qload, target, if_true, if_false, Nat.reduceEqDiff, reduceIte, Nat.reduceAdd, AV.cells, AV.isTuple, setMany, alen, aiaddr, afill, Nat.reduceLeDiff, Nat.reduceMul, Nat.reduceLT, afillE, List.replicate]
    refine storeR rfl rfl o3b rfl ⟨rfl, rfl, rfl, by simp⟩ fun H6 d1 d2 d3 => ?_
    simp only [AV.cells, setMany, List.set_cons_zero, List.set_cons_succ, Nat.zero_add, Nat.reduceAdd] at d2
    simp only [walkS, wl, rgets, retv, argsEnv, ev, cst, cst1, cstL, AEnv.get, AEnv.trim, envput, qstep, abin, aun, evs, evo, deref, qload, target, if_true, if_false, Nat.reduceEqDiff, reduceIte, Nat.reduceAdd, AV.cells, AV.isTuple, setMany, alen, aiaddr, afill, Nat.reduceLeDiff, Nat.reduceMul, Nat.reduceLT, afillE, List.replicate]
    refine hQ ((_, some r1), (_, some r2)) H6 ⟨by intro h hh; cases hh; exact hr1.1, by intro h hh; cases hh; exact hr2.1, by intro h hh e; cases hh; cases e; exact hr2.2 rfl⟩
      ⟨?_, ?_, ?_, d2, .inr ⟨r1, rfl, ?_, ?_⟩, .inr ⟨r2, rfl, ?_, ?_⟩⟩
    · rw [d3 0 (by omega), kk2 0 (by omega) (by omega), b3 0 (by omega)]; exact o0a
    · rw [d3 1 (by omega), kk2 1 (by omega) (by omega), b3 1 (by omega)]; exact o1a
    · rw [d3 2 (by omega), kk2 2 (by omega) (by omega), b3 2 (by omega)]; exact o2a
    · simp only [ic_length, li_length, Nat.add_assoc]
    · rw [d3 r1 (by omega), kk2 r1 (by omega) (Ne.symm hr2.2), b3 r1 (by omega), e1]
    · simp only [bc_length, lb_length, Nat.add_assoc]
    · rw [d3 r2 (by omega), e2]
section
variable {N : Nat} {l : List Int} {m : List Bool} (hT : Tab N l m)
include hT
theorem Tab.bound {i j : Nat} (hi : i < N) (hj : j < N) : -68719476736 ≤ mg l (i * N + j) ∧ mg l (i * N + j) ≤ 68719476736 := by
  have := (hT.cell i j hi hj).2.1
  have := hT.most
  omega
theorem Tab.wm {i : Nat} (hi : i < N) : IntKind.i64.wrap ((i : Int) * (N : Int)) = ((i * N : Nat) : Int) := by
  have hN := hT.most
  have : i * N ≤ 64 * 64 := Nat.mul_le_mul (by omega) hN
  rw [← Int.natCast_mul, wrap_id (by omega) (by omega)]
theorem Tab.wa {i j : Nat} (hi : i < N) (hj : j < N) : IntKind.i64.wrap (((i * N : Nat) : Int) + (j : Int)) = ((i * N + j : Nat) : Int) := by
  have hN := hT.most
  have : N * N ≤ 64 * 64 := Nat.mul_le_mul hN hN
  have := cell_lt hi hj
  rw [← Int.natCast_add, wrap_id (by omega) (by omega)]
theorem Tab.gl {i j : Nat} (hi : i < N) (hj : j < N) : (ic l)[i * N + j]? = some [I (mg l (i * N + j))] := ic_mg (by have := cell_lt hi hj; have := hT.ll; omega)
theorem Tab.gm {i j : Nat} (hi : i < N) (hj : j < N) : (bc m)[i * N + j]? = some [.bool (hq m (i * N + j))] := bc_hq (by have := cell_lt hi hj; have := hT.lm; omega)
theorem Tab.nn {i j : Nat} : (0 ≤ ((i * N + j : Nat) : Int)) = True := by simp only [eq_iff_iff, iff_true]; omega
end
theorem refN_loop {N : Nat} {l : List Int} {m : List Bool} {u v : Nat} {w : Int} {H : AHeap} {Q : AX → AEnv → AHeap → Prop} (hT : Tab N l m) (hu : u < N) (hv : v < N) (hw : -1073741824 ≤ w ∧ w ≤ 1073741824) (hH : H.length = 3)
    (o0 : AHeap.obj H 0 = some ⟨73, 3, [[I N, .ro false (ic l), .ro false (bc m)]]⟩)
    (o1 : AHeap.obj H 1 = some ⟨39, 3, [[I u, I v, I w]]⟩)
    (o2 : AHeap.obj H 2 = some ⟨73, 3, [[I 0, .nilSlice, .nilSlice]]⟩)
    (hDone : ∀ (t : Two) H, AHeap.obj H 2 = some ⟨73, 3, [[I N, t.1.1, t.2.1]]⟩ → AccS H t.1.1 3 1 (ic (li (N * N) (nM N l m u v w))) t.1.2 → AccS H t.2.1 4 1 (bc (lb (N * N) (nH N l m u v w))) t.2.2 → Q .ret [(4, .ptr 2 1 0 0), (5, I 0)] H) :
    awp Try.prog ir66s Q [(2, .ptr 0 1 0 0), (3, .ptr 1 1 0 0), (4, .ptr 2 1 0 0), (48, .bool false)] H := by
  have hN0 := hT.pos
  have hN := hT.most
  have h1 := hT.ll
  have h2 := hT.lm
  have hNN : N * N ≤ 64 * 64 := Nat.mul_le_mul hN hN
  unfold ir66s
  simp only [walkS, wl, rgets, retv, argsEnv, ev, cst, cst1, cstL, AEnv.get, AEnv.trim, envput, qstep, abin, aun, evs, evo, deref, qload, target, if_true, if_false, Nat.reduceEqDiff, reduceIte, Nat.reduceAdd, AV.cells, AV.isTuple, setMany, alen, aiaddr, afill, Nat.reduceLeDiff, Nat.reduceMul, Nat.reduceLT, afillE, List.replicate, o0]
  refine storeR rfl rfl AHeap.obj_push_eq rfl ⟨rfl, rfl, rfl, by simp⟩ fun H1 y1 y2 y3 => ?_
  simp only [AV.cells, setMany, List.set_cons_zero, List.set_cons_succ, Nat.zero_add, Nat.reduceAdd, hH] at y2
  have back : ∀ q, q < 3 → AHeap.obj H1 q = AHeap.obj H q := fun q hq => by rw [y3 q (by omega), AHeap.obj_push_lt (by omega)]
  have b0 := (back 0 (by omega)).trans o0
  have b1 := (back 1 (by omega)).trans o1
  have b2 := (back 2 (by omega)).trans o2
  clear back y3 y1 o0 o1 o2
  simp only [walkS, wl, rgets, retv, argsEnv, ev, cst, cst1, cstL, AEnv.get, AEnv.trim, envput, qstep, abin, aun, evs, evo, deref, qload, target, if_true, if_false, Nat.reduceEqDiff, reduceIte, Nat.reduceAdd, AV.cells, AV.isTuple, setMany, alen, aiaddr, afill, Nat.reduceLeDiff, Nat.reduceMul, Nat.reduceLT, afillE, List.replicate, hH]
  refine awp_loop (σ := Nat × Two) (fun s => [(2, .ptr 0 1 0 0), (3, .ptr 1 1 0 0), (4, .ptr 2 1 0 0), (7, .ptr 3 1 0 0), (8, I s.1)]) (fun s H => CN N l m u v w (s.1 * N) s.2 H) (fun s => s.1 ≤ N ∧ CJ s.2) (fun s => N - s.1) (0, (.nilSlice, none), (.nilSlice, none)) ⟨Nat.zero_le _, by simp, by simp, by simp⟩ rfl
    ⟨b0, b1, b2, y2, .inl ⟨rfl, by simp [li, ic], rfl⟩, .inl ⟨rfl, by simp [lb, bc], rfl⟩⟩ ?_
  clear b0 b1 b2 y2 hH H
  rintro ⟨i, t⟩ H ⟨hi, ci⟩ cf
  simp only at hi ci cf
  simp only [walkS, wl, rgets, retv, argsEnv, ev, cst, cst1, cstL, AEnv.get, AEnv.trim, envput, qstep, abin, aun, evs, evo, deref, qload, target, if_true, if_false, Nat.reduceEqDiff, reduceIte, Nat.reduceAdd, AV.cells, AV.isTuple, setMany, alen, aiaddr, afill, Nat.reduceLeDiff, Nat.reduceMul, Nat.reduceLT, afillE, List.replicate, cf.o0]
  refine withBool_intro ?_ ?_ <;> intro hb2 <;> simp only [walkS, wl, rgets, retv, argsEnv, ev, cst, cst1, cstL, AEnv.get, AEnv.trim, envput, qstep, abin, aun, evs, evo, deref, qload, target, if_true, if_false, Nat.reduceEqDiff, reduceIte, Nat.reduceAdd, AV.cells, AV.isTuple, setMany, alen, aiaddr, afill, Nat.reduceLeDiff, Nat.reduceMul, Nat.reduceLT, afillE, List.replicate, cf.o0]
  · have hlt : i < N := by simpa using hb2
    refine awp_loop (σ := Nat × Two) (fun s => [(2, .ptr 0 1 0 0), (3, .ptr 1 1 0 0), (4, .ptr 2 1 0 0), (7, .ptr 3 1 0 0), (8, I i), (9, I s.1)]) (fun s H => CN N l m u v w (i * N + s.1) s.2 H) (fun s => s.1 ≤ N ∧ CJ s.2) (fun s => N - s.1) (0, t) ⟨Nat.zero_le _, ci⟩ rfl cf ?_
    clear cf ci H t hb2
    rintro ⟨j, t⟩ H ⟨hj, ci⟩ cf
    simp only at hj ci cf
    simp only [walkS, wl, rgets, retv, argsEnv, ev, cst, cst1, cstL, AEnv.get, AEnv.trim, envput, qstep, abin, aun, evs, evo, deref, qload, target, if_true, if_false, Nat.reduceEqDiff, reduceIte, Nat.reduceAdd, AV.cells, AV.isTuple, setMany, alen, aiaddr, afill, Nat.reduceLeDiff, Nat.reduceMul, Nat.reduceLT, afillE, List.replicate, cf.o0]
    refine withBool_intro ?_ ?_ <;> intro hb3 <;> simp only [walkS, wl, rgets, retv, argsEnv, ev, cst, cst1, cstL, AEnv.get, AEnv.trim, envput, qstep, abin, aun, evs, evo, deref, qload, target, if_true, if_false, Nat.reduceEqDiff, reduceIte, Nat.reduceAdd, AV.cells, AV.isTuple, setMany, alen, aiaddr, afill, Nat.reduceLeDiff, Nat.reduceMul, Nat.reduceLT, afillE, List.replicate, cf.o0, cf.o1]
    · have hjm : j < N := by simpa using hb3
      have him : i * N + j ≤ 4096 := by have := cell_lt hlt hjm; omega
      have hwj : IntKind.i64.wrap ((j : Int) + 1) = ((j + 1 : Nat) : Int) := by rw [wrap_id (by omega) (by omega)]; simp
      simp only [walkS, wl, rgets, retv, argsEnv, ev, cst, cst1, cstL, AEnv.get, AEnv.trim, envput, qstep, abin, aun, evs, evo, deref, qload, target, if_true, if_false, Nat.reduceEqDiff, reduceIte, Nat.reduceAdd, AV.cells, AV.isTuple, setMany, alen, aiaddr, afill, Nat.reduceLeDiff, Nat.reduceMul, Nat.reduceLT, afillE, List.replicate, cf.o0, cf.o1, hT.wm hlt, hT.wm hv, hT.wa hlt hu, hT.wa hv hjm, hT.wa hlt hjm, Int.toNat_natCast, hT.nn (i := i) (j := j), hT.nn (i := i) (j := u), hT.nn (i := v) (j := j), hT.gl hlt hjm, hT.gm hlt hjm, hT.gl hlt hu, hT.gm hlt hu, hT.gl hv hjm, hT.gm hv hjm]
      have hat := nC_at (l := l) (m := m) (u := u) (v := v) (w := w) (i := i) hjm
      have hMat := nM_at (l := l) (m := m) (u := u) (v := v) (w := w) (i := i) hjm
      have ba := hT.bound hlt hu
      have bb := hT.bound hv hjm
      have w1 : IntKind.i64.wrap (mg l (i * N + u) + w) = mg l (i * N + u) + w := wrap_id (by omega) (by omega)
      have w2 : IntKind.i64.wrap (mg l (i * N + u) + w + mg l (v * N + j)) = mg l (i * N + u) + w + mg l (v * N + j) := wrap_id (by omega) (by omega)
      have nMx : nC N l m u v w (i * N + j) = false → nM N l m u v w (i * N + j) = mg l (i * N + j) := fun h => by simp [nM, h]
      have nHx : nC N l m u v w (i * N + j) = false → nH N l m u v w (i * N + j) = hq m (i * N + j) := fun h => by simp [nH, h]
      have nHt : nC N l m u v w (i * N + j) = true → nH N l m u v w (i * N + j) = true := fun h => by simp [nH, h]
      cases hA : hq m (i * N + u) with
      | false =>
        rw [hA] at hat
        have hc : nC N l m u v w (i * N + j) = false := by rw [hat]; rfl
        simp only [walkS, wl, rgets, retv, argsEnv, ev, cst, cst1, cstL, AEnv.get, AEnv.trim, envput, qstep, abin, aun, evs, evo, deref, qload, target, if_true, if_false, Nat.reduceEqDiff, reduceIte, Nat.reduceAdd, AV.cells, AV.isTuple, setMany, alen, aiaddr, afill, Nat.reduceLeDiff, Nat.reduceMul, Nat.reduceLT, afillE, List.replicate]
        refine refN_app him ci cf (nMx hc).symm (nHx hc).symm (.inr rfl) fun t' H' ci' cf' => ?_
        simp only [walkS, wl, rgets, retv, argsEnv, ev, cst, cst1, cstL, AEnv.get, AEnv.trim, envput, qstep, abin, aun, evs, evo, deref, qload, target, if_true, if_false, Nat.reduceEqDiff, reduceIte, Nat.reduceAdd, AV.cells, AV.isTuple, setMany, alen, aiaddr, afill, Nat.reduceLeDiff, Nat.reduceMul, Nat.reduceLT, afillE, List.replicate, hwj]
        exact loop_end (j + 1, t') ⟨hjm, ci'⟩ (by simp only; omega) rfl cf'
      | true =>
        simp only [walkS, wl, rgets, retv, argsEnv, ev, cst, cst1, cstL, AEnv.get, AEnv.trim, envput, qstep, abin, aun, evs, evo, deref, qload, target, if_true, if_false, Nat.reduceEqDiff, reduceIte, Nat.reduceAdd, AV.cells, AV.isTuple, setMany, alen, aiaddr, afill, Nat.reduceLeDiff, Nat.reduceMul, Nat.reduceLT, afillE, List.replicate, cf.o0, cf.o1, hT.wm hlt, hT.wm hv, hT.wa hlt hu, hT.wa hv hjm, hT.wa hlt hjm, Int.toNat_natCast, hT.nn (i := i) (j := j), hT.nn (i := i) (j := u), hT.nn (i := v) (j := j), hT.gl hlt hjm, hT.gm hlt hjm, hT.gl hlt hu, hT.gm hlt hu, hT.gl hv hjm, hT.gm hv hjm]
        cases hB : hq m (v * N + j) with
        | false =>
          rw [hA, hB] at hat
          have hc : nC N l m u v w (i * N + j) = false := by rw [hat]; rfl
          simp only [walkS, wl, rgets, retv, argsEnv, ev, cst, cst1, cstL, AEnv.get, AEnv.trim, envput, qstep, abin, aun, evs, evo, deref, qload, target, if_true, if_false, Nat.reduceEqDiff, reduceIte, Nat.reduceAdd, AV.cells, AV.isTuple, setMany, alen, aiaddr, afill, Nat.reduceLeDiff, Nat.reduceMul, Nat.reduceLT, afillE, List.replicate]
          refine refN_app him ci cf (nMx hc).symm (nHx hc).symm (.inr rfl) fun t' H' ci' cf' => ?_
          simp only [walkS, wl, rgets, retv, argsEnv, ev, cst, cst1, cstL, AEnv.get, AEnv.trim, envput, qstep, abin, aun, evs, evo, deref, qload, target, if_true, if_false, Nat.reduceEqDiff, reduceIte, Nat.reduceAdd, AV.cells, AV.isTuple, setMany, alen, aiaddr, afill, Nat.reduceLeDiff, Nat.reduceMul, Nat.reduceLT, afillE, List.replicate, hwj]
          exact loop_end (j + 1, t') ⟨hjm, ci'⟩ (by simp only; omega) rfl cf'
        | true =>
          cases hC : hq m (i * N + j) with
          | false =>
            rw [hA, hB, hC] at hat
            have hc : nC N l m u v w (i * N + j) = true := by rw [hat]; rfl
            simp only [walkS, wl, rgets, retv, argsEnv, ev, cst, cst1, cstL, AEnv.get, AEnv.trim, envput, qstep, abin, aun, evs, evo, deref, qload, target, if_true, if_false, Nat.reduceEqDiff, reduceIte, Nat.reduceAdd, AV.cells, AV.isTuple, setMany, alen, aiaddr, afill, Nat.reduceLeDiff, Nat.reduceMul, Nat.reduceLT, afillE, List.replicate, cf.o0, cf.o1, w1, w2, Bool.not_false, hT.wm hlt, hT.wm hv, hT.wa hlt hu, hT.wa hv hjm, hT.wa hlt hjm, Int.toNat_natCast, hT.nn (i := i) (j := j), hT.nn (i := i) (j := u), hT.nn (i := v) (j := j), hT.gl hlt hjm, hT.gm hlt hjm, hT.gl hlt hu, hT.gm hlt hu, hT.gl hv hjm, hT.gm hv hjm]
            refine refN_app (a := 0) (b := 0) him ci cf (hMat hc).symm (nHt hc).symm (.inl rfl) fun t' H' ci' cf' => ?_
            simp only [walkS, wl, rgets, retv, argsEnv, ev, cst, cst1, cstL, AEnv.get, AEnv.trim, envput, qstep, abin, aun, evs, evo, deref, qload, target, if_true, if_false, Nat.reduceEqDiff, reduceIte, Nat.reduceAdd, AV.cells, AV.isTuple, setMany, alen, aiaddr, afill, Nat.reduceLeDiff, Nat.reduceMul, Nat.reduceLT, afillE, List.replicate, hwj]
            exact loop_end (j + 1, t') ⟨hjm, ci'⟩ (by simp only; omega) rfl cf'
          | true =>
            rw [hA, hB, hC] at hat
            simp only [walkS, wl, rgets, retv, argsEnv, ev, cst, cst1, cstL, AEnv.get, AEnv.trim, envput, qstep, abin, aun, evs, evo, deref, qload, target, if_true, if_false, Nat.reduceEqDiff, reduceIte, Nat.reduceAdd, AV.cells, AV.isTuple, setMany, alen, aiaddr, afill, Nat.reduceLeDiff, Nat.reduceMul, Nat.reduceLT, afillE, List.replicate, cf.o0, cf.o1, w1, w2, Bool.not_true, hT.wm hlt, hT.wm hv, hT.wa hlt hu, hT.wa hv hjm, hT.wa hlt hjm, Int.toNat_natCast, hT.nn (i := i) (j := j), hT.nn (i := i) (j := u), hT.nn (i := v) (j := j), hT.gl hlt hjm, hT.gm hlt hjm, hT.gl hlt hu, hT.gm hlt hu, hT.gl hv hjm, hT.gm hv hjm]
            refine withBool_intro ?_ ?_ <;> intro hlt3
            · rw [hlt3] at hat
              have hc : nC N l m u v w (i * N + j) = true := by rw [hat]; rfl
              simp only [walkS, wl, rgets, retv, argsEnv, ev, cst, cst1, cstL, AEnv.get, AEnv.trim, envput, qstep, abin, aun, evs, evo, deref, qload, target, if_true, if_false, Nat.reduceEqDiff, reduceIte, Nat.reduceAdd, AV.cells, AV.isTuple, setMany, alen, aiaddr, afill, Nat.reduceLeDiff, Nat.reduceMul, Nat.reduceLT, afillE, List.replicate, cf.o0, cf.o1, w1, w2, hT.wm hlt, hT.wm hv, hT.wa hlt hu, hT.wa hv hjm, hT.wa hlt hjm, Int.toNat_natCast, hT.nn (i := i) (j := j), hT.nn (i := i) (j := u), hT.nn (i := v) (j := j), hT.gl hlt hjm, hT.gm hlt hjm, hT.gl hlt hu, hT.gm hlt hu, hT.gl hv hjm, hT.gm hv hjm]
              refine refN_app (a := 0) (b := 0) him ci cf (hMat hc).symm (nHt hc).symm (.inl rfl) fun t' H' ci' cf' => ?_
              simp only [walkS, wl, rgets, retv, argsEnv, ev, cst, cst1, cstL, AEnv.get, AEnv.trim, envput, qstep, abin, aun, evs, evo, deref, qload, target, if_true, if_false, Nat.reduceEqDiff, reduceIte, Nat.reduceAdd, AV.cells, AV.isTuple, setMany, alen, aiaddr, afill, Nat.reduceLeDiff, Nat.reduceMul, Nat.reduceLT, afillE, List.replicate, hwj]
              exact loop_end (j + 1, t') ⟨hjm, ci'⟩ (by simp only; omega) rfl cf'
            · rw [hlt3] at hat
              have hc : nC N l m u v w (i * N + j) = false := by rw [hat]; rfl
              rw [hC] at nHx
              simp only [walkS, wl, rgets, retv, argsEnv, ev, cst, cst1, cstL, AEnv.get, AEnv.trim, envput, qstep, abin, aun, evs, evo, deref, qload, target, if_true, if_false, Nat.reduceEqDiff, reduceIte, Nat.reduceAdd, AV.cells, AV.isTuple, setMany, alen, aiaddr, afill, Nat.reduceLeDiff, Nat.reduceMul, Nat.reduceLT, afillE, List.replicate, hlt3]
              refine refN_app him ci cf (nMx hc).symm (nHx hc).symm (.inr rfl) fun t' H' ci' cf' => ?_
              simp only [walkS, wl, rgets, retv, argsEnv, ev, cst, cst1, cstL, AEnv.get, AEnv.trim, envput, qstep, abin, aun, evs, evo, deref, qload, target, if_true, if_false, Nat.reduceEqDiff, reduceIte, Nat.reduceAdd, AV.cells, AV.isTuple, setMany, alen, aiaddr, afill, Nat.reduceLeDiff, Nat.reduceMul, Nat.reduceLT, afillE, List.replicate, hwj]
              exact loop_end (j + 1, t') ⟨hjm, ci'⟩ (by simp only; omega) rfl cf'
    · have hjm : j = N := by simp at hb3; omega
      have hwi : IntKind.i64.wrap ((i : Int) + 1) = ((i + 1 : Nat) : Int) := by rw [wrap_id (by omega) (by omega)]; simp
      simp only [walkS, wl, rgets, retv, argsEnv, ev, cst, cst1, cstL, AEnv.get, AEnv.trim, envput, qstep, abin, aun, evs, evo, deref, qload, target, if_true, if_false, Nat.reduceEqDiff, reduceIte, Nat.reduceAdd, AV.cells, AV.isTuple, setMany, alen, aiaddr, afill, Nat.reduceLeDiff, Nat.reduceMul, Nat.reduceLT, afillE, List.replicate, hwi]
      refine loop_end (i + 1, t) ⟨hlt, ci⟩ (by simp only; omega) rfl ?_
      have e : (i + 1) * N = i * N + j := by rw [hjm]; exact Nat.succ_mul ..
      simp only [e]
      exact cf
  · have hk : i = N := by simp at hb2; omega
    subst hk
    obtain ⟨⟨a1, p1⟩, a2, p2⟩ := t
    obtain ⟨c0, c1, c2, c3, acc1, acc2⟩ := cf
    simp only at c3 acc1 acc2
    simp only [walkS, wl, rgets, retv, argsEnv, ev, cst, cst1, cstL, AEnv.get, AEnv.trim, envput, qstep, abin, aun, evs, evo, deref, qload, target, if_true, if_false, Nat.reduceEqDiff, reduceIte, Nat.reduceAdd, AV.cells, AV.isTuple, setMany, alen, aiaddr, afill, Nat.reduceLeDiff, Nat.reduceMul, Nat.reduceLT, afillE, List.replicate, c3]
    refine storeR rfl rfl c2 rfl ⟨rfl, rfl, rfl, by simp⟩ fun H3 z1 z2 z3 => ?_
    simp only [AV.cells, setMany, List.set_cons_zero, List.set_cons_succ, Nat.zero_add, Nat.reduceAdd] at z2
    simp only [walkS, wl, rgets, retv, argsEnv, ev, cst, cst1, cstL, AEnv.get, AEnv.trim, envput, qstep, abin, aun, evs, evo, deref, qload, target, if_true, if_false, Nat.reduceEqDiff, reduceIte, Nat.reduceAdd, AV.cells, AV.isTuple, setMany, alen, aiaddr, afill, Nat.reduceLeDiff, Nat.reduceMul, Nat.reduceLT, afillE, List.replicate]
    exact hDone ((a1, p1), a2, p2) H3 z2 (acc1.keep fun q hq _ => z3 q (by have := ci.z1 q hq; omega)) (acc2.keep fun q hq _ => z3 q (by have := ci.z2 q hq; omega))
theorem accS_out {H : AHeap} {a : AV} {e s : Nat} {els : List (List AV)} {ho : Option Nat} (h : AccS H a e s els ho) (hs : Simple els) : Out H a (.ro true els) := by
  rcases h with ⟨_, rfl, rfl⟩ | ⟨q, _, rfl, o⟩
  · exact out_nil
  · exact out_of (d := 2) (car_ownN o rfl hs)
theorem refNarrow_ok {n : Int} {l : List Int} {m : List Bool} {d : Df} (hl : l.length ≤ big) (hm : m.length ≤ big) : PCall Try.prog 66 [.agg [I n, .ro false (ic l), .ro false (bc m)], .agg (dc d)] (narrowA true (narrowV n l m d)) := by
  refine PCall.intro text66 (by simp) ?_
  unfold ir66
  simp only [walkS, wl, rgets, retv, argsEnv, ev, cst, cst1, cstL, AEnv.get, AEnv.trim, envput, qstep, abin, aun, evs, evo, deref, qload, target, if_true, if_false, Nat.reduceEqDiff, reduceIte, Nat.reduceAdd, AV.cells, AV.isTuple, setMany, alen, aiaddr, afill, Nat.reduceLeDiff, Nat.reduceMul, Nat.reduceLT, afillE, List.replicate, dc]
  refine call_pure (CheckTable_ok hl hm) (frzL_of' (d := 4) (carL_cons (car_agg (carL_cons rfl (carL_cons (car_ro_false (ic_simple _)) (carL_cons (car_ro_false (bc_simple _)) rfl)))) rfl)) ?_
  cases ht : tabB n l m with
  | false =>
    rw [tabE_f fun N hN hT => by rw [hN, tabB_t hT] at ht; cases ht]
    simp only [walkS, wl, rgets, retv, argsEnv, ev, cst, cst1, cstL, AEnv.get, AEnv.trim, envput, qstep, abin, aun, evs, evo, deref, qload, target, if_true, if_false, Nat.reduceEqDiff, reduceIte, Nat.reduceAdd, AV.cells, AV.isTuple, setMany, alen, aiaddr, afill, Nat.reduceLeDiff, Nat.reduceMul, Nat.reduceLT, afillE, List.replicate, Int.reduceBNe]
    refine storeR rfl rfl rfl rfl ⟨rfl, rfl, rfl, by simp⟩ fun H3 z1 z2 z3 => ?_
    simp only [AV.cells, setMany, List.set_cons_zero, List.set_cons_succ, Nat.zero_add, Nat.reduceAdd] at z2
    simp only [walkS, wl, rgets, retv, argsEnv, ev, cst, cst1, cstL, AEnv.get, AEnv.trim, envput, qstep, abin, aun, evs, evo, deref, qload, target, if_true, if_false, Nat.reduceEqDiff, reduceIte, Nat.reduceAdd, AV.cells, AV.isTuple, setMany, alen, aiaddr, afill, Nat.reduceLeDiff, Nat.reduceMul, Nat.reduceLT, afillE, List.replicate, z2]
    have e2 : narrowV n l m d = (0, [], [], 40) := by simp [narrowV, ht]
    rw [e2]
    exact out_tab0
  | true =>
    obtain ⟨N, rfl, hT⟩ := tabB_iff.1 ht
    have hN0 := hT.pos
    have hN := hT.most
    have h1 := hT.ll
    have h2 := hT.lm
    have hNN : N * N ≤ 64 * 64 := Nat.mul_le_mul hN hN
    rw [tabE_t hT]
    simp only [walkS, wl, rgets, retv, argsEnv, ev, cst, cst1, cstL, AEnv.get, AEnv.trim, envput, qstep, abin, aun, evs, evo, deref, qload, target, if_true, if_false, Nat.reduceEqDiff, reduceIte, Nat.reduceAdd, AV.cells, AV.isTuple, setMany, alen, aiaddr, afill, Nat.reduceLeDiff, Nat.reduceMul, Nat.reduceLT, afillE, List.replicate, Int.reduceBNe]
    refine call_pure (Valid_ok d N) (frzL_of' (d := 4) rfl) ?_
    cases hr : right d N with
    | false =>
      simp only [walkS, wl, rgets, retv, argsEnv, ev, cst, cst1, cstL, AEnv.get, AEnv.trim, envput, qstep, abin, aun, evs, evo, deref, qload, target, if_true, if_false, Nat.reduceEqDiff, reduceIte, Nat.reduceAdd, AV.cells, AV.isTuple, setMany, alen, aiaddr, afill, Nat.reduceLeDiff, Nat.reduceMul, Nat.reduceLT, afillE, List.replicate]
      refine storeR rfl rfl rfl rfl ⟨rfl, rfl, rfl, by simp⟩ fun H3 z1 z2 z3 => ?_
      simp only [AV.cells, setMany, List.set_cons_zero, List.set_cons_succ, Nat.zero_add, Nat.reduceAdd] at z2
      simp only [walkS, wl, rgets, retv, argsEnv, ev, cst, cst1, cstL, AEnv.get, AEnv.trim, envput, qstep, abin, aun, evs, evo, deref, qload, target, if_true, if_false, Nat.reduceEqDiff, reduceIte, Nat.reduceAdd, AV.cells, AV.isTuple, setMany, alen, aiaddr, afill, Nat.reduceLeDiff, Nat.reduceMul, Nat.reduceLT, afillE, List.replicate, z2]
      have e2 : narrowV N l m d = (0, [], [], 1) := by simp [narrowV, ht, hr]
      rw [e2]
      exact out_tab0
    | true =>
      have hd : ((0 ≤ d.1 ∧ d.1 < N) ∧ (0 ≤ d.2.1 ∧ d.2.1 < N) ∧ -1073741824 ≤ d.2.2 ∧ d.2.2 ≤ 1073741824) := by
        simp [right] at hr; omega
      obtain ⟨u, v, w, rfl⟩ := trip d hd.1.1 hd.2.1.1
      simp only at hd
      have hu : u < N := by omega
      have hv : v < N := by omega
      have hw : -1073741824 ≤ w ∧ w ≤ 1073741824 := hd.2.2
      have efr : fr ((u : Int), (v : Int), w) = u := Int.toNat_natCast u
      have eto : to ((u : Int), (v : Int), w) = v := Int.toNat_natCast v
      have e41 : hq m (v * N + u) = true → mg l (v * N + u) + w < 0 → narrowV N l m (u, v, w) = (0, [], [], 41) := fun c1 c2 => by
        simp only [narrowV, ht, hr, efr, eto, Int.toNat_natCast, c1, decide_eq_true c2, if_true, Bool.and_self]
      have e0 : ¬ (hq m (v * N + u) = true ∧ mg l (v * N + u) + w < 0) → narrowV N l m (u, v, w) = ((N : Int), li (N * N) (nM N l m u v w), lb (N * N) (nH N l m u v w), 0) := fun c => by
        simp only [narrowV, ht, hr, efr, eto, Int.toNat_natCast, if_true]
        rw [if_neg (by simpa using c)]
      simp only [walkS, wl, rgets, retv, argsEnv, ev, cst, cst1, cstL, AEnv.get, AEnv.trim, envput, qstep, abin, aun, evs, evo, deref, qload, target, if_true, if_false, Nat.reduceEqDiff, reduceIte, Nat.reduceAdd, AV.cells, AV.isTuple, setMany, alen, aiaddr, afill, Nat.reduceLeDiff, Nat.reduceMul, Nat.reduceLT, afillE, List.replicate, hT.wm hv, hT.wa hv hu, ic_length, bc_length, Int.toNat_natCast, hT.nn (i := v) (j := u), hT.gl hv hu, hT.gm hv hu]
      have bv := hT.bound hv hu
      have w1 : IntKind.i64.wrap (mg l (v * N + u) + w) = mg l (v * N + u) + w := wrap_id (by omega) (by omega)
      cases hb : hq m (v * N + u) with
      | false =>
        simp only [walkS, wl, rgets, retv, argsEnv, ev, cst, cst1, cstL, AEnv.get, AEnv.trim, envput, qstep, abin, aun, evs, evo, deref, qload, target, if_true, if_false, Nat.reduceEqDiff, reduceIte, Nat.reduceAdd, AV.cells, AV.isTuple, setMany, alen, aiaddr, afill, Nat.reduceLeDiff, Nat.reduceMul, Nat.reduceLT, afillE, List.replicate]
        refine refN_loop hT hu hv hw rfl rfl rfl rfl fun t H x1 x2 x3 => ?_
        simp only [walkS, wl, rgets, retv, argsEnv, ev, cst, cst1, cstL, AEnv.get, AEnv.trim, envput, qstep, abin, aun, evs, evo, deref, qload, target, if_true, if_false, Nat.reduceEqDiff, reduceIte, Nat.reduceAdd, AV.cells, AV.isTuple, setMany, alen, aiaddr, afill, Nat.reduceLeDiff, Nat.reduceMul, Nat.reduceLT, afillE, List.replicate, x1]
        rw [e0 (by rw [hb]; simp)]
        exact out_two (out_agg3 out_int (accS_out x2 (ic_simple _)) (accS_out x3 (bc_simple _)) rfl rfl rfl) out_int
      | true =>
        simp only [walkS, wl, rgets, retv, argsEnv, ev, cst, cst1, cstL, AEnv.get, AEnv.trim, envput, qstep, abin, aun, evs, evo, deref, qload, target, if_true, if_false, Nat.reduceEqDiff, reduceIte, Nat.reduceAdd, AV.cells, AV.isTuple, setMany, alen, aiaddr, afill, Nat.reduceLeDiff, Nat.reduceMul, Nat.reduceLT, afillE, List.replicate, hT.wm hv, hT.wa hv hu, ic_length, bc_length, Int.toNat_natCast, hT.nn (i := v) (j := u), hT.gl hv hu, hT.gm hv hu, w1]
        refine withBool_intro ?_ ?_ <;> intro hlt
        · simp only [walkS, wl, rgets, retv, argsEnv, ev, cst, cst1, cstL, AEnv.get, AEnv.trim, envput, qstep, abin, aun, evs, evo, deref, qload, target, if_true, if_false, Nat.reduceEqDiff, reduceIte, Nat.reduceAdd, AV.cells, AV.isTuple, setMany, alen, aiaddr, afill, Nat.reduceLeDiff, Nat.reduceMul, Nat.reduceLT, afillE, List.replicate, hlt]
          refine storeR rfl rfl rfl rfl ⟨rfl, rfl, rfl, by simp⟩ fun H3 z1 z2 z3 => ?_
          simp only [AV.cells, setMany, List.set_cons_zero, List.set_cons_succ, Nat.zero_add, Nat.reduceAdd] at z2
          simp only [walkS, wl, rgets, retv, argsEnv, ev, cst, cst1, cstL, AEnv.get, AEnv.trim, envput, qstep, abin, aun, evs, evo, deref, qload, target, if_true, if_false, Nat.reduceEqDiff, reduceIte, Nat.reduceAdd, AV.cells, AV.isTuple, setMany, alen, aiaddr, afill, Nat.reduceLeDiff, Nat.reduceMul, Nat.reduceLT, afillE, List.replicate, z2]
          rw [e41 hb (by simpa using hlt)]
          exact out_tab0
        · simp only [walkS, wl, rgets, retv, argsEnv, ev, cst, cst1, cstL, AEnv.get, AEnv.trim, envput, qstep, abin, aun, evs, evo, deref, qload, target, if_true, if_false, Nat.reduceEqDiff, reduceIte, Nat.reduceAdd, AV.cells, AV.isTuple, setMany, alen, aiaddr, afill, Nat.reduceLeDiff, Nat.reduceMul, Nat.reduceLT, afillE, List.replicate, hlt]
          refine refN_loop hT hu hv hw rfl rfl rfl rfl fun t H x1 x2 x3 => ?_
          simp only [walkS, wl, rgets, retv, argsEnv, ev, cst, cst1, cstL, AEnv.get, AEnv.trim, envput, qstep, abin, aun, evs, evo, deref, qload, target, if_true, if_false, Nat.reduceEqDiff, reduceIte, Nat.reduceAdd, AV.cells, AV.isTuple, setMany, alen, aiaddr, afill, Nat.reduceLeDiff, Nat.reduceMul, Nat.reduceLT, afillE, List.replicate, x1]
          rw [e0 (by rintro ⟨_, h⟩; simp at hlt; omega)]
          exact out_two (out_agg3 out_int (accS_out x2 (ic_simple _)) (accS_out x3 (bc_simple _)) rfl rfl rfl) out_int
end Go.Proofs.Ytepnijjgdhldeaa
