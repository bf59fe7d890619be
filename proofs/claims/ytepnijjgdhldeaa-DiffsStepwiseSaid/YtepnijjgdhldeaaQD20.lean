/- Close: what it hands back. -/
import Derived.Test.YtepnijjgdhldeaaQD19
namespace Go.Proofs.Ytepnijjgdhldeaa
open Go.Awp
set_option linter.unusedSimpArgs false
set_option linter.unusedVariables false
set_option maxRecDepth 10000
set_option maxHeartbeats 8000000
theorem accS_appendL {H : AHeap} {a : AV} {e s bytes : Nat} {els rs : List (List AV)} {ho : Option Nat} {src : AV} {env : AEnv} {x y : Operand} {K : AV → AHeap → Prop} (hacc : AccS H a e s els ho) (hx : ev env x = some a) (hy : ev env y = some src) (hsrc : asrc H s src = some rs) (hne : 0 < rs.length)
    (hb : els.length + rs.length ≤ 140737488355328 ∧ (els.length + rs.length) * bytes ≤ 140737488355328) (hk : ∀ h' H', H.length ≤ H'.length → AHeap.obj H' h' = some ⟨e, s, els ++ rs⟩ → (ho = some h' ∨ (ho = none ∧ H.length ≤ h')) → (∀ i, i < H.length → i ≠ h' → AHeap.obj H' i = AHeap.obj H i) → K (.own h' (els.length + rs.length) 0 (els.length + rs.length)) H') : withRes (sstep (.append e s bytes x y) env H) K := by
  rcases hacc with ⟨rfl, rfl, rfl⟩ | ⟨h, rfl, rfl, h3⟩
  · simp only [sstep, hx, hy, hsrc]
    rw [if_neg (by omega), if_pos (by simpa using hb)]
    have key := hk H.length (H ++ [some ⟨e, s, rs⟩]) (by simp) AHeap.obj_push_eq (.inr ⟨rfl, Nat.le_refl _⟩) fun i hi _ => AHeap.obj_push_lt hi
    simpa [withRes] using key
  · simp only [sstep, hx, hy, hsrc, h3]
    rw [if_pos ⟨trivial, trivial, trivial, trivial, trivial, hb.1, hb.2⟩]
    exact hk h (H.set h (some ⟨e, s, els ++ rs⟩)) (by simp) (AHeap.obj_set_eq (AHeap.obj_lt h3)) (.inl rfl) fun i hi hne => AHeap.obj_set_ne (Ne.symm hne)
theorem asrc_own {H : AHeap} {h n e s : Nat} {rs : List (List AV)} (ho : AHeap.obj H h = some ⟨e, s, rs⟩) (hn : rs.length = n) : asrc H s (.own h n 0 n) = some rs := by
  subst hn
  simp [asrc, ho]
def cellOf (n : Nat) (ds : List Df) (x : Nat) : Int := (lens n ds (one (x / n))).1.long (x % n)
def hasOf (n : Nat) (ds : List Df) (x : Nat) : Bool := (lens n ds (one (x / n))).1.has (x % n)
theorem divmod {n i j : Nat} (hj : j < n) : (i * n + j) / n = i ∧ (i * n + j) % n = j := by
  have hp : 0 < n := by omega
  constructor
  · rw [Nat.mul_comm, Nat.mul_add_div hp, Nat.div_eq_of_lt hj, Nat.add_zero]
  · rw [Nat.mul_comm, Nat.mul_add_mod, Nat.mod_eq_of_lt hj]
theorem li_block {n i : Nat} {f g : Nat → Int} (h : ∀ j, j < n → f (i * n + j) = g j) : ic (li (i * n) f) ++ ic (li n g) = ic (li ((i + 1) * n) f) := by
  have : li ((i + 1) * n) f = li (i * n) f ++ li n g := by
    unfold li
    rw [Nat.succ_mul, List.range_add, List.map_append, List.map_map]
    congr 1
    refine List.map_congr_left fun j hj => ?_
    exact h j (List.mem_range.1 hj)
  rw [this]; simp [ic]
theorem lb_block {n i : Nat} {f g : Nat → Bool} (h : ∀ j, j < n → f (i * n + j) = g j) : bc (lb (i * n) f) ++ bc (lb n g) = bc (lb ((i + 1) * n) f) := by
  have : lb ((i + 1) * n) f = lb (i * n) f ++ lb n g := by
    unfold lb
    rw [Nat.succ_mul, List.range_add, List.map_append, List.map_map]
    congr 1
    refine List.map_congr_left fun j hj => ?_
    exact h j (List.mem_range.1 hj)
  rw [this]; simp [bc]
/-- Close, as both programs answer: the number of nodes, the table, the error. -/
def closeV (n : Int) (ds : List Df) : Int × List Int × List Bool × Int :=
  if valid n ds then (if n > 64 then (0, [], [], 2) else if (lens n.toNat ds (everyone n.toNat)).2 then (n, li (n.toNat * n.toNat) (cellOf n.toNat ds), lb (n.toNat * n.toNat) (hasOf n.toNat ds), 0) else (0, [], [], 41)) else (0, [], [], 40)
def tabV (b : Bool) (n : Int) (l : List Int) (m : List Bool) : AV := .agg [I n, .ro b (ic l), .ro b (bc m)]
theorem out_agg3 {H : AHeap} {x y z x' y' z' : AV} (hx : Out H x x') (hy : Out H y y') (hz : Out H z z') (h1 : x'.one = true) (h2 : y'.one = true) (h3 : z'.one = true) : Out H (.agg [x, y, z]) (.agg [x', y', z']) := fun w m B v st hv m' H' B' hB hm => by
  cases hv with
  | agg _ vs hl ho hh =>
    refine .agg _ _ hl (by simp [h1, h2, h3]) fun i u v' e1 e2 => ?_
    rcases i with _ | _ | _ | i
    · cases e1; exact hx w m B v' st (hh 0 x v' rfl e2) m' H' B' hB hm
    · cases e1; exact hy w m B v' st (hh 1 y v' rfl e2) m' H' B' hB hm
    · cases e1; exact hz w m B v' st (hh 2 z v' rfl e2) m' H' B' hB hm
    · simp at e1
theorem out_tab0 {H : AHeap} {e : Int} : Out H (.tuple [.agg [I 0, .nilSlice, .nilSlice], I e]) (.tuple [tabV true 0 [] [], I e]) := out_two (out_agg3 out_int out_nil out_nil rfl rfl rfl) out_int
theorem Close_ok {n : Int} {ds : List Df} (hs : valid n ds = true → n ≤ 16 ∨ n > 64) : PCall Try.prog 63 [.agg [I n, .ro false (rows ds)]] (.tuple [tabV true (closeV n ds).1 (closeV n ds).2.1 (closeV n ds).2.2.1, I (closeV n ds).2.2.2]) := by
  refine PCall.intro text63 (by simp) ?_
  unfold ir63
  simp only [walkS, wl, rgets, retv, argsEnv, ev, cst, cst1, cstL, AEnv.get, AEnv.trim, envput, qstep, abin, aun, evs, evo, deref, qload, target, if_true, if_false, Nat.reduceEqDiff, reduceIte, Nat.reduceAdd, AV.cells, AV.isTuple, setMany, alen, aiaddr, afill, Nat.reduceLeDiff, Nat.reduceMul, Nat.reduceLT, afillE, List.replicate]
  refine call_pure (check_ok n ds) (frzL_of' (d := 4) (carL_cons car_netF rfl)) ?_
  simp only [walkS, wl, rgets, retv, argsEnv, ev, cst, cst1, cstL, AEnv.get, AEnv.trim, envput, qstep, abin, aun, evs, evo, deref, qload, target, if_true, if_false, Nat.reduceEqDiff, reduceIte, Nat.reduceAdd, AV.cells, AV.isTuple, setMany, alen, aiaddr, afill, Nat.reduceLeDiff, Nat.reduceMul, Nat.reduceLT, afillE, List.replicate]
  cases hv : valid n ds with
  | false =>
    have e1 : check n ds = 40 := by simp [check, hv]
    have e2 : closeV n ds = (0, [], [], 40) := by simp [closeV, hv]
    rw [e1, e2]
    simp only [walkS, wl, rgets, retv, argsEnv, ev, cst, cst1, cstL, AEnv.get, AEnv.trim, envput, qstep, abin, aun, evs, evo, deref, qload, target, if_true, if_false, Nat.reduceEqDiff, reduceIte, Nat.reduceAdd, AV.cells, AV.isTuple, setMany, alen, aiaddr, afill, Nat.reduceLeDiff, Nat.reduceMul, Nat.reduceLT, afillE, List.replicate, Int.reduceBNe, sstep_store]
    exact out_tab0
  | true =>
    have e1 : check n ds = 0 := by simp [check, hv]
    rw [e1]
    simp only [walkS, wl, rgets, retv, argsEnv, ev, cst, cst1, cstL, AEnv.get, AEnv.trim, envput, qstep, abin, aun, evs, evo, deref, qload, target, if_true, if_false, Nat.reduceEqDiff, reduceIte, Nat.reduceAdd, AV.cells, AV.isTuple, setMany, alen, aiaddr, afill, Nat.reduceLeDiff, Nat.reduceMul, Nat.reduceLT, afillE, List.replicate, Int.reduceBNe]
    by_cases h64 : n > 64
    · have e2 : closeV n ds = (0, [], [], 2) := by simp only [closeV, hv, if_true, if_pos h64]
      rw [e2]
      simp only [walkS, wl, rgets, retv, argsEnv, ev, cst, cst1, cstL, AEnv.get, AEnv.trim, envput, qstep, abin, aun, evs, evo, deref, qload, target, if_true, if_false, Nat.reduceEqDiff, reduceIte, Nat.reduceAdd, AV.cells, AV.isTuple, setMany, alen, aiaddr, afill, Nat.reduceLeDiff, Nat.reduceMul, Nat.reduceLT, afillE, List.replicate, decide_eq_true h64, sstep_store]
      exact out_tab0
    · obtain ⟨m, rfl, hg, hm⟩ := good_of hv (by rcases hs hv with h | h <;> omega)
      have hn1 := hg.pos
      simp only [walkS, wl, rgets, retv, argsEnv, ev, cst, cst1, cstL, AEnv.get, AEnv.trim, envput, qstep, abin, aun, evs, evo, deref, qload, target, if_true, if_false, Nat.reduceEqDiff, reduceIte, Nat.reduceAdd, AV.cells, AV.isTuple, setMany, alen, aiaddr, afill, Nat.reduceLeDiff, Nat.reduceMul, Nat.reduceLT, afillE, List.replicate, decide_eq_false h64]
      refine call_pure (solve_ok hg (plain_graph m false ds) (fun H => car_netF)) (frzL_of' (d := 5) (carL_cons (car_iface car_netF) rfl)) ?_
      unfold treeV
      simp only [walkS, wl, rgets, retv, argsEnv, ev, cst, cst1, cstL, AEnv.get, AEnv.trim, envput, qstep, abin, aun, evs, evo, deref, qload, target, if_true, if_false, Nat.reduceEqDiff, reduceIte, Nat.reduceAdd, AV.cells, AV.isTuple, setMany, alen, aiaddr, afill, Nat.reduceLeDiff, Nat.reduceMul, Nat.reduceLT, afillE, List.replicate, sstep_store]
      cases hl : (lens m ds (everyone m)).2 with
      | false =>
        have hb : decide ((grown m ds (everyone m)).2 ≥ 0) = true := decide_eq_true ((solvable_iff hg).2 hl)
        have e2 : closeV m ds = (0, [], [], 41) := by simp only [closeV, hv, if_true, if_neg h64, Int.toNat_natCast, hl, Bool.false_eq_true, if_false]
        rw [hb, e2]
        simp only [walkS, wl, rgets, retv, argsEnv, ev, cst, cst1, cstL, AEnv.get, AEnv.trim, envput, qstep, abin, aun, evs, evo, deref, qload, target, if_true, if_false, Nat.reduceEqDiff, reduceIte, Nat.reduceAdd, AV.cells, AV.isTuple, setMany, alen, aiaddr, afill, Nat.reduceLeDiff, Nat.reduceMul, Nat.reduceLT, afillE, List.replicate, sstep_store]
        exact out_tab0
      | true =>
        have hb : decide ((grown m ds (everyone m)).2 ≥ 0) = false := decide_eq_false (fun h => by rw [(solvable_iff hg).1 h] at hl; cases hl)
        have e2 : closeV m ds = ((m : Int), li (m * m) (cellOf m ds), lb (m * m) (hasOf m ds), 0) := by simp only [closeV, hv, if_true, if_neg h64, Int.toNat_natCast, hl]
        rw [hb, e2]
        simp only [walkS, wl, rgets, retv, argsEnv, ev, cst, cst1, cstL, AEnv.get, AEnv.trim, envput, qstep, abin, aun, evs, evo, deref, qload, target, if_true, if_false, Nat.reduceEqDiff, reduceIte, Nat.reduceAdd, AV.cells, AV.isTuple, setMany, alen, aiaddr, afill, Nat.reduceLeDiff, Nat.reduceMul, Nat.reduceLT, afillE, List.replicate, sstep_store]
        refine awp_loop (σ := Nat × (AV × Option Nat) × (AV × Option Nat)) (fun s => [(1, .ptr 0 1 0 0), (2, .ptr 1 1 0 0), (8, .ptr 3 1 0 0), (37, I m), (38, I s.1)])
          (fun s H => AHeap.obj H 0 = some ⟨24, 2, [[I m, .ro false (rows ds)]]⟩ ∧ AHeap.obj H 1 = some ⟨73, 3, [[I 0, .nilSlice, .nilSlice]]⟩ ∧ AHeap.obj H 3 = some ⟨73, 3, [[I m, s.2.1.1, s.2.2.1]]⟩ ∧ AccS H s.2.1.1 3 1 (ic (li (s.1 * m) (cellOf m ds))) s.2.1.2 ∧ AccS H s.2.2.1 4 1 (bc (lb (s.1 * m) (hasOf m ds))) s.2.2.2)
          (fun s => s.1 ≤ m ∧ (∀ h, s.2.1.2 = some h → 4 ≤ h) ∧ (∀ h, s.2.2.2 = some h → 4 ≤ h) ∧ ∀ h, s.2.1.2 = some h → s.2.2.2 ≠ some h) (fun s => m - s.1) (0, (.nilSlice, none), (.nilSlice, none)) ⟨Nat.zero_le _, by simp, by simp, by simp⟩ rfl
          ⟨rfl, rfl, rfl, .inl ⟨rfl, by simp [li, ic], rfl⟩, .inl ⟨rfl, by simp [lb, bc], rfl⟩⟩ ?_
        rintro ⟨i, ⟨a1, p1⟩, a2, p2⟩ H ⟨hi, z1, z2, zd⟩ ⟨o0, o1, o3, acc1, acc2⟩
        simp only at hi z1 z2 zd o3 acc1 acc2
        simp only [walkS, wl, rgets, retv, argsEnv, ev, cst, cst1, cstL, AEnv.get, AEnv.trim, envput, qstep, abin, aun, evs, evo, deref, qload, target, if_true, if_false, Nat.reduceEqDiff, reduceIte, Nat.reduceAdd, AV.cells, AV.isTuple, setMany, alen, aiaddr, afill, Nat.reduceLeDiff, Nat.reduceMul, Nat.reduceLT, afillE, List.replicate]
        refine withBool_intro ?_ ?_ <;> intro hb2 <;> simp only [walkS, wl, rgets, retv, argsEnv, ev, cst, cst1, cstL, AEnv.get, AEnv.trim, envput, qstep, abin, aun, evs, evo, deref, qload, target, if_true, if_false, Nat.reduceEqDiff, reduceIte, Nat.reduceAdd, AV.cells, AV.isTuple, setMany, alen, aiaddr, afill, Nat.reduceLeDiff, Nat.reduceMul, Nat.reduceLT, afillE, List.replicate]
        · have hlt : i < m := by simpa using hb2
          have l3 := AHeap.obj_lt o3
          have him : (i + 1) * m ≤ 20 * 20 := Nat.mul_le_mul (by have := hg.small; omega) hg.small
          have hsm : (i + 1) * m = i * m + m := Nat.succ_mul ..
          simp only [walkS, wl, rgets, retv, argsEnv, ev, cst, cst1, cstL, AEnv.get, AEnv.trim, envput, qstep, abin, aun, evs, evo, deref, qload, target, if_true, if_false, Nat.reduceEqDiff, reduceIte, Nat.reduceAdd, AV.cells, AV.isTuple, setMany, alen, aiaddr, afill, Nat.reduceLeDiff, Nat.reduceMul, Nat.reduceLT, afillE, List.replicate, o0]
          refine (grow_at hg (plain_graph m false ds) (l := [(i : Int)]) (fun j hj => by simp at hj; omega) (by simp) (.inr ⟨H.length, rfl, AHeap.obj_push_eq⟩)).mono fun x H1 hx => ?_
          rw [marks_one] at hx
          obtain ⟨h1, h2, h3, rfl, g1, g2, g3, q1, q2, q3, hl2, kp2⟩ := hx
          have hgr : growR ds m (startL fun x => decide (x = i)) m 0 = ((lens m ds (one i)).1, -1) := (lens_grown hg (solvable_one hg hl hlt)).1
          rw [hgr] at q1 q2 q3
          simp only [List.length_append, List.length_cons, List.length_nil] at g1 hl2 kp2
          have kp : ∀ q, q < H.length → AHeap.obj H1 q = AHeap.obj H q := fun q hq => by rw [kp2 q (by omega), AHeap.obj_push_lt hq]
          have hl3 := AHeap.obj_lt q3
          simp only [walkS, wl, rgets, retv, argsEnv, ev, cst, cst1, cstL, AEnv.get, AEnv.trim, envput, qstep, abin, aun, evs, evo, deref, qload, target, if_true, if_false, Nat.reduceEqDiff, reduceIte, Nat.reduceAdd, AV.cells, AV.isTuple, setMany, alen, aiaddr, afill, Nat.reduceLeDiff, Nat.reduceMul, Nat.reduceLT, afillE, List.replicate]
          refine storeR rfl rfl AHeap.obj_push_eq rfl ⟨rfl, rfl, rfl, by simp⟩ fun H2 y1 y2 y3 => ?_
          simp only [AV.cells, setMany, List.set_cons_zero, List.set_cons_succ, Nat.zero_add, Nat.reduceAdd] at y2
          have hL2 : H2.length = H1.length + 1 := by rw [y1]; simp
          have back1 : ∀ q, q < H1.length → AHeap.obj H2 q = AHeap.obj H1 q := fun q hq => by rw [y3 q (by omega), AHeap.obj_push_lt hq]
          have back : ∀ q, q < H.length → AHeap.obj H2 q = AHeap.obj H q := fun q hq => by rw [back1 q (by omega), kp q hq]
          have o0' := (back 0 (by omega)).trans o0
          have o1' := (back 1 (by omega)).trans o1
          have o3' := (back 3 (by omega)).trans o3
          have w1 := (back1 h1 (by omega)).trans q1
          have w2 := (back1 h2 (by omega)).trans q2
          have acc1' : AccS H2 a1 3 1 (ic (li (i * m) (cellOf m ds))) p1 := acc1.keep fun q _ hq => back q hq
          have acc2' : AccS H2 a2 4 1 (bc (lb (i * m) (hasOf m ds))) p2 := acc2.keep fun q _ hq => back q hq
          have lo1 : ∀ h, p1 = some h → h < H.length := fun h hh => by
            rcases acc1 with ⟨e, _⟩ | ⟨c, e, _, e3⟩
            · rw [e] at hh; cases hh
            · rw [e] at hh; cases hh; exact AHeap.obj_lt e3
          have lo2 : ∀ h, p2 = some h → h < H.length := fun h hh => by
            rcases acc2 with ⟨e, _⟩ | ⟨c, e, _, e3⟩
            · rw [e] at hh; cases hh
            · rw [e] at hh; cases hh; exact AHeap.obj_lt e3
          simp only [walkS, wl, rgets, retv, argsEnv, ev, cst, cst1, cstL, AEnv.get, AEnv.trim, envput, qstep, abin, aun, evs, evo, deref, qload, target, if_true, if_false, Nat.reduceEqDiff, reduceIte, Nat.reduceAdd, AV.cells, AV.isTuple, setMany, alen, aiaddr, afill, Nat.reduceLeDiff, Nat.reduceMul, Nat.reduceLT, afillE, List.replicate, o3', y2]
          refine accS_appendL acc1' rfl rfl (asrc_own w1 (by rw [ic_length, li_length])) (by rw [ic_length, li_length]; exact hn1) (by simp only [ic_length, li_length]; omega) fun r1 H3 m1 e1 c1 k1 => ?_
          have hr1 : 4 ≤ r1 ∧ (∀ h, p2 = some h → h ≠ r1) ∧ r1 ≠ h2 ∧ r1 ≠ H1.length := by
            rcases c1 with c | ⟨c, c'⟩
            · have := lo1 r1 c
              exact ⟨z1 r1 c, fun h hh e => zd r1 c (by rw [← e]; exact hh), by omega, by omega⟩
            · exact ⟨by omega, fun h hh e => by have := lo2 h hh; omega, by omega, by omega⟩
          have o0a := (k1 0 (by omega) (by omega)).trans o0'
          have o1a := (k1 1 (by omega) (by omega)).trans o1'
          have o3a := (k1 3 (by omega) (by omega)).trans o3'
          have w2a := (k1 h2 (by omega) (Ne.symm hr1.2.2.1)).trans w2
          have y2a := (k1 H1.length (by omega) (Ne.symm hr1.2.2.2)).trans y2
          have acc2a : AccS H3 a2 4 1 (bc (lb (i * m) (hasOf m ds))) p2 := acc2'.keep fun q hq hql => k1 q hql (hr1.2.1 q hq)
          have lr1 := AHeap.obj_lt e1
          simp only [walkS, wl, rgets, retv, argsEnv, ev, cst, cst1, cstL, AEnv.get, AEnv.trim, envput, qstep, abin, aun, evs, evo, deref, qload, target, if_true, if_false, Nat.reduceEqDiff, reduceIte, Nat.reduceAdd, AV.cells, AV.isTuple, setMany, alen, aiaddr, afill, Nat.reduceLeDiff, Nat.reduceMul, Nat.reduceLT, afillE, List.replicate, o3a]
          refine storeR rfl rfl o3a rfl ⟨rfl, rfl, rfl, by simp⟩ fun H4 b1 b2 b3 => ?_
          simp only [AV.cells, setMany, List.set_cons_zero, List.set_cons_succ, Nat.zero_add, Nat.reduceAdd] at b2
          have acc2b : AccS H4 a2 4 1 (bc (lb (i * m) (hasOf m ds))) p2 := acc2a.keep fun q hq _ => b3 q (by have := z2 q hq; omega)
          have w2b := (b3 h2 (by omega)).trans w2a
          have y2b := (b3 H1.length (by omega)).trans y2a
          simp only [walkS, wl, rgets, retv, argsEnv, ev, cst, cst1, cstL, AEnv.get, AEnv.trim, envput, qstep, abin, aun, evs, evo, deref, qload, target, if_true, if_false, Nat.reduceEqDiff, reduceIte, Nat.reduceAdd, AV.cells, AV.isTuple, setMany, alen, aiaddr, afill, Nat.reduceLeDiff, Nat.reduceMul, Nat.reduceLT, afillE, List.replicate, b2, y2b]
          refine accS_appendL acc2b rfl rfl (asrc_own w2b (by rw [bc_length, lb_length])) (by rw [bc_length, lb_length]; exact hn1) (by simp only [bc_length, lb_length]; omega) fun r2 H5 m2 e2 c2 k2 => ?_
          have hr2 : 4 ≤ r2 ∧ r2 ≠ r1 := by
            rcases c2 with c | ⟨c, c'⟩
            · exact ⟨z2 r2 c, hr1.2.1 r2 c⟩
            · exact ⟨by omega, by omega⟩
          have o3b := (k2 3 (by omega) (by omega)).trans b2
          simp only [walkS, wl, rgets, retv, argsEnv, ev, cst, cst1, cstL, AEnv.get, AEnv.trim, envput, qstep, abin, aun, evs, evo, deref, qload, target, if_true, if_false, Nat.reduceEqDiff, reduceIte, Nat.reduceAdd, AV.cells, AV.isTuple, setMany, alen, aiaddr, afill, Nat.reduceLeDiff, Nat.reduceMul, Nat.reduceLT, afillE, List.replicate, o3b]
          refine storeR rfl rfl o3b rfl ⟨rfl, rfl, rfl, by simp⟩ fun H6 d1 d2 d3 => ?_
          simp only [AV.cells, setMany, List.set_cons_zero, List.set_cons_succ, Nat.zero_add, Nat.reduceAdd] at d2
          simp only [walkS, wl, rgets, retv, argsEnv, ev, cst, cst1, cstL, AEnv.get, AEnv.trim, envput, qstep, abin, aun, evs, evo, deref, qload, target, if_true, if_false, Nat.reduceEqDiff, reduceIte, Nat.reduceAdd, AV.cells, AV.isTuple, setMany, alen, aiaddr, afill, Nat.reduceLeDiff, Nat.reduceMul, Nat.reduceLT, afillE, List.replicate]
          rw [wrap_id (by omega) (by omega)]
          refine loop_end (i + 1, (_, some r1), (_, some r2)) ⟨hlt, by simp only; intro h hh; cases hh; exact hr1.1, by simp only; intro h hh; cases hh; exact hr2.1, by simp only; intro h hh e; cases hh; cases e; exact hr2.2 rfl⟩ (by simp only; omega) rfl
            ⟨?_, ?_, d2, .inr ⟨r1, rfl, ?_, ?_⟩, .inr ⟨r2, rfl, ?_, ?_⟩⟩
          · rw [d3 0 (by omega), k2 0 (by omega) (by omega), b3 0 (by omega)]; exact o0a
          · rw [d3 1 (by omega), k2 1 (by omega) (by omega), b3 1 (by omega)]; exact o1a
          · simp only [ic_length, li_length, hsm]
          · rw [d3 r1 (by omega), k2 r1 (by omega) (Ne.symm hr2.2), b3 r1 (by omega), e1, li_block fun j hj => by simp only [cellOf, (divmod hj).1, (divmod hj).2]]
          · simp only [bc_length, lb_length, hsm]
          · rw [d3 r2 (by omega), e2, lb_block fun j hj => by simp only [hasOf, (divmod hj).1, (divmod hj).2]]
        · have hk' : i = m := by simp at hb2; omega
          subst hk'
          have hpp : 0 < i * i := Nat.mul_pos hn1 hn1
          obtain ⟨h1, rfl, rfl, w1⟩ := acc1.resolve_left (by intro h; have := congrArg List.length h.2.1; rw [ic_length, li_length] at this; simp only [List.length_nil] at this; omega)
          obtain ⟨h2, rfl, rfl, w2⟩ := acc2.resolve_left (by intro h; have := congrArg List.length h.2.1; rw [bc_length, lb_length] at this; simp only [List.length_nil] at this; omega)
          have g1 := z1 h1 rfl
          have g2 := z2 h2 rfl
          simp only [walkS, wl, rgets, retv, argsEnv, ev, cst, cst1, cstL, AEnv.get, AEnv.trim, envput, qstep, abin, aun, evs, evo, deref, qload, target, if_true, if_false, Nat.reduceEqDiff, reduceIte, Nat.reduceAdd, AV.cells, AV.isTuple, setMany, alen, aiaddr, afill, Nat.reduceLeDiff, Nat.reduceMul, Nat.reduceLT, afillE, List.replicate, o3]
          refine storeR rfl rfl o1 rfl ⟨rfl, rfl, rfl, by simp⟩ fun H2 y1 y2 y3 => ?_
          simp only [AV.cells, setMany, List.set_cons_zero, List.set_cons_succ, Nat.zero_add, Nat.reduceAdd] at y2
          simp only [walkS, wl, rgets, retv, argsEnv, ev, cst, cst1, cstL, AEnv.get, AEnv.trim, envput, qstep, abin, aun, evs, evo, deref, qload, target, if_true, if_false, Nat.reduceEqDiff, reduceIte, Nat.reduceAdd, AV.cells, AV.isTuple, setMany, alen, aiaddr, afill, Nat.reduceLeDiff, Nat.reduceMul, Nat.reduceLT, afillE, List.replicate, y2]
          exact out_two (out_agg3 out_int (out_of (d := 2) (car_ownN ((y3 h1 (by omega)).trans w1) rfl (ic_simple _))) (out_of (d := 2) (car_ownN ((y3 h2 (by omega)).trans w2) rfl (bc_simple _))) rfl rfl rfl) out_int
end Go.Proofs.Ytepnijjgdhldeaa
