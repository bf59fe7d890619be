/- Solve and Clash: what they hand back. -/
import Derived.Test.YtepnijjgdhldeaaQD15
namespace Go.Proofs.Ytepnijjgdhldeaa
open Go.Awp
set_option linter.unusedSimpArgs false
set_option linter.unusedVariables false
set_option maxRecDepth 10000
set_option maxHeartbeats 4000000
/-- A list with its first and last elements exchanged, up to a place. -/
def rv (n : Nat) (f : Nat → Int) (i : Nat) : Nat → Int := fun t => if t < i ∨ n ≤ t + i then f (n - 1 - t) else f t
theorem Reverse_at {n : Nat} {f : Nat → Int} {h : Nat} {H0 : AHeap} (hn : n ≤ 1048576) (ho : AHeap.obj H0 h = some ⟨3, 1, ic (li n f)⟩) : ACall Try.prog 86 [.own h n 0 n] H0 fun _ H' => H'.length = H0.length ∧ AHeap.obj H' h = some ⟨3, 1, ic (li n fun t => f (n - 1 - t))⟩ ∧ ∀ q, q ≠ h → AHeap.obj H' q = AHeap.obj H0 q := by
  refine ACall.intro text86 (by simp) ?_
  unfold ir86
  simp only [walkS, wl, rgets, retv, argsEnv, ev, cst, cst1, cstL, AEnv.get, AEnv.trim, envput, qstep, abin, aun, evs, evo, deref, qload, target, if_true, if_false, Nat.reduceEqDiff, reduceIte, Nat.reduceAdd, AV.cells, AV.isTuple, setMany, alen, aiaddr, afill, Nat.reduceLeDiff, Nat.reduceMul, Nat.reduceLT, afillE, List.replicate, ho, ic_length, li_length]
  rw [wrap_id (by omega) (by omega)]
  refine awp_loop (σ := Nat) (fun i => [(0, .own h n 0 n), (2, I i), (3, I ((n : Int) - 1 - i))]) (fun i H => H.length = H0.length ∧ AHeap.obj H h = some ⟨3, 1, ic (li n (rv n f i))⟩ ∧ ∀ q, q ≠ h → AHeap.obj H q = AHeap.obj H0 q) (fun i => i ≤ n ∧ (i = 0 ∨ 2 * i ≤ n + 1)) (fun i => n - i) 0 ⟨Nat.zero_le _, .inl rfl⟩ (by simp) ⟨rfl, by rw [ho]; congr 3; refine List.map_congr_left (l := List.range n) fun t ht => ?_; have := List.mem_range.1 ht; simp [rv]; omega, fun _ _ => rfl⟩ ?_
  rintro i H ⟨hi, hi2⟩ ⟨hl, o1, kp⟩
  simp only [walkS, wl, rgets, retv, argsEnv, ev, cst, cst1, cstL, AEnv.get, AEnv.trim, envput, qstep, abin, aun, evs, evo, deref, qload, target, if_true, if_false, Nat.reduceEqDiff, reduceIte, Nat.reduceAdd, AV.cells, AV.isTuple, setMany, alen, aiaddr, afill, Nat.reduceLeDiff, Nat.reduceMul, Nat.reduceLT, afillE, List.replicate]
  refine withBool_intro ?_ ?_ <;> intro hb <;> simp only [walkS, wl, rgets, retv, argsEnv, ev, cst, cst1, cstL, AEnv.get, AEnv.trim, envput, qstep, abin, aun, evs, evo, deref, qload, target, if_true, if_false, Nat.reduceEqDiff, reduceIte, Nat.reduceAdd, AV.cells, AV.isTuple, setMany, alen, aiaddr, afill, Nat.reduceLeDiff, Nat.reduceMul, Nat.reduceLT, afillE, List.replicate]
  · have hlt : (i : Int) < n - 1 - i := by simpa using hb
    obtain ⟨j, hj⟩ : ∃ j : Nat, (n : Int) - 1 - i = j := ⟨n - 1 - i, by omega⟩
    rw [hj]
    have hin : i < n := by omega
    have hjn : j < n := by omega
    simp only [walkS, wl, rgets, retv, argsEnv, ev, cst, cst1, cstL, AEnv.get, AEnv.trim, envput, qstep, abin, aun, evs, evo, deref, qload, target, if_true, if_false, Nat.reduceEqDiff, reduceIte, Nat.reduceAdd, AV.cells, AV.isTuple, setMany, alen, aiaddr, afill, Nat.reduceLeDiff, Nat.reduceMul, Nat.reduceLT, afillE, List.replicate, o1, li_get hin, li_get hjn, ic_length, li_length, if_pos (show (i : Int) < n by omega), if_pos (show (j : Int) < n by omega)]
    refine storeW rfl rfl o1 (li_get hin) ⟨by simp [ic_length, li_length], rfl, rfl, by simp⟩ fun H1 y1 y2 y3 => ?_
    simp only [AV.cells, setMany, List.set_cons_zero, li_set] at y2
    simp only [walkS, wl, rgets, retv, argsEnv, ev, cst, cst1, cstL, AEnv.get, AEnv.trim, envput, qstep, abin, aun, evs, evo, deref, qload, target, if_true, if_false, Nat.reduceEqDiff, reduceIte, Nat.reduceAdd, AV.cells, AV.isTuple, setMany, alen, aiaddr, afill, Nat.reduceLeDiff, Nat.reduceMul, Nat.reduceLT, afillE, List.replicate, o1, y2, li_get hin, li_get hjn, ic_length, li_length, if_pos (show (i : Int) < n by omega), if_pos (show (j : Int) < n by omega)]
    refine storeR rfl rfl y2 (li_get hjn) ⟨by simp [ic_length, li_length], rfl, rfl, by simp⟩ fun H2 z1 z2 z3 => ?_
    simp only [AV.cells, setMany, List.set_cons_zero, li_set] at z2
    simp only [walkS, wl, rgets, retv, argsEnv, ev, cst, cst1, cstL, AEnv.get, AEnv.trim, envput, qstep, abin, aun, evs, evo, deref, qload, target, if_true, if_false, Nat.reduceEqDiff, reduceIte, Nat.reduceAdd, AV.cells, AV.isTuple, setMany, alen, aiaddr, afill, Nat.reduceLeDiff, Nat.reduceMul, Nat.reduceLT, afillE, List.replicate]
    rw [wrap_id (x := (i : Int) + 1) (by omega) (by omega), wrap_id (by omega) (by omega)]
    refine loop_end (i + 1) ⟨by omega, by omega⟩ (by omega) ?_ ⟨by omega, ?_, fun q hq => by rw [z3 q hq, y3 q hq, kp q hq]⟩
    · rw [show (j : Int) - 1 = (n : Int) - 1 - ((i + 1 : Nat) : Int) by omega]; rfl
    · rw [z2]
      congr 3
      refine List.map_congr_left (l := List.range n) fun t ht => ?_
      have htn := List.mem_range.1 ht
      by_cases e1 : t = j
      · subst e1
        rw [upd_eq]
        simp only [rv]
        rw [if_neg (by omega), if_pos (by omega)]
        congr 1; omega
      · rw [upd_ne e1]
        by_cases e2 : t = i
        · subst e2
          rw [upd_eq]
          simp only [rv]
          rw [if_neg (by omega), if_pos (by omega)]
          congr 1; omega
        · rw [upd_ne e2]
          simp only [rv]
          by_cases h1 : t < i ∨ n ≤ t + i
          · rw [if_pos h1, if_pos (by omega)]
          · rw [if_neg h1, if_neg (by omega)]
  · have hge : ¬ (i : Int) < n - 1 - i := by simpa using hb
    refine ⟨hl, ?_, kp⟩
    rw [o1]
    congr 3
    refine List.map_congr_left (l := List.range n) fun t ht => ?_
    have htn := List.mem_range.1 ht
    simp only [rv]
    split
    · rfl
    · congr 1; omega
/-- Solve, as the program answers. -/
def solveV (n : Int) (ds : List Df) : List Int × Int := if valid n ds then (if 0 ≤ (grown n.toNat ds (everyone n.toNat)).2 then ([], 41) else (solved n.toNat ds, 0)) else ([], 40)
theorem Solve_ok {n : Int} {ds : List Df} (hs : valid n ds = true → n ≤ 16) : PCall Try.prog 34 [.agg [I n, .ro false (rows ds)]] (.tuple [.ro true (ic (solveV n ds).1), I (solveV n ds).2]) := by
  refine PCall.intro text34 (by simp) ?_
  unfold ir34
  simp only [walkS, wl, rgets, retv, argsEnv, ev, cst, cst1, cstL, AEnv.get, AEnv.trim, envput, qstep, abin, aun, evs, evo, deref, qload, target, if_true, if_false, Nat.reduceEqDiff, reduceIte, Nat.reduceAdd, AV.cells, AV.isTuple, setMany, alen, aiaddr, afill, Nat.reduceLeDiff, Nat.reduceMul, Nat.reduceLT, afillE, List.replicate]
  refine call_pure (check_ok n ds) (frzL_of' (d := 4) (carL_cons car_netF rfl)) ?_
  simp only [walkS, wl, rgets, retv, argsEnv, ev, cst, cst1, cstL, AEnv.get, AEnv.trim, envput, qstep, abin, aun, evs, evo, deref, qload, target, if_true, if_false, Nat.reduceEqDiff, reduceIte, Nat.reduceAdd, AV.cells, AV.isTuple, setMany, alen, aiaddr, afill, Nat.reduceLeDiff, Nat.reduceMul, Nat.reduceLT, afillE, List.replicate]
  refine withBool_intro ?_ ?_ <;> intro h <;> simp only [walkS, wl, rgets, retv, argsEnv, ev, cst, cst1, cstL, AEnv.get, AEnv.trim, envput, qstep, abin, aun, evs, evo, deref, qload, target, if_true, if_false, Nat.reduceEqDiff, reduceIte, Nat.reduceAdd, AV.cells, AV.isTuple, setMany, alen, aiaddr, afill, Nat.reduceLeDiff, Nat.reduceMul, Nat.reduceLT, afillE, List.replicate]
  · have hv := check_ne (by simpa using h)
    have e : solveV n ds = ([], 40) := by simp [solveV, hv]
    have e2 : check n ds = 40 := by simp [check, hv]
    rw [e, e2]; exact out_noneL
  · have hv := check_eq (by simpa using h)
    obtain ⟨m, rfl, hg, hm⟩ := good_of hv (hs hv)
    refine call_pure (solve_ok hg (plain_graph m false ds) (fun H => car_netF)) (frzL_of' (d := 5) (carL_cons (car_iface car_netF) rfl)) ?_
    unfold treeV
    simp only [walkS, wl, rgets, retv, argsEnv, ev, cst, cst1, cstL, AEnv.get, AEnv.trim, envput, qstep, abin, aun, evs, evo, deref, qload, target, if_true, if_false, Nat.reduceEqDiff, reduceIte, Nat.reduceAdd, AV.cells, AV.isTuple, setMany, alen, aiaddr, afill, Nat.reduceLeDiff, Nat.reduceMul, Nat.reduceLT, afillE, List.replicate, sstep_store]
    refine withBool_intro ?_ ?_ <;> intro hb <;> simp only [walkS, wl, rgets, retv, argsEnv, ev, cst, cst1, cstL, AEnv.get, AEnv.trim, envput, qstep, abin, aun, evs, evo, deref, qload, target, if_true, if_false, Nat.reduceEqDiff, reduceIte, Nat.reduceAdd, AV.cells, AV.isTuple, setMany, alen, aiaddr, afill, Nat.reduceLeDiff, Nat.reduceMul, Nat.reduceLT, afillE, List.replicate]
    · have e : solveV m ds = ([], 41) := by
        have : 0 ≤ (grown m ds (everyone m)).2 := by simpa using hb
        simp [solveV, hv, this]
      rw [e]; exact out_noneL
    · have e : solveV m ds = (solved m ds, 0) := by
        have : ¬ 0 ≤ (grown m ds (everyone m)).2 := by simpa using hb
        simp only [solveV, hv, if_true, Int.toNat_natCast, if_neg this]
      rw [e]
      exact out_two (out_of (d := 2) (car_ro_true (ic_simple _))) out_int
def clashV (l : List Int) (b : Bool) (e : Int) : AV := .tuple [.ro true (ic l), .bool b, I e]
theorem out_clash0 {H : AHeap} {b : Bool} {e : Int} : Out H (.tuple [.nilSlice, .bool b, I e]) (clashV [] b e) := out_tuple (.cons out_nil (.cons out_bool (.cons out_int .nil)))
/-- The indices along a round, from its end. -/
def roundL (ds : List Df) (s : Gs) (a p : Nat) : List Int := li p fun t => s.last (itp ds s (p - 1 - t) a)
theorem Clash_bad {n : Int} {ds : List Df} (hv : valid n ds = false) : PCall Try.prog 35 [.agg [I n, .ro false (rows ds)]] (clashV [] false 40) := by
  refine PCall.intro text35 (by simp) ?_
  unfold ir35
  simp only [walkS, wl, rgets, retv, argsEnv, ev, cst, cst1, cstL, AEnv.get, AEnv.trim, envput, qstep, abin, aun, evs, evo, deref, qload, target, if_true, if_false, Nat.reduceEqDiff, reduceIte, Nat.reduceAdd, AV.cells, AV.isTuple, setMany, alen, aiaddr, afill, Nat.reduceLeDiff, Nat.reduceMul, Nat.reduceLT, afillE, List.replicate]
  refine call_pure (check_ok n ds) (frzL_of' (d := 4) (carL_cons car_netF rfl)) ?_
  have e2 : check n ds = 40 := by simp [check, hv]
  rw [e2]
  simp only [walkS, wl, rgets, retv, argsEnv, ev, cst, cst1, cstL, AEnv.get, AEnv.trim, envput, qstep, abin, aun, evs, evo, deref, qload, target, if_true, if_false, Nat.reduceEqDiff, reduceIte, Nat.reduceAdd, AV.cells, AV.isTuple, setMany, alen, aiaddr, afill, Nat.reduceLeDiff, Nat.reduceMul, Nat.reduceLT, afillE, List.replicate, Int.reduceBNe]
  exact out_clash0
theorem Clash_none {m : Nat} {ds : List Df} (hv : valid m ds = true) (hg : Good m ds) (hn : ¬ 0 ≤ (grown m ds (everyone m)).2) : PCall Try.prog 35 [.agg [I m, .ro false (rows ds)]] (clashV [] false 0) := by
  refine PCall.intro text35 (by simp) ?_
  unfold ir35
  simp only [walkS, wl, rgets, retv, argsEnv, ev, cst, cst1, cstL, AEnv.get, AEnv.trim, envput, qstep, abin, aun, evs, evo, deref, qload, target, if_true, if_false, Nat.reduceEqDiff, reduceIte, Nat.reduceAdd, AV.cells, AV.isTuple, setMany, alen, aiaddr, afill, Nat.reduceLeDiff, Nat.reduceMul, Nat.reduceLT, afillE, List.replicate]
  refine call_pure (check_ok m ds) (frzL_of' (d := 4) (carL_cons car_netF rfl)) ?_
  have e2 : check m ds = 0 := by simp [check, hv]
  rw [e2]
  simp only [walkS, wl, rgets, retv, argsEnv, ev, cst, cst1, cstL, AEnv.get, AEnv.trim, envput, qstep, abin, aun, evs, evo, deref, qload, target, if_true, if_false, Nat.reduceEqDiff, reduceIte, Nat.reduceAdd, AV.cells, AV.isTuple, setMany, alen, aiaddr, afill, Nat.reduceLeDiff, Nat.reduceMul, Nat.reduceLT, afillE, List.replicate, Int.reduceBNe]
  refine call_pure (solve_ok hg (plain_graph m false ds) (fun H => car_netF)) (frzL_of' (d := 5) (carL_cons (car_iface car_netF) rfl)) ?_
  unfold treeV
  simp only [walkS, wl, rgets, retv, argsEnv, ev, cst, cst1, cstL, AEnv.get, AEnv.trim, envput, qstep, abin, aun, evs, evo, deref, qload, target, if_true, if_false, Nat.reduceEqDiff, reduceIte, Nat.reduceAdd, AV.cells, AV.isTuple, setMany, alen, aiaddr, afill, Nat.reduceLeDiff, Nat.reduceMul, Nat.reduceLT, afillE, List.replicate, sstep_store]
  have : decide ((grown m ds (everyone m)).2 < 0) = true := by simpa using hn
  rw [this]
  simp only [walkS, wl, rgets, retv, argsEnv, ev, cst, cst1, cstL, AEnv.get, AEnv.trim, envput, qstep, abin, aun, evs, evo, deref, qload, target, if_true, if_false, Nat.reduceEqDiff, reduceIte, Nat.reduceAdd, AV.cells, AV.isTuple, setMany, alen, aiaddr, afill, Nat.reduceLeDiff, Nat.reduceMul, Nat.reduceLT, afillE, List.replicate]
  exact out_clash0
theorem Clash_round {m : Nat} {ds : List Df} (hv : valid m ds = true) (hg : Good m ds) {a p : Nat} (hb : (grown m ds (everyone m)).2 = (a : Int)) (hr : Round m ds (grown m ds (everyone m)).1 a p) : PCall Try.prog 35 [.agg [I m, .ro false (rows ds)]] (clashV (roundL ds (grown m ds (everyone m)).1 a p) true 0) := by
  refine PCall.intro text35 (by simp) ?_
  unfold ir35
  simp only [walkS, wl, rgets, retv, argsEnv, ev, cst, cst1, cstL, AEnv.get, AEnv.trim, envput, qstep, abin, aun, evs, evo, deref, qload, target, if_true, if_false, Nat.reduceEqDiff, reduceIte, Nat.reduceAdd, AV.cells, AV.isTuple, setMany, alen, aiaddr, afill, Nat.reduceLeDiff, Nat.reduceMul, Nat.reduceLT, afillE, List.replicate]
  refine call_pure (check_ok m ds) (frzL_of' (d := 4) (carL_cons car_netF rfl)) ?_
  have e2 : check m ds = 0 := by simp [check, hv]
  rw [e2]
  simp only [walkS, wl, rgets, retv, argsEnv, ev, cst, cst1, cstL, AEnv.get, AEnv.trim, envput, qstep, abin, aun, evs, evo, deref, qload, target, if_true, if_false, Nat.reduceEqDiff, reduceIte, Nat.reduceAdd, AV.cells, AV.isTuple, setMany, alen, aiaddr, afill, Nat.reduceLeDiff, Nat.reduceMul, Nat.reduceLT, afillE, List.replicate, Int.reduceBNe]
  refine call_pure (solve_ok hg (plain_graph m false ds) (fun H => car_netF)) (frzL_of' (d := 5) (carL_cons (car_iface car_netF) rfl)) ?_
  unfold treeV
  rw [hb]
  have hpos := hr.pos
  have hple := hr.le
  have hsm := hg.small
  have hdl := hg.len
  generalize (grown m ds (everyone m)).1 = s at hr ⊢
  simp only [walkS, wl, rgets, retv, argsEnv, ev, cst, cst1, cstL, AEnv.get, AEnv.trim, envput, qstep, abin, aun, evs, evo, deref, qload, target, if_true, if_false, Nat.reduceEqDiff, reduceIte, Nat.reduceAdd, AV.cells, AV.isTuple, setMany, alen, aiaddr, afill, Nat.reduceLeDiff, Nat.reduceMul, Nat.reduceLT, afillE, List.replicate, sstep_store]
  have : decide ((a : Int) < 0) = false := by simp
  rw [this]
  simp only [walkS, wl, rgets, retv, argsEnv, ev, cst, cst1, cstL, AEnv.get, AEnv.trim, envput, qstep, abin, aun, evs, evo, deref, qload, target, if_true, if_false, Nat.reduceEqDiff, reduceIte, Nat.reduceAdd, AV.cells, AV.isTuple, setMany, alen, aiaddr, afill, Nat.reduceLeDiff, Nat.reduceMul, Nat.reduceLT, afillE, List.replicate]
  have hnode : ∀ t, t ≤ p → itp ds s t a < m := fun t ht => by
    cases t with
    | zero => exact hr.node
    | succ t =>
      obtain ⟨j, d, _, p2, _, p4⟩ := hr.led t (by omega)
      rw [← p4]; exact hg.fit.fr d (List.mem_of_getElem? p2)
  refine awp_loop (σ := Nat × AV × AEnv) (fun q => (1, .ptr 0 1 0 0) :: (7, .ptr 1 1 0 0) :: (8, I a) :: (9, q.2.1) :: (10, I (itp ds s q.1 a)) :: q.2.2)
    (fun q H => AHeap.obj H 0 = some ⟨24, 2, [[I m, .ro false (rows ds)]]⟩ ∧ AHeap.obj H 1 = some ⟨88, 3, [[.ro true (ic (li m s.long)), .ro true (bc (lb m s.has)), .ro true (ic (li m s.last))]]⟩ ∧ 2 ≤ H.length ∧ Acc 2 H q.2.1 3 1 (ic (li q.1 fun u => s.last (itp ds s u a))))
    (fun q => q.1 < p) (fun q => p - q.1) (0, .nilSlice, []) hpos rfl ⟨rfl, rfl, by simp, .inl ⟨rfl, rfl⟩⟩ ?_
  rintro ⟨t, acc, E⟩ H ht ⟨o0, o1, hlen, hacc⟩
  simp only at ht hacc
  obtain ⟨j, d, p1, p2, p3, p4⟩ := hr.led t ht
  have hat := hnode t (by omega)
  have hj : j < ds.length := (List.getElem?_eq_some_iff.1 p2).1
  have hdj : (rows ds)[j]? = some [I d.1, I d.2.1, I d.2.2] := by simp [rows, p2, dc]
  have hfr : ((fr d : Nat) : Int) = d.1 := Int.toNat_of_nonneg (hg.fit.ge1 d (List.mem_of_getElem? p2))
  simp only [walkS, wl, rgets, retv, argsEnv, ev, cst, cst1, cstL, AEnv.get, AEnv.trim, envput, qstep, abin, aun, evs, evo, deref, qload, target, if_true, if_false, Nat.reduceEqDiff, reduceIte, Nat.reduceAdd, AV.cells, AV.isTuple, setMany, alen, aiaddr, afill, Nat.reduceLeDiff, Nat.reduceMul, Nat.reduceLT, afillE, List.replicate, o1, li_get hat, ic_length, li_length, if_pos (show ((itp ds s t a : Nat) : Int) < m by omega), p1]
  refine acc_append (lo := 2) (by simp; omega) (hacc.push _) rfl rfl AHeap.obj_push_eq (by simp [ic_length, li_length]; omega) fun a' H' hl' hacc' hkeep => ?_
  simp only [List.length_append, List.length_cons, List.length_nil] at hl'
  have e : ∀ i, i < 2 → AHeap.obj H' i = AHeap.obj H i := fun i hi => by rw [hkeep i hi, AHeap.obj_push_lt (by omega)]
  have o0' := (e 0 (by omega)).trans o0
  have o1' := (e 1 (by omega)).trans o1
  rw [← p1] at hacc'
  rw [li_snoc (f := fun u => s.last (itp ds s u a))] at hacc'
  simp only [walkS, wl, rgets, retv, argsEnv, ev, cst, cst1, cstL, AEnv.get, AEnv.trim, envput, qstep, abin, aun, evs, evo, deref, qload, target, if_true, if_false, Nat.reduceEqDiff, reduceIte, Nat.reduceAdd, AV.cells, AV.isTuple, setMany, alen, aiaddr, afill, Nat.reduceLeDiff, Nat.reduceMul, Nat.reduceLT, afillE, List.replicate, o0', rows_length, hdj, if_pos (show (j : Int) < ds.length by omega)]
  rw [← hfr, p4]
  refine withBool_intro ?_ ?_ <;> intro hc <;> simp only [walkS, wl, rgets, retv, argsEnv, ev, cst, cst1, cstL, AEnv.get, AEnv.trim, envput, qstep, abin, aun, evs, evo, deref, qload, target, if_true, if_false, Nat.reduceEqDiff, reduceIte, Nat.reduceAdd, AV.cells, AV.isTuple, setMany, alen, aiaddr, afill, Nat.reduceLeDiff, Nat.reduceMul, Nat.reduceLT, afillE, List.replicate]
  · have hca : itp ds s (t + 1) a = a := by
      have : ((itp ds s (t + 1) a : Nat) : Int) = a := by simpa using hc
      omega
    have htp : t + 1 = p := by
      rcases Nat.lt_or_ge (t + 1) p with h | h
      · exact absurd hca (hr.first (t + 1) (by omega) h)
      · omega
    rw [htp] at hacc'
    obtain ⟨q, q1, rfl, q3⟩ := hacc'.resolve_left (by intro h; have := congrArg List.length h.1; rw [ic_length, li_length] at this; simp at this; omega)
    rw [ic_length, li_length]
    refine (Reverse_at (n := p) (f := fun u => s.last (itp ds s u a)) (by omega) q3).mono fun x H2 hx => ?_
    obtain ⟨_, hx2, _⟩ := hx
    simp only [walkS, wl, rgets, retv, argsEnv, ev, cst, cst1, cstL, AEnv.get, AEnv.trim, envput, qstep, abin, aun, evs, evo, deref, qload, target, if_true, if_false, Nat.reduceEqDiff, reduceIte, Nat.reduceAdd, AV.cells, AV.isTuple, setMany, alen, aiaddr, afill, Nat.reduceLeDiff, Nat.reduceMul, Nat.reduceLT, afillE, List.replicate]
    exact out_tuple (.cons (out_of (d := 2) (car_ownN hx2 (by rw [ic_length]; exact li_length) (ic_simple _))) (.cons out_bool (.cons out_int .nil)))
  · have hne : itp ds s (t + 1) a ≠ a := fun h => by rw [h] at hc; simp at hc
    have htp : t + 1 < p := by
      rcases Nat.lt_or_ge (t + 1) p with h | h
      · exact h
      · have : t + 1 = p := by omega
        rw [this] at hne; exact absurd hr.back hne
    exact loop_end (t + 1, a', _) htp (by simp only; omega) rfl ⟨o0', o1', by omega, hacc'⟩
end Go.Proofs.Ytepnijjgdhldeaa
