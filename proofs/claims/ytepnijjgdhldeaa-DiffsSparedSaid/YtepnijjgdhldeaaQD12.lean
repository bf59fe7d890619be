/- Apart: what it hands back. -/
import Derived.Test.YtepnijjgdhldeaaQE3
namespace Go.Proofs.Ytepnijjgdhldeaa
open Go.Awp
set_option linter.unusedSimpArgs false
set_option linter.unusedVariables false
set_option maxRecDepth 10000
def isNode (i n : Int) : Bool := decide (0 ≤ i) && decide (i < n)
/-- Apart, as both programs answer. -/
def apart (n : Int) (ds : List Df) (i j : Int) : Int × Bool × Int :=
  if valid n ds then (if isNode i n && isNode j n then (if (lens n.toNat ds (everyone n.toNat)).2 then (if (lens n.toNat ds (one i.toNat)).1.has j.toNat then ((lens n.toNat ds (one i.toNat)).1.long j.toNat, true, 0) else (0, false, 0)) else (0, false, 41)) else (0, false, 1)) else (0, false, 40)
def apartV (r : Int × Bool × Int) : AV := .tuple [I r.1, .bool r.2.1, I r.2.2]
theorem out_apart {H : AHeap} {a e : Int} {b : Bool} : Out H (.tuple [I a, .bool b, I e]) (apartV (a, b, e)) := out_tuple (.cons out_int (.cons out_bool (.cons out_int .nil)))
theorem asked_ne {n : Int} {ds : List Df} {bs : List Bool} (h : (asked n ds bs != 0) = true) : (valid n ds = false ∧ asked n ds bs = 40) ∨ (valid n ds = true ∧ bs.all id = false ∧ asked n ds bs = 1) := by
  unfold asked at h ⊢
  cases hv : valid n ds <;> cases hb : bs.all id <;> simp [hv, hb] at h ⊢
theorem asked_eq {n : Int} {ds : List Df} {bs : List Bool} (h : (asked n ds bs != 0) = false) : valid n ds = true ∧ bs.all id = true := by
  unfold asked at h
  cases hv : valid n ds <;> cases hb : bs.all id <;> simp [hv, hb] at h ⊢
theorem Apart_ok {n : Int} {ds : List Df} (hs : valid n ds = true → n ≤ 16) (i j : Int) : PCall Try.prog 30 [.agg [I n, .ro false (rows ds)], I i, I j] (apartV (apart n ds i j)) := by
  refine PCall.intro text30 (by simp) ?_
  unfold ir30
  simp only [walkS, wl, rgets, retv, argsEnv, ev, cst, cst1, cstL, AEnv.get, AEnv.trim, envput, qstep, abin, aun, evs, evo, deref, qload, target, if_true, if_false, Nat.reduceEqDiff, reduceIte, Nat.reduceAdd, AV.cells, AV.isTuple, setMany, alen, aiaddr, afill, Nat.reduceLeDiff, Nat.reduceMul, Nat.reduceLT, afillE, List.replicate]
  refine dcall_pure (in_ok i 0 (IntKind.i64.wrap (n - 1))) (frzL_of (d := 4) rfl) ?_
  simp only [walkS, wl, rgets, retv, argsEnv, ev, cst, cst1, cstL, AEnv.get, AEnv.trim, envput, qstep, abin, aun, evs, evo, deref, qload, target, if_true, if_false, Nat.reduceEqDiff, reduceIte, Nat.reduceAdd, AV.cells, AV.isTuple, setMany, alen, aiaddr, afill, Nat.reduceLeDiff, Nat.reduceMul, Nat.reduceLT, afillE, List.replicate]
  refine dcall_pure (in_ok j 0 (IntKind.i64.wrap (n - 1))) (frzL_of (d := 4) rfl) ?_
  simp only [walkS, wl, rgets, retv, argsEnv, ev, cst, cst1, cstL, AEnv.get, AEnv.trim, envput, qstep, abin, aun, evs, evo, deref, qload, target, if_true, if_false, Nat.reduceEqDiff, reduceIte, Nat.reduceAdd, AV.cells, AV.isTuple, setMany, alen, aiaddr, afill, Nat.reduceLeDiff, Nat.reduceMul, Nat.reduceLT, afillE, List.replicate]
  generalize hb1 : (decide (0 ≤ i) && decide (i ≤ IntKind.i64.wrap (n - 1))) = b1
  generalize hb2 : (decide (0 ≤ j) && decide (j ≤ IntKind.i64.wrap (n - 1))) = b2
  refine call_pure (asked_ok n ds [b1, b2] (by simp [big])) (frzL_of' (d := 4) (carL_cons car_netF (carL_cons (car_own (o := ⟨4, 1, [[.bool b1], [.bool b2]]⟩) rfl (bc_simple [b1, b2])) rfl))) ?_
  simp only [walkS, wl, rgets, retv, argsEnv, ev, cst, cst1, cstL, AEnv.get, AEnv.trim, envput, qstep, abin, aun, evs, evo, deref, qload, target, if_true, if_false, Nat.reduceEqDiff, reduceIte, Nat.reduceAdd, AV.cells, AV.isTuple, setMany, alen, aiaddr, afill, Nat.reduceLeDiff, Nat.reduceMul, Nat.reduceLT, afillE, List.replicate]
  have nodes : valid n ds = true → b1 = isNode i n ∧ b2 = isNode j n := fun hv => by
    have h1 := (valid_iff.1 hv).1
    rw [wrap_id (by omega) (by omega)] at hb1 hb2
    constructor
    · rw [← hb1, Bool.eq_iff_iff]; simp [isNode]; omega
    · rw [← hb2, Bool.eq_iff_iff]; simp [isNode]; omega
  refine withBool_intro ?_ ?_ <;> intro h <;> simp only [walkS, wl, rgets, retv, argsEnv, ev, cst, cst1, cstL, AEnv.get, AEnv.trim, envput, qstep, abin, aun, evs, evo, deref, qload, target, if_true, if_false, Nat.reduceEqDiff, reduceIte, Nat.reduceAdd, AV.cells, AV.isTuple, setMany, alen, aiaddr, afill, Nat.reduceLeDiff, Nat.reduceMul, Nat.reduceLT, afillE, List.replicate]
  · rcases asked_ne h with ⟨hv, e⟩ | ⟨hv, hb, e⟩
    · have e2 : apart n ds i j = (0, false, 40) := by simp [apart, hv]
      rw [e, e2]; exact out_apart
    · obtain ⟨rfl, rfl⟩ := nodes hv
      have hb' : (isNode i n && isNode j n) = false := by simpa using hb
      have e2 : apart n ds i j = (0, false, 1) := by simp only [apart, hv, hb', if_true, Bool.false_eq_true, if_false]
      rw [e, e2]; exact out_apart
  · obtain ⟨hv, hb⟩ := asked_eq h
    obtain ⟨rfl, rfl⟩ := nodes hv
    have hb' : (isNode i n && isNode j n) = true := by simpa using hb
    obtain ⟨m, rfl, hg, hm⟩ := good_of hv (hs hv)
    have hij : (0 ≤ i ∧ i < m) ∧ (0 ≤ j ∧ j < m) := by simpa [isNode] using hb'
    obtain ⟨i, rfl⟩ : ∃ k : Nat, i = k := ⟨i.toNat, (Int.toNat_of_nonneg hij.1.1).symm⟩
    obtain ⟨j, rfl⟩ : ∃ k : Nat, j = k := ⟨j.toNat, (Int.toNat_of_nonneg hij.2.1).symm⟩
    have hi : i < m := by omega
    have hj : j < m := by omega
    refine (reach_at hg (b := false) hi).mono fun x H1 hx => ?_
    obtain ⟨_, ⟨hbad, rfl⟩ | ⟨hbad, h1, h2, h3, rfl, g1, g2, g3, o1, o2, o3⟩⟩ := hx
    · simp only [walkS, wl, rgets, retv, argsEnv, ev, cst, cst1, cstL, AEnv.get, AEnv.trim, envput, qstep, abin, aun, evs, evo, deref, qload, target, if_true, if_false, Nat.reduceEqDiff, reduceIte, Nat.reduceAdd, AV.cells, AV.isTuple, setMany, alen, aiaddr, afill, Nat.reduceLeDiff, Nat.reduceMul, Nat.reduceLT, afillE, List.replicate]
      refine storeR rfl rfl AHeap.obj_push_eq rfl ⟨rfl, rfl, rfl, by simp⟩ fun H2 z1 z2 z3 => ?_
      simp only [walkS, wl, rgets, retv, argsEnv, ev, cst, cst1, cstL, AEnv.get, AEnv.trim, envput, qstep, abin, aun, evs, evo, deref, qload, target, if_true, if_false, Nat.reduceEqDiff, reduceIte, Nat.reduceAdd, AV.cells, AV.isTuple, setMany, alen, aiaddr, afill, Nat.reduceLeDiff, Nat.reduceMul, Nat.reduceLT, afillE, List.replicate, Int.reduceBNe]
      have hl : (lens m ds (everyone m)).2 = false := (solvable_iff hg).1 hbad
      have e2 : apart m ds i j = (0, false, 41) := by simp only [apart, hv, hb', hl, if_true, Bool.false_eq_true, if_false, Int.toNat_natCast]
      rw [e2]; exact out_apart
    · have hl : (lens m ds (everyone m)).2 = true := by
        cases hl : (lens m ds (everyone m)).2 with
        | true => rfl
        | false => exact absurd ((solvable_iff hg).2 hl) hbad
      have hgr : grown m ds (fun x => decide (x = i)) = ((lens m ds (one i)).1, -1) := (lens_grown hg (solvable_one hg hl hi)).1
      rw [hgr] at o1 o2 o3
      have hl3 := AHeap.obj_lt o3
      simp only [walkS, wl, rgets, retv, argsEnv, ev, cst, cst1, cstL, AEnv.get, AEnv.trim, envput, qstep, abin, aun, evs, evo, deref, qload, target, if_true, if_false, Nat.reduceEqDiff, reduceIte, Nat.reduceAdd, AV.cells, AV.isTuple, setMany, alen, aiaddr, afill, Nat.reduceLeDiff, Nat.reduceMul, Nat.reduceLT, afillE, List.replicate]
      refine storeR rfl rfl AHeap.obj_push_eq rfl ⟨rfl, rfl, rfl, by simp⟩ fun H2 z1 z2 z3 => ?_
      simp only [AV.cells, setMany, List.set_cons_zero, List.set_cons_succ, Nat.zero_add, Nat.reduceAdd] at z2
      have z4 : ∀ q, q < H1.length → AHeap.obj H2 q = AHeap.obj H1 q := fun q hq => by rw [z3 q (by omega), AHeap.obj_push_lt hq]
      have p1 := (z4 h1 (by omega)).trans o1
      have p2 := (z4 h2 (by omega)).trans o2
      simp only [walkS, wl, rgets, retv, argsEnv, ev, cst, cst1, cstL, AEnv.get, AEnv.trim, envput, qstep, abin, aun, evs, evo, deref, qload, target, if_true, if_false, Nat.reduceEqDiff, reduceIte, Nat.reduceAdd, AV.cells, AV.isTuple, setMany, alen, aiaddr, afill, Nat.reduceLeDiff, Nat.reduceMul, Nat.reduceLT, afillE, List.replicate, z2, Int.reduceBNe, p2, lb_get hj, bc_length, lb_length, if_pos (show (j : Int) < m by omega)]
      refine withBool_intro ?_ ?_ <;> intro hh <;> simp only [walkS, wl, rgets, retv, argsEnv, ev, cst, cst1, cstL, AEnv.get, AEnv.trim, envput, qstep, abin, aun, evs, evo, deref, qload, target, if_true, if_false, Nat.reduceEqDiff, reduceIte, Nat.reduceAdd, AV.cells, AV.isTuple, setMany, alen, aiaddr, afill, Nat.reduceLeDiff, Nat.reduceMul, Nat.reduceLT, afillE, List.replicate, z2, p1, li_get hj, ic_length, li_length, if_pos (show (j : Int) < m by omega)]
      · have hh' : (lens m ds (one i)).1.has j = false := by simpa using hh
        have e2 : apart m ds i j = (0, false, 0) := by simp only [apart, hv, hb', hl, hh', if_true, Bool.false_eq_true, if_false, Int.toNat_natCast]
        rw [e2]; exact out_apart
      · have hh' : (lens m ds (one i)).1.has j = true := by simpa using hh
        have e2 : apart m ds i j = ((lens m ds (one i)).1.long j, true, 0) := by simp only [apart, hv, hb', hl, hh', if_true, Int.toNat_natCast]
        rw [e2]; exact out_apart
end Go.Proofs.Ytepnijjgdhldeaa
