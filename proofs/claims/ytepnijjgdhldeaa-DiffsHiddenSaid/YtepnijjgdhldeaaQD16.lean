/- Solve and Clash: what they hand back. -/
import Derived.Test.YtepnijjgdhldeaaQD15
namespace Go.Proofs.Ytepnijjgdhldeaa
open Go.Awp
set_option linter.unusedSimpArgs false
set_option linter.unusedVariables false
set_option maxRecDepth 10000
set_option maxHeartbeats 4000000
/-- A list with its first and last elements exchanged, up to a place. -/
def rv (n : Nat) (f : Nat → Int) (i : Nat) : Nat → Int := fun t => if t < i ∨ n ≤ t + i then f (n - 1 - t) else f t
/-- Solve, as the program answers. -/
def solveV (n : Int) (ds : List Df) : List Int × Int := if valid n ds then (if 0 ≤ (grown n.toNat ds (everyone n.toNat)).2 then ([], 41) else (solved n.toNat ds, 0)) else ([], 40)
theorem Solve_ok {n : Int} {ds : List Df} (hs : valid n ds = true → n ≤ 16) : PCall Try.prog 34 [.agg [I n, .ro false (rows ds)]] (.tuple [.ro true (ic (solveV n ds).1), I (solveV n ds).2]) := by
  refine PCall.intro text34 (by simp) ?_
  unfold ir34
  simp only [walkS, wl, rgets, retv, argsEnv, ev, cst, cst1, cstL, AEnv.get, AEnv.trim, envput, qstep, abin, aun, evs, evo, deref, qload, target, if_true, if_false, Nat.reduceEqDiff, reduceIte, Nat.reduceAdd, AV.cells, AV.isTuple, setMany, alen, aiaddr, afill, Nat.reduceLeDiff, Nat.reduceMul, Nat.reduceLT, afillE, List.replicate]
  refine call_pure (check_ok n ds) (frzL_of' (d := 4) (carL_cons car_netF rfl)) ?_
  simp only [walkS, wl, rgets, retv, argsEnv, ev, cst, cst1, cstL, AEnv.get, AEnv.trim, envput, qstep, abin, aun, evs, evo, deref, qload, target, if_true, if_false, Nat.reduceEqDiff, reduceIte, Nat.reduceAdd, AV.cells, AV.isTuple, setMany, alen, aiaddr, afill, Nat.reduceLeDiff, Nat.reduceMul, Nat.reduceLT, afillE, List.replicate]
  refine withBool_intro ?_ ?_ <;> intro h <;> simp only [walkS, wl, rgets, retv, argsEnv, ev, cst, cst1, cstL, AEnv.get, AEnv.trim, envput, qstep, abin, aun, evs, evo, deref, qload, target, if_true, if_false, Nat.reduceEqDiff, reduceIte, Nat.reduceAdd, AV.cells, AV.isTuple, setMany, alen, aiaddr, afill, Nat.reduceLeDiff, Nat.reduceMul, Nat.reduceLT, afillE, List.replicate]
  · have hv := check_ne (by simpa using h)
    have e : solveV n ds = ([], 40) := by simp [solveV, hv]
    have e2 : check n ds = 40 := by simp [check, hv]
    rw [e, e2]; exact out_noneL
  · have hv := check_eq (by simpa using h)
    obtain ⟨m, rfl, hg, hm⟩ := good_of hv (hs hv)
    refine call_pure (solve_ok hg (plain_graph m false ds) (fun H => car_netF)) (frzL_of' (d := 5) (carL_cons (car_iface car_netF) rfl)) ?_
    unfold treeV
    simp only [walkS, wl, rgets, retv, argsEnv, ev, cst, cst1, cstL, AEnv.get, AEnv.trim, envput, qstep, abin, aun, evs, evo, deref, qload, target, if_true, if_false, Nat.reduceEqDiff, reduceIte, Nat.reduceAdd, AV.cells, AV.isTuple, setMany, alen, aiaddr, afill, Nat.reduceLeDiff, Nat.reduceMul, Nat.reduceLT, afillE, List.replicate, sstep_store]
    refine withBool_intro ?_ ?_ <;> intro hb <;> simp only [walkS, wl, rgets, retv, argsEnv, ev, cst, cst1, cstL, AEnv.get, AEnv.trim, envput, qstep, abin, aun, evs, evo, deref, qload, target, if_true, if_false, Nat.reduceEqDiff, reduceIte, Nat.reduceAdd, AV.cells, AV.isTuple, setMany, alen, aiaddr, afill, Nat.reduceLeDiff, Nat.reduceMul, Nat.reduceLT, afillE, List.replicate]
    · have e : solveV m ds = ([], 41) := by
        have : 0 ≤ (grown m ds (everyone m)).2 := by simpa using hb
        simp [solveV, hv, this]
      rw [e]; exact out_noneL
    · have e : solveV m ds = (solved m ds, 0) := by
        have : ¬ 0 ≤ (grown m ds (everyone m)).2 := by simpa using hb
        simp only [solveV, hv, if_true, Int.toNat_natCast, if_neg this]
      rw [e]
      exact out_two (out_of (d := 2) (car_ro_true (ic_simple _))) out_int
def clashV (l : List Int) (b : Bool) (e : Int) : AV := .tuple [.ro true (ic l), .bool b, I e]
theorem out_clash0 {H : AHeap} {b : Bool} {e : Int} : Out H (.tuple [.nilSlice, .bool b, I e]) (clashV [] b e) := out_tuple (.cons out_nil (.cons out_bool (.cons out_int .nil)))
/-- The indices along a round, from its end. -/
def roundL (ds : List Df) (s : Gs) (a p : Nat) : List Int := li p fun t => s.last (itp ds s (p - 1 - t) a)
theorem Clash_none {m : Nat} {ds : List Df} (hv : valid m ds = true) (hg : Good m ds) (hn : ¬ 0 ≤ (grown m ds (everyone m)).2) : PCall Try.prog 35 [.agg [I m, .ro false (rows ds)]] (clashV [] false 0) := by
  refine PCall.intro text35 (by simp) ?_
  unfold ir35
  simp only [walkS, wl, rgets, retv, argsEnv, ev, cst, cst1, cstL, AEnv.get, AEnv.trim, envput, qstep, abin, aun, evs, evo, deref, qload, target, if_true, if_false, Nat.reduceEqDiff, reduceIte, Nat.reduceAdd, AV.cells, AV.isTuple, setMany, alen, aiaddr, afill, Nat.reduceLeDiff, Nat.reduceMul, Nat.reduceLT, afillE, List.replicate]
  refine call_pure (check_ok m ds) (frzL_of' (d := 4) (carL_cons car_netF rfl)) ?_
  have e2 : check m ds = 0 := by simp [check, hv]
  rw [e2]
  simp only [walkS, wl, rgets, retv, argsEnv, ev, cst, cst1, cstL, AEnv.get, AEnv.trim, envput, qstep, abin, aun, evs, evo, deref, qload, target, if_true, if_false, Nat.reduceEqDiff, reduceIte, Nat.reduceAdd, AV.cells, AV.isTuple, setMany, alen, aiaddr, afill, Nat.reduceLeDiff, Nat.reduceMul, Nat.reduceLT, afillE, List.replicate, Int.reduceBNe]
  refine call_pure (solve_ok hg (plain_graph m false ds) (fun H => car_netF)) (frzL_of' (d := 5) (carL_cons (car_iface car_netF) rfl)) ?_
  unfold treeV
  simp only [walkS, wl, rgets, retv, argsEnv, ev, cst, cst1, cstL, AEnv.get, AEnv.trim, envput, qstep, abin, aun, evs, evo, deref, qload, target, if_true, if_false, Nat.reduceEqDiff, reduceIte, Nat.reduceAdd, AV.cells, AV.isTuple, setMany, alen, aiaddr, afill, Nat.reduceLeDiff, Nat.reduceMul, Nat.reduceLT, afillE, List.replicate, sstep_store]
  have : decide ((grown m ds (everyone m)).2 < 0) = true := by simpa using hn
  rw [this]
  simp only [walkS, wl, rgets, retv, argsEnv, ev, cst, cst1, cstL, AEnv.get, AEnv.trim, envput, qstep, abin, aun, evs, evo, deref, qload, target, if_true, if_false, Nat.reduceEqDiff, reduceIte, Nat.reduceAdd, AV.cells, AV.isTuple, setMany, alen, aiaddr, afill, Nat.reduceLeDiff, Nat.reduceMul, Nat.reduceLT, afillE, List.replicate]
  exact out_clash0
end Go.Proofs.Ytepnijjgdhldeaa
