/- Contracts: what the laws ask of their arguments. -/
import Derived.Test.YtomejgikdelgkaaGreatDoorQTS
import Derived.Test.YtomejgikdelgkaaGreatDoorQC12
set_option linter.unusedVariables false
set_option linter.unusedSimpArgs false
set_option linter.unusedSectionVars false
namespace Go.Proofs.YtomejgikdelgkaaGreatDoor
open Go.Awp Go.Snow
set_option linter.unusedSimpArgs false
set_option linter.unusedVariables false
set_option linter.unusedSectionVars false
set_option maxRecDepth 10000
def pks (ps : List (List Lay)) : List (List AV) := ps.map fun p => [.ro false (rows p)]
theorem pks_length (ps : List (List Lay)) : (pks ps).length = ps.length := List.length_map ..
theorem pks_get {ps : List (List Lay)} {k : Nat} (h : k < ps.length) : (pks ps)[k]? = some [.ro false (rows ps[k])] := by simp [pks, h]
theorem few_ok (ps : List (List Lay)) (h : ps.length ≤ 1000) : PCall Tryz.prog 5 [.ro false (pks ps)] (.bool (ps.all fun p => decide (p.length ≤ 70))) := by
  refine PCall.intro text5 (by simp) ?_
  unfold ir5
  simp only [walkS, wl, rgets, retv, argsEnv, ev, cst, cst1, cstL, AEnv.get, AEnv.trim, envput, qstep, abin, aun, evs, evo, deref, qload, target, if_true, if_false, Nat.reduceEqDiff, reduceIte, Nat.reduceAdd, AV.cells, AV.isTuple, setMany, alen, aiaddr, afill, Nat.reduceLeDiff, Nat.reduceMul, Nat.reduceLT, afillE, List.replicate]
  refine awp_loop (σ := Nat) (fun k => [(0, .ro false (pks ps)), (3, I k)]) (fun _ _ => True) (fun k => k ≤ ps.length ∧ (ps.take k).all (fun p => decide (p.length ≤ 70)) = true) (fun k => ps.length - k) 0 ⟨Nat.zero_le _, rfl⟩ rfl trivial ?_
  rintro k H ⟨hk, hall⟩ -
  simp only [walkS, wl, rgets, retv, argsEnv, ev, cst, cst1, cstL, AEnv.get, AEnv.trim, envput, qstep, abin, aun, evs, evo, deref, qload, target, if_true, if_false, Nat.reduceEqDiff, reduceIte, Nat.reduceAdd, AV.cells, AV.isTuple, setMany, alen, aiaddr, afill, Nat.reduceLeDiff, Nat.reduceMul, Nat.reduceLT, afillE, List.replicate, pks_length]
  refine withBool_intro ?_ ?_ <;> intro hb <;> simp only [walkS, wl, rgets, retv, argsEnv, ev, cst, cst1, cstL, AEnv.get, AEnv.trim, envput, qstep, abin, aun, evs, evo, deref, qload, target, if_true, if_false, Nat.reduceEqDiff, reduceIte, Nat.reduceAdd, AV.cells, AV.isTuple, setMany, alen, aiaddr, afill, Nat.reduceLeDiff, Nat.reduceMul, Nat.reduceLT, afillE, List.replicate]
  · have hlt : k < ps.length := by simpa using hb
    have e5 : IntKind.i64.wrap ((k : Int) + 1) = ((k + 1 : Nat) : Int) := by rw [wrap_id (by omega) (by omega)]; simp
    simp only [walkS, wl, rgets, retv, argsEnv, ev, cst, cst1, cstL, AEnv.get, AEnv.trim, envput, qstep, abin, aun, evs, evo, deref, qload, target, if_true, if_false, Nat.reduceEqDiff, reduceIte, Nat.reduceAdd, AV.cells, AV.isTuple, setMany, alen, aiaddr, afill, Nat.reduceLeDiff, Nat.reduceMul, Nat.reduceLT, afillE, List.replicate, pks_get hlt, rows_length]
    refine withBool_intro ?_ ?_ <;> intro h2 <;> simp only [walkS, wl, rgets, retv, argsEnv, ev, cst, cst1, cstL, AEnv.get, AEnv.trim, envput, qstep, abin, aun, evs, evo, deref, qload, target, if_true, if_false, Nat.reduceEqDiff, reduceIte, Nat.reduceAdd, AV.cells, AV.isTuple, setMany, alen, aiaddr, afill, Nat.reduceLeDiff, Nat.reduceMul, Nat.reduceLT, afillE, List.replicate, e5]
    · have : (ps.all fun p => decide (p.length ≤ 70)) = false := by
        rw [List.all_eq_false]
        exact ⟨ps[k], List.getElem_mem hlt, by have := of_decide_eq_true h2; simp; omega⟩
      rw [this]; exact out_bool
    · refine loop_end (k + 1) ⟨hlt, all_take hall hlt (by have := of_decide_eq_false h2; simp; omega)⟩ (by omega) rfl trivial
  · have hk' : k = ps.length := by simp at hb; omega
    subst hk'
    rw [List.take_length] at hall
    rw [hall]; exact out_bool
theorem carR_pks {H : AHeap} {d : Nat} : ∀ (ps : List (List Lay)), carR (carry false H (d + 3)) (pks ps) = some (pks ps)
  | [] => rfl
  | p :: r => by
    have := carR_pks (H := H) (d := d) r
    have h1 : carL (carry false H (d + 3)) [.ro false (rows p)] = some [.ro false (rows p)] := carL_cons (car_ro_false (d := d + 1) (rows_simple p)) rfl
    simp only [pks, List.map_cons, carR] at this ⊢
    rw [this, h1]
theorem car_packs {H : AHeap} {d h n : Nat} {ps : List (List Lay)} (ho : AHeap.obj H h = some ⟨26, 1, pks ps⟩) (hn : ps.length = n) : carry false H (d + 4) (.own h n 0 n) = some (.ro false (pks ps)) := by
  subst hn
  have hl := pks_length ps
  rw [show carry false H (d + 4) (.own h ps.length 0 ps.length) = (match AHeap.obj H h with | some p => if ps.length = p.elems.length then (match carR (carry false H (d + 3)) ((p.elems.drop 0).take ps.length) with | some l' => some (.ro false l') | none => none) else none | none => none) from rfl, ho]
  simp only [hl, if_true, List.drop_zero]
  rw [← hl, List.take_length, carR_pks]
def light1 (s : Lay) : Bool := !(decide (s.1 ≠ 1) && decide (3000 < s.2.1) && decide (s.2.1 ≤ 65536))
def bigV (ls : List Lay) : Bool := okP ls && (decide (3000 < water ls) || decide (3000 < cold ls))
end Go.Proofs.YtomejgikdelgkaaGreatDoor
