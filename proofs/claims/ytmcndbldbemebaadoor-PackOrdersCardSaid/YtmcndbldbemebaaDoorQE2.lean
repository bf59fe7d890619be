/- Contracts: what the laws ask of their arguments. -/
import Derived.Test.YtmcndbldbemebaaDoorQTS
import Derived.Test.YtmcndbldbemebaaDoorQR5
import Derived.Test.YtmcndbldbemebaaDoorQE0
import Derived.Test.YtmcndbldbemebaaDoorQR7
import Derived.Test.YtmcndbldbemebaaDoorQR10
set_option linter.unusedVariables false
set_option linter.unusedSimpArgs false
set_option linter.unusedSectionVars false
namespace Go.Proofs.YtmcndbldbemebaaDoor
open Go.Awp Go.Snow
set_option linter.unusedSimpArgs false
set_option linter.unusedVariables false
set_option linter.unusedSectionVars false
set_option maxRecDepth 10000
def pks (ps : List (List Lay)) : List (List AV) := ps.map fun p => [.ro false (rows p)]
theorem pks_length (ps : List (List Lay)) : (pks ps).length = ps.length := List.length_map ..
theorem pks_get {ps : List (List Lay)} {k : Nat} (h : k < ps.length) : (pks ps)[k]? = some [.ro false (rows ps[k])] := by simp [pks, h]
theorem few_ok (ps : List (List Lay)) (h : ps.length ≤ 1000) : PCall Tryd.prog 19 [.ro false (pks ps)] (.bool (ps.all fun p => decide (p.length ≤ 70))) := by
  refine PCall.intro text19 (by simp) ?_
  unfold ir19
  simp only [walkS, wl, rgets, retv, argsEnv, ev, cst, cst1, cstL, AEnv.get, AEnv.trim, envput, qstep, abin, aun, evs, evo, deref, qload, target, if_true, if_false, Nat.reduceEqDiff, reduceIte, Nat.reduceAdd, AV.cells, AV.isTuple, setMany, alen, aiaddr, afill, Nat.reduceLeDiff, Nat.reduceMul, Nat.reduceLT, afillE, List.replicate]
  refine awp_loop (σ := Nat) (fun k => [(0, .ro false (pks ps)), (3, I k)]) (fun _ _ => True) (fun k => k ≤ ps.length ∧ (ps.take k).all (fun p => decide (p.length ≤ 70)) = true) (fun k => ps.length - k) 0 ⟨Nat.zero_le _, rfl⟩ rfl trivial ?_
  rintro k H ⟨hk, hall⟩ -
  simp only [walkS, wl, rgets, retv, argsEnv, ev, cst, cst1, cstL, AEnv.get, AEnv.trim, envput, qstep, abin, aun, evs, evo, deref, qload, target, if_true, if_false, Nat.reduceEqDiff, reduceIte, Nat.reduceAdd, AV.cells, AV.isTuple, setMany, alen, aiaddr, afill, Nat.reduceLeDiff, Nat.reduceMul, Nat.reduceLT, afillE, List.replicate, pks_length]
  refine withBool_intro ?_ ?_ <;> intro hb <;> simp only [walkS, wl, rgets, retv, argsEnv, ev, cst, cst1, cstL, AEnv.get, AEnv.trim, envput, qstep, abin, aun, evs, evo, deref, qload, target, if_true, if_false, Nat.reduceEqDiff, reduceIte, Nat.reduceAdd, AV.cells, AV.isTuple, setMany, alen, aiaddr, afill, Nat.reduceLeDiff, Nat.reduceMul, Nat.reduceLT, afillE, List.replicate]
  · have hlt : k < ps.length := by simpa using hb
    have e5 : IntKind.i64.wrap ((k : Int) + 1) = ((k + 1 : Nat) : Int) := by rw [wrap_id (by omega) (by omega)]; simp
    simp only [walkS, wl, rgets, retv, argsEnv, ev, cst, cst1, cstL, AEnv.get, AEnv.trim, envput, qstep, abin, aun, evs, evo, deref, qload, target, if_true, if_false, Nat.reduceEqDiff, reduceIte, Nat.reduceAdd, AV.cells, AV.isTuple, setMany, alen, aiaddr, afill, Nat.reduceLeDiff, Nat.reduceMul, Nat.reduceLT, afillE, List.replicate, pks_get hlt, rows_length]
    refine withBool_intro ?_ ?_ <;> intro h2 <;> simp only [walkS, wl, rgets, retv, argsEnv, ev, cst, cst1, cstL, AEnv.get, AEnv.trim, envput, qstep, abin, aun, evs, evo, deref, qload, target, if_true, if_false, Nat.reduceEqDiff, reduceIte, Nat.reduceAdd, AV.cells, AV.isTuple, setMany, alen, aiaddr, afill, Nat.reduceLeDiff, Nat.reduceMul, Nat.reduceLT, afillE, List.replicate, e5]
    · have : (ps.all fun p => decide (p.length ≤ 70)) = false := by
        rw [List.all_eq_false]
        exact ⟨ps[k], List.getElem_mem hlt, by have := of_decide_eq_true h2; simp; omega⟩
      rw [this]; exact out_bool
    · refine loop_end (k + 1) ⟨hlt, all_take hall hlt (by have := of_decide_eq_false h2; simp; omega)⟩ (by omega) rfl trivial
  · have hk' : k = ps.length := by simp at hb; omega
    subst hk'
    rw [List.take_length] at hall
    rw [hall]; exact out_bool
theorem carR_pks {H : AHeap} {d : Nat} : ∀ (ps : List (List Lay)), carR (carry false H (d + 3)) (pks ps) = some (pks ps)
  | [] => rfl
  | p :: r => by
    have := carR_pks (H := H) (d := d) r
    have h1 : carL (carry false H (d + 3)) [.ro false (rows p)] = some [.ro false (rows p)] := carL_cons (car_ro_false (d := d + 1) (rows_simple p)) rfl
    simp only [pks, List.map_cons, carR] at this ⊢
    rw [this, h1]
theorem car_packs {H : AHeap} {d h n : Nat} {ps : List (List Lay)} (ho : AHeap.obj H h = some ⟨24, 1, pks ps⟩) (hn : ps.length = n) : carry false H (d + 4) (.own h n 0 n) = some (.ro false (pks ps)) := by
  subst hn
  have hl := pks_length ps
  rw [show carry false H (d + 4) (.own h ps.length 0 ps.length) = (match AHeap.obj H h with | some p => if ps.length = p.elems.length then (match carR (carry false H (d + 3)) ((p.elems.drop 0).take ps.length) with | some l' => some (.ro false l') | none => none) else none | none => none) from rfl, ho]
  simp only [hl, if_true, List.drop_zero]
  rw [← hl, List.take_length, carR_pks]
def light1 (s : Lay) : Bool := !(decide (s.1 ≠ 1) && decide (3000 < s.2.1) && decide (s.2.1 ≤ 65536))
theorem light_ok (st : List Lay) (h : st.length ≤ 1000000000000000) : PCall Tryd.prog 20 [.ro false (rows st)] (.bool (st.all light1)) := by
  refine PCall.intro text20 (by simp) ?_
  unfold ir20
  simp only [walkS, wl, rgets, retv, argsEnv, ev, cst, cst1, cstL, AEnv.get, AEnv.trim, envput, qstep, abin, aun, evs, evo, deref, qload, target, if_true, if_false, Nat.reduceEqDiff, reduceIte, Nat.reduceAdd, AV.cells, AV.isTuple, setMany, alen, aiaddr, afill, Nat.reduceLeDiff, Nat.reduceMul, Nat.reduceLT, afillE, List.replicate]
  refine awp_loop (σ := Nat) (fun k => [(0, .ro false (rows st)), (3, I k)]) (fun _ _ => True) (fun k => k ≤ st.length ∧ (st.take k).all light1 = true) (fun k => st.length - k) 0 ⟨Nat.zero_le _, rfl⟩ rfl trivial ?_
  rintro k H ⟨hk, hall⟩ -
  simp only [walkS, wl, rgets, retv, argsEnv, ev, cst, cst1, cstL, AEnv.get, AEnv.trim, envput, qstep, abin, aun, evs, evo, deref, qload, target, if_true, if_false, Nat.reduceEqDiff, reduceIte, Nat.reduceAdd, AV.cells, AV.isTuple, setMany, alen, aiaddr, afill, Nat.reduceLeDiff, Nat.reduceMul, Nat.reduceLT, afillE, List.replicate, rows_length]
  refine withBool_intro ?_ ?_ <;> intro hb <;> simp only [walkS, wl, rgets, retv, argsEnv, ev, cst, cst1, cstL, AEnv.get, AEnv.trim, envput, qstep, abin, aun, evs, evo, deref, qload, target, if_true, if_false, Nat.reduceEqDiff, reduceIte, Nat.reduceAdd, AV.cells, AV.isTuple, setMany, alen, aiaddr, afill, Nat.reduceLeDiff, Nat.reduceMul, Nat.reduceLT, afillE, List.replicate]
  · have hlt : k < st.length := by simpa using hb
    have e5 : IntKind.i64.wrap ((k : Int) + 1) = ((k + 1 : Nat) : Int) := by rw [wrap_id (by omega) (by omega)]; simp
    have next : light1 st[k] = true → (st.take (k + 1)).all light1 = true := fun h => all_take hall hlt h
    simp only [walkS, wl, rgets, retv, argsEnv, ev, cst, cst1, cstL, AEnv.get, AEnv.trim, envput, qstep, abin, aun, evs, evo, deref, qload, target, if_true, if_false, Nat.reduceEqDiff, reduceIte, Nat.reduceAdd, AV.cells, AV.isTuple, setMany, alen, aiaddr, afill, Nat.reduceLeDiff, Nat.reduceMul, Nat.reduceLT, afillE, List.replicate, rows_get hlt]
    refine withGuard_intro ?_ ?_ <;> intro g1 <;> simp only [walkS, wl, rgets, retv, argsEnv, ev, cst, cst1, cstL, AEnv.get, AEnv.trim, envput, qstep, abin, aun, evs, evo, deref, qload, target, if_true, if_false, Nat.reduceEqDiff, reduceIte, Nat.reduceAdd, AV.cells, AV.isTuple, setMany, alen, aiaddr, afill, Nat.reduceLeDiff, Nat.reduceMul, Nat.reduceLT, afillE, List.replicate, g1, rows_get hlt]
    · refine withGuard_intro ?_ ?_ <;> intro g2 <;> simp only [walkS, wl, rgets, retv, argsEnv, ev, cst, cst1, cstL, AEnv.get, AEnv.trim, envput, qstep, abin, aun, evs, evo, deref, qload, target, if_true, if_false, Nat.reduceEqDiff, reduceIte, Nat.reduceAdd, AV.cells, AV.isTuple, setMany, alen, aiaddr, afill, Nat.reduceLeDiff, Nat.reduceMul, Nat.reduceLT, afillE, List.replicate, g2, rows_get hlt]
      · refine withBool_intro ?_ ?_ <;> intro g3 <;> simp only [walkS, wl, rgets, retv, argsEnv, ev, cst, cst1, cstL, AEnv.get, AEnv.trim, envput, qstep, abin, aun, evs, evo, deref, qload, target, if_true, if_false, Nat.reduceEqDiff, reduceIte, Nat.reduceAdd, AV.cells, AV.isTuple, setMany, alen, aiaddr, afill, Nat.reduceLeDiff, Nat.reduceMul, Nat.reduceLT, afillE, List.replicate, e5]
        · have : st.all light1 = false := by
            rw [List.all_eq_false]
            exact ⟨st[k], List.getElem_mem hlt, by simp at g1 g2 g3; simp [light1, g1, g2, g3]⟩
          rw [this]; exact out_bool
        · refine loop_end (k + 1) ⟨hlt, next (by simp at g1 g2 g3; simp [light1, g3])⟩ (by omega) rfl trivial
      · rw [e5]
        refine loop_end (k + 1) ⟨hlt, next (by simp at g1 g2; simp [light1]; omega)⟩ (by omega) rfl trivial
    · rw [e5]
      refine loop_end (k + 1) ⟨hlt, next (by simp at g1; simp [light1, g1])⟩ (by omega) rfl trivial
  · have hk' : k = st.length := by simp at hb; omega
    subst hk'
    rw [List.take_length] at hall
    rw [hall]; exact out_bool
theorem ints_ok (a b : List Int) (ha : a.length ≤ 1000000000000000) : PCall Tryd.prog 45 [.ro false (ic a), .ro false (ic b)] (.bool (decide (a = b))) := by
  refine PCall.intro text45 (by simp) ?_
  unfold ir45
  simp only [walkS, wl, rgets, retv, argsEnv, ev, cst, cst1, cstL, AEnv.get, AEnv.trim, envput, qstep, abin, aun, evs, evo, deref, qload, target, if_true, if_false, Nat.reduceEqDiff, reduceIte, Nat.reduceAdd, AV.cells, AV.isTuple, setMany, alen, aiaddr, afill, Nat.reduceLeDiff, Nat.reduceMul, Nat.reduceLT, afillE, List.replicate, ic_length]
  refine withBool_intro ?_ ?_ <;> intro h <;> simp only [walkS, wl, rgets, retv, argsEnv, ev, cst, cst1, cstL, AEnv.get, AEnv.trim, envput, qstep, abin, aun, evs, evo, deref, qload, target, if_true, if_false, Nat.reduceEqDiff, reduceIte, Nat.reduceAdd, AV.cells, AV.isTuple, setMany, alen, aiaddr, afill, Nat.reduceLeDiff, Nat.reduceMul, Nat.reduceLT, afillE, List.replicate]
  · have : ¬ a = b := fun e => by subst e; simp at h
    rw [decide_eq_false this]; exact out_bool
  · have hl : a.length = b.length := by simp at h; omega
    refine awp_loop (σ := Nat) (fun k => [(0, .ro false (ic a)), (1, .ro false (ic b)), (5, I k)]) (fun _ _ => True) (fun k => k ≤ a.length ∧ ∀ j (h : j < a.length), j < k → a[j] = b[j]'(by omega)) (fun k => a.length - k) 0 ⟨Nat.zero_le _, fun j _ hj => absurd hj (Nat.not_lt_zero _)⟩ rfl trivial ?_
    rintro k H ⟨hk, hall⟩ -
    simp only [walkS, wl, rgets, retv, argsEnv, ev, cst, cst1, cstL, AEnv.get, AEnv.trim, envput, qstep, abin, aun, evs, evo, deref, qload, target, if_true, if_false, Nat.reduceEqDiff, reduceIte, Nat.reduceAdd, AV.cells, AV.isTuple, setMany, alen, aiaddr, afill, Nat.reduceLeDiff, Nat.reduceMul, Nat.reduceLT, afillE, List.replicate, ic_length]
    refine withBool_intro ?_ ?_ <;> intro hb <;> simp only [walkS, wl, rgets, retv, argsEnv, ev, cst, cst1, cstL, AEnv.get, AEnv.trim, envput, qstep, abin, aun, evs, evo, deref, qload, target, if_true, if_false, Nat.reduceEqDiff, reduceIte, Nat.reduceAdd, AV.cells, AV.isTuple, setMany, alen, aiaddr, afill, Nat.reduceLeDiff, Nat.reduceMul, Nat.reduceLT, afillE, List.replicate]
    · have hlt : k < a.length := by simpa using hb
      have hlt2 : k < b.length := by omega
      have e5 : IntKind.i64.wrap ((k : Int) + 1) = ((k + 1 : Nat) : Int) := by rw [wrap_id (by omega) (by omega)]; simp
      simp only [walkS, wl, rgets, retv, argsEnv, ev, cst, cst1, cstL, AEnv.get, AEnv.trim, envput, qstep, abin, aun, evs, evo, deref, qload, target, if_true, if_false, Nat.reduceEqDiff, reduceIte, Nat.reduceAdd, AV.cells, AV.isTuple, setMany, alen, aiaddr, afill, Nat.reduceLeDiff, Nat.reduceMul, Nat.reduceLT, afillE, List.replicate, ic_get hlt, ic_get hlt2]
      refine withBool_intro ?_ ?_ <;> intro h2 <;> simp only [walkS, wl, rgets, retv, argsEnv, ev, cst, cst1, cstL, AEnv.get, AEnv.trim, envput, qstep, abin, aun, evs, evo, deref, qload, target, if_true, if_false, Nat.reduceEqDiff, reduceIte, Nat.reduceAdd, AV.cells, AV.isTuple, setMany, alen, aiaddr, afill, Nat.reduceLeDiff, Nat.reduceMul, Nat.reduceLT, afillE, List.replicate, e5]
      · have : ¬ a = b := fun e => by subst e; simp at h2
        rw [decide_eq_false this]; exact out_bool
      · refine loop_end (k + 1) ⟨hlt, fun j hj hjk => ?_⟩ (by omega) rfl trivial
        rcases Nat.lt_or_ge j k with h | h
        · exact hall j hj h
        · obtain rfl : j = k := by omega
          simpa using h2
    · have hk' : k = a.length := by simp at hb; omega
      subst hk'
      rw [decide_eq_true (List.ext_getElem hl fun j h1 h2 => hall j h1 h1)]; exact out_bool
def bigV (ls : List Lay) : Bool := okP ls && (decide (3000 < water ls) || decide (3000 < cold ls))
theorem big_ok (ls : List Lay) : PCall Tryd.prog 47 [.agg [.ro false (rows ls)]] (.bool (bigV ls)) := by
  refine PCall.intro text47 (by simp) ?_
  unfold ir47
  simp only [walkS, wl, rgets, retv, argsEnv, ev, cst, cst1, cstL, AEnv.get, AEnv.trim, envput, qstep, abin, aun, evs, evo, deref, qload, target, if_true, if_false, Nat.reduceEqDiff, reduceIte, Nat.reduceAdd, AV.cells, AV.isTuple, setMany, alen, aiaddr, afill, Nat.reduceLeDiff, Nat.reduceMul, Nat.reduceLT, afillE, List.replicate]
  refine call_pure (rCheck_ok ls) (frzL_of' (d := 4) car_pkL) ?_
  simp only [walkS, wl, rgets, retv, argsEnv, ev, cst, cst1, cstL, AEnv.get, AEnv.trim, envput, qstep, abin, aun, evs, evo, deref, qload, target, if_true, if_false, Nat.reduceEqDiff, reduceIte, Nat.reduceAdd, AV.cells, AV.isTuple, setMany, alen, aiaddr, afill, Nat.reduceLeDiff, Nat.reduceMul, Nat.reduceLT, afillE, List.replicate]
  refine withBool_intro ?_ ?_ <;> intro h <;> simp only [walkS, wl, rgets, retv, argsEnv, ev, cst, cst1, cstL, AEnv.get, AEnv.trim, envput, qstep, abin, aun, evs, evo, deref, qload, target, if_true, if_false, Nat.reduceEqDiff, reduceIte, Nat.reduceAdd, AV.cells, AV.isTuple, setMany, alen, aiaddr, afill, Nat.reduceLeDiff, Nat.reduceMul, Nat.reduceLT, afillE, List.replicate]
  · obtain ⟨h1, h2⟩ := chk_ne (ls := ls) (by simpa using h)
    simp only [bigV, h1, Bool.false_and]; exact out_bool
  · have h1 := chk_zero (ls := ls) (by simpa using h)
    refine call_pure (rWater_ok ls) (frzL_of' (d := 4) car_pkL) ?_
    simp only [walkS, wl, rgets, retv, argsEnv, ev, cst, cst1, cstL, AEnv.get, AEnv.trim, envput, qstep, abin, aun, evs, evo, deref, qload, target, if_true, if_false, Nat.reduceEqDiff, reduceIte, Nat.reduceAdd, AV.cells, AV.isTuple, setMany, alen, aiaddr, afill, Nat.reduceLeDiff, Nat.reduceMul, Nat.reduceLT, afillE, List.replicate]
    refine call_pure (rCold_ok ls) (frzL_of' (d := 4) car_pkL) ?_
    simp only [walkS, wl, rgets, retv, argsEnv, ev, cst, cst1, cstL, AEnv.get, AEnv.trim, envput, qstep, abin, aun, evs, evo, deref, qload, target, if_true, if_false, Nat.reduceEqDiff, reduceIte, Nat.reduceAdd, AV.cells, AV.isTuple, setMany, alen, aiaddr, afill, Nat.reduceLeDiff, Nat.reduceMul, Nat.reduceLT, afillE, List.replicate]
    have e1 : (waterV ls).1 = water ls := by simp only [waterV, h1, if_true]
    have e2 : (coldV ls).1 = cold ls := by simp only [coldV, h1, if_true]
    rw [e1, e2]
    refine withGuard_intro ?_ ?_ <;> intro g <;> simp only [walkS, wl, rgets, retv, argsEnv, ev, cst, cst1, cstL, AEnv.get, AEnv.trim, envput, qstep, abin, aun, evs, evo, deref, qload, target, if_true, if_false, Nat.reduceEqDiff, reduceIte, Nat.reduceAdd, AV.cells, AV.isTuple, setMany, alen, aiaddr, afill, Nat.reduceLeDiff, Nat.reduceMul, Nat.reduceLT, afillE, List.replicate, g]
    · have g' : ¬ 3000 < water ls := by simpa using g
      simp only [bigV, h1, Bool.true_and, decide_eq_false g', Bool.false_or]; exact out_bool
    · have g' : 3000 < water ls := by simpa using g
      simp only [bigV, h1, Bool.true_and, decide_eq_true g', Bool.true_or]; exact out_bool
end Go.Proofs.YtmcndbldbemebaaDoor
/- Small facts for the laws. -/
namespace Go.Proofs.YtmcndbldbemebaaDoor
open Go.Awp Go.Snow
set_option linter.unusedSimpArgs false
set_option linter.unusedVariables false
set_option linter.unusedSectionVars false
set_option maxRecDepth 10000
theorem applyV_len {k m c : Int} {ls : List Lay} : (applyV ls k m c).1.length ≤ 64 := by
  unfold applyV
  split
  · split
    · split
      · rename_i h3; exact (okP_iff.1 h3).1
      · simp
    · simp
  · simp
theorem eraseIdx_le {α : Type} {l : List α} {k : Nat} : (l.eraseIdx k).length ≤ l.length := by
  rw [List.length_eraseIdx]; split <;> omega
theorem jnF_len : ∀ (f : Nat) (ls : List Lay), (jnF f ls).length ≤ ls.length
  | 0, _ => Nat.le_refl _
  | f + 1, ls => by
    have h1 := jnF_len f (jstep ls)
    have h2 : (jstep ls).length ≤ ls.length := by
      unfold jstep
      exact Nat.le_trans eraseIdx_le (by rw [List.length_set]; exact Nat.le_refl _)
    simp only [jnF]; omega
theorem joinedV_len {ls : List Lay} {n : Int} : (joinedV ls n).1.length ≤ 64 := by
  unfold joinedV
  split
  · rename_i h
    split
    · have := jnF_len (ls.length - n.toNat) ls
      have := (okP_iff.1 h).1
      simp only; omega
    · simp
  · simp
theorem driftV_len {p q : List Lay} {m : Int} : (driftV p q m).1.length ≤ 64 ∧ (driftV p q m).2.1.length ≤ 64 := by
  unfold driftV
  split
  · split
    · split
      · rename_i h
        split
        · exact ⟨(okP_iff.1 h).1, applyV_len⟩
        · simp
      · simp
    · simp
  · simp
theorem runGo_len : ∀ (st : List Lay) (ls : List Lay) (os : List Int), ls.length ≤ 64 → (runGo ls os st).1.length ≤ 64 ∧ (runGo ls os st).2.1.length ≤ os.length + st.length
  | [], ls, os, h => ⟨h, Nat.le_refl _⟩
  | s :: r, ls, os, h => by
    simp only [runGo]
    split
    · have := runGo_len r (applyV ls s.1 s.2.1 s.2.2).1 (os ++ [(applyV ls s.1 s.2.1 s.2.2).2.1]) applyV_len
      simp only [List.length_append, List.length_cons, List.length_nil] at this ⊢
      omega
    · simp
theorem runV_len {ls st : List Lay} : (runV ls st).1.length ≤ 64 ∧ (runV ls st).2.1.length ≤ 256 := by
  unfold runV
  split
  · rename_i h
    split
    · have := runGo_len st ls [] (okP_iff.1 h).1
      simp only [List.length_nil] at this
      omega
    · simp
  · simp
theorem same_t {a : List Lay} (h : a.length ≤ 1000) : PCall Tryd.prog 23 [.agg [.ro false (rows a)], .agg [.ro false (rows a)]] (.bool true) := by
  have := Same_ok (p := a) (q := a) (by omega)
  simpa using this
end Go.Proofs.YtmcndbldbemebaaDoor
