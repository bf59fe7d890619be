/- Contracts: Core, Water, Density. -/
import Derived.Test.YtgadlckkmhhmbaaGreatDoorQC10
set_option linter.unusedVariables false
set_option linter.unusedSimpArgs false
set_option linter.unusedSectionVars false
namespace Go.Proofs.YtgadlckkmhhmbaaGreatDoor
open Go.Awp Go.Grams
set_option linter.unusedSimpArgs false
set_option linter.unusedVariables false
set_option linter.unusedSectionVars false
set_option maxRecDepth 10000
def stAt (s : Sht) (at_ : Int) : Stk := (s.st[at_.toNat]?).getD (0, 0, 0, 0, 0)
theorem stAt_eq {s : Sht} {at_ : Int} (h : at_.toNat < s.st.length) : stAt s at_ = s.st[at_.toNat] := by
  unfold stAt; rw [List.getElem?_eq_getElem h]; rfl
def ifL (no rate : Int) (ts : List Tst) (s : Sht) (at_ known : Int) (x : Sp) : Sp := if lookE no rate ts s at_ known = 0 then x else (0, 0)
def corR (no rate : Int) (ts : List Tst) (s : Sht) (at_ known : Int) : Sp := ifL no rate ts s at_ known (coreV s (stAt s at_) (turnsV rate ts s known))
def watR (no rate : Int) (ts : List Tst) (s : Sht) (at_ known : Int) : Sp := ifL no rate ts s at_ known (waterS s (stAt s at_) (turnsV rate ts s known))
theorem Core_ok (no rate : Int) (ts : List Tst) (s : Sht) (at_ known : Int) : PCall Tryz.prog 18 [sc no rate ts, sh s, I at_, I known] (.tuple [spA (corR no rate ts s at_ known), I (lookE no rate ts s at_ known)]) := by
  refine PCall.intro text18 (by simp) ?_
  unfold ir18
  simp only [walk, wl, rgets, retv, argsEnv, ev, cst, cst1, cstL, AEnv.get, AEnv.trim, envput, qstep, abin, aun, evs, evo, deref, qload, target, if_true, if_false, Nat.reduceEqDiff, reduceIte, Nat.reduceAdd, AV.cells, AV.isTuple, setMany, alen, aiaddr, afill, Nat.reduceLeDiff, Nat.reduceMul, Nat.reduceLT, afillE, List.replicate]
  refine call_pure (look_ok no rate ts s at_ known) (frzL_of' (d := 4) (carL_cons car_sc (carL_cons car_sh rfl))) ?_
  simp only [walk, wl, rgets, retv, argsEnv, ev, cst, cst1, cstL, AEnv.get, AEnv.trim, envput, qstep, abin, aun, evs, evo, deref, qload, target, if_true, if_false, Nat.reduceEqDiff, reduceIte, Nat.reduceAdd, AV.cells, AV.isTuple, setMany, alen, aiaddr, afill, Nat.reduceLeDiff, Nat.reduceMul, Nat.reduceLT, afillE, List.replicate]
  refine withBool_intro ?_ ?_ <;> intro h1 <;> simp only [walk, wl, rgets, retv, argsEnv, ev, cst, cst1, cstL, AEnv.get, AEnv.trim, envput, qstep, abin, aun, evs, evo, deref, qload, target, if_true, if_false, Nat.reduceEqDiff, reduceIte, Nat.reduceAdd, AV.cells, AV.isTuple, setMany, alen, aiaddr, afill, Nat.reduceLeDiff, Nat.reduceMul, Nat.reduceLT, afillE, List.replicate]
  · have : corR no rate ts s at_ known = (0, 0) := by simp at h1; simp [corR, ifL, h1]
    rw [this]; exact out_two out_agg2I out_int
  · have h0 : lookE no rate ts s at_ known = 0 := by simpa using h1
    obtain ⟨g1, g2, g3⟩ := lookE_zero h0
    obtain ⟨hw, hc, hs, -, -⟩ := sofE_zero g1
    obtain ⟨-, hr, hlen, hok, -⟩ := well_iff.1 hw
    obtain ⟨he, hm, hn, hk⟩ := shp hs
    have tb := turns_box (known := known) hr.1 hok hc hs
    have hlt : at_.toNat < s.st.length := by omega
    have hnn : (0 : Int) ≤ at_ := g2.1
    have hL : lookS no rate ts s at_ known = turnsV rate ts s known := by unfold lookS; rw [if_pos h0]
    rw [hL]
    have hR : corR no rate ts s at_ known = coreV s s.st[at_.toNat] (turnsV rate ts s known) := by unfold corR ifL; rw [if_pos h0, stAt_eq hlt]
    rw [hR, h0]
    simp only [walk, wl, rgets, retv, argsEnv, ev, cst, cst1, cstL, AEnv.get, AEnv.trim, envput, qstep, abin, aun, evs, evo, deref, qload, target, if_true, if_false, Nat.reduceEqDiff, reduceIte, Nat.reduceAdd, AV.cells, AV.isTuple, setMany, alen, aiaddr, afill, Nat.reduceLeDiff, Nat.reduceMul, Nat.reduceLT, afillE, List.replicate, hnn, krows_get hlt, List.length_cons]
    refine dcall_pure (core_ok he (hk _ (List.getElem_mem hlt)) tb) (fun X => frzL_of (d := 4) (carL_cons car_sh (carL_cons car_kd rfl)) X) ?_
    simp only [walk, wl, rgets, retv, argsEnv, ev, cst, cst1, cstL, AEnv.get, AEnv.trim, envput, qstep, abin, aun, evs, evo, deref, qload, target, if_true, if_false, Nat.reduceEqDiff, reduceIte, Nat.reduceAdd, AV.cells, AV.isTuple, setMany, alen, aiaddr, afill, Nat.reduceLeDiff, Nat.reduceMul, Nat.reduceLT, afillE, List.replicate, Int.reduceLE, p02, p12, Int.toNat_zero, Int.reduceToNat, Nat.add_zero, Nat.zero_mul]
    exact out_two out_agg2I out_int
theorem quo_wrap {a b : Int} (ha : 0 ≤ a ∧ a ≤ 1000000000000000) (hb : 0 < b) : IntKind.i64.wrap (a.tdiv b) = a / b := by
  rw [Int.tdiv_eq_ediv_of_nonneg ha.1]
  have h1 := Int.ediv_nonneg ha.1 (show (0 : Int) ≤ b by omega)
  have h2 := Int.ediv_le_self b ha.1
  exact wrap_id (by omega) (by omega)
theorem Water_ok (no rate : Int) (ts : List Tst) (s : Sht) (at_ known : Int) : PCall Tryz.prog 21 [sc no rate ts, sh s, I at_, I known] (.tuple [spA (watR no rate ts s at_ known), I (lookE no rate ts s at_ known)]) := by
  refine PCall.intro text21 (by simp) ?_
  unfold ir21
  simp only [walk, wl, rgets, retv, argsEnv, ev, cst, cst1, cstL, AEnv.get, AEnv.trim, envput, qstep, abin, aun, evs, evo, deref, qload, target, if_true, if_false, Nat.reduceEqDiff, reduceIte, Nat.reduceAdd, AV.cells, AV.isTuple, setMany, alen, aiaddr, afill, Nat.reduceLeDiff, Nat.reduceMul, Nat.reduceLT, afillE, List.replicate]
  refine call_pure (look_ok no rate ts s at_ known) (frzL_of' (d := 4) (carL_cons car_sc (carL_cons car_sh rfl))) ?_
  simp only [walk, wl, rgets, retv, argsEnv, ev, cst, cst1, cstL, AEnv.get, AEnv.trim, envput, qstep, abin, aun, evs, evo, deref, qload, target, if_true, if_false, Nat.reduceEqDiff, reduceIte, Nat.reduceAdd, AV.cells, AV.isTuple, setMany, alen, aiaddr, afill, Nat.reduceLeDiff, Nat.reduceMul, Nat.reduceLT, afillE, List.replicate]
  refine withBool_intro ?_ ?_ <;> intro h1 <;> simp only [walk, wl, rgets, retv, argsEnv, ev, cst, cst1, cstL, AEnv.get, AEnv.trim, envput, qstep, abin, aun, evs, evo, deref, qload, target, if_true, if_false, Nat.reduceEqDiff, reduceIte, Nat.reduceAdd, AV.cells, AV.isTuple, setMany, alen, aiaddr, afill, Nat.reduceLeDiff, Nat.reduceMul, Nat.reduceLT, afillE, List.replicate]
  · have : watR no rate ts s at_ known = (0, 0) := by simp at h1; simp [watR, ifL, h1]
    rw [this]; exact out_two out_agg2I out_int
  · have h0 : lookE no rate ts s at_ known = 0 := by simpa using h1
    obtain ⟨g1, g2, g3⟩ := lookE_zero h0
    obtain ⟨hw, hc, hs, -, -⟩ := sofE_zero g1
    obtain ⟨-, hr, hlen, hok, -⟩ := well_iff.1 hw
    obtain ⟨he, hm, hn, hk⟩ := shp hs
    have tb := turns_box (known := known) hr.1 hok hc hs
    have hlt : at_.toNat < s.st.length := by omega
    have hnn : (0 : Int) ≤ at_ := g2.1
    have hL : lookS no rate ts s at_ known = turnsV rate ts s known := by unfold lookS; rw [if_pos h0]
    rw [hL]
    have hkk := hk _ (List.getElem_mem hlt)
    have sb := snow_bd he hm hkk tb
    have sp := snow_pos (s := s) hm hkk g3 (turns_le (List.getElem_mem hlt))
    have e1 : IntKind.i64.wrap (20 * s.mouth) = 20 * s.mouth := wrap_id (by omega) (by omega)
    have e2 : IntKind.i64.wrap ((snowV s s.st[at_.toNat] (turnsV rate ts s known)).1.tdiv (20 * s.mouth)) = (snowV s s.st[at_.toNat] (turnsV rate ts s known)).1 / (20 * s.mouth) := quo_wrap (by omega) (by omega)
    have hn0 : ¬ 20 * s.mouth = 0 := by omega
    have hR : watR no rate ts s at_ known = waterS s s.st[at_.toNat] (turnsV rate ts s known) := by unfold watR ifL; rw [if_pos h0, stAt_eq hlt]
    rw [hR, h0]
    simp only [walk, wl, rgets, retv, argsEnv, ev, cst, cst1, cstL, AEnv.get, AEnv.trim, envput, qstep, abin, aun, evs, evo, deref, qload, target, if_true, if_false, Nat.reduceEqDiff, reduceIte, Nat.reduceAdd, AV.cells, AV.isTuple, setMany, alen, aiaddr, afill, Nat.reduceLeDiff, Nat.reduceMul, Nat.reduceLT, afillE, List.replicate, hnn, krows_get hlt, List.length_cons]
    refine dcall_pure (snow_ok he hm hkk tb) (fun X => frzL_of (d := 4) (carL_cons car_sh (carL_cons car_kd rfl)) X) ?_
    simp only [walk, wl, rgets, retv, argsEnv, ev, cst, cst1, cstL, AEnv.get, AEnv.trim, envput, qstep, abin, aun, evs, evo, deref, qload, target, if_true, if_false, Nat.reduceEqDiff, reduceIte, Nat.reduceAdd, AV.cells, AV.isTuple, setMany, alen, aiaddr, afill, Nat.reduceLeDiff, Nat.reduceMul, Nat.reduceLT, afillE, List.replicate, e1, e2, hn0]
    refine dcall_pure (up_ok (b := s.mouth) (by omega) (by omega)) (frzL_of (d := 1) rfl) ?_
    simp only [walk, wl, rgets, retv, argsEnv, ev, cst, cst1, cstL, AEnv.get, AEnv.trim, envput, qstep, abin, aun, evs, evo, deref, qload, target, if_true, if_false, Nat.reduceEqDiff, reduceIte, Nat.reduceAdd, AV.cells, AV.isTuple, setMany, alen, aiaddr, afill, Nat.reduceLeDiff, Nat.reduceMul, Nat.reduceLT, afillE, List.replicate]
    exact out_two out_agg2I out_int
theorem Density_ok (no rate : Int) (ts : List Tst) (s : Sht) (at_ known : Int) (h0 : lookE no rate ts s at_ known = 0) (hd : 1 ≤ (stAt s at_).1) : PCall Tryz.prog 22 [sc no rate ts, sh s, I at_, I known] (.tuple [spA (densS s (stAt s at_) (turnsV rate ts s known)), I 0]) := by
  refine PCall.intro text22 (by simp) ?_
  unfold ir22
  obtain ⟨g1, g2, g3⟩ := lookE_zero h0
  obtain ⟨hw, hc, hs, -, -⟩ := sofE_zero g1
  obtain ⟨-, hr, hlen, hok, -⟩ := well_iff.1 hw
  obtain ⟨he, hm, hn, hk⟩ := shp hs
  have tb := turns_box (known := known) hr.1 hok hc hs
  have hlt : at_.toNat < s.st.length := by omega
  have hnn : (0 : Int) ≤ at_ := g2.1
  have hL : lookS no rate ts s at_ known = turnsV rate ts s known := by unfold lookS; rw [if_pos h0]
  have hkk := hk _ (List.getElem_mem hlt)
  have sb := snow_bd he hm hkk tb
  have sp := snow_pos (s := s) hm hkk g3 (turns_le (List.getElem_mem hlt))
  rw [stAt_eq hlt] at hd ⊢
  have hk3 := okK_iff.1 hkk
  have m1 := Int.mul_le_mul hm.2 hk3.1.2 (by omega : (0 : Int) ≤ s.st[at_.toNat].1) (by omega : (0 : Int) ≤ 1000)
  have m2 : 1 ≤ s.mouth * s.st[at_.toNat].1 := by
    have := Int.mul_pos (show 0 < s.mouth by omega) (show 0 < s.st[at_.toNat].1 by omega)
    omega
  have m3 : 20 * s.mouth * s.st[at_.toNat].1 = 20 * (s.mouth * s.st[at_.toNat].1) := Int.mul_assoc ..
  have e1 : IntKind.i64.wrap (20 * s.mouth) = 20 * s.mouth := wrap_id (by omega) (by omega)
  have e2 : IntKind.i64.wrap (20 * s.mouth * s.st[at_.toNat].1) = 20 * s.mouth * s.st[at_.toNat].1 := wrap_id (by omega) (by omega)
  have e3 : IntKind.i64.wrap (1000 * (snowV s s.st[at_.toNat] (turnsV rate ts s known)).1) = 1000 * (snowV s s.st[at_.toNat] (turnsV rate ts s known)).1 := wrap_id (by omega) (by omega)
  have e4 : IntKind.i64.wrap (1000 * (snowV s s.st[at_.toNat] (turnsV rate ts s known)).2) = 1000 * (snowV s s.st[at_.toNat] (turnsV rate ts s known)).2 := wrap_id (by omega) (by omega)
  have e5 : IntKind.i64.wrap (s.mouth * s.st[at_.toNat].1) = s.mouth * s.st[at_.toNat].1 := wrap_id (by omega) (by omega)
  have e6 : IntKind.i64.wrap ((1000 * (snowV s s.st[at_.toNat] (turnsV rate ts s known)).1).tdiv (20 * s.mouth * s.st[at_.toNat].1)) = 1000 * (snowV s s.st[at_.toNat] (turnsV rate ts s known)).1 / (20 * s.mouth * s.st[at_.toNat].1) := quo_wrap (by omega) (by omega)
  have hn0 : ¬ 20 * s.mouth * s.st[at_.toNat].1 = 0 := by omega
  have hd0 : (s.st[at_.toNat].1 == 0) = false := by simp; omega
  simp only [walk, wl, rgets, retv, argsEnv, ev, cst, cst1, cstL, AEnv.get, AEnv.trim, envput, qstep, abin, aun, evs, evo, deref, qload, target, if_true, if_false, Nat.reduceEqDiff, reduceIte, Nat.reduceAdd, AV.cells, AV.isTuple, setMany, alen, aiaddr, afill, Nat.reduceLeDiff, Nat.reduceMul, Nat.reduceLT, afillE, List.replicate]
  refine call_pure (look_ok no rate ts s at_ known) (frzL_of' (d := 4) (carL_cons car_sc (carL_cons car_sh rfl))) ?_
  rw [hL, h0]
  simp only [walk, wl, rgets, retv, argsEnv, ev, cst, cst1, cstL, AEnv.get, AEnv.trim, envput, qstep, abin, aun, evs, evo, deref, qload, target, if_true, if_false, Nat.reduceEqDiff, reduceIte, Nat.reduceAdd, AV.cells, AV.isTuple, setMany, alen, aiaddr, afill, Nat.reduceLeDiff, Nat.reduceMul, Nat.reduceLT, afillE, List.replicate, bne_self_eq_false, hnn, krows_get hlt, List.length_cons, hd0]
  refine call_pure (snow_ok he hm hkk tb) (frzL_of' (d := 4) (carL_cons car_sh (carL_cons car_kd rfl))) ?_
  simp only [walk, wl, rgets, retv, argsEnv, ev, cst, cst1, cstL, AEnv.get, AEnv.trim, envput, qstep, abin, aun, evs, evo, deref, qload, target, if_true, if_false, Nat.reduceEqDiff, reduceIte, Nat.reduceAdd, AV.cells, AV.isTuple, setMany, alen, aiaddr, afill, Nat.reduceLeDiff, Nat.reduceMul, Nat.reduceLT, afillE, List.replicate, e1, e2, e3, e4, e5, e6, hn0]
  refine dcall_pure (up_ok (a := 1000 * (snowV s s.st[at_.toNat] (turnsV rate ts s known)).2) (b := s.mouth * s.st[at_.toNat].1) (by omega) (by omega)) (frzL_of (d := 1) rfl) ?_
  simp only [walk, wl, rgets, retv, argsEnv, ev, cst, cst1, cstL, AEnv.get, AEnv.trim, envput, qstep, abin, aun, evs, evo, deref, qload, target, if_true, if_false, Nat.reduceEqDiff, reduceIte, Nat.reduceAdd, AV.cells, AV.isTuple, setMany, alen, aiaddr, afill, Nat.reduceLeDiff, Nat.reduceMul, Nat.reduceLT, afillE, List.replicate]
  exact out_two out_agg2I out_int
end Go.Proofs.YtgadlckkmhhmbaaGreatDoor
