/- Contracts: drifts and turns. -/
import Derived.Test.YtgadlckkmhhmbaaGreatDoorQC3
set_option linter.unusedVariables false
set_option linter.unusedSimpArgs false
set_option linter.unusedSectionVars false
namespace Go.Proofs.YtgadlckkmhhmbaaGreatDoor
open Go.Awp Go.Grams
set_option linter.unusedSimpArgs false
set_option linter.unusedVariables false
set_option linter.unusedSectionVars false
set_option maxRecDepth 10000
abbrev spA (e : Sp) : AV := .agg [I e.1, I e.2]
theorem drift_app {rate on known : Int} {t : Tst} : ∀ (a : List Tst) (e : Sp), drift rate on known (a ++ [t]) e = (if t.2.1 ≤ known then meet (drift rate on known a e) (room rate t on) else drift rate on known a e)
  | [], e => rfl
  | u :: a, e => by simp only [List.cons_append, drift]; exact drift_app a _
theorem drift_take {rate on known : Int} {ts : List Tst} {e : Sp} {k : Nat} (h : k < ts.length) : drift rate on known (ts.take (k + 1)) e = (if ts[k].2.1 ≤ known then meet (drift rate on known (ts.take k) e) (room rate ts[k] on) else drift rate on known (ts.take k) e) := by
  rw [List.take_succ_eq_append_getElem h, drift_app]
/-- Spans whose ends are far from the ends of the integers. -/
abbrev Spn (e : Sp) : Prop := (-1000000000000000000 ≤ e.1 ∧ e.1 ≤ 1000000000000000000) ∧ (-1000000000000000000 ≤ e.2 ∧ e.2 ≤ 1000000000000000000)
theorem p02 : (0 : Int) < ((2 : Nat) : Int) := by decide
theorem p12 : (1 : Int) < ((2 : Nat) : Int) := by decide
theorem all_ok : PCall Tryz.prog 63 [] (spA allS) := by
  refine PCall.intro text63 (by simp) ?_
  unfold ir63
  simp only [walk, wl, rgets, retv, argsEnv, ev, cst, cst1, cstL, AEnv.get, AEnv.trim, envput, qstep, abin, aun, evs, evo, deref, qload, target, if_true, if_false, Nat.reduceEqDiff, reduceIte, Nat.reduceAdd, AV.cells, AV.isTuple, setMany, alen, aiaddr, afill, Nat.reduceLeDiff, Nat.reduceMul, Nat.reduceLT, afillE, List.replicate]
  exact out_agg2I
theorem meet_ok (e f : Sp) : PCall Tryz.prog 64 [spA e, spA f] (spA (meet e f)) := by
  refine PCall.intro text64 (by simp) ?_
  unfold ir64
  simp only [walk, wl, rgets, retv, argsEnv, ev, cst, cst1, cstL, AEnv.get, AEnv.trim, envput, qstep, abin, aun, evs, evo, deref, qload, target, if_true, if_false, Nat.reduceEqDiff, reduceIte, Nat.reduceAdd, AV.cells, AV.isTuple, setMany, alen, aiaddr, afill, Nat.reduceLeDiff, Nat.reduceMul, Nat.reduceLT, afillE, List.replicate, amm, amm.go, amin, amax', Int.reduceLE, p02, p12, Int.toNat_zero, Int.reduceToNat, Nat.add_zero, Nat.zero_mul]
  exact out_agg2I
theorem wider_ok {e : Sp} {n : Int} (he : Spn e) (hn : -1000000000000000000 ≤ n ∧ n ≤ 1000000000000000000) : PCall Tryz.prog 65 [spA e, I n] (spA (e.1 - n, e.2 + n)) := by
  refine PCall.intro text65 (by simp) ?_
  unfold ir65
  have e1 : IntKind.i64.wrap (e.1 - n) = e.1 - n := wrap_id (by omega) (by omega)
  have e2 : IntKind.i64.wrap (e.2 + n) = e.2 + n := wrap_id (by omega) (by omega)
  simp only [walk, wl, rgets, retv, argsEnv, ev, cst, cst1, cstL, AEnv.get, AEnv.trim, envput, qstep, abin, aun, evs, evo, deref, qload, target, if_true, if_false, Nat.reduceEqDiff, reduceIte, Nat.reduceAdd, AV.cells, AV.isTuple, setMany, alen, aiaddr, afill, Nat.reduceLeDiff, Nat.reduceMul, Nat.reduceLT, afillE, List.replicate, Int.reduceLE, p02, p12, Int.toNat_zero, Int.reduceToNat, Nat.add_zero, Nat.zero_mul, e1, e2]
  exact out_agg2I
theorem drift_bd {rate on known : Int} {ts : List Tst} (hr : 0 ≤ rate ∧ rate ≤ 1000) (hok : ∀ t, t ∈ ts → okT t = true) (ho : Mid on) (e : Sp) (he : Spn e) : Spn (drift rate on known ts e) := by
  obtain ⟨h1, h2, -⟩ := drift_ends (rate := rate) (on := on) (known := known) ts e
  have rm : ∀ t, t ∈ ts → -1000000000000000000 ≤ (room rate t on).1 ∧ (room rate t on).1 ≤ 1000000000000000000 ∧ -1000000000000000000 ≤ (room rate t on).2 ∧ (room rate t on).2 ≤ 1000000000000000000 := fun t ht => by
    have h := okT_mid (hok t ht)
    have hb := rf_bd (a := t.1) (b := on) hr (by omega) ho
    simp only [room]; omega
  constructor
  · rcases h1 with h1 | ⟨t, ht, -, h1⟩
    · rw [h1]; exact he.1
    · have := rm t ht; rw [h1]; omega
  · rcases h2 with h2 | ⟨t, ht, -, h2⟩
    · rw [h2]; exact he.2
    · have := rm t ht; rw [h2]; omega
theorem allS_spn : Spn allS := by unfold allS; omega
theorem drift_ok {no rate on known : Int} {ts : List Tst} (hw : well no rate ts = true) (ho : Mid on) : PCall Tryz.prog 38 [sc no rate ts, I on, I known] (spA (driftV rate ts on known)) := by
  refine PCall.intro text38 (by simp) ?_
  unfold ir38
  obtain ⟨-, hr, hlen, hok, -⟩ := well_iff.1 hw
  simp only [walk, wl, rgets, retv, argsEnv, ev, cst, cst1, cstL, AEnv.get, AEnv.trim, envput, qstep, abin, aun, evs, evo, deref, qload, target, if_true, if_false, Nat.reduceEqDiff, reduceIte, Nat.reduceAdd, AV.cells, AV.isTuple, setMany, alen, aiaddr, afill, Nat.reduceLeDiff, Nat.reduceMul, Nat.reduceLT, afillE, List.replicate]
  refine call_pure all_ok .nil ?_
  simp only [walk, wl, rgets, retv, argsEnv, ev, cst, cst1, cstL, AEnv.get, AEnv.trim, envput, qstep, abin, aun, evs, evo, deref, qload, target, if_true, if_false, Nat.reduceEqDiff, reduceIte, Nat.reduceAdd, AV.cells, AV.isTuple, setMany, alen, aiaddr, afill, Nat.reduceLeDiff, Nat.reduceMul, Nat.reduceLT, afillE, List.replicate, trows_length]
  refine awp_loop (σ := Nat) (fun k => [(1, I on), (2, I known), (3, .ptr 0 1 0 0), (6, .ptr 1 1 0 0), (7, .ptr 2 1 0 0), (12, .ro false (trows ts)), (13, I ts.length), (14, I k)]) (fun k H => ∃ X, H = some ⟨40, 3, [[I no, I rate, .ro false (trows ts)]]⟩ :: some ⟨80, 2, [[I 0, I 0]]⟩ :: some ⟨80, 2, [[I (drift rate on known (ts.take k) allS).1, I (drift rate on known (ts.take k) allS).2]]⟩ :: X) (fun k => k ≤ ts.length) (fun k => ts.length - k) 0 (Nat.zero_le _) rfl ⟨[], rfl⟩ ?_
  rintro k H hk ⟨X, rfl⟩
  simp only [walk, wl, rgets, retv, argsEnv, ev, cst, cst1, cstL, AEnv.get, AEnv.trim, envput, qstep, abin, aun, evs, evo, deref, qload, target, if_true, if_false, Nat.reduceEqDiff, reduceIte, Nat.reduceAdd, AV.cells, AV.isTuple, setMany, alen, aiaddr, afill, Nat.reduceLeDiff, Nat.reduceMul, Nat.reduceLT, afillE, List.replicate]
  refine withBool_intro ?_ ?_ <;> intro hb <;> simp only [walk, wl, rgets, retv, argsEnv, ev, cst, cst1, cstL, AEnv.get, AEnv.trim, envput, qstep, abin, aun, evs, evo, deref, qload, target, if_true, if_false, Nat.reduceEqDiff, reduceIte, Nat.reduceAdd, AV.cells, AV.isTuple, setMany, alen, aiaddr, afill, Nat.reduceLeDiff, Nat.reduceMul, Nat.reduceLT, afillE, List.replicate]
  · have hlt : k < ts.length := by simpa using hb
    have w1 := w_succ (k := k) (by omega)
    have ht := okT_mid (hok _ (List.getElem_mem hlt))
    have hbd := rf_bd (a := ts[k].1) (b := on) hr (by omega) ho
    have e3 : IntKind.i64.wrap (rate * far ts[k].1 on) = rate * far ts[k].1 on := wrap_id (by omega) (by omega)
    have hds := drift_take (rate := rate) (on := on) (known := known) (e := allS) hlt
    simp only [walk, wl, rgets, retv, argsEnv, ev, cst, cst1, cstL, AEnv.get, AEnv.trim, envput, qstep, abin, aun, evs, evo, deref, qload, target, if_true, if_false, Nat.reduceEqDiff, reduceIte, Nat.reduceAdd, AV.cells, AV.isTuple, setMany, alen, aiaddr, afill, Nat.reduceLeDiff, Nat.reduceMul, Nat.reduceLT, afillE, List.replicate, trows_get hlt, List.length_cons]
    refine withBool_intro ?_ ?_ <;> intro hc <;> simp only [walk, wl, rgets, retv, argsEnv, ev, cst, cst1, cstL, AEnv.get, AEnv.trim, envput, qstep, abin, aun, evs, evo, deref, qload, target, if_true, if_false, Nat.reduceEqDiff, reduceIte, Nat.reduceAdd, AV.cells, AV.isTuple, setMany, alen, aiaddr, afill, Nat.reduceLeDiff, Nat.reduceMul, Nat.reduceLT, afillE, List.replicate]
    · have hc' : ts[k].2.1 ≤ known := by simpa using hc
      rw [if_pos hc'] at hds
      refine dcall_pure (apart_ok (by omega) ho) (frzL_of (d := 1) rfl) ?_
      simp only [walk, wl, rgets, retv, argsEnv, ev, cst, cst1, cstL, AEnv.get, AEnv.trim, envput, qstep, abin, aun, evs, evo, deref, qload, target, if_true, if_false, Nat.reduceEqDiff, reduceIte, Nat.reduceAdd, AV.cells, AV.isTuple, setMany, alen, aiaddr, afill, Nat.reduceLeDiff, Nat.reduceMul, Nat.reduceLT, afillE, List.replicate, e3]
      refine dcall_pure (wider_ok (e := (ts[k].2.2.1, ts[k].2.2.2)) (n := rate * far ts[k].1 on) ⟨by simp only; omega, by simp only; omega⟩ (by omega)) (frzL_of (d := 2) rfl) ?_
      simp only [walk, wl, rgets, retv, argsEnv, ev, cst, cst1, cstL, AEnv.get, AEnv.trim, envput, qstep, abin, aun, evs, evo, deref, qload, target, if_true, if_false, Nat.reduceEqDiff, reduceIte, Nat.reduceAdd, AV.cells, AV.isTuple, setMany, alen, aiaddr, afill, Nat.reduceLeDiff, Nat.reduceMul, Nat.reduceLT, afillE, List.replicate]
      refine call_pure (meet_ok (drift rate on known (ts.take k) allS) (ts[k].2.2.1 - rate * far ts[k].1 on, ts[k].2.2.2 + rate * far ts[k].1 on)) (frzL_of' (d := 2) rfl) ?_
      simp only [walk, wl, rgets, retv, argsEnv, ev, cst, cst1, cstL, AEnv.get, AEnv.trim, envput, qstep, abin, aun, evs, evo, deref, qload, target, if_true, if_false, Nat.reduceEqDiff, reduceIte, Nat.reduceAdd, AV.cells, AV.isTuple, setMany, alen, aiaddr, afill, Nat.reduceLeDiff, Nat.reduceMul, Nat.reduceLT, afillE, List.replicate, w1]
      refine loop_end (k + 1) hlt (by omega) rfl (by rw [hds]; exact ⟨_, rfl⟩)
    · have hc' : ¬ ts[k].2.1 ≤ known := by simpa using hc
      rw [if_neg hc'] at hds
      rw [w1]
      refine loop_end (k + 1) hlt (by omega) rfl (by rw [hds]; exact ⟨_, rfl⟩)
  · have hk' : k = ts.length := by simp at hb; omega
    subst hk'
    rw [List.take_length]
    exact out_agg2I
end Go.Proofs.YtgadlckkmhhmbaaGreatDoor
/- Contracts: Drift and Turn. -/
namespace Go.Proofs.YtgadlckkmhhmbaaGreatDoor
open Go.Awp Go.Grams
set_option linter.unusedSimpArgs false
set_option linter.unusedVariables false
set_option linter.unusedSectionVars false
set_option maxRecDepth 10000
theorem okDay_iff {n : Int} : okDay n = true ↔ 0 ≤ n ∧ n ≤ 1048576 := by simp [okDay]
theorem okDay_mid {n : Int} (h : okDay n = true) : Mid n := by have := okDay_iff.1 h; omega
theorem turn_ok {no rate a b known : Int} {ts : List Tst} (hw : well no rate ts = true) (ha : Mid a) (hb : Mid b) : PCall Tryz.prog 39 [sc no rate ts, I a, I b, I known] (spA (turnV rate ts a b known)) := by
  refine PCall.intro text39 (by simp) ?_
  unfold ir39
  obtain ⟨-, hr, hlen, hok, -⟩ := well_iff.1 hw
  have ba := drift_bd (known := known) hr hok ha allS allS_spn
  have bb := drift_bd (known := known) hr hok hb allS allS_spn
  have hbd := rf_bd (a := a) (b := b) hr ha hb
  have e1 : IntKind.i64.wrap (rate * far a b) = rate * far a b := wrap_id (by omega) (by omega)
  have e2 : IntKind.i64.wrap ((driftV rate ts b known).1 - (driftV rate ts a known).2) = (driftV rate ts b known).1 - (driftV rate ts a known).2 := by unfold driftV; exact wrap_id (by omega) (by omega)
  have e3 : IntKind.i64.wrap ((driftV rate ts b known).2 - (driftV rate ts a known).1) = (driftV rate ts b known).2 - (driftV rate ts a known).1 := by unfold driftV; exact wrap_id (by omega) (by omega)
  simp only [walk, wl, rgets, retv, argsEnv, ev, cst, cst1, cstL, AEnv.get, AEnv.trim, envput, qstep, abin, aun, evs, evo, deref, qload, target, if_true, if_false, Nat.reduceEqDiff, reduceIte, Nat.reduceAdd, AV.cells, AV.isTuple, setMany, alen, aiaddr, afill, Nat.reduceLeDiff, Nat.reduceMul, Nat.reduceLT, afillE, List.replicate]
  refine dcall_pure (drift_ok (known := known) hw ha) (fun X => frzL_of (d := 4) (carL_cons car_sc rfl) X) ?_
  simp only [walk, wl, rgets, retv, argsEnv, ev, cst, cst1, cstL, AEnv.get, AEnv.trim, envput, qstep, abin, aun, evs, evo, deref, qload, target, if_true, if_false, Nat.reduceEqDiff, reduceIte, Nat.reduceAdd, AV.cells, AV.isTuple, setMany, alen, aiaddr, afill, Nat.reduceLeDiff, Nat.reduceMul, Nat.reduceLT, afillE, List.replicate]
  refine dcall_pure (drift_ok (known := known) hw hb) (fun X => frzL_of (d := 4) (carL_cons car_sc rfl) X) ?_
  simp only [walk, wl, rgets, retv, argsEnv, ev, cst, cst1, cstL, AEnv.get, AEnv.trim, envput, qstep, abin, aun, evs, evo, deref, qload, target, if_true, if_false, Nat.reduceEqDiff, reduceIte, Nat.reduceAdd, AV.cells, AV.isTuple, setMany, alen, aiaddr, afill, Nat.reduceLeDiff, Nat.reduceMul, Nat.reduceLT, afillE, List.replicate, Int.reduceLE, p02, p12, Int.toNat_zero, Int.reduceToNat, Nat.add_zero, Nat.zero_mul, e2, e3]
  refine dcall_pure (apart_ok ha hb) (frzL_of (d := 1) rfl) ?_
  simp only [walk, wl, rgets, retv, argsEnv, ev, cst, cst1, cstL, AEnv.get, AEnv.trim, envput, qstep, abin, aun, evs, evo, deref, qload, target, if_true, if_false, Nat.reduceEqDiff, reduceIte, Nat.reduceAdd, AV.cells, AV.isTuple, setMany, alen, aiaddr, afill, Nat.reduceLeDiff, Nat.reduceMul, Nat.reduceLT, afillE, List.replicate, e1]
  refine dcall_pure (wider_ok (e := (0, 0)) (n := rate * far a b) (by simp) (by omega)) (frzL_of (d := 2) rfl) ?_
  simp only [walk, wl, rgets, retv, argsEnv, ev, cst, cst1, cstL, AEnv.get, AEnv.trim, envput, qstep, abin, aun, evs, evo, deref, qload, target, if_true, if_false, Nat.reduceEqDiff, reduceIte, Nat.reduceAdd, AV.cells, AV.isTuple, setMany, alen, aiaddr, afill, Nat.reduceLeDiff, Nat.reduceMul, Nat.reduceLT, afillE, List.replicate]
  refine call_pure (meet_ok ((driftV rate ts b known).1 - (driftV rate ts a known).2, (driftV rate ts b known).2 - (driftV rate ts a known).1) (0 - rate * far a b, 0 + rate * far a b)) (frzL_of' (d := 2) rfl) ?_
  simp only [walk, wl, rgets, retv, argsEnv, ev, cst, cst1, cstL, AEnv.get, AEnv.trim, envput, qstep, abin, aun, evs, evo, deref, qload, target, if_true, if_false, Nat.reduceEqDiff, reduceIte, Nat.reduceAdd, AV.cells, AV.isTuple, setMany, alen, aiaddr, afill, Nat.reduceLeDiff, Nat.reduceMul, Nat.reduceLT, afillE, List.replicate]
  exact out_agg2I
def askV (no rate : Int) (ts : List Tst) (days : List Int) : Int := if chkS no rate ts ≠ 0 then chkS no rate ts else if days.all okDay then 0 else 1
theorem ask_ok (no rate : Int) (ts : List Tst) (days : List Int) (hd : days.length ≤ 1000) : PCall Tryz.prog 37 [sc no rate ts, .ro false (ic days)] (I (askV no rate ts days)) := by
  refine PCall.intro text37 (by simp) ?_
  unfold ir37
  simp only [walk, wl, rgets, retv, argsEnv, ev, cst, cst1, cstL, AEnv.get, AEnv.trim, envput, qstep, abin, aun, evs, evo, deref, qload, target, if_true, if_false, Nat.reduceEqDiff, reduceIte, Nat.reduceAdd, AV.cells, AV.isTuple, setMany, alen, aiaddr, afill, Nat.reduceLeDiff, Nat.reduceMul, Nat.reduceLT, afillE, List.replicate]
  refine call_pure (CheckScale_ok no rate ts) (frzL_of' (d := 4) (carL_cons car_sc rfl)) ?_
  simp only [walk, wl, rgets, retv, argsEnv, ev, cst, cst1, cstL, AEnv.get, AEnv.trim, envput, qstep, abin, aun, evs, evo, deref, qload, target, if_true, if_false, Nat.reduceEqDiff, reduceIte, Nat.reduceAdd, AV.cells, AV.isTuple, setMany, alen, aiaddr, afill, Nat.reduceLeDiff, Nat.reduceMul, Nat.reduceLT, afillE, List.replicate]
  refine withBool_intro ?_ ?_ <;> intro h1 <;> simp only [walk, wl, rgets, retv, argsEnv, ev, cst, cst1, cstL, AEnv.get, AEnv.trim, envput, qstep, abin, aun, evs, evo, deref, qload, target, if_true, if_false, Nat.reduceEqDiff, reduceIte, Nat.reduceAdd, AV.cells, AV.isTuple, setMany, alen, aiaddr, afill, Nat.reduceLeDiff, Nat.reduceMul, Nat.reduceLT, afillE, List.replicate, ic_length]
  · have : askV no rate ts days = chkS no rate ts := by simp at h1; simp [askV, h1]
    rw [this]; exact out_int
  · have h1' : chkS no rate ts = 0 := by simpa using h1
    refine awp_loop (σ := Nat) (fun k => [(13, .ro false (ic days)), (14, I days.length), (15, I k)]) (fun _ _ => True) (fun k => k ≤ days.length ∧ (days.take k).all okDay = true) (fun k => days.length - k) 0 ⟨Nat.zero_le _, rfl⟩ rfl trivial ?_
    rintro k H ⟨hk, hall⟩ -
    simp only [walk, wl, rgets, retv, argsEnv, ev, cst, cst1, cstL, AEnv.get, AEnv.trim, envput, qstep, abin, aun, evs, evo, deref, qload, target, if_true, if_false, Nat.reduceEqDiff, reduceIte, Nat.reduceAdd, AV.cells, AV.isTuple, setMany, alen, aiaddr, afill, Nat.reduceLeDiff, Nat.reduceMul, Nat.reduceLT, afillE, List.replicate]
    refine withBool_intro ?_ ?_ <;> intro hb <;> simp only [walk, wl, rgets, retv, argsEnv, ev, cst, cst1, cstL, AEnv.get, AEnv.trim, envput, qstep, abin, aun, evs, evo, deref, qload, target, if_true, if_false, Nat.reduceEqDiff, reduceIte, Nat.reduceAdd, AV.cells, AV.isTuple, setMany, alen, aiaddr, afill, Nat.reduceLeDiff, Nat.reduceMul, Nat.reduceLT, afillE, List.replicate]
    · have hlt : k < days.length := by simpa using hb
      have w1 := w_succ (k := k) (by omega)
      simp only [walk, wl, rgets, retv, argsEnv, ev, cst, cst1, cstL, AEnv.get, AEnv.trim, envput, qstep, abin, aun, evs, evo, deref, qload, target, if_true, if_false, Nat.reduceEqDiff, reduceIte, Nat.reduceAdd, AV.cells, AV.isTuple, setMany, alen, aiaddr, afill, Nat.reduceLeDiff, Nat.reduceMul, Nat.reduceLT, afillE, List.replicate, ic_get hlt]
      refine call_pure (day_ok _) (frzL_of' (d := 1) rfl) ?_
      simp only [walk, wl, rgets, retv, argsEnv, ev, cst, cst1, cstL, AEnv.get, AEnv.trim, envput, qstep, abin, aun, evs, evo, deref, qload, target, if_true, if_false, Nat.reduceEqDiff, reduceIte, Nat.reduceAdd, AV.cells, AV.isTuple, setMany, alen, aiaddr, afill, Nat.reduceLeDiff, Nat.reduceMul, Nat.reduceLT, afillE, List.replicate]
      refine withBool_intro ?_ ?_ <;> intro hc <;> simp only [walk, wl, rgets, retv, argsEnv, ev, cst, cst1, cstL, AEnv.get, AEnv.trim, envput, qstep, abin, aun, evs, evo, deref, qload, target, if_true, if_false, Nat.reduceEqDiff, reduceIte, Nat.reduceAdd, AV.cells, AV.isTuple, setMany, alen, aiaddr, afill, Nat.reduceLeDiff, Nat.reduceMul, Nat.reduceLT, afillE, List.replicate, w1]
      · have : askV no rate ts days = 1 := by
          have hn : days.all okDay = false := by
            rw [List.all_eq_false]; exact ⟨days[k], List.getElem_mem hlt, by simpa using hc⟩
          simp [askV, h1', hn]
        rw [this]; exact out_int
      · exact loop_end (k + 1) ⟨hlt, all_take hall hlt (by simpa using hc)⟩ (by omega) rfl trivial
    · have hk' : k = days.length := by simp at hb; omega
      subst hk'
      rw [List.take_length] at hall
      have : askV no rate ts days = 0 := by simp [askV, h1', hall]
      rw [this]; exact out_int
theorem askV_zero {no rate : Int} {ts : List Tst} {days : List Int} (h : askV no rate ts days = 0) : well no rate ts = true ∧ calm rate ts ∧ ∀ d, d ∈ days → okDay d = true := by
  unfold askV at h
  split at h
  · omega
  · rename_i h1
    have := chkS_zero (by simpa using h1 : chkS no rate ts = 0)
    split at h
    · rename_i h2
      exact ⟨this.1, this.2, by simpa using h2⟩
    · cases h
def dvS (no rate : Int) (ts : List Tst) (on known : Int) : Sp := if askV no rate ts [on, known] = 0 then driftV rate ts on known else (0, 0)
def dvV (no rate : Int) (ts : List Tst) (on known : Int) : AV := .tuple [spA (dvS no rate ts on known), I (askV no rate ts [on, known])]
theorem car_own2 {H : AHeap} {d h : Nat} {a b : Int} (ho : AHeap.obj H h = some ⟨3, 1, [[I a], [I b]]⟩) : carry false H (d + 2) (.own h 2 0 2) = some (.ro false (ic [a, b])) := car_ownN (els := ic [a, b]) ho rfl (ic_simple _)
theorem car_own3 {H : AHeap} {d h : Nat} {a b c : Int} (ho : AHeap.obj H h = some ⟨3, 1, [[I a], [I b], [I c]]⟩) : carry false H (d + 2) (.own h 3 0 3) = some (.ro false (ic [a, b, c])) := car_ownN (els := ic [a, b, c]) ho rfl (ic_simple _)
theorem car_own1 {H : AHeap} {d h : Nat} {a : Int} (ho : AHeap.obj H h = some ⟨3, 1, [[I a]]⟩) : carry false H (d + 2) (.own h 1 0 1) = some (.ro false (ic [a])) := car_ownN (els := ic [a]) ho rfl (ic_simple _)
theorem Drift_ok (no rate : Int) (ts : List Tst) (on known : Int) : PCall Tryz.prog 14 [sc no rate ts, I on, I known] (dvV no rate ts on known) := by
  refine PCall.intro text14 (by simp) ?_
  unfold ir14
  simp only [walk, wl, rgets, retv, argsEnv, ev, cst, cst1, cstL, AEnv.get, AEnv.trim, envput, qstep, abin, aun, evs, evo, deref, qload, target, if_true, if_false, Nat.reduceEqDiff, reduceIte, Nat.reduceAdd, AV.cells, AV.isTuple, setMany, alen, aiaddr, afill, Nat.reduceLeDiff, Nat.reduceMul, Nat.reduceLT, afillE, List.replicate]
  refine call_pure (ask_ok no rate ts [on, known] (by simp)) (frzL_of' (d := 4) (carL_cons car_sc (carL_cons (car_own2 rfl) rfl))) ?_
  simp only [walk, wl, rgets, retv, argsEnv, ev, cst, cst1, cstL, AEnv.get, AEnv.trim, envput, qstep, abin, aun, evs, evo, deref, qload, target, if_true, if_false, Nat.reduceEqDiff, reduceIte, Nat.reduceAdd, AV.cells, AV.isTuple, setMany, alen, aiaddr, afill, Nat.reduceLeDiff, Nat.reduceMul, Nat.reduceLT, afillE, List.replicate]
  refine withBool_intro ?_ ?_ <;> intro h1 <;> simp only [walk, wl, rgets, retv, argsEnv, ev, cst, cst1, cstL, AEnv.get, AEnv.trim, envput, qstep, abin, aun, evs, evo, deref, qload, target, if_true, if_false, Nat.reduceEqDiff, reduceIte, Nat.reduceAdd, AV.cells, AV.isTuple, setMany, alen, aiaddr, afill, Nat.reduceLeDiff, Nat.reduceMul, Nat.reduceLT, afillE, List.replicate]
  · have : dvS no rate ts on known = (0, 0) := by simp at h1; simp [dvS, h1]
    unfold dvV; rw [this]; exact out_two out_agg2I out_int
  · have h0 : askV no rate ts [on, known] = 0 := by simpa using h1
    obtain ⟨hw, hc, hd⟩ := askV_zero h0
    refine call_pure (drift_ok (known := known) hw (okDay_mid (hd on (by simp)))) (frzL_of' (d := 4) (carL_cons car_sc rfl)) ?_
    simp only [walk, wl, rgets, retv, argsEnv, ev, cst, cst1, cstL, AEnv.get, AEnv.trim, envput, qstep, abin, aun, evs, evo, deref, qload, target, if_true, if_false, Nat.reduceEqDiff, reduceIte, Nat.reduceAdd, AV.cells, AV.isTuple, setMany, alen, aiaddr, afill, Nat.reduceLeDiff, Nat.reduceMul, Nat.reduceLT, afillE, List.replicate, Int.reduceLE, p02, p12, Int.toNat_zero, Int.reduceToNat, Nat.add_zero, Nat.zero_mul]
    have : dvS no rate ts on known = driftV rate ts on known := by simp [dvS, h0]
    unfold dvV; rw [this, h0]; exact out_two out_agg2I out_int
def tvS (no rate : Int) (ts : List Tst) (a b known : Int) : Sp := if askV no rate ts [a, b, known] = 0 then turnV rate ts a b known else (0, 0)
def tvV (no rate : Int) (ts : List Tst) (a b known : Int) : AV := .tuple [spA (tvS no rate ts a b known), I (askV no rate ts [a, b, known])]
theorem Turn_ok (no rate : Int) (ts : List Tst) (a b known : Int) : PCall Tryz.prog 15 [sc no rate ts, I a, I b, I known] (tvV no rate ts a b known) := by
  refine PCall.intro text15 (by simp) ?_
  unfold ir15
  simp only [walk, wl, rgets, retv, argsEnv, ev, cst, cst1, cstL, AEnv.get, AEnv.trim, envput, qstep, abin, aun, evs, evo, deref, qload, target, if_true, if_false, Nat.reduceEqDiff, reduceIte, Nat.reduceAdd, AV.cells, AV.isTuple, setMany, alen, aiaddr, afill, Nat.reduceLeDiff, Nat.reduceMul, Nat.reduceLT, afillE, List.replicate]
  refine call_pure (ask_ok no rate ts [a, b, known] (by simp)) (frzL_of' (d := 4) (carL_cons car_sc (carL_cons (car_own3 rfl) rfl))) ?_
  simp only [walk, wl, rgets, retv, argsEnv, ev, cst, cst1, cstL, AEnv.get, AEnv.trim, envput, qstep, abin, aun, evs, evo, deref, qload, target, if_true, if_false, Nat.reduceEqDiff, reduceIte, Nat.reduceAdd, AV.cells, AV.isTuple, setMany, alen, aiaddr, afill, Nat.reduceLeDiff, Nat.reduceMul, Nat.reduceLT, afillE, List.replicate]
  refine withBool_intro ?_ ?_ <;> intro h1 <;> simp only [walk, wl, rgets, retv, argsEnv, ev, cst, cst1, cstL, AEnv.get, AEnv.trim, envput, qstep, abin, aun, evs, evo, deref, qload, target, if_true, if_false, Nat.reduceEqDiff, reduceIte, Nat.reduceAdd, AV.cells, AV.isTuple, setMany, alen, aiaddr, afill, Nat.reduceLeDiff, Nat.reduceMul, Nat.reduceLT, afillE, List.replicate]
  · have : tvS no rate ts a b known = (0, 0) := by simp at h1; simp [tvS, h1]
    unfold tvV; rw [this]; exact out_two out_agg2I out_int
  · have h0 : askV no rate ts [a, b, known] = 0 := by simpa using h1
    obtain ⟨hw, hc, hd⟩ := askV_zero h0
    refine call_pure (turn_ok (known := known) hw (okDay_mid (hd a (by simp))) (okDay_mid (hd b (by simp)))) (frzL_of' (d := 4) (carL_cons car_sc rfl)) ?_
    simp only [walk, wl, rgets, retv, argsEnv, ev, cst, cst1, cstL, AEnv.get, AEnv.trim, envput, qstep, abin, aun, evs, evo, deref, qload, target, if_true, if_false, Nat.reduceEqDiff, reduceIte, Nat.reduceAdd, AV.cells, AV.isTuple, setMany, alen, aiaddr, afill, Nat.reduceLeDiff, Nat.reduceMul, Nat.reduceLT, afillE, List.replicate, Int.reduceLE, p02, p12, Int.toNat_zero, Int.reduceToNat, Nat.add_zero, Nat.zero_mul]
    have : tvS no rate ts a b known = turnV rate ts a b known := by simp [tvS, h0]
    unfold tvV; rw [this, h0]; exact out_two out_agg2I out_int
end Go.Proofs.YtgadlckkmhhmbaaGreatDoor
