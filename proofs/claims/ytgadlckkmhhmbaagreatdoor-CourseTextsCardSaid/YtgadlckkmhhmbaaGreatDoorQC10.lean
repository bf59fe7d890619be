/- Contracts: cores and the water of snow. -/
import Derived.Test.YtgadlckkmhhmbaaGreatDoorQC8
set_option linter.unusedVariables false
set_option linter.unusedSimpArgs false
set_option linter.unusedSectionVars false
namespace Go.Proofs.YtgadlckkmhhmbaaGreatDoor
open Go.Awp Go.Grams
set_option linter.unusedSimpArgs false
set_option linter.unusedVariables false
set_option linter.unusedSectionVars false
set_option maxRecDepth 10000
theorem shp {s : Sht} (hs : okSh s = true) : (0 ≤ s.empty ∧ s.empty ≤ 1048576) ∧ (1 ≤ s.mouth ∧ s.mouth ≤ 1000) ∧ (1 ≤ s.st.length ∧ s.st.length ≤ 32) ∧ ∀ k, k ∈ s.st → okK k = true := by
  obtain ⟨-, -, -, -, -, -, h7, h8, h9, h10⟩ := okSh_iff.1 hs
  exact ⟨by simpa [okGram] using h7, h8, h9, h10⟩
theorem core_ok {s : Sht} {k : Stk} {t : Sp} (he : 0 ≤ s.empty ∧ s.empty ≤ 1048576) (hk : okK k = true) (ht : Tn t) : PCall Tryz.prog 46 [sh s, .agg (kd k), spA t] (spA (coreV s k t)) := by
  refine PCall.intro text46 (by simp) ?_
  unfold ir46
  have hk := okK_iff.1 hk
  have e1 : IntKind.i64.wrap (k.2.2.1 - s.empty) = k.2.2.1 - s.empty := wrap_id (by omega) (by omega)
  have e2 : IntKind.i64.wrap (k.2.2.1 - s.empty - t.2) = k.2.2.1 - s.empty - t.2 := wrap_id (by omega) (by omega)
  have e3 : IntKind.i64.wrap (k.2.2.1 - s.empty - t.2 - k.2.2.2.2) = k.2.2.1 - s.empty - t.2 - k.2.2.2.2 := wrap_id (by omega) (by omega)
  have e4 : IntKind.i64.wrap (k.2.2.1 - s.empty - t.1) = k.2.2.1 - s.empty - t.1 := wrap_id (by omega) (by omega)
  simp only [walk, wl, rgets, retv, argsEnv, ev, cst, cst1, cstL, AEnv.get, AEnv.trim, envput, qstep, abin, aun, evs, evo, deref, qload, target, if_true, if_false, Nat.reduceEqDiff, reduceIte, Nat.reduceAdd, AV.cells, AV.isTuple, setMany, alen, aiaddr, afill, Nat.reduceLeDiff, Nat.reduceMul, Nat.reduceLT, afillE, List.replicate, Int.reduceLE, p02, p12, Int.toNat_zero, Int.reduceToNat, Nat.add_zero, Nat.zero_mul, e1, e2, e3, e4, amm, amm.go, amax']
  exact out_agg2I
theorem snow_ok {s : Sht} {k : Stk} {t : Sp} (he : 0 ≤ s.empty ∧ s.empty ≤ 1048576) (hm : 1 ≤ s.mouth ∧ s.mouth ≤ 1000) (hk : okK k = true) (ht : Tn t) : PCall Tryz.prog 47 [sh s, .agg (kd k), spA t] (.tuple [I (snowV s k t).1, I (snowV s k t).2]) := by
  refine PCall.intro text47 (by simp) ?_
  unfold ir47
  have hb := core_bd he hk ht
  have hk' := okK_iff.1 hk
  have hl := lost_bd (l := k.2.2.2.1) hk'.2.2.1 hm
  have e1 : IntKind.i64.wrap (20 * (coreV s k t).1) = 20 * (coreV s k t).1 := wrap_id (by omega) (by omega)
  have e2 : IntKind.i64.wrap (k.2.2.2.1 * s.mouth) = k.2.2.2.1 * s.mouth := wrap_id (by omega) (by omega)
  have e3 : IntKind.i64.wrap (20 * (coreV s k t).1 + k.2.2.2.1 * s.mouth) = 20 * (coreV s k t).1 + k.2.2.2.1 * s.mouth := wrap_id (by omega) (by omega)
  have e4 : IntKind.i64.wrap ((coreV s k t).2 + k.2.2.2.1 * s.mouth) = (coreV s k t).2 + k.2.2.2.1 * s.mouth := wrap_id (by omega) (by omega)
  simp only [walk, wl, rgets, retv, argsEnv, ev, cst, cst1, cstL, AEnv.get, AEnv.trim, envput, qstep, abin, aun, evs, evo, deref, qload, target, if_true, if_false, Nat.reduceEqDiff, reduceIte, Nat.reduceAdd, AV.cells, AV.isTuple, setMany, alen, aiaddr, afill, Nat.reduceLeDiff, Nat.reduceMul, Nat.reduceLT, afillE, List.replicate]
  refine call_pure (core_ok he hk ht) (frzL_of' (d := 4) (carL_cons car_sh (carL_cons car_kd rfl))) ?_
  simp only [walk, wl, rgets, retv, argsEnv, ev, cst, cst1, cstL, AEnv.get, AEnv.trim, envput, qstep, abin, aun, evs, evo, deref, qload, target, if_true, if_false, Nat.reduceEqDiff, reduceIte, Nat.reduceAdd, AV.cells, AV.isTuple, setMany, alen, aiaddr, afill, Nat.reduceLeDiff, Nat.reduceMul, Nat.reduceLT, afillE, List.replicate, Int.reduceLE, p02, p12, Int.toNat_zero, Int.reduceToNat, Nat.add_zero, Nat.zero_mul, e1, e2, e3, e4]
  exact out_two out_int out_int
theorem up_ok {a b : Int} (ha : 0 ≤ a ∧ a ≤ 1000000000000) (hb : 1 ≤ b ∧ b ≤ 1000000000) : PCall Tryz.prog 48 [I a, I b] (I (upV a b)) := by
  refine PCall.intro text48 (by simp) ?_
  unfold ir48
  have e1 : IntKind.i64.wrap (a + b) = a + b := wrap_id (by omega) (by omega)
  have e2 : IntKind.i64.wrap (a + b - 1) = a + b - 1 := wrap_id (by omega) (by omega)
  have hb0 : ¬ b = 0 := by omega
  have e3 : IntKind.i64.wrap ((a + b - 1).tdiv b) = upV a b := by
    rw [Int.tdiv_eq_ediv_of_nonneg (by omega)]
    unfold upV
    have h1 := Int.ediv_nonneg (show (0 : Int) ≤ a + b - 1 by omega) (show (0 : Int) ≤ b by omega)
    have h2 := Int.ediv_le_self b (show (0 : Int) ≤ a + b - 1 by omega)
    rw [wrap_id (by omega) (by omega)]
  simp only [walk, wl, rgets, retv, argsEnv, ev, cst, cst1, cstL, AEnv.get, AEnv.trim, envput, qstep, abin, aun, evs, evo, deref, qload, target, if_true, if_false, Nat.reduceEqDiff, reduceIte, Nat.reduceAdd, AV.cells, AV.isTuple, setMany, alen, aiaddr, afill, Nat.reduceLeDiff, Nat.reduceMul, Nat.reduceLT, afillE, List.replicate, e1, e2, e3, hb0]
  exact out_int
end Go.Proofs.YtgadlckkmhhmbaaGreatDoor
/- Contracts: scales and sheets that are looked at together. -/
namespace Go.Proofs.YtgadlckkmhhmbaaGreatDoor
open Go.Awp Go.Grams
set_option linter.unusedSimpArgs false
set_option linter.unusedVariables false
set_option linter.unusedSectionVars false
set_option maxRecDepth 10000
theorem okSh_of {s : Sht} (h : ¬ chkSh s = 0) : okSh s = false ∧ chkSh s = 12 := by
  unfold chkSh at h ⊢
  split
  · rename_i h2; rw [if_pos h2] at h; exact absurd rfl h
  · rename_i h2; exact ⟨by simpa using h2, rfl⟩
theorem sheetOf_ok (no rate : Int) (ts : List Tst) (s : Sht) (known : Int) : PCall Tryz.prog 68 [sc no rate ts, sh s, I known] (I (sofE no rate ts s known)) := by
  refine PCall.intro text68 (by simp) ?_
  unfold ir68
  simp only [walk, wl, rgets, retv, argsEnv, ev, cst, cst1, cstL, AEnv.get, AEnv.trim, envput, qstep, abin, aun, evs, evo, deref, qload, target, if_true, if_false, Nat.reduceEqDiff, reduceIte, Nat.reduceAdd, AV.cells, AV.isTuple, setMany, alen, aiaddr, afill, Nat.reduceLeDiff, Nat.reduceMul, Nat.reduceLT, afillE, List.replicate]
  refine call_pure (CheckScale_ok no rate ts) (frzL_of' (d := 4) (carL_cons car_sc rfl)) ?_
  simp only [walk, wl, rgets, retv, argsEnv, ev, cst, cst1, cstL, AEnv.get, AEnv.trim, envput, qstep, abin, aun, evs, evo, deref, qload, target, if_true, if_false, Nat.reduceEqDiff, reduceIte, Nat.reduceAdd, AV.cells, AV.isTuple, setMany, alen, aiaddr, afill, Nat.reduceLeDiff, Nat.reduceMul, Nat.reduceLT, afillE, List.replicate]
  refine withBool_intro ?_ ?_ <;> intro h1 <;> simp only [walk, wl, rgets, retv, argsEnv, ev, cst, cst1, cstL, AEnv.get, AEnv.trim, envput, qstep, abin, aun, evs, evo, deref, qload, target, if_true, if_false, Nat.reduceEqDiff, reduceIte, Nat.reduceAdd, AV.cells, AV.isTuple, setMany, alen, aiaddr, afill, Nat.reduceLeDiff, Nat.reduceMul, Nat.reduceLT, afillE, List.replicate]
  · have : sofE no rate ts s known = chkS no rate ts := by simp at h1; simp [sofE, h1]
    rw [this]; exact out_int
  · have h1' : chkS no rate ts = 0 := by simpa using h1
    refine call_pure (CheckSheet_ok s) (frzL_of' (d := 4) (carL_cons car_sh rfl)) ?_
    simp only [walk, wl, rgets, retv, argsEnv, ev, cst, cst1, cstL, AEnv.get, AEnv.trim, envput, qstep, abin, aun, evs, evo, deref, qload, target, if_true, if_false, Nat.reduceEqDiff, reduceIte, Nat.reduceAdd, AV.cells, AV.isTuple, setMany, alen, aiaddr, afill, Nat.reduceLeDiff, Nat.reduceMul, Nat.reduceLT, afillE, List.replicate]
    refine withBool_intro ?_ ?_ <;> intro h2 <;> simp only [walk, wl, rgets, retv, argsEnv, ev, cst, cst1, cstL, AEnv.get, AEnv.trim, envput, qstep, abin, aun, evs, evo, deref, qload, target, if_true, if_false, Nat.reduceEqDiff, reduceIte, Nat.reduceAdd, AV.cells, AV.isTuple, setMany, alen, aiaddr, afill, Nat.reduceLeDiff, Nat.reduceMul, Nat.reduceLT, afillE, List.replicate]
    · obtain ⟨h3, h4⟩ := okSh_of (s := s) (by simpa using h2)
      have : sofE no rate ts s known = 12 := by simp [sofE, h1', h3]
      rw [this, h4]; exact out_int
    · have h3 := chkSh_zero (s := s) (by simpa using h2)
      refine withGuard_intro ?_ ?_ <;> intro h4 <;> simp only [walk, wl, rgets, retv, argsEnv, ev, cst, cst1, cstL, AEnv.get, AEnv.trim, envput, qstep, abin, aun, evs, evo, deref, qload, target, if_true, if_false, Nat.reduceEqDiff, reduceIte, Nat.reduceAdd, AV.cells, AV.isTuple, setMany, alen, aiaddr, afill, Nat.reduceLeDiff, Nat.reduceMul, Nat.reduceLT, afillE, List.replicate, h4]
      · refine call_pure (day_ok _) (frzL_of' (d := 1) rfl) ?_
        simp only [walk, wl, rgets, retv, argsEnv, ev, cst, cst1, cstL, AEnv.get, AEnv.trim, envput, qstep, abin, aun, evs, evo, deref, qload, target, if_true, if_false, Nat.reduceEqDiff, reduceIte, Nat.reduceAdd, AV.cells, AV.isTuple, setMany, alen, aiaddr, afill, Nat.reduceLeDiff, Nat.reduceMul, Nat.reduceLT, afillE, List.replicate]
        have h4' : no = s.scale := by simpa using h4
        refine withBool_intro ?_ ?_ <;> intro h5 <;> simp only [walk, wl, rgets, retv, argsEnv, ev, cst, cst1, cstL, AEnv.get, AEnv.trim, envput, qstep, abin, aun, evs, evo, deref, qload, target, if_true, if_false, Nat.reduceEqDiff, reduceIte, Nat.reduceAdd, AV.cells, AV.isTuple, setMany, alen, aiaddr, afill, Nat.reduceLeDiff, Nat.reduceMul, Nat.reduceLT, afillE, List.replicate]
        · have : sofE no rate ts s known = 1 := by simp at h5; simp [sofE, h1', h3, h5]
          rw [this]; exact out_int
        · have h5' : okDay known = true := by simpa using h5
          have : sofE no rate ts s known = 0 := by unfold sofE; rw [if_neg (by simp [h1']), if_neg (by simp [h3]), if_pos ⟨h4', h5'⟩]
          rw [this]; exact out_int
      · have : sofE no rate ts s known = 1 := by simp at h4; simp [sofE, h1', h3, h4]
        rw [this]; exact out_int
theorem turns_ok {no rate known : Int} {ts : List Tst} {s : Sht} (hw : well no rate ts = true) (hc : calm rate ts) (hs : okSh s = true) : PCall Tryz.prog 69 [sc no rate ts, sh s, I known]
    (.tuple (if (turnsV rate ts s known).2 < (turnsV rate ts s known).1 then [spA (0, 0), I 13] else [spA (turnsV rate ts s known), I 0])) := by
  refine PCall.intro text69 (by simp) ?_
  unfold ir69
  obtain ⟨-, hr, hlen, hok, -⟩ := well_iff.1 hw
  obtain ⟨he, hm, hn, hk⟩ := shp hs
  obtain ⟨-, -, -, d1, d2, d3, -⟩ := okSh_iff.1 hs
  have tb := turn_box (a := s.emptyDay) (b := s.day) (known := known) hr.1 hok hc
  simp only [walk, wl, rgets, retv, argsEnv, ev, cst, cst1, cstL, AEnv.get, AEnv.trim, envput, qstep, abin, aun, evs, evo, deref, qload, target, if_true, if_false, Nat.reduceEqDiff, reduceIte, Nat.reduceAdd, AV.cells, AV.isTuple, setMany, alen, aiaddr, afill, Nat.reduceLeDiff, Nat.reduceMul, Nat.reduceLT, afillE, List.replicate]
  refine call_pure (turn_ok (known := known) hw (okDay_mid d3) (okDay_mid d1)) (frzL_of' (d := 4) (carL_cons car_sc rfl)) ?_
  obtain ⟨T, hT⟩ : ∃ T, T = turnV rate ts s.emptyDay s.day known := ⟨_, rfl⟩
  have hTV : turnsV rate ts s known = (T.1, least s.empty s.st T.2) := by rw [hT]; rfl
  rw [← hT] at tb ⊢
  simp only [walk, wl, rgets, retv, argsEnv, ev, cst, cst1, cstL, AEnv.get, AEnv.trim, envput, qstep, abin, aun, evs, evo, deref, qload, target, if_true, if_false, Nat.reduceEqDiff, reduceIte, Nat.reduceAdd, AV.cells, AV.isTuple, setMany, alen, aiaddr, afill, Nat.reduceLeDiff, Nat.reduceMul, Nat.reduceLT, afillE, List.replicate, krows_length]
  refine awp_loop (σ := Nat) (fun j => [(4, .ptr 1 1 0 0), (6, .ptr 2 1 0 0), (8, .ptr 3 1 0 0), (19, .ro false (krows s.st)), (20, I s.st.length), (21, I j)]) (fun j H => ∃ X, H = some ⟨40, 3, [[I no, I rate, .ro false (trows ts)]]⟩ :: some ⟨26, 9, [shR false s]⟩ :: some ⟨80, 2, [[I 0, I 0]]⟩ :: some ⟨80, 2, [[I T.1, I (least s.empty (s.st.take j) T.2)]]⟩ :: X) (fun j => j ≤ s.st.length) (fun j => s.st.length - j) 0 (Nat.zero_le _) rfl ⟨[], rfl⟩ ?_
  rintro j H hj ⟨X, rfl⟩
  simp only [walk, wl, rgets, retv, argsEnv, ev, cst, cst1, cstL, AEnv.get, AEnv.trim, envput, qstep, abin, aun, evs, evo, deref, qload, target, if_true, if_false, Nat.reduceEqDiff, reduceIte, Nat.reduceAdd, AV.cells, AV.isTuple, setMany, alen, aiaddr, afill, Nat.reduceLeDiff, Nat.reduceMul, Nat.reduceLT, afillE, List.replicate]
  refine withBool_intro ?_ ?_ <;> intro hb <;> simp only [walk, wl, rgets, retv, argsEnv, ev, cst, cst1, cstL, AEnv.get, AEnv.trim, envput, qstep, abin, aun, evs, evo, deref, qload, target, if_true, if_false, Nat.reduceEqDiff, reduceIte, Nat.reduceAdd, AV.cells, AV.isTuple, setMany, alen, aiaddr, afill, Nat.reduceLeDiff, Nat.reduceMul, Nat.reduceLT, afillE, List.replicate]
  · have hlt : j < s.st.length := by simpa using hb
    have w1 := w_succ (k := j) (by omega)
    have hkk := okK_iff.1 (hk _ (List.getElem_mem hlt))
    have e1 : IntKind.i64.wrap (s.st[j].2.2.1 - s.empty) = s.st[j].2.2.1 - s.empty := wrap_id (by omega) (by omega)
    have hl := least_take (empty := s.empty) (m := T.2) hlt
    simp only [walk, wl, rgets, retv, argsEnv, ev, cst, cst1, cstL, AEnv.get, AEnv.trim, envput, qstep, abin, aun, evs, evo, deref, qload, target, if_true, if_false, Nat.reduceEqDiff, reduceIte, Nat.reduceAdd, AV.cells, AV.isTuple, setMany, alen, aiaddr, afill, Nat.reduceLeDiff, Nat.reduceMul, Nat.reduceLT, afillE, List.replicate, krows_get hlt, List.length_cons, Int.reduceLE, p02, p12, Int.toNat_zero, Int.reduceToNat, Nat.add_zero, Nat.zero_mul, e1, amm, amm.go, amin, w1]
    refine loop_end (j + 1) hlt (by omega) rfl (by rw [hl]; exact ⟨_, rfl⟩)
  · have hk' : j = s.st.length := by simp at hb; omega
    subst hk'
    rw [List.take_length]
    simp only [walk, wl, rgets, retv, argsEnv, ev, cst, cst1, cstL, AEnv.get, AEnv.trim, envput, qstep, abin, aun, evs, evo, deref, qload, target, if_true, if_false, Nat.reduceEqDiff, reduceIte, Nat.reduceAdd, AV.cells, AV.isTuple, setMany, alen, aiaddr, afill, Nat.reduceLeDiff, Nat.reduceMul, Nat.reduceLT, afillE, List.replicate, Int.reduceLE, p02, p12, Int.toNat_zero, Int.reduceToNat, Nat.add_zero, Nat.zero_mul]
    rw [hTV]
    refine withBool_intro ?_ ?_ <;> intro hg <;> simp only [walk, wl, rgets, retv, argsEnv, ev, cst, cst1, cstL, AEnv.get, AEnv.trim, envput, qstep, abin, aun, evs, evo, deref, qload, target, if_true, if_false, Nat.reduceEqDiff, reduceIte, Nat.reduceAdd, AV.cells, AV.isTuple, setMany, alen, aiaddr, afill, Nat.reduceLeDiff, Nat.reduceMul, Nat.reduceLT, afillE, List.replicate]
    · rw [if_pos (by simpa using hg)]; exact out_two out_agg2I out_int
    · rw [if_neg (by simpa using hg)]; exact out_two out_agg2I out_int
def lookS (no rate : Int) (ts : List Tst) (s : Sht) (at_ known : Int) : Sp := if lookE no rate ts s at_ known = 0 then turnsV rate ts s known else (0, 0)
theorem look_ok (no rate : Int) (ts : List Tst) (s : Sht) (at_ known : Int) : PCall Tryz.prog 45 [sc no rate ts, sh s, I at_, I known] (.tuple [spA (lookS no rate ts s at_ known), I (lookE no rate ts s at_ known)]) := by
  refine PCall.intro text45 (by simp) ?_
  unfold ir45
  have bad : ∀ (H : AHeap) (e : Int), lookE no rate ts s at_ known = e → e ≠ 0 → Out H (.tuple [.agg [I 0, I 0], I e]) (.tuple [spA (lookS no rate ts s at_ known), I (lookE no rate ts s at_ known)]) := by
    intro H e he h0
    have : lookS no rate ts s at_ known = (0, 0) := by unfold lookS; rw [he, if_neg h0]
    rw [this, he]; exact out_two out_agg2I out_int
  simp only [walk, wl, rgets, retv, argsEnv, ev, cst, cst1, cstL, AEnv.get, AEnv.trim, envput, qstep, abin, aun, evs, evo, deref, qload, target, if_true, if_false, Nat.reduceEqDiff, reduceIte, Nat.reduceAdd, AV.cells, AV.isTuple, setMany, alen, aiaddr, afill, Nat.reduceLeDiff, Nat.reduceMul, Nat.reduceLT, afillE, List.replicate]
  refine call_pure (sheetOf_ok no rate ts s known) (frzL_of' (d := 4) (carL_cons car_sc (carL_cons car_sh rfl))) ?_
  simp only [walk, wl, rgets, retv, argsEnv, ev, cst, cst1, cstL, AEnv.get, AEnv.trim, envput, qstep, abin, aun, evs, evo, deref, qload, target, if_true, if_false, Nat.reduceEqDiff, reduceIte, Nat.reduceAdd, AV.cells, AV.isTuple, setMany, alen, aiaddr, afill, Nat.reduceLeDiff, Nat.reduceMul, Nat.reduceLT, afillE, List.replicate]
  refine withBool_intro ?_ ?_ <;> intro h1 <;> simp only [walk, wl, rgets, retv, argsEnv, ev, cst, cst1, cstL, AEnv.get, AEnv.trim, envput, qstep, abin, aun, evs, evo, deref, qload, target, if_true, if_false, Nat.reduceEqDiff, reduceIte, Nat.reduceAdd, AV.cells, AV.isTuple, setMany, alen, aiaddr, afill, Nat.reduceLeDiff, Nat.reduceMul, Nat.reduceLT, afillE, List.replicate]
  · exact bad _ _ (by simp at h1; simp [lookE, h1]) (by simpa using h1)
  · have h1' : sofE no rate ts s known = 0 := by simpa using h1
    obtain ⟨hw, hc, hs, -, -⟩ := sofE_zero h1'
    have fin : (0 ≤ at_ ∧ at_ < (s.st.length : Int)) → ∀ (H : AHeap), True := fun _ _ => trivial
    refine withGuard_intro ?_ ?_ <;> intro h2 <;> simp only [walk, wl, rgets, retv, argsEnv, ev, cst, cst1, cstL, AEnv.get, AEnv.trim, envput, qstep, abin, aun, evs, evo, deref, qload, target, if_true, if_false, Nat.reduceEqDiff, reduceIte, Nat.reduceAdd, AV.cells, AV.isTuple, setMany, alen, aiaddr, afill, Nat.reduceLeDiff, Nat.reduceMul, Nat.reduceLT, afillE, List.replicate, h2, krows_length]
    · refine withBool_intro ?_ ?_ <;> intro h3 <;> simp only [walk, wl, rgets, retv, argsEnv, ev, cst, cst1, cstL, AEnv.get, AEnv.trim, envput, qstep, abin, aun, evs, evo, deref, qload, target, if_true, if_false, Nat.reduceEqDiff, reduceIte, Nat.reduceAdd, AV.cells, AV.isTuple, setMany, alen, aiaddr, afill, Nat.reduceLeDiff, Nat.reduceMul, Nat.reduceLT, afillE, List.replicate]
      · exact bad _ _ (by simp at h3; simp [lookE, h1', h3]) (by decide)
      · refine call_pure (turns_ok (known := known) hw hc hs) (frzL_of' (d := 4) (carL_cons car_sc (carL_cons car_sh rfl))) ?_
        have hr : ¬ (at_ < 0 ∨ (s.st.length : Int) ≤ at_) := by simp at h2 h3; omega
        by_cases hq : (turnsV rate ts s known).2 < (turnsV rate ts s known).1
        · rw [if_pos hq]
          simp only [walk, wl, rgets, retv, argsEnv, ev, cst, cst1, cstL, AEnv.get, AEnv.trim, envput, qstep, abin, aun, evs, evo, deref, qload, target, if_true, if_false, Nat.reduceEqDiff, reduceIte, Nat.reduceAdd, AV.cells, AV.isTuple, setMany, alen, aiaddr, afill, Nat.reduceLeDiff, Nat.reduceMul, Nat.reduceLT, afillE, List.replicate]
          exact bad _ _ (by simp only [lookE, h1']; rw [if_neg hr, if_pos hq]; rfl) (by decide)
        · rw [if_neg hq]
          simp only [walk, wl, rgets, retv, argsEnv, ev, cst, cst1, cstL, AEnv.get, AEnv.trim, envput, qstep, abin, aun, evs, evo, deref, qload, target, if_true, if_false, Nat.reduceEqDiff, reduceIte, Nat.reduceAdd, AV.cells, AV.isTuple, setMany, alen, aiaddr, afill, Nat.reduceLeDiff, Nat.reduceMul, Nat.reduceLT, afillE, List.replicate]
          have hE : lookE no rate ts s at_ known = 0 := by simp only [lookE, h1']; rw [if_neg hr, if_neg hq]; rfl
          have : lookS no rate ts s at_ known = turnsV rate ts s known := by unfold lookS; rw [if_pos hE]
          rw [this, hE]; exact out_two out_agg2I out_int
    · exact bad _ _ (by simp at h2; simp [lookE, h1', h2]) (by decide)
end Go.Proofs.YtgadlckkmhhmbaaGreatDoor
