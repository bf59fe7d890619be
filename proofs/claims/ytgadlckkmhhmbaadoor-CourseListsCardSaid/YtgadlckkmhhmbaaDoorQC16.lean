/- Contracts of the specification: turns, the weights of cores and snow, Core and Water. -/
import Derived.Test.YtgadlckkmhhmbaaDoorQC11
import Derived.Test.YtgadlckkmhhmbaaDoorQTR
set_option linter.unusedVariables false
set_option linter.unusedSimpArgs false
set_option linter.unusedSectionVars false
namespace Go.Proofs.YtgadlckkmhhmbaaDoor
open Go.Awp Go.Grams
set_option linter.unusedSimpArgs false
set_option linter.unusedVariables false
set_option linter.unusedSectionVars false
set_option maxRecDepth 10000
theorem rturns_ok {no rate known : Int} {ts : List Tst} {s : Sht} (hw : well no rate ts = true) (hc : calm rate ts) (hs : okSh s = true) : PCall Tryd.prog 76 [sc no rate ts, sh s, I known]
    (.tuple [spA (turnsV rate ts s known), .bool (decide ((turnsV rate ts s known).1 ≤ (turnsV rate ts s known).2))]) := by
  refine PCall.intro text76 (by simp) ?_
  unfold ir76
  obtain ⟨-, hr, hlen, hok, -⟩ := well_iff.1 hw
  obtain ⟨he, hm, hn, hk⟩ := shp hs
  obtain ⟨-, -, -, d1, d2, d3, -⟩ := okSh_iff.1 hs
  have tb := turn_box (a := s.emptyDay) (b := s.day) (known := known) hr.1 hok hc
  simp only [walk, wl, rgets, retv, argsEnv, ev, cst, cst1, cstL, AEnv.get, AEnv.trim, envput, qstep, abin, aun, evs, evo, deref, qload, target, if_true, if_false, Nat.reduceEqDiff, reduceIte, Nat.reduceAdd, AV.cells, AV.isTuple, setMany, alen, aiaddr, afill, Nat.reduceLeDiff, Nat.reduceMul, Nat.reduceLT, afillE, List.replicate]
  refine call_pure (rturn_ok (known := known) hw (okDay_mid d3) (okDay_mid d1)) (frzL_of' (d := 4) (carL_cons car_sc rfl)) ?_
  obtain ⟨T, hT⟩ : ∃ T, T = turnV rate ts s.emptyDay s.day known := ⟨_, rfl⟩
  have hTV : turnsV rate ts s known = (T.1, least s.empty s.st T.2) := by rw [hT]; rfl
  rw [← hT] at tb ⊢
  simp only [walk, wl, rgets, retv, argsEnv, ev, cst, cst1, cstL, AEnv.get, AEnv.trim, envput, qstep, abin, aun, evs, evo, deref, qload, target, if_true, if_false, Nat.reduceEqDiff, reduceIte, Nat.reduceAdd, AV.cells, AV.isTuple, setMany, alen, aiaddr, afill, Nat.reduceLeDiff, Nat.reduceMul, Nat.reduceLT, afillE, List.replicate]
  refine awp_loop (σ := Nat) (fun j => [(4, .ptr 1 1 0 0), (6, .ptr 2 1 0 0), (8, .ptr 3 1 0 0), (9, I j)]) (fun j H => ∃ X, H = some ⟨24, 3, [[I no, I rate, .ro false (trows ts)]]⟩ :: some ⟨47, 9, [shR false s]⟩ :: some ⟨40, 2, [[I 0, I 0]]⟩ :: some ⟨40, 2, [[I T.1, I (least s.empty (s.st.take j) T.2)]]⟩ :: X) (fun j => j ≤ s.st.length) (fun j => s.st.length - j) 0 (Nat.zero_le _) rfl ⟨[], rfl⟩ ?_
  rintro j H hj ⟨X, rfl⟩
  simp only [walk, wl, rgets, retv, argsEnv, ev, cst, cst1, cstL, AEnv.get, AEnv.trim, envput, qstep, abin, aun, evs, evo, deref, qload, target, if_true, if_false, Nat.reduceEqDiff, reduceIte, Nat.reduceAdd, AV.cells, AV.isTuple, setMany, alen, aiaddr, afill, Nat.reduceLeDiff, Nat.reduceMul, Nat.reduceLT, afillE, List.replicate, krows_length]
  refine withBool_intro ?_ ?_ <;> intro hb <;> simp only [walk, wl, rgets, retv, argsEnv, ev, cst, cst1, cstL, AEnv.get, AEnv.trim, envput, qstep, abin, aun, evs, evo, deref, qload, target, if_true, if_false, Nat.reduceEqDiff, reduceIte, Nat.reduceAdd, AV.cells, AV.isTuple, setMany, alen, aiaddr, afill, Nat.reduceLeDiff, Nat.reduceMul, Nat.reduceLT, afillE, List.replicate]
  · have hlt : j < s.st.length := by simpa using hb
    have w1 := w_succ (k := j) (by omega)
    have hkk := okK_iff.1 (hk _ (List.getElem_mem hlt))
    have e1 : IntKind.i64.wrap (s.st[j].2.2.1 - s.empty) = s.st[j].2.2.1 - s.empty := wrap_id (by omega) (by omega)
    have hl := least_take (empty := s.empty) (m := T.2) hlt
    simp only [walk, wl, rgets, retv, argsEnv, ev, cst, cst1, cstL, AEnv.get, AEnv.trim, envput, qstep, abin, aun, evs, evo, deref, qload, target, if_true, if_false, Nat.reduceEqDiff, reduceIte, Nat.reduceAdd, AV.cells, AV.isTuple, setMany, alen, aiaddr, afill, Nat.reduceLeDiff, Nat.reduceMul, Nat.reduceLT, afillE, List.replicate, krows_get hlt, List.length_cons, Int.reduceLE, p02, p12, Int.toNat_zero, Int.reduceToNat, Nat.add_zero, Nat.zero_mul, e1, amm, amm.go, amin, w1]
    refine loop_end (j + 1) hlt (by omega) rfl (by rw [hl]; exact ⟨_, rfl⟩)
  · have hk' : j = s.st.length := by simp at hb; omega
    subst hk'
    rw [List.take_length, hTV]
    simp only [walk, wl, rgets, retv, argsEnv, ev, cst, cst1, cstL, AEnv.get, AEnv.trim, envput, qstep, abin, aun, evs, evo, deref, qload, target, if_true, if_false, Nat.reduceEqDiff, reduceIte, Nat.reduceAdd, AV.cells, AV.isTuple, setMany, alen, aiaddr, afill, Nat.reduceLeDiff, Nat.reduceMul, Nat.reduceLT, afillE, List.replicate]
    exact out_two out_agg2I out_bool
theorem weighed_ok (no rate : Int) (ts : List Tst) (s : Sht) (at_ known : Int) : PCall Tryd.prog 75 [sc no rate ts, sh s, I at_, I known] (I (if sofE no rate ts s known ≠ 0 then sofE no rate ts s known else if at_ < 0 ∨ (s.st.length : Int) ≤ at_ then 1 else 0)) := by
  refine PCall.intro text75 (by simp) ?_
  unfold ir75
  obtain ⟨V, hV⟩ : ∃ V : Int, V = (if sofE no rate ts s known ≠ 0 then sofE no rate ts s known else if at_ < 0 ∨ (s.st.length : Int) ≤ at_ then 1 else 0) := ⟨_, rfl⟩
  rw [← hV]
  have V1 : sofE no rate ts s known ≠ 0 → V = sofE no rate ts s known := fun h => by rw [hV, if_pos h]
  have V2 : sofE no rate ts s known = 0 → (at_ < 0 ∨ (s.st.length : Int) ≤ at_) → V = 1 := fun h h2 => by rw [hV, if_neg (by simp [h]), if_pos h2]
  have V3 : sofE no rate ts s known = 0 → ¬ (at_ < 0 ∨ (s.st.length : Int) ≤ at_) → V = 0 := fun h h2 => by rw [hV, if_neg (by simp [h]), if_neg h2]
  simp only [walk, wl, rgets, retv, argsEnv, ev, cst, cst1, cstL, AEnv.get, AEnv.trim, envput, qstep, abin, aun, evs, evo, deref, qload, target, if_true, if_false, Nat.reduceEqDiff, reduceIte, Nat.reduceAdd, AV.cells, AV.isTuple, setMany, alen, aiaddr, afill, Nat.reduceLeDiff, Nat.reduceMul, Nat.reduceLT, afillE, List.replicate]
  refine call_pure (rCheckScale_ok no rate ts) (frzL_of' (d := 4) (carL_cons car_sc rfl)) ?_
  simp only [walk, wl, rgets, retv, argsEnv, ev, cst, cst1, cstL, AEnv.get, AEnv.trim, envput, qstep, abin, aun, evs, evo, deref, qload, target, if_true, if_false, Nat.reduceEqDiff, reduceIte, Nat.reduceAdd, AV.cells, AV.isTuple, setMany, alen, aiaddr, afill, Nat.reduceLeDiff, Nat.reduceMul, Nat.reduceLT, afillE, List.replicate]
  refine withBool_intro ?_ ?_ <;> intro h1 <;> simp only [walk, wl, rgets, retv, argsEnv, ev, cst, cst1, cstL, AEnv.get, AEnv.trim, envput, qstep, abin, aun, evs, evo, deref, qload, target, if_true, if_false, Nat.reduceEqDiff, reduceIte, Nat.reduceAdd, AV.cells, AV.isTuple, setMany, alen, aiaddr, afill, Nat.reduceLeDiff, Nat.reduceMul, Nat.reduceLT, afillE, List.replicate]
  · have h0 : chkS no rate ts ≠ 0 := by simpa using h1
    have : sofE no rate ts s known = chkS no rate ts := by simp [sofE, h0]
    rw [V1 (by rw [this]; exact h0), this]; exact out_int
  · have h1' : chkS no rate ts = 0 := by simpa using h1
    refine call_pure (rCheckSheet_ok s) (frzL_of' (d := 4) (carL_cons car_sh rfl)) ?_
    simp only [walk, wl, rgets, retv, argsEnv, ev, cst, cst1, cstL, AEnv.get, AEnv.trim, envput, qstep, abin, aun, evs, evo, deref, qload, target, if_true, if_false, Nat.reduceEqDiff, reduceIte, Nat.reduceAdd, AV.cells, AV.isTuple, setMany, alen, aiaddr, afill, Nat.reduceLeDiff, Nat.reduceMul, Nat.reduceLT, afillE, List.replicate]
    refine withBool_intro ?_ ?_ <;> intro h2 <;> simp only [walk, wl, rgets, retv, argsEnv, ev, cst, cst1, cstL, AEnv.get, AEnv.trim, envput, qstep, abin, aun, evs, evo, deref, qload, target, if_true, if_false, Nat.reduceEqDiff, reduceIte, Nat.reduceAdd, AV.cells, AV.isTuple, setMany, alen, aiaddr, afill, Nat.reduceLeDiff, Nat.reduceMul, Nat.reduceLT, afillE, List.replicate]
    · obtain ⟨h3, h4⟩ := okSh_of (s := s) (by simpa using h2)
      have : sofE no rate ts s known = 12 := by simp [sofE, h1', h3]
      rw [V1 (by rw [this]; decide), this, h4]; exact out_int
    · have h3 := chkSh_zero (s := s) (by simpa using h2)
      have one : ¬ (no = s.scale ∧ okDay known = true) → V = 1 := fun h => by
        have : sofE no rate ts s known = 1 := by unfold sofE; rw [if_neg (by simp [h1']), if_neg (by simp [h3]), if_neg h]
        rw [V1 (by rw [this]; decide), this]
      refine call_pure (rDay_ok _) (frzL_of' (d := 1) rfl) ?_
      simp only [walk, wl, rgets, retv, argsEnv, ev, cst, cst1, cstL, AEnv.get, AEnv.trim, envput, qstep, abin, aun, evs, evo, deref, qload, target, if_true, if_false, Nat.reduceEqDiff, reduceIte, Nat.reduceAdd, AV.cells, AV.isTuple, setMany, alen, aiaddr, afill, Nat.reduceLeDiff, Nat.reduceMul, Nat.reduceLT, afillE, List.replicate]
      refine withGuard_intro ?_ ?_ <;> intro h4 <;> simp only [walk, wl, rgets, retv, argsEnv, ev, cst, cst1, cstL, AEnv.get, AEnv.trim, envput, qstep, abin, aun, evs, evo, deref, qload, target, if_true, if_false, Nat.reduceEqDiff, reduceIte, Nat.reduceAdd, AV.cells, AV.isTuple, setMany, alen, aiaddr, afill, Nat.reduceLeDiff, Nat.reduceMul, Nat.reduceLT, afillE, List.replicate, h4]
      · refine withGuard_intro ?_ ?_ <;> intro h5 <;> simp only [walk, wl, rgets, retv, argsEnv, ev, cst, cst1, cstL, AEnv.get, AEnv.trim, envput, qstep, abin, aun, evs, evo, deref, qload, target, if_true, if_false, Nat.reduceEqDiff, reduceIte, Nat.reduceAdd, AV.cells, AV.isTuple, setMany, alen, aiaddr, afill, Nat.reduceLeDiff, Nat.reduceMul, Nat.reduceLT, afillE, List.replicate, h5, krows_length]
        · have z : sofE no rate ts s known = 0 := by unfold sofE; rw [if_neg (by simp [h1']), if_neg (by simp [h3]), if_pos ⟨by simpa using h5, by simpa using h4⟩]
          refine withGuard_intro ?_ ?_ <;> intro h6 <;> simp only [walk, wl, rgets, retv, argsEnv, ev, cst, cst1, cstL, AEnv.get, AEnv.trim, envput, qstep, abin, aun, evs, evo, deref, qload, target, if_true, if_false, Nat.reduceEqDiff, reduceIte, Nat.reduceAdd, AV.cells, AV.isTuple, setMany, alen, aiaddr, afill, Nat.reduceLeDiff, Nat.reduceMul, Nat.reduceLT, afillE, List.replicate, h6, krows_length]
          · refine withBool_intro ?_ ?_ <;> intro h7 <;> simp only [walk, wl, rgets, retv, argsEnv, ev, cst, cst1, cstL, AEnv.get, AEnv.trim, envput, qstep, abin, aun, evs, evo, deref, qload, target, if_true, if_false, Nat.reduceEqDiff, reduceIte, Nat.reduceAdd, AV.cells, AV.isTuple, setMany, alen, aiaddr, afill, Nat.reduceLeDiff, Nat.reduceMul, Nat.reduceLT, afillE, List.replicate]
            · rw [V2 z (by simp at h7; omega)]; exact out_int
            · rw [V3 z (by simp at h6 h7; omega)]; exact out_int
          · rw [V2 z (by simp at h6; omega)]; exact out_int
        · rw [one (by simp at h5; simp [h5])]; exact out_int
      · rw [one (by simp at h4; simp [h4])]; exact out_int
theorem rcore_ok {s : Sht} {at_ : Int} {t : Sp} (he : 0 ≤ s.empty ∧ s.empty ≤ 1048576) (ha : 0 ≤ at_) (hlt : at_.toNat < s.st.length) (hk : okK s.st[at_.toNat] = true) (ht : Tn t) : PCall Tryd.prog 77 [sh s, I at_, spA t] (spA (coreV s s.st[at_.toNat] t)) := by
  refine PCall.intro text77 (by simp) ?_
  unfold ir77
  obtain ⟨k, hk0⟩ : ∃ k, k = s.st[at_.toNat] := ⟨_, rfl⟩
  rw [← hk0] at hk ⊢
  have hk := okK_iff.1 hk
  have e1 : IntKind.i64.wrap (k.2.2.1 - s.empty) = k.2.2.1 - s.empty := wrap_id (by omega) (by omega)
  have e2 : IntKind.i64.wrap (k.2.2.1 - s.empty - t.2) = k.2.2.1 - s.empty - t.2 := wrap_id (by omega) (by omega)
  have e3 : IntKind.i64.wrap (k.2.2.1 - s.empty - t.2 - k.2.2.2.2) = k.2.2.1 - s.empty - t.2 - k.2.2.2.2 := wrap_id (by omega) (by omega)
  have e4 : IntKind.i64.wrap (k.2.2.1 - s.empty - t.1) = k.2.2.1 - s.empty - t.1 := wrap_id (by omega) (by omega)
  simp only [walk, wl, rgets, retv, argsEnv, ev, cst, cst1, cstL, AEnv.get, AEnv.trim, envput, qstep, abin, aun, evs, evo, deref, qload, target, if_true, if_false, Nat.reduceEqDiff, reduceIte, Nat.reduceAdd, AV.cells, AV.isTuple, setMany, alen, aiaddr, afill, Nat.reduceLeDiff, Nat.reduceMul, Nat.reduceLT, afillE, List.replicate, ha, krows_get hlt, List.length_cons, ← hk0, e1, e2, e3, e4, amm, amm.go, amax']
  exact out_agg2I
theorem rsnow_ok {s : Sht} {at_ : Int} {t : Sp} (he : 0 ≤ s.empty ∧ s.empty ≤ 1048576) (hm : 1 ≤ s.mouth ∧ s.mouth ≤ 1000) (ha : 0 ≤ at_) (hlt : at_.toNat < s.st.length) (hk : okK s.st[at_.toNat] = true) (ht : Tn t) : PCall Tryd.prog 81 [sh s, I at_, spA t] (.agg [I (snowV s s.st[at_.toNat] t).1, I (20 * (snowV s s.st[at_.toNat] t).2)]) := by
  refine PCall.intro text81 (by simp) ?_
  unfold ir81
  have hb := core_bd he hk ht
  have hk' := okK_iff.1 hk
  have hl := lost_bd (l := s.st[at_.toNat].2.2.2.1) hk'.2.2.1 hm
  have e1 : IntKind.i64.wrap (20 * (coreV s s.st[at_.toNat] t).1) = 20 * (coreV s s.st[at_.toNat] t).1 := wrap_id (by omega) (by omega)
  have e2 : IntKind.i64.wrap (s.st[at_.toNat].2.2.2.1 * s.mouth) = s.st[at_.toNat].2.2.2.1 * s.mouth := wrap_id (by omega) (by omega)
  have e3 : IntKind.i64.wrap (20 * (coreV s s.st[at_.toNat] t).1 + s.st[at_.toNat].2.2.2.1 * s.mouth) = 20 * (coreV s s.st[at_.toNat] t).1 + s.st[at_.toNat].2.2.2.1 * s.mouth := wrap_id (by omega) (by omega)
  have e4 : IntKind.i64.wrap (20 * (coreV s s.st[at_.toNat] t).2) = 20 * (coreV s s.st[at_.toNat] t).2 := wrap_id (by omega) (by omega)
  have e5 : IntKind.i64.wrap (20 * (s.st[at_.toNat].2.2.2.1 * s.mouth)) = 20 * (s.st[at_.toNat].2.2.2.1 * s.mouth) := wrap_id (by omega) (by omega)
  have e6 : IntKind.i64.wrap (20 * (coreV s s.st[at_.toNat] t).2 + 20 * (s.st[at_.toNat].2.2.2.1 * s.mouth)) = 20 * (snowV s s.st[at_.toNat] t).2 := by
    simp only [snowV]; rw [Int.mul_add]; exact wrap_id (by omega) (by omega)
  simp only [walk, wl, rgets, retv, argsEnv, ev, cst, cst1, cstL, AEnv.get, AEnv.trim, envput, qstep, abin, aun, evs, evo, deref, qload, target, if_true, if_false, Nat.reduceEqDiff, reduceIte, Nat.reduceAdd, AV.cells, AV.isTuple, setMany, alen, aiaddr, afill, Nat.reduceLeDiff, Nat.reduceMul, Nat.reduceLT, afillE, List.replicate]
  refine call_pure (rcore_ok he ha hlt hk ht) (frzL_of' (d := 4) (carL_cons car_sh rfl)) ?_
  simp only [walk, wl, rgets, retv, argsEnv, ev, cst, cst1, cstL, AEnv.get, AEnv.trim, envput, qstep, abin, aun, evs, evo, deref, qload, target, if_true, if_false, Nat.reduceEqDiff, reduceIte, Nat.reduceAdd, AV.cells, AV.isTuple, setMany, alen, aiaddr, afill, Nat.reduceLeDiff, Nat.reduceMul, Nat.reduceLT, afillE, List.replicate, ha, krows_get hlt, List.length_cons, e1, e2, e3, e4, e5, e6]
  exact out_agg2I
theorem rounded_ok {a b n : Int} (ha : 0 ≤ a ∧ a ≤ 1000000000000) (hb : 0 ≤ b ∧ b ≤ 1000000000000) (hn : 1 ≤ n ∧ n ≤ 1000000000) : PCall Tryd.prog 80 [.agg [I a, I b], I n] (spA (a / n, upV b n)) := by
  refine PCall.intro text80 (by simp) ?_
  unfold ir80
  have n0 : ¬ n = 0 := by omega
  have e1 : IntKind.i64.wrap (b + n) = b + n := wrap_id (by omega) (by omega)
  have e2 : IntKind.i64.wrap (b + n - 1) = b + n - 1 := wrap_id (by omega) (by omega)
  have e3 : IntKind.i64.wrap (a.tdiv n) = a / n := quo_wrap (by omega) (by omega)
  have e4 : IntKind.i64.wrap ((b + n - 1).tdiv n) = upV b n := quo_wrap (by omega) (by omega)
  simp only [walk, wl, rgets, retv, argsEnv, ev, cst, cst1, cstL, AEnv.get, AEnv.trim, envput, qstep, abin, aun, evs, evo, deref, qload, target, if_true, if_false, Nat.reduceEqDiff, reduceIte, Nat.reduceAdd, AV.cells, AV.isTuple, setMany, alen, aiaddr, afill, Nat.reduceLeDiff, Nat.reduceMul, Nat.reduceLT, afillE, List.replicate, n0, e1, e2, e3, e4]
  exact out_agg2I
theorem up20 {a b : Int} : upV (20 * a) (20 * b) = upV a b := by
  unfold upV
  have h1 : 20 * a + 20 * b - 1 = 20 * (a + b - 1) + 19 := by omega
  have h2 := Int.ediv_ediv (x := 20 * (a + b - 1) + 19) (y := 20) (z := b)
  rw [if_neg (fun h => absurd h.1 (by decide)), Int.sub_zero] at h2
  have h3 : (20 * (a + b - 1) + 19) / 20 = a + b - 1 := by omega
  rw [h1, ← h2, h3]
theorem lookE_weigh {no rate known : Int} {ts : List Tst} {s : Sht} {at_ : Int} {W : Int} (hW : W = (if sofE no rate ts s known ≠ 0 then sofE no rate ts s known else if at_ < 0 ∨ (s.st.length : Int) ≤ at_ then 1 else 0)) : (W ≠ 0 → lookE no rate ts s at_ known = W) ∧ (W = 0 → sofE no rate ts s known = 0 ∧ ¬ (at_ < 0 ∨ (s.st.length : Int) ≤ at_) ∧ lookE no rate ts s at_ known = if (turnsV rate ts s known).2 < (turnsV rate ts s known).1 then 13 else 0) := by
  unfold lookE
  by_cases h1 : sofE no rate ts s known = 0
  · rw [if_neg (by simp [h1])] at hW ⊢
    by_cases h2 : at_ < 0 ∨ (s.st.length : Int) ≤ at_
    · rw [if_pos h2] at hW ⊢
      exact ⟨fun _ => hW.symm, fun h => by omega⟩
    · rw [if_neg h2] at hW ⊢
      exact ⟨fun h => absurd hW h, fun _ => ⟨h1, h2, rfl⟩⟩
  · rw [if_pos h1] at hW ⊢
    exact ⟨fun _ => hW.symm, fun h => absurd (hW.symm.trans h) h1⟩
end Go.Proofs.YtgadlckkmhhmbaaDoor
