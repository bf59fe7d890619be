/- Contracts of the specification: Course, lists of numbers. -/
import Derived.Test.YtgadlckkmhhmbaaDoorQC17
import Derived.Test.YtgadlckkmhhmbaaDoorQC14
set_option linter.unusedVariables false
set_option linter.unusedSimpArgs false
set_option linter.unusedSectionVars false
namespace Go.Proofs.YtgadlckkmhhmbaaDoor
open Go.Awp Go.Grams
set_option linter.unusedSimpArgs false
set_option linter.unusedVariables false
set_option linter.unusedSectionVars false
set_option maxRecDepth 10000
theorem rCourse_ok (no rate : Int) (ts : List Tst) (s : Sht) (known : Int) : PCall Tryd.prog 104 [sc no rate ts, sh s, I known] (.tuple [spA (couR no rate ts s known), I (lookE no rate ts s 0 known)]) := by
  refine PCall.intro text104 (by simp) ?_
  unfold ir104
  simp only [walk, wl, rgets, retv, argsEnv, ev, cst, cst1, cstL, AEnv.get, AEnv.trim, envput, qstep, abin, aun, evs, evo, deref, qload, target, if_true, if_false, Nat.reduceEqDiff, reduceIte, Nat.reduceAdd, AV.cells, AV.isTuple, setMany, alen, aiaddr, afill, Nat.reduceLeDiff, Nat.reduceMul, Nat.reduceLT, afillE, List.replicate]
  refine call_pure (weighed_ok no rate ts s 0 known) (frzL_of' (d := 4) (carL_cons car_sc (carL_cons car_sh rfl))) ?_
  obtain ⟨W, hW⟩ : ∃ V : Int, V = (if sofE no rate ts s known ≠ 0 then sofE no rate ts s known else if (0 : Int) < 0 ∨ (s.st.length : Int) ≤ 0 then 1 else 0) := ⟨_, rfl⟩
  rw [← hW]
  obtain ⟨wa, wb⟩ := lookE_weigh hW
  simp only [walk, wl, rgets, retv, argsEnv, ev, cst, cst1, cstL, AEnv.get, AEnv.trim, envput, qstep, abin, aun, evs, evo, deref, qload, target, if_true, if_false, Nat.reduceEqDiff, reduceIte, Nat.reduceAdd, AV.cells, AV.isTuple, setMany, alen, aiaddr, afill, Nat.reduceLeDiff, Nat.reduceMul, Nat.reduceLT, afillE, List.replicate]
  refine withBool_intro ?_ ?_ <;> intro h1 <;> simp only [walk, wl, rgets, retv, argsEnv, ev, cst, cst1, cstL, AEnv.get, AEnv.trim, envput, qstep, abin, aun, evs, evo, deref, qload, target, if_true, if_false, Nat.reduceEqDiff, reduceIte, Nat.reduceAdd, AV.cells, AV.isTuple, setMany, alen, aiaddr, afill, Nat.reduceLeDiff, Nat.reduceMul, Nat.reduceLT, afillE, List.replicate]
  · have h1' : W ≠ 0 := by simpa using h1
    have : couR no rate ts s known = (0, 0) := by simp [couR, ifL, wa h1', h1']
    rw [this, wa h1']; exact out_two out_agg2I out_int
  · obtain ⟨g1, g2, hL⟩ := wb (by simpa using h1)
    obtain ⟨hw, hc, hs, -, -⟩ := sofE_zero g1
    obtain ⟨-, hr, hlen, hok, -⟩ := well_iff.1 hw
    obtain ⟨he, hm, hn, hk⟩ := shp hs
    have tb := turns_box (known := known) hr.1 hok hc hs
    refine call_pure (rturns_ok (known := known) hw hc hs) (frzL_of' (d := 4) (carL_cons car_sc (carL_cons car_sh rfl))) ?_
    simp only [walk, wl, rgets, retv, argsEnv, ev, cst, cst1, cstL, AEnv.get, AEnv.trim, envput, qstep, abin, aun, evs, evo, deref, qload, target, if_true, if_false, Nat.reduceEqDiff, reduceIte, Nat.reduceAdd, AV.cells, AV.isTuple, setMany, alen, aiaddr, afill, Nat.reduceLeDiff, Nat.reduceMul, Nat.reduceLT, afillE, List.replicate]
    refine withBool_intro ?_ ?_ <;> intro h2 <;> simp only [walk, wl, rgets, retv, argsEnv, ev, cst, cst1, cstL, AEnv.get, AEnv.trim, envput, qstep, abin, aun, evs, evo, deref, qload, target, if_true, if_false, Nat.reduceEqDiff, reduceIte, Nat.reduceAdd, AV.cells, AV.isTuple, setMany, alen, aiaddr, afill, Nat.reduceLeDiff, Nat.reduceMul, Nat.reduceLT, afillE, List.replicate]
    · have h3 : lookE no rate ts s 0 known = 13 := by rw [hL, if_pos (by simp at h2; omega)]
      have : couR no rate ts s known = (0, 0) := by simp [couR, ifL, h3]
      rw [this, h3]; exact out_two out_agg2I out_int
    · have h3 : lookE no rate ts s 0 known = 0 := by rw [hL, if_neg (by simp at h2; omega)]
      have g3 : (turnsV rate ts s known).1 ≤ (turnsV rate ts s known).2 := by simp at h2; omega
      have hR : couR no rate ts s known = courseS s (turnsV rate ts s known) := by unfold couR ifL; rw [if_pos h3]
      rw [hR, h3]
      obtain ⟨T, hT⟩ : ∃ T, T = turnsV rate ts s known := ⟨_, rfl⟩
      have tl : ∀ k, k ∈ s.st → T.2 ≤ k.2.2.1 - s.empty := fun k hk => by rw [hT]; exact turns_le hk
      rw [← hT] at tb g3 ⊢
      refine awp_loop (σ := Nat) (fun j => [(4, .ptr 1 1 0 0), (6, .ptr 2 1 0 0), (9, .ptr 3 1 0 0), (11, .ptr 4 1 0 0), (12, I j)]) (fun j H => ∃ X, H = some ⟨24, 3, [[I no, I rate, .ro false (trows ts)]]⟩ :: some ⟨47, 9, [shR false s]⟩ :: some ⟨40, 2, [[I 0, I 0]]⟩ :: some ⟨40, 2, [[I T.1, I T.2]]⟩ :: some ⟨40, 2, [[I (sums s T (s.st.take j)).1, I (20 * (sums s T (s.st.take j)).2)]]⟩ :: X) (fun j => j ≤ s.st.length) (fun j => s.st.length - j) 0 (Nat.zero_le _) rfl ⟨[], rfl⟩ ?_
      rintro j H hj ⟨X, rfl⟩
      simp only [walk, wl, rgets, retv, argsEnv, ev, cst, cst1, cstL, AEnv.get, AEnv.trim, envput, qstep, abin, aun, evs, evo, deref, qload, target, if_true, if_false, Nat.reduceEqDiff, reduceIte, Nat.reduceAdd, AV.cells, AV.isTuple, setMany, alen, aiaddr, afill, Nat.reduceLeDiff, Nat.reduceMul, Nat.reduceLT, afillE, List.replicate, krows_length]
      refine withBool_intro ?_ ?_ <;> intro hb <;> simp only [walk, wl, rgets, retv, argsEnv, ev, cst, cst1, cstL, AEnv.get, AEnv.trim, envput, qstep, abin, aun, evs, evo, deref, qload, target, if_true, if_false, Nat.reduceEqDiff, reduceIte, Nat.reduceAdd, AV.cells, AV.isTuple, setMany, alen, aiaddr, afill, Nat.reduceLeDiff, Nat.reduceMul, Nat.reduceLT, afillE, List.replicate]
      · have hlt : j < s.st.length := by simpa using hb
        have w1 := w_succ (k := j) (by omega)
        have hkk := hk _ (List.getElem_mem hlt)
        have sb := snow_bd he hm hkk tb
        have bd := sums_bd he hm tb (s.st.take j) fun q hq => hk q (List.mem_of_mem_take hq)
        rw [List.length_take] at bd
        have e1 : IntKind.i64.wrap ((sums s T (s.st.take j)).1 + (snowV s s.st[j] T).1) = (sums s T (s.st.take j)).1 + (snowV s s.st[j] T).1 := wrap_id (by omega) (by omega)
        have e2 : IntKind.i64.wrap (20 * (sums s T (s.st.take j)).2 + 20 * (snowV s s.st[j] T).2) = 20 * ((sums s T (s.st.take j)).2 + (snowV s s.st[j] T).2) := by rw [Int.mul_add]; exact wrap_id (by omega) (by omega)
        have hsn := rsnow_ok (s := s) (at_ := (j : Int)) (t := T) he hm (by omega) (by simpa using hlt) (by simpa using hkk) tb
        simp only [Int.toNat_natCast] at hsn
        refine call_pure hsn (frzL_of' (d := 4) (carL_cons car_sh rfl)) ?_
        simp only [walk, wl, rgets, retv, argsEnv, ev, cst, cst1, cstL, AEnv.get, AEnv.trim, envput, qstep, abin, aun, evs, evo, deref, qload, target, if_true, if_false, Nat.reduceEqDiff, reduceIte, Nat.reduceAdd, AV.cells, AV.isTuple, setMany, alen, aiaddr, afill, Nat.reduceLeDiff, Nat.reduceMul, Nat.reduceLT, afillE, List.replicate, List.length_cons, e1, e2, w1]
        refine loop_end (j + 1) hlt (by omega) rfl (by rw [sums_take hlt]; exact ⟨_, rfl⟩)
      · have hk' : j = s.st.length := by simp at hb; omega
        subst hk'
        rw [List.take_length]
        have bd := sums_bd he hm tb s.st hk
        have ps := sums_pos (s := s) (t := T) s.st fun k hq => (snow_pos (s := s) hm (hk k hq) g3 (tl k hq)).2.1
        have mb : 1 ≤ s.mouth * (s.st.length : Int) ∧ s.mouth * (s.st.length : Int) ≤ 1000 * 32 := by
          constructor
          · have := Int.mul_pos (show 0 < s.mouth by omega) (show 0 < (s.st.length : Int) by omega); omega
          · exact Int.mul_le_mul hm.2 (by omega) (by omega) (by omega)
        have e1 : IntKind.i64.wrap (20 * s.mouth) = 20 * s.mouth := wrap_id (by omega) (by omega)
        have e2 : IntKind.i64.wrap (20 * s.mouth * (s.st.length : Int)) = 20 * (s.mouth * (s.st.length : Int)) := by rw [Int.mul_assoc]; exact wrap_id (by omega) (by omega)
        simp only [walk, wl, rgets, retv, argsEnv, ev, cst, cst1, cstL, AEnv.get, AEnv.trim, envput, qstep, abin, aun, evs, evo, deref, qload, target, if_true, if_false, Nat.reduceEqDiff, reduceIte, Nat.reduceAdd, AV.cells, AV.isTuple, setMany, alen, aiaddr, afill, Nat.reduceLeDiff, Nat.reduceMul, Nat.reduceLT, afillE, List.replicate, krows_length, e1, e2]
        refine call_pure (rounded_ok (n := 20 * (s.mouth * (s.st.length : Int))) (by omega) (by omega) (by omega)) (frzL_of' (d := 4) rfl) ?_
        rw [up20]
        simp only [walk, wl, rgets, retv, argsEnv, ev, cst, cst1, cstL, AEnv.get, AEnv.trim, envput, qstep, abin, aun, evs, evo, deref, qload, target, if_true, if_false, Nat.reduceEqDiff, reduceIte, Nat.reduceAdd, AV.cells, AV.isTuple, setMany, alen, aiaddr, afill, Nat.reduceLeDiff, Nat.reduceMul, Nat.reduceLT, afillE, List.replicate]
        exact out_two out_agg2I out_int
end Go.Proofs.YtgadlckkmhhmbaaDoor
