/- Contracts: Course, of the program and of the specification. -/
import Derived.Test.YtgadlckkmhhmbaaDoorQC11
import Derived.Test.YtgadlckkmhhmbaaDoorProg
import Derived.Test.YtgadlckkmhhmbaaDoorQFx
import Derived.KernelRfl
set_option linter.unusedVariables false
set_option linter.unusedSimpArgs false
set_option linter.unusedSectionVars false
namespace Go.Proofs.YtgadlckkmhhmbaaDoor
open Go.Awp Go.Grams
set_option linter.unusedSimpArgs false
set_option linter.unusedVariables false
set_option linter.unusedSectionVars false
set_option maxRecDepth 10000
theorem sums_app {s : Sht} {t : Sp} {k : Stk} : ∀ (a : List Stk), sums s t (a ++ [k]) = ((sums s t a).1 + (snowV s k t).1, (sums s t a).2 + (snowV s k t).2)
  | [] => by simp [sums]
  | u :: a => by
    simp only [List.cons_append, sums, sums_app a]
    congr 1 <;> omega
theorem sums_take {s : Sht} {t : Sp} {st : List Stk} {j : Nat} (h : j < st.length) : sums s t (st.take (j + 1)) = ((sums s t (st.take j)).1 + (snowV s st[j] t).1, (sums s t (st.take j)).2 + (snowV s st[j] t).2) := by
  rw [List.take_succ_eq_append_getElem h, sums_app]
theorem sums_bd {s : Sht} {t : Sp} (he : 0 ≤ s.empty ∧ s.empty ≤ 1048576) (hm : 1 ≤ s.mouth ∧ s.mouth ≤ 1000) (ht : Tn t) : ∀ (a : List Stk), (∀ k, k ∈ a → okK k = true) → 0 ≤ (sums s t a).1 ∧ (sums s t a).1 ≤ 100000000 * a.length ∧ -4000000 * (a.length : Int) ≤ (sums s t a).2 ∧ (sums s t a).2 ≤ 100000000 * a.length
  | [], _ => by simp [sums]
  | k :: r, h => by
    have h1 := sums_bd he hm ht r fun q hq => h q (by simp [hq])
    have h2 := snow_bd he hm (h k (by simp)) ht
    simp only [sums, List.length_cons]; omega
theorem sums_pos {s : Sht} {t : Sp} : ∀ (a : List Stk), (∀ k, k ∈ a → 0 ≤ (snowV s k t).2) → 0 ≤ (sums s t a).2
  | [], _ => by simp [sums]
  | k :: r, h => by
    have h1 := sums_pos r fun q hq => h q (by simp [hq])
    have h2 := h k (by simp)
    simp only [sums]; omega
def couR (no rate : Int) (ts : List Tst) (s : Sht) (known : Int) : Sp := ifL no rate ts s 0 known (courseS s (turnsV rate ts s known))
theorem Course_ok (no rate : Int) (ts : List Tst) (s : Sht) (known : Int) : PCall Tryd.prog 38 [sc no rate ts, sh s, I known] (.tuple [spA (couR no rate ts s known), I (lookE no rate ts s 0 known)]) := by
  refine PCall.intro text38 (by simp) ?_
  unfold ir38
  simp only [walk, wl, rgets, retv, argsEnv, ev, cst, cst1, cstL, AEnv.get, AEnv.trim, envput, qstep, abin, aun, evs, evo, deref, qload, target, if_true, if_false, Nat.reduceEqDiff, reduceIte, Nat.reduceAdd, AV.cells, AV.isTuple, setMany, alen, aiaddr, afill, Nat.reduceLeDiff, Nat.reduceMul, Nat.reduceLT, afillE, List.replicate]
  refine call_pure (look_ok no rate ts s 0 known) (frzL_of' (d := 4) (carL_cons car_sc (carL_cons car_sh rfl))) ?_
  simp only [walk, wl, rgets, retv, argsEnv, ev, cst, cst1, cstL, AEnv.get, AEnv.trim, envput, qstep, abin, aun, evs, evo, deref, qload, target, if_true, if_false, Nat.reduceEqDiff, reduceIte, Nat.reduceAdd, AV.cells, AV.isTuple, setMany, alen, aiaddr, afill, Nat.reduceLeDiff, Nat.reduceMul, Nat.reduceLT, afillE, List.replicate]
  refine withBool_intro ?_ ?_ <;> intro h1 <;> simp only [walk, wl, rgets, retv, argsEnv, ev, cst, cst1, cstL, AEnv.get, AEnv.trim, envput, qstep, abin, aun, evs, evo, deref, qload, target, if_true, if_false, Nat.reduceEqDiff, reduceIte, Nat.reduceAdd, AV.cells, AV.isTuple, setMany, alen, aiaddr, afill, Nat.reduceLeDiff, Nat.reduceMul, Nat.reduceLT, afillE, List.replicate]
  · have : couR no rate ts s known = (0, 0) := by simp at h1; simp [couR, ifL, h1]
    rw [this]; exact out_two out_agg2I out_int
  · have h0 : lookE no rate ts s 0 known = 0 := by simpa using h1
    obtain ⟨g1, g2, g3⟩ := lookE_zero h0
    obtain ⟨hw, hc, hs, -, -⟩ := sofE_zero g1
    obtain ⟨-, hr, hlen, hok, -⟩ := well_iff.1 hw
    obtain ⟨he, hm, hn, hk⟩ := shp hs
    have tb := turns_box (known := known) hr.1 hok hc hs
    have hL : lookS no rate ts s 0 known = turnsV rate ts s known := by unfold lookS; rw [if_pos h0]
    rw [hL]
    have hR : couR no rate ts s known = courseS s (turnsV rate ts s known) := by unfold couR ifL; rw [if_pos h0]
    rw [hR, h0]
    obtain ⟨T, hT⟩ : ∃ T, T = turnsV rate ts s known := ⟨_, rfl⟩
    have tl : ∀ k, k ∈ s.st → T.2 ≤ k.2.2.1 - s.empty := fun k hk => by rw [hT]; exact turns_le hk
    rw [← hT] at tb g3 ⊢
    simp only [walk, wl, rgets, retv, argsEnv, ev, cst, cst1, cstL, AEnv.get, AEnv.trim, envput, qstep, abin, aun, evs, evo, deref, qload, target, if_true, if_false, Nat.reduceEqDiff, reduceIte, Nat.reduceAdd, AV.cells, AV.isTuple, setMany, alen, aiaddr, afill, Nat.reduceLeDiff, Nat.reduceMul, Nat.reduceLT, afillE, List.replicate, krows_length]
    refine awp_loop (σ := Nat) (fun j => [(4, .ptr 1 1 0 0), (6, .ptr 2 1 0 0), (8, .ptr 3 1 0 0), (10, I (sums s T (s.st.take j)).1), (11, I (sums s T (s.st.take j)).2), (29, .ro false (krows s.st)), (30, I s.st.length), (31, I j)]) (fun j H => ∃ X, H = some ⟨24, 3, [[I no, I rate, .ro false (trows ts)]]⟩ :: some ⟨47, 9, [shR false s]⟩ :: some ⟨40, 2, [[I 0, I 0]]⟩ :: some ⟨96, 2, [[I T.1, I T.2]]⟩ :: X) (fun j => j ≤ s.st.length) (fun j => s.st.length - j) 0 (Nat.zero_le _) rfl ⟨[], rfl⟩ ?_
    rintro j H hj ⟨X, rfl⟩
    simp only [walk, wl, rgets, retv, argsEnv, ev, cst, cst1, cstL, AEnv.get, AEnv.trim, envput, qstep, abin, aun, evs, evo, deref, qload, target, if_true, if_false, Nat.reduceEqDiff, reduceIte, Nat.reduceAdd, AV.cells, AV.isTuple, setMany, alen, aiaddr, afill, Nat.reduceLeDiff, Nat.reduceMul, Nat.reduceLT, afillE, List.replicate]
    refine withBool_intro ?_ ?_ <;> intro hb <;> simp only [walk, wl, rgets, retv, argsEnv, ev, cst, cst1, cstL, AEnv.get, AEnv.trim, envput, qstep, abin, aun, evs, evo, deref, qload, target, if_true, if_false, Nat.reduceEqDiff, reduceIte, Nat.reduceAdd, AV.cells, AV.isTuple, setMany, alen, aiaddr, afill, Nat.reduceLeDiff, Nat.reduceMul, Nat.reduceLT, afillE, List.replicate]
    · have hlt : j < s.st.length := by simpa using hb
      have w1 := w_succ (k := j) (by omega)
      have hkk := hk _ (List.getElem_mem hlt)
      have sb := snow_bd he hm hkk tb
      have bd := sums_bd he hm tb (s.st.take j) fun q hq => hk q (List.mem_of_mem_take hq)
      rw [List.length_take] at bd
      have e1 : IntKind.i64.wrap ((sums s T (s.st.take j)).1 + (snowV s s.st[j] T).1) = (sums s T (s.st.take j)).1 + (snowV s s.st[j] T).1 := wrap_id (by omega) (by omega)
      have e2 : IntKind.i64.wrap ((sums s T (s.st.take j)).2 + (snowV s s.st[j] T).2) = (sums s T (s.st.take j)).2 + (snowV s s.st[j] T).2 := wrap_id (by omega) (by omega)
      simp only [walk, wl, rgets, retv, argsEnv, ev, cst, cst1, cstL, AEnv.get, AEnv.trim, envput, qstep, abin, aun, evs, evo, deref, qload, target, if_true, if_false, Nat.reduceEqDiff, reduceIte, Nat.reduceAdd, AV.cells, AV.isTuple, setMany, alen, aiaddr, afill, Nat.reduceLeDiff, Nat.reduceMul, Nat.reduceLT, afillE, List.replicate, krows_get hlt, List.length_cons]
      refine call_pure (snow_ok he hm hkk tb) (frzL_of' (d := 4) (carL_cons car_sh (carL_cons car_kd rfl))) ?_
      simp only [walk, wl, rgets, retv, argsEnv, ev, cst, cst1, cstL, AEnv.get, AEnv.trim, envput, qstep, abin, aun, evs, evo, deref, qload, target, if_true, if_false, Nat.reduceEqDiff, reduceIte, Nat.reduceAdd, AV.cells, AV.isTuple, setMany, alen, aiaddr, afill, Nat.reduceLeDiff, Nat.reduceMul, Nat.reduceLT, afillE, List.replicate, e1, e2, w1]
      refine loop_end (j + 1) hlt (by omega) (by rw [sums_take hlt]) ⟨_, rfl⟩
    · have hk' : j = s.st.length := by simp at hb; omega
      subst hk'
      rw [List.take_length]
      have bd := sums_bd he hm tb s.st hk
      have ps := sums_pos (s := s) (t := T) s.st fun k hq => (snow_pos (s := s) hm (hk k hq) g3 (tl k hq)).2.1
      have mb : 1 ≤ s.mouth * (s.st.length : Int) ∧ s.mouth * (s.st.length : Int) ≤ 1000 * 32 := by
        constructor
        · have := Int.mul_pos (show 0 < s.mouth by omega) (show 0 < (s.st.length : Int) by omega); omega
        · exact Int.mul_le_mul hm.2 (by omega) (by omega) (by omega)
      have e1 : IntKind.i64.wrap (s.mouth * (s.st.length : Int)) = s.mouth * (s.st.length : Int) := wrap_id (by omega) (by omega)
      have e2 : IntKind.i64.wrap (20 * (s.mouth * (s.st.length : Int))) = 20 * (s.mouth * (s.st.length : Int)) := wrap_id (by omega) (by omega)
      have e3 : IntKind.i64.wrap ((sums s T s.st).1.tdiv (20 * (s.mouth * (s.st.length : Int)))) = (sums s T s.st).1 / (20 * (s.mouth * (s.st.length : Int))) := quo_wrap (by omega) (by omega)
      have n0 : ¬ 20 * (s.mouth * (s.st.length : Int)) = 0 := by omega
      simp only [walk, wl, rgets, retv, argsEnv, ev, cst, cst1, cstL, AEnv.get, AEnv.trim, envput, qstep, abin, aun, evs, evo, deref, qload, target, if_true, if_false, Nat.reduceEqDiff, reduceIte, Nat.reduceAdd, AV.cells, AV.isTuple, setMany, alen, aiaddr, afill, Nat.reduceLeDiff, Nat.reduceMul, Nat.reduceLT, afillE, List.replicate, krows_length, e1, e2, e3, n0]
      refine dcall_pure (up_ok (b := s.mouth * (s.st.length : Int)) (by omega) (by omega)) (frzL_of (d := 1) rfl) ?_
      simp only [walk, wl, rgets, retv, argsEnv, ev, cst, cst1, cstL, AEnv.get, AEnv.trim, envput, qstep, abin, aun, evs, evo, deref, qload, target, if_true, if_false, Nat.reduceEqDiff, reduceIte, Nat.reduceAdd, AV.cells, AV.isTuple, setMany, alen, aiaddr, afill, Nat.reduceLeDiff, Nat.reduceMul, Nat.reduceLT, afillE, List.replicate]
      exact out_two out_agg2I out_int
end Go.Proofs.YtgadlckkmhhmbaaDoor
