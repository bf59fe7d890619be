/- Contracts: sheets, whether they are valid. -/
import Derived.Test.YtgadlckkmhhmbaaGreatDoorQC5
import Derived.Test.YtgadlckkmhhmbaaGreatDoorQG7
set_option linter.unusedVariables false
set_option linter.unusedSimpArgs false
set_option linter.unusedSectionVars false
namespace Go.Proofs.YtgadlckkmhhmbaaGreatDoor
open Go.Awp Go.Grams
set_option linter.unusedSimpArgs false
set_option linter.unusedVariables false
set_option linter.unusedSectionVars false
set_option maxRecDepth 10000
theorem every_ok {f : Nat} {p : Int → Bool} (hf : ∀ n, PCall Tryz.prog f [I n] (.bool (p n))) (xs : List Int) (hl : xs.length ≤ 1000) : PCall Tryz.prog 52 [.func (.func f) [] [], .ro false (ic xs)] (.bool (xs.all p)) := by
  refine PCall.intro text52 (by simp) ?_
  unfold ir52
  simp only [walk, wl, rgets, retv, argsEnv, ev, cst, cst1, cstL, AEnv.get, AEnv.trim, envput, qstep, abin, aun, evs, evo, deref, qload, target, if_true, if_false, Nat.reduceEqDiff, reduceIte, Nat.reduceAdd, AV.cells, AV.isTuple, setMany, alen, aiaddr, afill, Nat.reduceLeDiff, Nat.reduceMul, Nat.reduceLT, afillE, List.replicate, ic_length]
  refine awp_loop (σ := Nat) (fun k => [(0, .func (.func f) [] []), (7, .ro false (ic xs)), (8, I xs.length), (9, I k)]) (fun _ _ => True) (fun k => k ≤ xs.length ∧ (xs.take k).all p = true) (fun k => xs.length - k) 0 ⟨Nat.zero_le _, rfl⟩ rfl trivial ?_
  rintro k H ⟨hk, hall⟩ -
  simp only [walk, wl, rgets, retv, argsEnv, ev, cst, cst1, cstL, AEnv.get, AEnv.trim, envput, qstep, abin, aun, evs, evo, deref, qload, target, if_true, if_false, Nat.reduceEqDiff, reduceIte, Nat.reduceAdd, AV.cells, AV.isTuple, setMany, alen, aiaddr, afill, Nat.reduceLeDiff, Nat.reduceMul, Nat.reduceLT, afillE, List.replicate]
  refine withBool_intro ?_ ?_ <;> intro hb <;> simp only [walk, wl, rgets, retv, argsEnv, ev, cst, cst1, cstL, AEnv.get, AEnv.trim, envput, qstep, abin, aun, evs, evo, deref, qload, target, if_true, if_false, Nat.reduceEqDiff, reduceIte, Nat.reduceAdd, AV.cells, AV.isTuple, setMany, alen, aiaddr, afill, Nat.reduceLeDiff, Nat.reduceMul, Nat.reduceLT, afillE, List.replicate]
  · have hlt : k < xs.length := by simpa using hb
    have w1 := w_succ (k := k) (by omega)
    simp only [walk, wl, rgets, retv, argsEnv, ev, cst, cst1, cstL, AEnv.get, AEnv.trim, envput, qstep, abin, aun, evs, evo, deref, qload, target, if_true, if_false, Nat.reduceEqDiff, reduceIte, Nat.reduceAdd, AV.cells, AV.isTuple, setMany, alen, aiaddr, afill, Nat.reduceLeDiff, Nat.reduceMul, Nat.reduceLT, afillE, List.replicate, ic_get hlt]
    refine acall_callv ?_
    simp only [walk, wl, rgets, retv, argsEnv, ev, cst, cst1, cstL, AEnv.get, AEnv.trim, envput, qstep, abin, aun, evs, evo, deref, qload, target, if_true, if_false, Nat.reduceEqDiff, reduceIte, Nat.reduceAdd, AV.cells, AV.isTuple, setMany, alen, aiaddr, afill, Nat.reduceLeDiff, Nat.reduceMul, Nat.reduceLT, afillE, List.replicate, withFun_app, funK_app]
    refine call_pure (hf _) (frzL_of' (d := 1) rfl) ?_
    simp only [walk, wl, rgets, retv, argsEnv, ev, cst, cst1, cstL, AEnv.get, AEnv.trim, envput, qstep, abin, aun, evs, evo, deref, qload, target, if_true, if_false, Nat.reduceEqDiff, reduceIte, Nat.reduceAdd, AV.cells, AV.isTuple, setMany, alen, aiaddr, afill, Nat.reduceLeDiff, Nat.reduceMul, Nat.reduceLT, afillE, List.replicate]
    refine withBool_intro ?_ ?_ <;> intro hc <;> simp only [walk, wl, rgets, retv, argsEnv, ev, cst, cst1, cstL, AEnv.get, AEnv.trim, envput, qstep, abin, aun, evs, evo, deref, qload, target, if_true, if_false, Nat.reduceEqDiff, reduceIte, Nat.reduceAdd, AV.cells, AV.isTuple, setMany, alen, aiaddr, afill, Nat.reduceLeDiff, Nat.reduceMul, Nat.reduceLT, afillE, List.replicate, w1]
    · have : xs.all p = false := by
        rw [List.all_eq_false]; exact ⟨xs[k], List.getElem_mem hlt, by simpa using hc⟩
      rw [this]; exact out_bool
    · exact loop_end (k + 1) ⟨hlt, all_take hall hlt (by simpa using hc)⟩ (by omega) rfl trivial
  · have hk' : k = xs.length := by simp at hb; omega
    subst hk'
    rw [List.take_length] at hall
    rw [hall]; exact out_bool
theorem out_boolE {H : AHeap} {a b : Bool} (h : a = b) : Out H (.bool a) (.bool b) := by rw [h]; exact out_bool
theorem okK_iff' {k : Stk} : okK k = true ↔ okGram k.2.2.1 = true ∧ okGram k.2.2.2.2 = true ∧ (0 ≤ k.1 ∧ k.1 ≤ 20000) ∧ (0 ≤ k.2.1 ∧ k.2.1 ≤ k.1) ∧ (0 ≤ k.2.2.2.1 ∧ k.2.2.2.1 ≤ k.1) ∧ k.2.1 + k.2.2.2.1 ≤ k.1 := by
  rw [okK_iff]; simp [okGram]; omega
def chkSh (s : Sht) : Int := if okSh s = true then 0 else 12
theorem chkSh_f {s : Sht} (h : ¬ okSh s = true) : chkSh s = 12 := by simp [chkSh, h]
theorem chkSh_t {s : Sht} (h : okSh s = true) : chkSh s = 0 := by simp [chkSh, h]
theorem chkSh_zero {s : Sht} (h : chkSh s = 0) : okSh s = true := by
  unfold chkSh at h; split at h
  · assumption
  · cases h
theorem rstake_ok (k : Stk) : PCall Tryz.prog 58 [.agg (kd k)] (.bool (okK k)) := by
  refine PCall.intro text58 (by simp) ?_
  unfold ir58
  have bad : ∀ h : ¬ okK k = true, okK k = false := fun h => by simpa using h
  simp only [walk, wl, rgets, retv, argsEnv, ev, cst, cst1, cstL, AEnv.get, AEnv.trim, envput, qstep, abin, aun, evs, evo, deref, qload, target, if_true, if_false, Nat.reduceEqDiff, reduceIte, Nat.reduceAdd, AV.cells, AV.isTuple, setMany, alen, aiaddr, afill, Nat.reduceLeDiff, Nat.reduceMul, Nat.reduceLT, afillE, List.replicate]
  refine call_pure (rgram_ok _) (frzL_of' (d := 1) rfl) ?_
  simp only [walk, wl, rgets, retv, argsEnv, ev, cst, cst1, cstL, AEnv.get, AEnv.trim, envput, qstep, abin, aun, evs, evo, deref, qload, target, if_true, if_false, Nat.reduceEqDiff, reduceIte, Nat.reduceAdd, AV.cells, AV.isTuple, setMany, alen, aiaddr, afill, Nat.reduceLeDiff, Nat.reduceMul, Nat.reduceLT, afillE, List.replicate]
  refine call_pure (rgram_ok _) (frzL_of' (d := 1) rfl) ?_
  simp only [walk, wl, rgets, retv, argsEnv, ev, cst, cst1, cstL, AEnv.get, AEnv.trim, envput, qstep, abin, aun, evs, evo, deref, qload, target, if_true, if_false, Nat.reduceEqDiff, reduceIte, Nat.reduceAdd, AV.cells, AV.isTuple, setMany, alen, aiaddr, afill, Nat.reduceLeDiff, Nat.reduceMul, Nat.reduceLT, afillE, List.replicate]
  repeat' (refine withGuard_intro ?_ ?_ <;> intro h <;> simp only [walk, wl, rgets, retv, argsEnv, ev, cst, cst1, cstL, AEnv.get, AEnv.trim, envput, qstep, abin, aun, evs, evo, deref, qload, target, if_true, if_false, Nat.reduceEqDiff, reduceIte, Nat.reduceAdd, AV.cells, AV.isTuple, setMany, alen, aiaddr, afill, Nat.reduceLeDiff, Nat.reduceMul, Nat.reduceLT, afillE, List.replicate, h])
  all_goals (refine out_boolE ?_; rw [Bool.eq_iff_iff, okK_iff']; first | (simp_all <;> omega) | (simp at *; rw [wrap_id (by omega) (by omega)]; simp_all <;> omega))
theorem rCheckSheet_ok (s : Sht) : PCall Tryz.prog 31 [sh s] (I (chkSh s)) := by
  refine PCall.intro text31 (by simp) ?_
  unfold ir31
  simp only [walk, wl, rgets, retv, argsEnv, ev, cst, cst1, cstL, AEnv.get, AEnv.trim, envput, qstep, abin, aun, evs, evo, deref, qload, target, if_true, if_false, Nat.reduceEqDiff, reduceIte, Nat.reduceAdd, AV.cells, AV.isTuple, setMany, alen, aiaddr, afill, Nat.reduceLeDiff, Nat.reduceMul, Nat.reduceLT, afillE, List.replicate]
  refine call_pure (rNumber_ok _) (frzL_of' (d := 1) rfl) ?_
  simp only [walk, wl, rgets, retv, argsEnv, ev, cst, cst1, cstL, AEnv.get, AEnv.trim, envput, qstep, abin, aun, evs, evo, deref, qload, target, if_true, if_false, Nat.reduceEqDiff, reduceIte, Nat.reduceAdd, AV.cells, AV.isTuple, setMany, alen, aiaddr, afill, Nat.reduceLeDiff, Nat.reduceMul, Nat.reduceLT, afillE, List.replicate]
  refine call_pure (rNumber_ok _) (frzL_of' (d := 1) rfl) ?_
  simp only [walk, wl, rgets, retv, argsEnv, ev, cst, cst1, cstL, AEnv.get, AEnv.trim, envput, qstep, abin, aun, evs, evo, deref, qload, target, if_true, if_false, Nat.reduceEqDiff, reduceIte, Nat.reduceAdd, AV.cells, AV.isTuple, setMany, alen, aiaddr, afill, Nat.reduceLeDiff, Nat.reduceMul, Nat.reduceLT, afillE, List.replicate]
  refine call_pure (rNumber_ok _) (frzL_of' (d := 1) rfl) ?_
  simp only [walk, wl, rgets, retv, argsEnv, ev, cst, cst1, cstL, AEnv.get, AEnv.trim, envput, qstep, abin, aun, evs, evo, deref, qload, target, if_true, if_false, Nat.reduceEqDiff, reduceIte, Nat.reduceAdd, AV.cells, AV.isTuple, setMany, alen, aiaddr, afill, Nat.reduceLeDiff, Nat.reduceMul, Nat.reduceLT, afillE, List.replicate]
  refine call_pure (rDay_ok _) (frzL_of' (d := 1) rfl) ?_
  simp only [walk, wl, rgets, retv, argsEnv, ev, cst, cst1, cstL, AEnv.get, AEnv.trim, envput, qstep, abin, aun, evs, evo, deref, qload, target, if_true, if_false, Nat.reduceEqDiff, reduceIte, Nat.reduceAdd, AV.cells, AV.isTuple, setMany, alen, aiaddr, afill, Nat.reduceLeDiff, Nat.reduceMul, Nat.reduceLT, afillE, List.replicate]
  refine call_pure (rDay_ok _) (frzL_of' (d := 1) rfl) ?_
  simp only [walk, wl, rgets, retv, argsEnv, ev, cst, cst1, cstL, AEnv.get, AEnv.trim, envput, qstep, abin, aun, evs, evo, deref, qload, target, if_true, if_false, Nat.reduceEqDiff, reduceIte, Nat.reduceAdd, AV.cells, AV.isTuple, setMany, alen, aiaddr, afill, Nat.reduceLeDiff, Nat.reduceMul, Nat.reduceLT, afillE, List.replicate]
  refine call_pure (rDay_ok _) (frzL_of' (d := 1) rfl) ?_
  simp only [walk, wl, rgets, retv, argsEnv, ev, cst, cst1, cstL, AEnv.get, AEnv.trim, envput, qstep, abin, aun, evs, evo, deref, qload, target, if_true, if_false, Nat.reduceEqDiff, reduceIte, Nat.reduceAdd, AV.cells, AV.isTuple, setMany, alen, aiaddr, afill, Nat.reduceLeDiff, Nat.reduceMul, Nat.reduceLT, afillE, List.replicate]
  refine call_pure (rgram_ok _) (frzL_of' (d := 1) rfl) ?_
  simp only [walk, wl, rgets, retv, argsEnv, ev, cst, cst1, cstL, AEnv.get, AEnv.trim, envput, qstep, abin, aun, evs, evo, deref, qload, target, if_true, if_false, Nat.reduceEqDiff, reduceIte, Nat.reduceAdd, AV.cells, AV.isTuple, setMany, alen, aiaddr, afill, Nat.reduceLeDiff, Nat.reduceMul, Nat.reduceLT, afillE, List.replicate]
  refine withGuard_intro ?_ ?_ <;> intro h1 <;> simp only [walk, wl, rgets, retv, argsEnv, ev, cst, cst1, cstL, AEnv.get, AEnv.trim, envput, qstep, abin, aun, evs, evo, deref, qload, target, if_true, if_false, Nat.reduceEqDiff, reduceIte, Nat.reduceAdd, AV.cells, AV.isTuple, setMany, alen, aiaddr, afill, Nat.reduceLeDiff, Nat.reduceMul, Nat.reduceLT, afillE, List.replicate, h1, krows_length]
  · refine withGuard_intro ?_ ?_ <;> intro h2 <;> simp only [walk, wl, rgets, retv, argsEnv, ev, cst, cst1, cstL, AEnv.get, AEnv.trim, envput, qstep, abin, aun, evs, evo, deref, qload, target, if_true, if_false, Nat.reduceEqDiff, reduceIte, Nat.reduceAdd, AV.cells, AV.isTuple, setMany, alen, aiaddr, afill, Nat.reduceLeDiff, Nat.reduceMul, Nat.reduceLT, afillE, List.replicate, h2, krows_length]
    · refine withGuard_intro ?_ ?_ <;> intro h3 <;> simp only [walk, wl, rgets, retv, argsEnv, ev, cst, cst1, cstL, AEnv.get, AEnv.trim, envput, qstep, abin, aun, evs, evo, deref, qload, target, if_true, if_false, Nat.reduceEqDiff, reduceIte, Nat.reduceAdd, AV.cells, AV.isTuple, setMany, alen, aiaddr, afill, Nat.reduceLeDiff, Nat.reduceMul, Nat.reduceLT, afillE, List.replicate, h3, krows_length]
      · refine withGuard_intro ?_ ?_ <;> intro h4 <;> simp only [walk, wl, rgets, retv, argsEnv, ev, cst, cst1, cstL, AEnv.get, AEnv.trim, envput, qstep, abin, aun, evs, evo, deref, qload, target, if_true, if_false, Nat.reduceEqDiff, reduceIte, Nat.reduceAdd, AV.cells, AV.isTuple, setMany, alen, aiaddr, afill, Nat.reduceLeDiff, Nat.reduceMul, Nat.reduceLT, afillE, List.replicate, h4, krows_length]
        · refine withGuard_intro ?_ ?_ <;> intro h5 <;> simp only [walk, wl, rgets, retv, argsEnv, ev, cst, cst1, cstL, AEnv.get, AEnv.trim, envput, qstep, abin, aun, evs, evo, deref, qload, target, if_true, if_false, Nat.reduceEqDiff, reduceIte, Nat.reduceAdd, AV.cells, AV.isTuple, setMany, alen, aiaddr, afill, Nat.reduceLeDiff, Nat.reduceMul, Nat.reduceLT, afillE, List.replicate, h5, krows_length]
          · refine withGuard_intro ?_ ?_ <;> intro h6 <;> simp only [walk, wl, rgets, retv, argsEnv, ev, cst, cst1, cstL, AEnv.get, AEnv.trim, envput, qstep, abin, aun, evs, evo, deref, qload, target, if_true, if_false, Nat.reduceEqDiff, reduceIte, Nat.reduceAdd, AV.cells, AV.isTuple, setMany, alen, aiaddr, afill, Nat.reduceLeDiff, Nat.reduceMul, Nat.reduceLT, afillE, List.replicate, h6, krows_length]
            · refine withGuard_intro ?_ ?_ <;> intro h7 <;> simp only [walk, wl, rgets, retv, argsEnv, ev, cst, cst1, cstL, AEnv.get, AEnv.trim, envput, qstep, abin, aun, evs, evo, deref, qload, target, if_true, if_false, Nat.reduceEqDiff, reduceIte, Nat.reduceAdd, AV.cells, AV.isTuple, setMany, alen, aiaddr, afill, Nat.reduceLeDiff, Nat.reduceMul, Nat.reduceLT, afillE, List.replicate, h7, krows_length]
              · refine withGuard_intro ?_ ?_ <;> intro h8 <;> simp only [walk, wl, rgets, retv, argsEnv, ev, cst, cst1, cstL, AEnv.get, AEnv.trim, envput, qstep, abin, aun, evs, evo, deref, qload, target, if_true, if_false, Nat.reduceEqDiff, reduceIte, Nat.reduceAdd, AV.cells, AV.isTuple, setMany, alen, aiaddr, afill, Nat.reduceLeDiff, Nat.reduceMul, Nat.reduceLT, afillE, List.replicate, h8, krows_length]
                · refine withGuard_intro ?_ ?_ <;> intro h9 <;> simp only [walk, wl, rgets, retv, argsEnv, ev, cst, cst1, cstL, AEnv.get, AEnv.trim, envput, qstep, abin, aun, evs, evo, deref, qload, target, if_true, if_false, Nat.reduceEqDiff, reduceIte, Nat.reduceAdd, AV.cells, AV.isTuple, setMany, alen, aiaddr, afill, Nat.reduceLeDiff, Nat.reduceMul, Nat.reduceLT, afillE, List.replicate, h9, krows_length]
                  · refine withGuard_intro ?_ ?_ <;> intro h10 <;> simp only [walk, wl, rgets, retv, argsEnv, ev, cst, cst1, cstL, AEnv.get, AEnv.trim, envput, qstep, abin, aun, evs, evo, deref, qload, target, if_true, if_false, Nat.reduceEqDiff, reduceIte, Nat.reduceAdd, AV.cells, AV.isTuple, setMany, alen, aiaddr, afill, Nat.reduceLeDiff, Nat.reduceMul, Nat.reduceLT, afillE, List.replicate, h10, krows_length]
                    · refine withBool_intro ?_ ?_ <;> intro b11 <;> simp only [walk, wl, rgets, retv, argsEnv, ev, cst, cst1, cstL, AEnv.get, AEnv.trim, envput, qstep, abin, aun, evs, evo, deref, qload, target, if_true, if_false, Nat.reduceEqDiff, reduceIte, Nat.reduceAdd, AV.cells, AV.isTuple, setMany, alen, aiaddr, afill, Nat.reduceLeDiff, Nat.reduceMul, Nat.reduceLT, afillE, List.replicate, b11, krows_length]
                      · rw [chkSh_f (fun hh => by obtain ⟨a1, a2, a3, a4, a5, a6, a7, a8, a9, a10⟩ := okSh_iff.1 hh; first | (simp_all; done) | (simp_all; omega) | (simp at b11; omega))]; exact out_int
                      · have b1 : okNo s.no = true := by simpa using h1
                        have b2 : okNo s.cell = true := by simpa using h2
                        have b3 : okNo s.scale = true := by simpa using h3
                        have b4 : okDay s.day = true := by simpa using h4
                        have b5 : okDay s.known = true := by simpa using h5
                        have b6 : okDay s.emptyDay = true := by simpa using h6
                        have b7 : okGram s.empty = true := by simpa using h7
                        have b8 : 1 ≤ s.mouth ∧ s.mouth ≤ 1000 := by simp at h8 h9; omega
                        have b9 : 1 ≤ s.st.length ∧ s.st.length ≤ 32 := by simp at h10 b11; omega
                        refine awp_loop (σ := Nat) (fun k => [(1, .ptr 0 1 0 0), (10, I k)]) (fun _ H => H = [some ⟨26, 9, [shR false s]⟩]) (fun k => k ≤ s.st.length ∧ (s.st.take k).all okK = true) (fun k => s.st.length - k) 0 ⟨Nat.zero_le _, rfl⟩ rfl rfl ?_
                        rintro k H ⟨hk, hall⟩ rfl
                        simp only [walk, wl, rgets, retv, argsEnv, ev, cst, cst1, cstL, AEnv.get, AEnv.trim, envput, qstep, abin, aun, evs, evo, deref, qload, target, if_true, if_false, Nat.reduceEqDiff, reduceIte, Nat.reduceAdd, AV.cells, AV.isTuple, setMany, alen, aiaddr, afill, Nat.reduceLeDiff, Nat.reduceMul, Nat.reduceLT, afillE, List.replicate, krows_length]
                        refine withBool_intro ?_ ?_ <;> intro hb <;> simp only [walk, wl, rgets, retv, argsEnv, ev, cst, cst1, cstL, AEnv.get, AEnv.trim, envput, qstep, abin, aun, evs, evo, deref, qload, target, if_true, if_false, Nat.reduceEqDiff, reduceIte, Nat.reduceAdd, AV.cells, AV.isTuple, setMany, alen, aiaddr, afill, Nat.reduceLeDiff, Nat.reduceMul, Nat.reduceLT, afillE, List.replicate]
                        · have hlt : k < s.st.length := by simpa using hb
                          have w1 := w_succ (k := k) (by omega)
                          simp only [walk, wl, rgets, retv, argsEnv, ev, cst, cst1, cstL, AEnv.get, AEnv.trim, envput, qstep, abin, aun, evs, evo, deref, qload, target, if_true, if_false, Nat.reduceEqDiff, reduceIte, Nat.reduceAdd, AV.cells, AV.isTuple, setMany, alen, aiaddr, afill, Nat.reduceLeDiff, Nat.reduceMul, Nat.reduceLT, afillE, List.replicate, krows_get hlt, List.length_cons]
                          refine call_pure (rstake_ok s.st[k]) (frzL_of' (d := 2) rfl) ?_
                          simp only [walk, wl, rgets, retv, argsEnv, ev, cst, cst1, cstL, AEnv.get, AEnv.trim, envput, qstep, abin, aun, evs, evo, deref, qload, target, if_true, if_false, Nat.reduceEqDiff, reduceIte, Nat.reduceAdd, AV.cells, AV.isTuple, setMany, alen, aiaddr, afill, Nat.reduceLeDiff, Nat.reduceMul, Nat.reduceLT, afillE, List.replicate]
                          refine withBool_intro ?_ ?_ <;> intro hc <;> simp only [walk, wl, rgets, retv, argsEnv, ev, cst, cst1, cstL, AEnv.get, AEnv.trim, envput, qstep, abin, aun, evs, evo, deref, qload, target, if_true, if_false, Nat.reduceEqDiff, reduceIte, Nat.reduceAdd, AV.cells, AV.isTuple, setMany, alen, aiaddr, afill, Nat.reduceLeDiff, Nat.reduceMul, Nat.reduceLT, afillE, List.replicate, w1]
                          · rw [chkSh_f (fun hh => by
                              have := (okSh_iff.1 hh).2.2.2.2.2.2.2.2.2 s.st[k] (List.getElem_mem hlt)
                              simp [this] at hc)]
                            exact out_int
                          · exact loop_end (k + 1) ⟨hlt, all_take hall hlt (by simpa using hc)⟩ (by omega) rfl rfl
                        · have hk' : k = s.st.length := by simp at hb; omega
                          subst hk'
                          rw [List.take_length] at hall
                          rw [chkSh_t (okSh_iff.2 ⟨b1, b2, b3, b4, b5, b6, b7, b8, b9, by simpa using hall⟩)]; exact out_int
                    · rw [chkSh_f (fun hh => by obtain ⟨a1, a2, a3, a4, a5, a6, a7, a8, a9, a10⟩ := okSh_iff.1 hh; first | (simp_all; done) | (simp_all; omega) | (simp at h10; omega))]; exact out_int
                  · rw [chkSh_f (fun hh => by obtain ⟨a1, a2, a3, a4, a5, a6, a7, a8, a9, a10⟩ := okSh_iff.1 hh; first | (simp_all; done) | (simp_all; omega) | (simp at h9; omega))]; exact out_int
                · rw [chkSh_f (fun hh => by obtain ⟨a1, a2, a3, a4, a5, a6, a7, a8, a9, a10⟩ := okSh_iff.1 hh; first | (simp_all; done) | (simp_all; omega) | (simp at h8; omega))]; exact out_int
              · rw [chkSh_f (fun hh => by obtain ⟨a1, a2, a3, a4, a5, a6, a7, a8, a9, a10⟩ := okSh_iff.1 hh; first | (simp_all; done) | (simp_all; omega) | (simp at h7; omega))]; exact out_int
            · rw [chkSh_f (fun hh => by obtain ⟨a1, a2, a3, a4, a5, a6, a7, a8, a9, a10⟩ := okSh_iff.1 hh; first | (simp_all; done) | (simp_all; omega) | (simp at h6; omega))]; exact out_int
          · rw [chkSh_f (fun hh => by obtain ⟨a1, a2, a3, a4, a5, a6, a7, a8, a9, a10⟩ := okSh_iff.1 hh; first | (simp_all; done) | (simp_all; omega) | (simp at h5; omega))]; exact out_int
        · rw [chkSh_f (fun hh => by obtain ⟨a1, a2, a3, a4, a5, a6, a7, a8, a9, a10⟩ := okSh_iff.1 hh; first | (simp_all; done) | (simp_all; omega) | (simp at h4; omega))]; exact out_int
      · rw [chkSh_f (fun hh => by obtain ⟨a1, a2, a3, a4, a5, a6, a7, a8, a9, a10⟩ := okSh_iff.1 hh; first | (simp_all; done) | (simp_all; omega) | (simp at h3; omega))]; exact out_int
    · rw [chkSh_f (fun hh => by obtain ⟨a1, a2, a3, a4, a5, a6, a7, a8, a9, a10⟩ := okSh_iff.1 hh; first | (simp_all; done) | (simp_all; omega) | (simp at h2; omega))]; exact out_int
  · rw [chkSh_f (fun hh => by obtain ⟨a1, a2, a3, a4, a5, a6, a7, a8, a9, a10⟩ := okSh_iff.1 hh; first | (simp_all; done) | (simp_all; omega) | (simp at h1; omega))]; exact out_int
end Go.Proofs.YtgadlckkmhhmbaaGreatDoor
/- Contracts: sheets, whether they are valid; this package. -/
namespace Go.Proofs.YtgadlckkmhhmbaaGreatDoor
open Go.Awp Go.Grams
set_option linter.unusedSimpArgs false
set_option linter.unusedVariables false
set_option linter.unusedSectionVars false
set_option maxRecDepth 10000
theorem CheckSheet_ok (s : Sht) : PCall Tryz.prog 30 [sh s] (I (chkSh s)) := by
  refine PCall.intro text30 (by simp) ?_
  unfold ir30
  simp only [walk, wl, rgets, retv, argsEnv, ev, cst, cst1, cstL, AEnv.get, AEnv.trim, envput, qstep, abin, aun, evs, evo, deref, qload, target, if_true, if_false, Nat.reduceEqDiff, reduceIte, Nat.reduceAdd, AV.cells, AV.isTuple, setMany, alen, aiaddr, afill, Nat.reduceLeDiff, Nat.reduceMul, Nat.reduceLT, afillE, List.replicate]
  refine call_pure (every_ok number_ok [s.no, s.cell, s.scale] (by simp)) (frzL_of' (d := 4) (carL_cons rfl (carL_cons (car_own3 rfl) rfl))) ?_
  simp only [walk, wl, rgets, retv, argsEnv, ev, cst, cst1, cstL, AEnv.get, AEnv.trim, envput, qstep, abin, aun, evs, evo, deref, qload, target, if_true, if_false, Nat.reduceEqDiff, reduceIte, Nat.reduceAdd, AV.cells, AV.isTuple, setMany, alen, aiaddr, afill, Nat.reduceLeDiff, Nat.reduceMul, Nat.reduceLT, afillE, List.replicate]
  refine withGuard_intro ?_ ?_ <;> intro h1 <;> simp only [walk, wl, rgets, retv, argsEnv, ev, cst, cst1, cstL, AEnv.get, AEnv.trim, envput, qstep, abin, aun, evs, evo, deref, qload, target, if_true, if_false, Nat.reduceEqDiff, reduceIte, Nat.reduceAdd, AV.cells, AV.isTuple, setMany, alen, aiaddr, afill, Nat.reduceLeDiff, Nat.reduceMul, Nat.reduceLT, afillE, List.replicate, h1, krows_length]
  · refine call_pure (every_ok day_ok [s.day, s.known, s.emptyDay] (by simp)) (frzL_of' (d := 4) (carL_cons rfl (carL_cons (car_own3 rfl) rfl))) ?_
    simp only [walk, wl, rgets, retv, argsEnv, ev, cst, cst1, cstL, AEnv.get, AEnv.trim, envput, qstep, abin, aun, evs, evo, deref, qload, target, if_true, if_false, Nat.reduceEqDiff, reduceIte, Nat.reduceAdd, AV.cells, AV.isTuple, setMany, alen, aiaddr, afill, Nat.reduceLeDiff, Nat.reduceMul, Nat.reduceLT, afillE, List.replicate]
    refine withGuard_intro ?_ ?_ <;> intro h2 <;> simp only [walk, wl, rgets, retv, argsEnv, ev, cst, cst1, cstL, AEnv.get, AEnv.trim, envput, qstep, abin, aun, evs, evo, deref, qload, target, if_true, if_false, Nat.reduceEqDiff, reduceIte, Nat.reduceAdd, AV.cells, AV.isTuple, setMany, alen, aiaddr, afill, Nat.reduceLeDiff, Nat.reduceMul, Nat.reduceLT, afillE, List.replicate, h2, krows_length]
    · refine call_pure (gram_ok _) (frzL_of' (d := 1) rfl) ?_
      simp only [walk, wl, rgets, retv, argsEnv, ev, cst, cst1, cstL, AEnv.get, AEnv.trim, envput, qstep, abin, aun, evs, evo, deref, qload, target, if_true, if_false, Nat.reduceEqDiff, reduceIte, Nat.reduceAdd, AV.cells, AV.isTuple, setMany, alen, aiaddr, afill, Nat.reduceLeDiff, Nat.reduceMul, Nat.reduceLT, afillE, List.replicate]
      refine withGuard_intro ?_ ?_ <;> intro h3 <;> simp only [walk, wl, rgets, retv, argsEnv, ev, cst, cst1, cstL, AEnv.get, AEnv.trim, envput, qstep, abin, aun, evs, evo, deref, qload, target, if_true, if_false, Nat.reduceEqDiff, reduceIte, Nat.reduceAdd, AV.cells, AV.isTuple, setMany, alen, aiaddr, afill, Nat.reduceLeDiff, Nat.reduceMul, Nat.reduceLT, afillE, List.replicate, h3, krows_length]
      · refine withGuard_intro ?_ ?_ <;> intro h4 <;> simp only [walk, wl, rgets, retv, argsEnv, ev, cst, cst1, cstL, AEnv.get, AEnv.trim, envput, qstep, abin, aun, evs, evo, deref, qload, target, if_true, if_false, Nat.reduceEqDiff, reduceIte, Nat.reduceAdd, AV.cells, AV.isTuple, setMany, alen, aiaddr, afill, Nat.reduceLeDiff, Nat.reduceMul, Nat.reduceLT, afillE, List.replicate, h4, krows_length]
        · refine withGuard_intro ?_ ?_ <;> intro h5 <;> simp only [walk, wl, rgets, retv, argsEnv, ev, cst, cst1, cstL, AEnv.get, AEnv.trim, envput, qstep, abin, aun, evs, evo, deref, qload, target, if_true, if_false, Nat.reduceEqDiff, reduceIte, Nat.reduceAdd, AV.cells, AV.isTuple, setMany, alen, aiaddr, afill, Nat.reduceLeDiff, Nat.reduceMul, Nat.reduceLT, afillE, List.replicate, h5, krows_length]
          · refine withGuard_intro ?_ ?_ <;> intro h6 <;> simp only [walk, wl, rgets, retv, argsEnv, ev, cst, cst1, cstL, AEnv.get, AEnv.trim, envput, qstep, abin, aun, evs, evo, deref, qload, target, if_true, if_false, Nat.reduceEqDiff, reduceIte, Nat.reduceAdd, AV.cells, AV.isTuple, setMany, alen, aiaddr, afill, Nat.reduceLeDiff, Nat.reduceMul, Nat.reduceLT, afillE, List.replicate, h6, krows_length]
            · refine withBool_intro ?_ ?_ <;> intro b7 <;> simp only [walk, wl, rgets, retv, argsEnv, ev, cst, cst1, cstL, AEnv.get, AEnv.trim, envput, qstep, abin, aun, evs, evo, deref, qload, target, if_true, if_false, Nat.reduceEqDiff, reduceIte, Nat.reduceAdd, AV.cells, AV.isTuple, setMany, alen, aiaddr, afill, Nat.reduceLeDiff, Nat.reduceMul, Nat.reduceLT, afillE, List.replicate, b7, krows_length]
              · rw [chkSh_f (fun hh => by obtain ⟨a1, a2, a3, a4, a5, a6, a7, a8, a9, a10⟩ := okSh_iff.1 hh; first | (simp_all; done) | (simp_all; omega) | (simp at b7; omega))]; exact out_int
              · simp only [List.all_cons, List.all_nil, Bool.and_true, Bool.and_eq_true] at h1 h2
                obtain ⟨b1, b2, b3⟩ := h1
                obtain ⟨b4, b5, b6⟩ := h2
                have b7' : okGram s.empty = true := by simpa using h3
                have b8 : 1 ≤ s.mouth ∧ s.mouth ≤ 1000 := by simp at h4 h5; omega
                have b9 : 1 ≤ s.st.length ∧ s.st.length ≤ 32 := by simp at h6 b7; omega
                have badK : ∀ k (hlt : k < s.st.length), okK s.st[k] = false → chkSh s = 12 := fun k hlt hc => chkSh_f (fun hh => by
                  have := (okSh_iff.1 hh).2.2.2.2.2.2.2.2.2 s.st[k] (List.getElem_mem hlt)
                  rw [this] at hc; cases hc)
                refine awp_loop (σ := Nat) (fun k => [(54, .ro false (krows s.st)), (55, I s.st.length), (56, I k)]) (fun _ _ => True) (fun k => k ≤ s.st.length ∧ (s.st.take k).all okK = true) (fun k => s.st.length - k) 0 ⟨Nat.zero_le _, rfl⟩ rfl trivial ?_
                rintro k H ⟨hk, hall⟩ -
                simp only [walk, wl, rgets, retv, argsEnv, ev, cst, cst1, cstL, AEnv.get, AEnv.trim, envput, qstep, abin, aun, evs, evo, deref, qload, target, if_true, if_false, Nat.reduceEqDiff, reduceIte, Nat.reduceAdd, AV.cells, AV.isTuple, setMany, alen, aiaddr, afill, Nat.reduceLeDiff, Nat.reduceMul, Nat.reduceLT, afillE, List.replicate]
                refine withBool_intro ?_ ?_ <;> intro hb <;> simp only [walk, wl, rgets, retv, argsEnv, ev, cst, cst1, cstL, AEnv.get, AEnv.trim, envput, qstep, abin, aun, evs, evo, deref, qload, target, if_true, if_false, Nat.reduceEqDiff, reduceIte, Nat.reduceAdd, AV.cells, AV.isTuple, setMany, alen, aiaddr, afill, Nat.reduceLeDiff, Nat.reduceMul, Nat.reduceLT, afillE, List.replicate]
                · have hlt : k < s.st.length := by simpa using hb
                  have w1 := w_succ (k := k) (by omega)
                  obtain ⟨q, hq⟩ : ∃ q, q = s.st[k] := ⟨_, rfl⟩
                  have hg := krows_get hlt
                  have badk := badK k hlt
                  have goodk : okK s.st[k] = true → (s.st.take (k + 1)).all okK = true := fun h => all_take hall hlt h
                  rw [← hq] at hg badk goodk
                  simp only [walk, wl, rgets, retv, argsEnv, ev, cst, cst1, cstL, AEnv.get, AEnv.trim, envput, qstep, abin, aun, evs, evo, deref, qload, target, if_true, if_false, Nat.reduceEqDiff, reduceIte, Nat.reduceAdd, AV.cells, AV.isTuple, setMany, alen, aiaddr, afill, Nat.reduceLeDiff, Nat.reduceMul, Nat.reduceLT, afillE, List.replicate, hg, List.length_cons]
                  refine call_pure (every_ok length_ok [q.1, q.2.1, q.2.2.2.1] (by simp)) (frzL_of' (d := 4) (carL_cons rfl (carL_cons (car_own3 (by simp only [obj_app_add, obj_zero, obj_succ])) rfl))) ?_
                  simp only [walk, wl, rgets, retv, argsEnv, ev, cst, cst1, cstL, AEnv.get, AEnv.trim, envput, qstep, abin, aun, evs, evo, deref, qload, target, if_true, if_false, Nat.reduceEqDiff, reduceIte, Nat.reduceAdd, AV.cells, AV.isTuple, setMany, alen, aiaddr, afill, Nat.reduceLeDiff, Nat.reduceMul, Nat.reduceLT, afillE, List.replicate]
                  refine withGuard_intro ?_ ?_ <;> intro g1 <;> simp only [walk, wl, rgets, retv, argsEnv, ev, cst, cst1, cstL, AEnv.get, AEnv.trim, envput, qstep, abin, aun, evs, evo, deref, qload, target, if_true, if_false, Nat.reduceEqDiff, reduceIte, Nat.reduceAdd, AV.cells, AV.isTuple, setMany, alen, aiaddr, afill, Nat.reduceLeDiff, Nat.reduceMul, Nat.reduceLT, afillE, List.replicate, g1]
                  · simp only [List.all_cons, List.all_nil, Bool.and_true, Bool.not_eq_false', Bool.and_eq_true, okLen, decide_eq_true_eq] at g1
                    have e1 : IntKind.i64.wrap (q.2.1 + q.2.2.2.1) = q.2.1 + q.2.2.2.1 := wrap_id (by omega) (by omega)
                    simp only [walk, wl, rgets, retv, argsEnv, ev, cst, cst1, cstL, AEnv.get, AEnv.trim, envput, qstep, abin, aun, evs, evo, deref, qload, target, if_true, if_false, Nat.reduceEqDiff, reduceIte, Nat.reduceAdd, AV.cells, AV.isTuple, setMany, alen, aiaddr, afill, Nat.reduceLeDiff, Nat.reduceMul, Nat.reduceLT, afillE, List.replicate, e1]
                    refine withGuard_intro ?_ ?_ <;> intro g2 <;> simp only [walk, wl, rgets, retv, argsEnv, ev, cst, cst1, cstL, AEnv.get, AEnv.trim, envput, qstep, abin, aun, evs, evo, deref, qload, target, if_true, if_false, Nat.reduceEqDiff, reduceIte, Nat.reduceAdd, AV.cells, AV.isTuple, setMany, alen, aiaddr, afill, Nat.reduceLeDiff, Nat.reduceMul, Nat.reduceLT, afillE, List.replicate, g2]
                    · refine call_pure (every_ok gram_ok [q.2.2.1, q.2.2.2.2] (by simp)) (frzL_of' (d := 4) (carL_cons rfl (carL_cons (car_own2 (by simp only [obj_app_add, obj_zero, obj_succ])) rfl))) ?_
                      simp only [walk, wl, rgets, retv, argsEnv, ev, cst, cst1, cstL, AEnv.get, AEnv.trim, envput, qstep, abin, aun, evs, evo, deref, qload, target, if_true, if_false, Nat.reduceEqDiff, reduceIte, Nat.reduceAdd, AV.cells, AV.isTuple, setMany, alen, aiaddr, afill, Nat.reduceLeDiff, Nat.reduceMul, Nat.reduceLT, afillE, List.replicate]
                      refine withBool_intro ?_ ?_ <;> intro g3 <;> simp only [walk, wl, rgets, retv, argsEnv, ev, cst, cst1, cstL, AEnv.get, AEnv.trim, envput, qstep, abin, aun, evs, evo, deref, qload, target, if_true, if_false, Nat.reduceEqDiff, reduceIte, Nat.reduceAdd, AV.cells, AV.isTuple, setMany, alen, aiaddr, afill, Nat.reduceLeDiff, Nat.reduceMul, Nat.reduceLT, afillE, List.replicate, w1]
                      · rw [badk (by rw [← Bool.not_eq_true, okK_iff]; simp [okGram] at g3; intro hh; omega)]; exact out_int
                      · exact loop_end (k + 1) ⟨hlt, goodk (by rw [okK_iff]; simp [okGram] at g2 g3; omega)⟩ (by omega) rfl trivial
                    · rw [badk (by rw [← Bool.not_eq_true, okK_iff]; simp at g2; intro hh; omega)]; exact out_int
                  · rw [badk (by rw [← Bool.not_eq_true, okK_iff]; simp [okLen] at g1; intro hh; omega)]; exact out_int
                · have hk' : k = s.st.length := by simp at hb; omega
                  subst hk'
                  rw [List.take_length] at hall
                  rw [chkSh_t (okSh_iff.2 ⟨b1, b2, b3, b4, b5, b6, b7', b8, b9, by simpa using hall⟩)]; exact out_int
            · rw [chkSh_f (fun hh => by obtain ⟨a1, a2, a3, a4, a5, a6, a7, a8, a9, a10⟩ := okSh_iff.1 hh; first | (simp_all; done) | (simp_all; omega) | (simp at h6; omega))]; exact out_int
          · rw [chkSh_f (fun hh => by obtain ⟨a1, a2, a3, a4, a5, a6, a7, a8, a9, a10⟩ := okSh_iff.1 hh; first | (simp_all; done) | (simp_all; omega) | (simp at h5; omega))]; exact out_int
        · rw [chkSh_f (fun hh => by obtain ⟨a1, a2, a3, a4, a5, a6, a7, a8, a9, a10⟩ := okSh_iff.1 hh; first | (simp_all; done) | (simp_all; omega) | (simp at h4; omega))]; exact out_int
      · rw [chkSh_f (fun hh => by obtain ⟨a1, a2, a3, a4, a5, a6, a7, a8, a9, a10⟩ := okSh_iff.1 hh; first | (simp_all; done) | (simp_all; omega) | (simp at h3; omega))]; exact out_int
    · rw [chkSh_f (fun hh => by obtain ⟨a1, a2, a3, a4, a5, a6, a7, a8, a9, a10⟩ := okSh_iff.1 hh; first | (simp_all; done) | (simp_all; omega) | (simp at h2; omega))]; exact out_int
  · rw [chkSh_f (fun hh => by obtain ⟨a1, a2, a3, a4, a5, a6, a7, a8, a9, a10⟩ := okSh_iff.1 hh; first | (simp_all; done) | (simp_all; omega) | (simp at h1; omega))]; exact out_int
end Go.Proofs.YtgadlckkmhhmbaaGreatDoor
