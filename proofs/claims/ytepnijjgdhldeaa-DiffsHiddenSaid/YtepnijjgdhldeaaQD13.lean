/- The laws' own test of an assignment. -/
import Derived.Test.YtepnijjgdhldeaaQG5
import Derived.Test.YtepnijjgdhldeaaQT4
namespace Go.Proofs.Ytepnijjgdhldeaa
open Go.Awp
set_option linter.unusedSimpArgs false
set_option linter.unusedVariables false
set_option maxRecDepth 10000
set_option maxHeartbeats 4000000
theorem fulf_not {n : Int} {ds : List Df} {xs : List Int} (h : ¬ (((xs.length : Int) = n ∧ 0 < xs.length) ∧ at0 xs 0 = 0 ∧ (∀ x, x ∈ xs → far x = false) ∧ ∀ d, d ∈ ds → ((0 ≤ d.1 ∧ d.1 < xs.length) ∧ (0 ≤ d.2.1 ∧ d.2.1 < xs.length)) ∧ at0 xs d.2.1 - at0 xs d.1 ≤ d.2.2)) : fulf n ds xs = false := by
  cases hf : fulf n ds xs with
  | false => rfl
  | true => exact absurd (fulf_iff.1 hf) h
theorem fulfils_ok {n : Int} {ds : List Df} {xs : List Int} {b : Bool} (hl : xs.length ≤ big) (hd : ds.length ≤ big) : PCall Try.prog 43 [.agg [I n, .ro false (rows ds)], .ro b (ic xs)] (.bool (fulf n ds xs)) := by
  unfold big at hl hd
  refine PCall.intro text43 (by simp) ?_
  unfold ir43
  by_cases h1 : (xs.length : Int) = n
  · have e1 : ((xs.length : Int) != n) = false := by simp [h1]
    by_cases h2 : xs.length = 0
    · have e2 : ((xs.length : Int) == 0) = true := by simp [h2]
      simp only [walkS, wl, rgets, retv, argsEnv, ev, cst, cst1, cstL, AEnv.get, AEnv.trim, envput, qstep, abin, aun, evs, evo, deref, qload, target, if_true, if_false, Nat.reduceEqDiff, reduceIte, Nat.reduceAdd, AV.cells, AV.isTuple, setMany, alen, aiaddr, afill, Nat.reduceLeDiff, Nat.reduceMul, Nat.reduceLT, afillE, List.replicate, ic_length, e1, e2]
      rw [fulf_not (fun h => by have := h.1.2; omega)]; exact out_bool
    · have e2 : ((xs.length : Int) == 0) = false := beq_eq_false_iff_ne.2 (by omega)
      have hp : 0 < xs.length := by omega
      have hg0 : (ic xs)[0]? = some [I (at0 xs 0)] := by rw [ic_get hp]; simp [at0, hp]
      simp only [walkS, wl, rgets, retv, argsEnv, ev, cst, cst1, cstL, AEnv.get, AEnv.trim, envput, qstep, abin, aun, evs, evo, deref, qload, target, if_true, if_false, Nat.reduceEqDiff, reduceIte, Nat.reduceAdd, AV.cells, AV.isTuple, setMany, alen, aiaddr, afill, Nat.reduceLeDiff, Nat.reduceMul, Nat.reduceLT, afillE, List.replicate, ic_length, e1, e2, if_pos (Int.le_refl 0), Int.toNat_zero, hg0]
      refine withBool_intro ?_ ?_ <;> intro h3 <;> simp only [walkS, wl, rgets, retv, argsEnv, ev, cst, cst1, cstL, AEnv.get, AEnv.trim, envput, qstep, abin, aun, evs, evo, deref, qload, target, if_true, if_false, Nat.reduceEqDiff, reduceIte, Nat.reduceAdd, AV.cells, AV.isTuple, setMany, alen, aiaddr, afill, Nat.reduceLeDiff, Nat.reduceMul, Nat.reduceLT, afillE, List.replicate, ic_length]
      · have : at0 xs 0 ≠ 0 := by simpa using h3
        rw [fulf_not (fun h => this h.2.1)]; exact out_bool
      · have h3' : at0 xs 0 = 0 := by simpa using h3
        refine awp_loop (σ := Nat) (fun k => [(1, .ro b (ic xs)), (2, .ptr 0 1 0 0), (25, .ro b (ic xs)), (26, I xs.length), (27, I k)]) (fun _ H => ∃ X, H = some ⟨24, 2, [[I n, .ro false (rows ds)]]⟩ :: X) (fun k => k ≤ xs.length ∧ (xs.take k).all (fun x => !far x) = true) (fun k => xs.length - k) 0 ⟨Nat.zero_le _, rfl⟩ rfl ⟨_, rfl⟩ ?_
        rintro k H ⟨hk, hall⟩ ⟨X, rfl⟩
        simp only [walkS, wl, rgets, retv, argsEnv, ev, cst, cst1, cstL, AEnv.get, AEnv.trim, envput, qstep, abin, aun, evs, evo, deref, qload, target, if_true, if_false, Nat.reduceEqDiff, reduceIte, Nat.reduceAdd, AV.cells, AV.isTuple, setMany, alen, aiaddr, afill, Nat.reduceLeDiff, Nat.reduceMul, Nat.reduceLT, afillE, List.replicate]
        refine withBool_intro ?_ ?_ <;> intro hb <;> simp only [walkS, wl, rgets, retv, argsEnv, ev, cst, cst1, cstL, AEnv.get, AEnv.trim, envput, qstep, abin, aun, evs, evo, deref, qload, target, if_true, if_false, Nat.reduceEqDiff, reduceIte, Nat.reduceAdd, AV.cells, AV.isTuple, setMany, alen, aiaddr, afill, Nat.reduceLeDiff, Nat.reduceMul, Nat.reduceLT, afillE, List.replicate]
        · have hlt : k < xs.length := by simpa using hb
          simp only [walkS, wl, rgets, retv, argsEnv, ev, cst, cst1, cstL, AEnv.get, AEnv.trim, envput, qstep, abin, aun, evs, evo, deref, qload, target, if_true, if_false, Nat.reduceEqDiff, reduceIte, Nat.reduceAdd, AV.cells, AV.isTuple, setMany, alen, aiaddr, afill, Nat.reduceLeDiff, Nat.reduceMul, Nat.reduceLT, afillE, List.replicate, ic_get hlt]
          have no : far xs[k] = true → fulf n ds xs = false := fun hf => fulf_not fun h => by have := h.2.2.1 _ (List.getElem_mem hlt); rw [hf] at this; cases this
          refine withGuard_intro ?_ ?_ <;> intro h4 <;> simp only [walkS, wl, rgets, retv, argsEnv, ev, cst, cst1, cstL, AEnv.get, AEnv.trim, envput, qstep, abin, aun, evs, evo, deref, qload, target, if_true, if_false, Nat.reduceEqDiff, reduceIte, Nat.reduceAdd, AV.cells, AV.isTuple, setMany, alen, aiaddr, afill, Nat.reduceLeDiff, Nat.reduceMul, Nat.reduceLT, afillE, List.replicate, h4]
          · refine withBool_intro ?_ ?_ <;> intro h5 <;> simp only [walkS, wl, rgets, retv, argsEnv, ev, cst, cst1, cstL, AEnv.get, AEnv.trim, envput, qstep, abin, aun, evs, evo, deref, qload, target, if_true, if_false, Nat.reduceEqDiff, reduceIte, Nat.reduceAdd, AV.cells, AV.isTuple, setMany, alen, aiaddr, afill, Nat.reduceLeDiff, Nat.reduceMul, Nat.reduceLT, afillE, List.replicate]
            · rw [no (by simp at h5; simp [far]; omega)]; exact out_bool
            · rw [wrap_id (by omega) (by omega)]
              refine loop_end (k + 1) ⟨hlt, all_take hall hlt (by simp at h4 h5; simp [far]; omega)⟩ (by omega) rfl ⟨_, rfl⟩
          · rw [no (by simp at h4; simp [far]; omega)]; exact out_bool
        · have hk' : k = xs.length := by simp at hb; omega
          subst hk'
          rw [List.take_length, List.all_eq_true] at hall
          have hfar : ∀ x, x ∈ xs → far x = false := fun x hx => by simpa using hall x hx
          simp only [walkS, wl, rgets, retv, argsEnv, ev, cst, cst1, cstL, AEnv.get, AEnv.trim, envput, qstep, abin, aun, evs, evo, deref, qload, target, if_true, if_false, Nat.reduceEqDiff, reduceIte, Nat.reduceAdd, AV.cells, AV.isTuple, setMany, alen, aiaddr, afill, Nat.reduceLeDiff, Nat.reduceMul, Nat.reduceLT, afillE, List.replicate, rows_length]
          refine awp_loop (σ := Nat) (fun k => [(1, .ro b (ic xs)), (39, .ro false (rows ds)), (40, I ds.length), (41, I k)]) (fun _ _ => True) (fun k => k ≤ ds.length ∧ ∀ d, d ∈ ds.take k → ((0 ≤ d.1 ∧ d.1 < xs.length) ∧ (0 ≤ d.2.1 ∧ d.2.1 < xs.length)) ∧ at0 xs d.2.1 - at0 xs d.1 ≤ d.2.2) (fun k => ds.length - k) 0 ⟨Nat.zero_le _, by simp⟩ rfl trivial ?_
          rintro k H ⟨hk, hin⟩ -
          simp only [walkS, wl, rgets, retv, argsEnv, ev, cst, cst1, cstL, AEnv.get, AEnv.trim, envput, qstep, abin, aun, evs, evo, deref, qload, target, if_true, if_false, Nat.reduceEqDiff, reduceIte, Nat.reduceAdd, AV.cells, AV.isTuple, setMany, alen, aiaddr, afill, Nat.reduceLeDiff, Nat.reduceMul, Nat.reduceLT, afillE, List.replicate]
          refine withBool_intro ?_ ?_ <;> intro hb <;> simp only [walkS, wl, rgets, retv, argsEnv, ev, cst, cst1, cstL, AEnv.get, AEnv.trim, envput, qstep, abin, aun, evs, evo, deref, qload, target, if_true, if_false, Nat.reduceEqDiff, reduceIte, Nat.reduceAdd, AV.cells, AV.isTuple, setMany, alen, aiaddr, afill, Nat.reduceLeDiff, Nat.reduceMul, Nat.reduceLT, afillE, List.replicate]
          · have hlt : k < ds.length := by simpa using hb
            simp only [walkS, wl, rgets, retv, argsEnv, ev, cst, cst1, cstL, AEnv.get, AEnv.trim, envput, qstep, abin, aun, evs, evo, deref, qload, target, if_true, if_false, Nat.reduceEqDiff, reduceIte, Nat.reduceAdd, AV.cells, AV.isTuple, setMany, alen, aiaddr, afill, Nat.reduceLeDiff, Nat.reduceMul, Nat.reduceLT, afillE, List.replicate, rows_get hlt, dc, sstep_store]
            have no : ¬ (((0 ≤ ds[k].1 ∧ ds[k].1 < xs.length) ∧ (0 ≤ ds[k].2.1 ∧ ds[k].2.1 < xs.length)) ∧ at0 xs ds[k].2.1 - at0 xs ds[k].1 ≤ ds[k].2.2) → fulf n ds xs = false := fun hf => fulf_not fun h => hf (h.2.2.2 _ (List.getElem_mem hlt))
            have yes : ((0 ≤ ds[k].1 ∧ ds[k].1 < xs.length) ∧ (0 ≤ ds[k].2.1 ∧ ds[k].2.1 < xs.length)) ∧ at0 xs ds[k].2.1 - at0 xs ds[k].1 ≤ ds[k].2.2 → ∀ d, d ∈ ds.take (k + 1) → ((0 ≤ d.1 ∧ d.1 < xs.length) ∧ (0 ≤ d.2.1 ∧ d.2.1 < xs.length)) ∧ at0 xs d.2.1 - at0 xs d.1 ≤ d.2.2 := fun hy d hdm => by
              rw [List.take_succ_eq_append_getElem hlt] at hdm
              rcases List.mem_append.1 hdm with h | h
              · exact hin d h
              · rw [List.mem_singleton.1 h]; exact hy
            generalize ds[k] = d at no yes ⊢
            by_cases a1 : d.1 < 0
            · simp only [walkS, wl, rgets, retv, argsEnv, ev, cst, cst1, cstL, AEnv.get, AEnv.trim, envput, qstep, abin, aun, evs, evo, deref, qload, target, if_true, if_false, Nat.reduceEqDiff, reduceIte, Nat.reduceAdd, AV.cells, AV.isTuple, setMany, alen, aiaddr, afill, Nat.reduceLeDiff, Nat.reduceMul, Nat.reduceLT, afillE, List.replicate, decide_eq_true a1, ic_length]
              rw [no (by omega)]; exact out_bool
            · by_cases a2 : d.1 ≥ xs.length
              · simp only [walkS, wl, rgets, retv, argsEnv, ev, cst, cst1, cstL, AEnv.get, AEnv.trim, envput, qstep, abin, aun, evs, evo, deref, qload, target, if_true, if_false, Nat.reduceEqDiff, reduceIte, Nat.reduceAdd, AV.cells, AV.isTuple, setMany, alen, aiaddr, afill, Nat.reduceLeDiff, Nat.reduceMul, Nat.reduceLT, afillE, List.replicate, decide_eq_false a1, decide_eq_true a2, ic_length]
                rw [no (by omega)]; exact out_bool
              · by_cases a3 : d.2.1 < 0
                · simp only [walkS, wl, rgets, retv, argsEnv, ev, cst, cst1, cstL, AEnv.get, AEnv.trim, envput, qstep, abin, aun, evs, evo, deref, qload, target, if_true, if_false, Nat.reduceEqDiff, reduceIte, Nat.reduceAdd, AV.cells, AV.isTuple, setMany, alen, aiaddr, afill, Nat.reduceLeDiff, Nat.reduceMul, Nat.reduceLT, afillE, List.replicate, decide_eq_false a1, decide_eq_false a2, decide_eq_true a3, ic_length]
                  rw [no (by omega)]; exact out_bool
                · by_cases a4 : d.2.1 ≥ xs.length
                  · simp only [walkS, wl, rgets, retv, argsEnv, ev, cst, cst1, cstL, AEnv.get, AEnv.trim, envput, qstep, abin, aun, evs, evo, deref, qload, target, if_true, if_false, Nat.reduceEqDiff, reduceIte, Nat.reduceAdd, AV.cells, AV.isTuple, setMany, alen, aiaddr, afill, Nat.reduceLeDiff, Nat.reduceMul, Nat.reduceLT, afillE, List.replicate, decide_eq_false a1, decide_eq_false a2, decide_eq_false a3, decide_eq_true a4, ic_length]
                    rw [no (by omega)]; exact out_bool
                  · have f1 := at_far (i := d.1) hfar
                    have f2 := at_far (i := d.2.1) hfar
                    simp only [walkS, wl, rgets, retv, argsEnv, ev, cst, cst1, cstL, AEnv.get, AEnv.trim, envput, qstep, abin, aun, evs, evo, deref, qload, target, if_true, if_false, Nat.reduceEqDiff, reduceIte, Nat.reduceAdd, AV.cells, AV.isTuple, setMany, alen, aiaddr, afill, Nat.reduceLeDiff, Nat.reduceMul, Nat.reduceLT, afillE, List.replicate, decide_eq_false a1, decide_eq_false a2, decide_eq_false a3, decide_eq_false a4, ic_length, if_pos (show 0 ≤ d.1 by omega), if_pos (show 0 ≤ d.2.1 by omega), at_get (xs := xs) (show 0 ≤ d.1 by omega) (show d.1 < xs.length by omega), at_get (xs := xs) (show 0 ≤ d.2.1 by omega) (show d.2.1 < xs.length by omega)]
                    rw [wrap_id (by omega) (by omega)]
                    refine withBool_intro ?_ ?_ <;> intro h6 <;> simp only [walkS, wl, rgets, retv, argsEnv, ev, cst, cst1, cstL, AEnv.get, AEnv.trim, envput, qstep, abin, aun, evs, evo, deref, qload, target, if_true, if_false, Nat.reduceEqDiff, reduceIte, Nat.reduceAdd, AV.cells, AV.isTuple, setMany, alen, aiaddr, afill, Nat.reduceLeDiff, Nat.reduceMul, Nat.reduceLT, afillE, List.replicate]
                    · have : ¬ at0 xs d.2.1 - at0 xs d.1 ≤ d.2.2 := by simp at h6; omega
                      rw [no (fun h => this h.2)]; exact out_bool
                    · rw [wrap_id (by omega) (by omega)]
                      exact loop_end (k + 1) ⟨hlt, yes (by simp at h6; omega)⟩ (by omega) rfl trivial
          · have hk' : k = ds.length := by simp at hb; omega
            subst hk'
            rw [List.take_length] at hin
            rw [fulf_iff.2 ⟨⟨h1, hp⟩, h3', hfar, hin⟩]; exact out_bool
  · have e1 : ((xs.length : Int) != n) = true := by simp [h1]
    simp only [walkS, wl, rgets, retv, argsEnv, ev, cst, cst1, cstL, AEnv.get, AEnv.trim, envput, qstep, abin, aun, evs, evo, deref, qload, target, if_true, if_false, Nat.reduceEqDiff, reduceIte, Nat.reduceAdd, AV.cells, AV.isTuple, setMany, alen, aiaddr, afill, Nat.reduceLeDiff, Nat.reduceMul, Nat.reduceLT, afillE, List.replicate, ic_length, e1]
    rw [fulf_not (fun h => h1 h.1.1)]; exact out_bool
end Go.Proofs.Ytepnijjgdhldeaa
