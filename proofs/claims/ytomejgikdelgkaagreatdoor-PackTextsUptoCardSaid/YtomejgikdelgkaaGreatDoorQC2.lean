/- Contracts: what both packages say of packs and steps. -/
import Derived.Test.YtomejgikdelgkaaGreatDoorQC1
set_option linter.unusedVariables false
set_option linter.unusedSimpArgs false
set_option linter.unusedSectionVars false
namespace Go.Proofs.YtomejgikdelgkaaGreatDoor
open Go.Awp Go.Snow
set_option linter.unusedSimpArgs false
set_option linter.unusedVariables false
set_option linter.unusedSectionVars false
set_option maxRecDepth 10000
theorem water_app (a b : List Lay) : water (a ++ b) = water a + water b := by
  induction a with
  | nil => simp [water]
  | cons x r ih => simp only [List.cons_append, water, ih]; omega
theorem cold_app (a b : List Lay) : cold (a ++ b) = cold a + cold b := by
  induction a with
  | nil => simp [cold]
  | cons x r ih => simp only [List.cons_append, cold, ih]; omega
theorem water_take {ls : List Lay} {k : Nat} (h : k < ls.length) : water (ls.take (k + 1)) = water (ls.take k) + (ls[k].1 + ls[k].2.1) := by
  rw [List.take_succ_eq_append_getElem h, water_app]; simp [water]
theorem cold_take {ls : List Lay} {k : Nat} (h : k < ls.length) : cold (ls.take (k + 1)) = cold (ls.take k) + ls[k].2.2 := by
  rw [List.take_succ_eq_append_getElem h, cold_app]; simp [cold]
/-- Layers whose sums are far from the ends of the integers. -/
def Calm (ls : List Lay) : Prop := ls.length ≤ 128 ∧ ∀ l, l ∈ ls → -1000000000 ≤ l.1 ∧ l.1 ≤ 1000000000 ∧ -1000000000 ≤ l.2.1 ∧ l.2.1 ≤ 1000000000 ∧ -1000000000 ≤ l.2.2 ∧ l.2.2 ≤ 1000000000
theorem Calm.take {ls : List Lay} (h : Calm ls) : ∀ k, k ≤ ls.length → (-2000000000 * k ≤ water (ls.take k) ∧ water (ls.take k) ≤ 2000000000 * k) ∧ (-1000000000 * k ≤ cold (ls.take k) ∧ cold (ls.take k) ≤ 1000000000 * k)
  | 0, _ => by simp [water, cold]
  | k + 1, hk => by
    have := h.take k (by omega)
    have := h.2 ls[k] (List.getElem_mem _)
    rw [water_take (by omega), cold_take (by omega)]
    omega
theorem calm_of_right {ls : List Lay} (h1 : ls.length ≤ 64) (h2 : ∀ l, l ∈ ls → right l = true) : Calm ls :=
  ⟨by omega, fun l hl => by have := right_iff.1 (h2 l hl); omega⟩
theorem sums_ok {ls : List Lay} (h : Calm ls) : PCall Tryz.prog 35 [.ro false (rows ls)] (.tuple [I (water ls), I (cold ls)]) := by
  have hlen := h.1
  refine PCall.intro text35 (by simp) ?_
  unfold ir35
  simp only [walk, wl, rgets, retv, argsEnv, ev, cst, cst1, cstL, AEnv.get, AEnv.trim, envput, qstep, abin, aun, evs, evo, deref, qload, target, if_true, if_false, Nat.reduceEqDiff, reduceIte, Nat.reduceAdd, AV.cells, AV.isTuple, setMany, alen, aiaddr, afill, Nat.reduceLeDiff, Nat.reduceMul, Nat.reduceLT, afillE, List.replicate, rows_length]
  refine awp_loop (σ := Nat) (fun k => [(2, I (water (ls.take k))), (3, I (cold (ls.take k))), (6, .ro false (rows ls)), (7, I ls.length), (8, I k)]) (fun _ _ => True) (fun k => k ≤ ls.length) (fun k => ls.length - k) 0 (Nat.zero_le _) rfl trivial ?_
  rintro k H hk -
  simp only [walk, wl, rgets, retv, argsEnv, ev, cst, cst1, cstL, AEnv.get, AEnv.trim, envput, qstep, abin, aun, evs, evo, deref, qload, target, if_true, if_false, Nat.reduceEqDiff, reduceIte, Nat.reduceAdd, AV.cells, AV.isTuple, setMany, alen, aiaddr, afill, Nat.reduceLeDiff, Nat.reduceMul, Nat.reduceLT, afillE, List.replicate]
  refine withBool_intro ?_ ?_ <;> intro hb <;> simp only [walk, wl, rgets, retv, argsEnv, ev, cst, cst1, cstL, AEnv.get, AEnv.trim, envput, qstep, abin, aun, evs, evo, deref, qload, target, if_true, if_false, Nat.reduceEqDiff, reduceIte, Nat.reduceAdd, AV.cells, AV.isTuple, setMany, alen, aiaddr, afill, Nat.reduceLeDiff, Nat.reduceMul, Nat.reduceLT, afillE, List.replicate]
  · have hlt : k < ls.length := by simpa using hb
    have h1 := h.take k hk
    have h2 := h.take (k + 1) hlt
    rw [water_take hlt, cold_take hlt] at h2
    have h3 := h.2 ls[k] (List.getElem_mem _)
    simp only [walk, wl, rgets, retv, argsEnv, ev, cst, cst1, cstL, AEnv.get, AEnv.trim, envput, qstep, abin, aun, evs, evo, deref, qload, target, if_true, if_false, Nat.reduceEqDiff, reduceIte, Nat.reduceAdd, AV.cells, AV.isTuple, setMany, alen, aiaddr, afill, Nat.reduceLeDiff, Nat.reduceMul, Nat.reduceLT, afillE, List.replicate, rows_get hlt]
    rw [wrap_id (x := ls[k].1 + ls[k].2.1) (by omega) (by omega), wrap_id (x := water (ls.take k) + _) (by omega) (by omega), wrap_id (x := cold (ls.take k) + _) (by omega) (by omega), wrap_id (x := (k : Int) + 1) (by omega) (by omega), ← water_take hlt, ← cold_take hlt]
    refine loop_end (k + 1) hlt (by omega) rfl trivial
  · have hk' : k = ls.length := by simp at hb; omega
    subst hk'
    rw [List.take_length]
    exact out_two out_int out_int
theorem rwater_ok {ls : List Lay} (h : Calm ls) : PCall Tryz.prog 57 [.ro false (rows ls)] (I (water ls)) := by
  have hlen := h.1
  refine PCall.intro text57 (by simp) ?_
  unfold ir57
  simp only [walk, wl, rgets, retv, argsEnv, ev, cst, cst1, cstL, AEnv.get, AEnv.trim, envput, qstep, abin, aun, evs, evo, deref, qload, target, if_true, if_false, Nat.reduceEqDiff, reduceIte, Nat.reduceAdd, AV.cells, AV.isTuple, setMany, alen, aiaddr, afill, Nat.reduceLeDiff, Nat.reduceMul, Nat.reduceLT, afillE, List.replicate]
  refine awp_loop (σ := Nat) (fun k => [(0, .ro false (rows ls)), (3, I (water (ls.take k))), (4, I k)]) (fun _ _ => True) (fun k => k ≤ ls.length) (fun k => ls.length - k) 0 (Nat.zero_le _) rfl trivial ?_
  rintro k H hk -
  simp only [walk, wl, rgets, retv, argsEnv, ev, cst, cst1, cstL, AEnv.get, AEnv.trim, envput, qstep, abin, aun, evs, evo, deref, qload, target, if_true, if_false, Nat.reduceEqDiff, reduceIte, Nat.reduceAdd, AV.cells, AV.isTuple, setMany, alen, aiaddr, afill, Nat.reduceLeDiff, Nat.reduceMul, Nat.reduceLT, afillE, List.replicate, rows_length]
  refine withBool_intro ?_ ?_ <;> intro hb <;> simp only [walk, wl, rgets, retv, argsEnv, ev, cst, cst1, cstL, AEnv.get, AEnv.trim, envput, qstep, abin, aun, evs, evo, deref, qload, target, if_true, if_false, Nat.reduceEqDiff, reduceIte, Nat.reduceAdd, AV.cells, AV.isTuple, setMany, alen, aiaddr, afill, Nat.reduceLeDiff, Nat.reduceMul, Nat.reduceLT, afillE, List.replicate]
  · have hlt : k < ls.length := by simpa using hb
    have h1 := h.take k hk
    have h2 := h.take (k + 1) hlt
    rw [water_take hlt, cold_take hlt] at h2
    have h3 := h.2 ls[k] (List.getElem_mem _)
    simp only [walk, wl, rgets, retv, argsEnv, ev, cst, cst1, cstL, AEnv.get, AEnv.trim, envput, qstep, abin, aun, evs, evo, deref, qload, target, if_true, if_false, Nat.reduceEqDiff, reduceIte, Nat.reduceAdd, AV.cells, AV.isTuple, setMany, alen, aiaddr, afill, Nat.reduceLeDiff, Nat.reduceMul, Nat.reduceLT, afillE, List.replicate, rows_get hlt]
    rw [wrap_id (x := water (ls.take k) + ls[k].1) (by omega) (by omega), wrap_id (x := water (ls.take k) + ls[k].1 + _) (by omega) (by omega), wrap_id (x := (k : Int) + 1) (by omega) (by omega), Int.add_assoc, ← water_take hlt]
    refine loop_end (k + 1) hlt (by omega) rfl trivial
  · have hk' : k = ls.length := by simp at hb; omega
    subst hk'
    rw [List.take_length]
    exact out_int
theorem rcold_ok {ls : List Lay} (h : Calm ls) : PCall Tryz.prog 58 [.ro false (rows ls)] (I (cold ls)) := by
  have hlen := h.1
  refine PCall.intro text58 (by simp) ?_
  unfold ir58
  simp only [walk, wl, rgets, retv, argsEnv, ev, cst, cst1, cstL, AEnv.get, AEnv.trim, envput, qstep, abin, aun, evs, evo, deref, qload, target, if_true, if_false, Nat.reduceEqDiff, reduceIte, Nat.reduceAdd, AV.cells, AV.isTuple, setMany, alen, aiaddr, afill, Nat.reduceLeDiff, Nat.reduceMul, Nat.reduceLT, afillE, List.replicate]
  refine awp_loop (σ := Nat) (fun k => [(0, .ro false (rows ls)), (3, I (cold (ls.take k))), (4, I k)]) (fun _ _ => True) (fun k => k ≤ ls.length) (fun k => ls.length - k) 0 (Nat.zero_le _) rfl trivial ?_
  rintro k H hk -
  simp only [walk, wl, rgets, retv, argsEnv, ev, cst, cst1, cstL, AEnv.get, AEnv.trim, envput, qstep, abin, aun, evs, evo, deref, qload, target, if_true, if_false, Nat.reduceEqDiff, reduceIte, Nat.reduceAdd, AV.cells, AV.isTuple, setMany, alen, aiaddr, afill, Nat.reduceLeDiff, Nat.reduceMul, Nat.reduceLT, afillE, List.replicate, rows_length]
  refine withBool_intro ?_ ?_ <;> intro hb <;> simp only [walk, wl, rgets, retv, argsEnv, ev, cst, cst1, cstL, AEnv.get, AEnv.trim, envput, qstep, abin, aun, evs, evo, deref, qload, target, if_true, if_false, Nat.reduceEqDiff, reduceIte, Nat.reduceAdd, AV.cells, AV.isTuple, setMany, alen, aiaddr, afill, Nat.reduceLeDiff, Nat.reduceMul, Nat.reduceLT, afillE, List.replicate]
  · have hlt : k < ls.length := by simpa using hb
    have h1 := h.take k hk
    have h2 := h.take (k + 1) hlt
    rw [water_take hlt, cold_take hlt] at h2
    have h3 := h.2 ls[k] (List.getElem_mem _)
    simp only [walk, wl, rgets, retv, argsEnv, ev, cst, cst1, cstL, AEnv.get, AEnv.trim, envput, qstep, abin, aun, evs, evo, deref, qload, target, if_true, if_false, Nat.reduceEqDiff, reduceIte, Nat.reduceAdd, AV.cells, AV.isTuple, setMany, alen, aiaddr, afill, Nat.reduceLeDiff, Nat.reduceMul, Nat.reduceLT, afillE, List.replicate, rows_get hlt]
    rw [wrap_id (x := cold (ls.take k) + _) (by omega) (by omega), wrap_id (x := (k : Int) + 1) (by omega) (by omega), ← cold_take hlt]
    refine loop_end (k + 1) hlt (by omega) rfl trivial
  · have hk' : k = ls.length := by simp at hb; omega
    subst hk'
    rw [List.take_length]
    exact out_int
def chk (ls : List Lay) : Int := if okP ls then 0 else 20
theorem chk_not {ls : List Lay} (h : ¬ (ls.length ≤ 64 ∧ (∀ l, l ∈ ls → right l = true) ∧ water ls ≤ 65536 ∧ cold ls ≤ 65536)) : chk ls = 20 := by
  unfold chk
  rw [if_neg]
  rwa [okP_iff]
theorem chk_yes {ls : List Lay} (h : ls.length ≤ 64 ∧ (∀ l, l ∈ ls → right l = true) ∧ water ls ≤ 65536 ∧ cold ls ≤ 65536) : chk ls = 0 := by
  unfold chk
  rw [if_pos (okP_iff.2 h)]
theorem car_pk {b : Bool} {H : AHeap} {d : Nat} {ls : List Lay} : carry false H (d + 3) (.agg [.ro b (rows ls)]) = some (.agg [.ro false (rows ls)]) :=
  car_agg (carL_cons (car_ro (rows_simple ls) (.inl rfl)) rfl)
theorem Check_ok (ls : List Lay) : PCall Tryz.prog 32 [.agg [.ro false (rows ls)]] (I (chk ls)) := by
  refine PCall.intro text32 (by simp) ?_
  unfold ir32
  simp only [walk, wl, rgets, retv, argsEnv, ev, cst, cst1, cstL, AEnv.get, AEnv.trim, envput, qstep, abin, aun, evs, evo, deref, qload, target, if_true, if_false, Nat.reduceEqDiff, reduceIte, Nat.reduceAdd, AV.cells, AV.isTuple, setMany, alen, aiaddr, afill, Nat.reduceLeDiff, Nat.reduceMul, Nat.reduceLT, afillE, List.replicate, rows_length]
  refine withBool_intro ?_ ?_ <;> intro h2 <;> simp only [walk, wl, rgets, retv, argsEnv, ev, cst, cst1, cstL, AEnv.get, AEnv.trim, envput, qstep, abin, aun, evs, evo, deref, qload, target, if_true, if_false, Nat.reduceEqDiff, reduceIte, Nat.reduceAdd, AV.cells, AV.isTuple, setMany, alen, aiaddr, afill, Nat.reduceLeDiff, Nat.reduceMul, Nat.reduceLT, afillE, List.replicate]
  · rw [chk_not fun h => by simp at h2; omega]; exact out_int
  · have hlen : ls.length ≤ 64 := by simp at h2; omega
    simp only [walk, wl, rgets, retv, argsEnv, ev, cst, cst1, cstL, AEnv.get, AEnv.trim, envput, qstep, abin, aun, evs, evo, deref, qload, target, if_true, if_false, Nat.reduceEqDiff, reduceIte, Nat.reduceAdd, AV.cells, AV.isTuple, setMany, alen, aiaddr, afill, Nat.reduceLeDiff, Nat.reduceMul, Nat.reduceLT, afillE, List.replicate, rows_length]
    refine awp_loop (σ := Nat) (fun k => [(1, .ptr 0 1 0 0), (12, .ro false (rows ls)), (13, I ls.length), (14, I k)]) (fun _ H => ∃ X, H = some ⟨26, 1, [[.ro false (rows ls)]]⟩ :: X) (fun k => k ≤ ls.length ∧ (ls.take k).all right = true) (fun k => ls.length - k) 0 ⟨Nat.zero_le _, rfl⟩ rfl ⟨[], rfl⟩ ?_
    rintro k H ⟨hk, hall⟩ ⟨X, rfl⟩
    simp only [walk, wl, rgets, retv, argsEnv, ev, cst, cst1, cstL, AEnv.get, AEnv.trim, envput, qstep, abin, aun, evs, evo, deref, qload, target, if_true, if_false, Nat.reduceEqDiff, reduceIte, Nat.reduceAdd, AV.cells, AV.isTuple, setMany, alen, aiaddr, afill, Nat.reduceLeDiff, Nat.reduceMul, Nat.reduceLT, afillE, List.replicate]
    refine withBool_intro ?_ ?_ <;> intro hb <;> simp only [walk, wl, rgets, retv, argsEnv, ev, cst, cst1, cstL, AEnv.get, AEnv.trim, envput, qstep, abin, aun, evs, evo, deref, qload, target, if_true, if_false, Nat.reduceEqDiff, reduceIte, Nat.reduceAdd, AV.cells, AV.isTuple, setMany, alen, aiaddr, afill, Nat.reduceLeDiff, Nat.reduceMul, Nat.reduceLT, afillE, List.replicate]
    · have hlt : k < ls.length := by simpa using hb
      simp only [walk, wl, rgets, retv, argsEnv, ev, cst, cst1, cstL, AEnv.get, AEnv.trim, envput, qstep, abin, aun, evs, evo, deref, qload, target, if_true, if_false, Nat.reduceEqDiff, reduceIte, Nat.reduceAdd, AV.cells, AV.isTuple, setMany, alen, aiaddr, afill, Nat.reduceLeDiff, Nat.reduceMul, Nat.reduceLT, afillE, List.replicate, rows_get hlt]
      refine call_pure (right_ok ls[k]) (frzL_of' (d := 4) rfl) ?_
      simp only [walk, wl, rgets, retv, argsEnv, ev, cst, cst1, cstL, AEnv.get, AEnv.trim, envput, qstep, abin, aun, evs, evo, deref, qload, target, if_true, if_false, Nat.reduceEqDiff, reduceIte, Nat.reduceAdd, AV.cells, AV.isTuple, setMany, alen, aiaddr, afill, Nat.reduceLeDiff, Nat.reduceMul, Nat.reduceLT, afillE, List.replicate]
      refine withBool_intro ?_ ?_ <;> intro hr <;> simp only [walk, wl, rgets, retv, argsEnv, ev, cst, cst1, cstL, AEnv.get, AEnv.trim, envput, qstep, abin, aun, evs, evo, deref, qload, target, if_true, if_false, Nat.reduceEqDiff, reduceIte, Nat.reduceAdd, AV.cells, AV.isTuple, setMany, alen, aiaddr, afill, Nat.reduceLeDiff, Nat.reduceMul, Nat.reduceLT, afillE, List.replicate]
      · rw [chk_not fun h => by
          have := h.2.1 ls[k] (List.getElem_mem hlt)
          rw [this] at hr; cases hr]
        exact out_int
      · have hr' : right ls[k] = true := by simpa using hr
        rw [wrap_id (by omega) (by omega)]
        refine loop_end (k + 1) ⟨hlt, all_take hall hlt hr'⟩ (by omega) rfl ⟨_, rfl⟩
    · have hk' : k = ls.length := by simp at hb; omega
      subst hk'
      rw [List.take_length] at hall
      have hR : ∀ l, l ∈ ls → right l = true := by simpa using hall
      refine call_pure (sums_ok (calm_of_right hlen hR)) (frzL_of' (d := 4) (carL_cons (car_ro_false (rows_simple ls)) rfl)) ?_
      simp only [walk, wl, rgets, retv, argsEnv, ev, cst, cst1, cstL, AEnv.get, AEnv.trim, envput, qstep, abin, aun, evs, evo, deref, qload, target, if_true, if_false, Nat.reduceEqDiff, reduceIte, Nat.reduceAdd, AV.cells, AV.isTuple, setMany, alen, aiaddr, afill, Nat.reduceLeDiff, Nat.reduceMul, Nat.reduceLT, afillE, List.replicate]
      refine withGuard_intro ?_ ?_ <;> intro h3 <;> simp only [walk, wl, rgets, retv, argsEnv, ev, cst, cst1, cstL, AEnv.get, AEnv.trim, envput, qstep, abin, aun, evs, evo, deref, qload, target, if_true, if_false, Nat.reduceEqDiff, reduceIte, Nat.reduceAdd, AV.cells, AV.isTuple, setMany, alen, aiaddr, afill, Nat.reduceLeDiff, Nat.reduceMul, Nat.reduceLT, afillE, List.replicate, h3]
      · refine withBool_intro ?_ ?_ <;> intro h4 <;> simp only [walk, wl, rgets, retv, argsEnv, ev, cst, cst1, cstL, AEnv.get, AEnv.trim, envput, qstep, abin, aun, evs, evo, deref, qload, target, if_true, if_false, Nat.reduceEqDiff, reduceIte, Nat.reduceAdd, AV.cells, AV.isTuple, setMany, alen, aiaddr, afill, Nat.reduceLeDiff, Nat.reduceMul, Nat.reduceLT, afillE, List.replicate]
        · rw [chk_not fun h => by simp at h4; omega]; exact out_int
        · rw [chk_yes ⟨hlen, hR, by simp at h3; omega, by simp at h4; omega⟩]; exact out_int
      · rw [chk_not fun h => by simp at h3; omega]; exact out_int
theorem rCheck_ok (ls : List Lay) : PCall Tryz.prog 34 [.agg [.ro false (rows ls)]] (I (chk ls)) := by
  refine PCall.intro text34 (by simp) ?_
  unfold ir34
  simp only [walk, wl, rgets, retv, argsEnv, ev, cst, cst1, cstL, AEnv.get, AEnv.trim, envput, qstep, abin, aun, evs, evo, deref, qload, target, if_true, if_false, Nat.reduceEqDiff, reduceIte, Nat.reduceAdd, AV.cells, AV.isTuple, setMany, alen, aiaddr, afill, Nat.reduceLeDiff, Nat.reduceMul, Nat.reduceLT, afillE, List.replicate, rows_length]
  refine withBool_intro ?_ ?_ <;> intro h2 <;> simp only [walk, wl, rgets, retv, argsEnv, ev, cst, cst1, cstL, AEnv.get, AEnv.trim, envput, qstep, abin, aun, evs, evo, deref, qload, target, if_true, if_false, Nat.reduceEqDiff, reduceIte, Nat.reduceAdd, AV.cells, AV.isTuple, setMany, alen, aiaddr, afill, Nat.reduceLeDiff, Nat.reduceMul, Nat.reduceLT, afillE, List.replicate]
  · rw [chk_not fun h => by simp at h2; omega]; exact out_int
  · have hlen : ls.length ≤ 64 := by simp at h2; omega
    refine awp_loop (σ := Nat) (fun k => [(1, .ptr 0 1 0 0), (3, I k)]) (fun _ H => ∃ X, H = some ⟨26, 1, [[.ro false (rows ls)]]⟩ :: X) (fun k => k ≤ ls.length ∧ (ls.take k).all right = true) (fun k => ls.length - k) 0 ⟨Nat.zero_le _, rfl⟩ rfl ⟨[], rfl⟩ ?_
    rintro k H ⟨hk, hall⟩ ⟨X, rfl⟩
    simp only [walk, wl, rgets, retv, argsEnv, ev, cst, cst1, cstL, AEnv.get, AEnv.trim, envput, qstep, abin, aun, evs, evo, deref, qload, target, if_true, if_false, Nat.reduceEqDiff, reduceIte, Nat.reduceAdd, AV.cells, AV.isTuple, setMany, alen, aiaddr, afill, Nat.reduceLeDiff, Nat.reduceMul, Nat.reduceLT, afillE, List.replicate, rows_length]
    refine withBool_intro ?_ ?_ <;> intro hb <;> simp only [walk, wl, rgets, retv, argsEnv, ev, cst, cst1, cstL, AEnv.get, AEnv.trim, envput, qstep, abin, aun, evs, evo, deref, qload, target, if_true, if_false, Nat.reduceEqDiff, reduceIte, Nat.reduceAdd, AV.cells, AV.isTuple, setMany, alen, aiaddr, afill, Nat.reduceLeDiff, Nat.reduceMul, Nat.reduceLT, afillE, List.replicate]
    · have hlt : k < ls.length := by simpa using hb
      simp only [walk, wl, rgets, retv, argsEnv, ev, cst, cst1, cstL, AEnv.get, AEnv.trim, envput, qstep, abin, aun, evs, evo, deref, qload, target, if_true, if_false, Nat.reduceEqDiff, reduceIte, Nat.reduceAdd, AV.cells, AV.isTuple, setMany, alen, aiaddr, afill, Nat.reduceLeDiff, Nat.reduceMul, Nat.reduceLT, afillE, List.replicate, rows_get hlt]
      refine call_pure (layer_ok ls[k]) (frzL_of' (d := 4) rfl) ?_
      simp only [walk, wl, rgets, retv, argsEnv, ev, cst, cst1, cstL, AEnv.get, AEnv.trim, envput, qstep, abin, aun, evs, evo, deref, qload, target, if_true, if_false, Nat.reduceEqDiff, reduceIte, Nat.reduceAdd, AV.cells, AV.isTuple, setMany, alen, aiaddr, afill, Nat.reduceLeDiff, Nat.reduceMul, Nat.reduceLT, afillE, List.replicate]
      refine withBool_intro ?_ ?_ <;> intro hr <;> simp only [walk, wl, rgets, retv, argsEnv, ev, cst, cst1, cstL, AEnv.get, AEnv.trim, envput, qstep, abin, aun, evs, evo, deref, qload, target, if_true, if_false, Nat.reduceEqDiff, reduceIte, Nat.reduceAdd, AV.cells, AV.isTuple, setMany, alen, aiaddr, afill, Nat.reduceLeDiff, Nat.reduceMul, Nat.reduceLT, afillE, List.replicate]
      · rw [chk_not fun h => by
          have := h.2.1 ls[k] (List.getElem_mem hlt)
          rw [this] at hr; cases hr]
        exact out_int
      · have hr' : right ls[k] = true := by simpa using hr
        rw [wrap_id (by omega) (by omega)]
        refine loop_end (k + 1) ⟨hlt, all_take hall hlt hr'⟩ (by omega) rfl ⟨_, rfl⟩
    · have hk' : k = ls.length := by simp at hb; omega
      subst hk'
      rw [List.take_length] at hall
      have hR : ∀ l, l ∈ ls → right l = true := by simpa using hall
      have hC := calm_of_right hlen hR
      refine call_pure (rwater_ok hC) (frzL_of' (d := 4) (carL_cons (car_ro_false (rows_simple ls)) rfl)) ?_
      simp only [walk, wl, rgets, retv, argsEnv, ev, cst, cst1, cstL, AEnv.get, AEnv.trim, envput, qstep, abin, aun, evs, evo, deref, qload, target, if_true, if_false, Nat.reduceEqDiff, reduceIte, Nat.reduceAdd, AV.cells, AV.isTuple, setMany, alen, aiaddr, afill, Nat.reduceLeDiff, Nat.reduceMul, Nat.reduceLT, afillE, List.replicate]
      refine withGuard_intro ?_ ?_ <;> intro h3 <;> simp only [walk, wl, rgets, retv, argsEnv, ev, cst, cst1, cstL, AEnv.get, AEnv.trim, envput, qstep, abin, aun, evs, evo, deref, qload, target, if_true, if_false, Nat.reduceEqDiff, reduceIte, Nat.reduceAdd, AV.cells, AV.isTuple, setMany, alen, aiaddr, afill, Nat.reduceLeDiff, Nat.reduceMul, Nat.reduceLT, afillE, List.replicate, h3]
      · refine call_pure (rcold_ok hC) (frzL_of' (d := 4) (carL_cons (car_ro_false (rows_simple ls)) rfl)) ?_
        simp only [walk, wl, rgets, retv, argsEnv, ev, cst, cst1, cstL, AEnv.get, AEnv.trim, envput, qstep, abin, aun, evs, evo, deref, qload, target, if_true, if_false, Nat.reduceEqDiff, reduceIte, Nat.reduceAdd, AV.cells, AV.isTuple, setMany, alen, aiaddr, afill, Nat.reduceLeDiff, Nat.reduceMul, Nat.reduceLT, afillE, List.replicate]
        refine withBool_intro ?_ ?_ <;> intro h4 <;> simp only [walk, wl, rgets, retv, argsEnv, ev, cst, cst1, cstL, AEnv.get, AEnv.trim, envput, qstep, abin, aun, evs, evo, deref, qload, target, if_true, if_false, Nat.reduceEqDiff, reduceIte, Nat.reduceAdd, AV.cells, AV.isTuple, setMany, alen, aiaddr, afill, Nat.reduceLeDiff, Nat.reduceMul, Nat.reduceLT, afillE, List.replicate]
        · rw [chk_not fun h => by simp at h4; omega]; exact out_int
        · rw [chk_yes ⟨hlen, hR, by simp at h3; omega, by simp at h4; omega⟩]; exact out_int
      · rw [chk_not fun h => by simp at h3; omega]; exact out_int
theorem chk_zero {ls : List Lay} (h : chk ls = 0) : okP ls = true := by
  unfold chk at h
  split at h
  · assumption
  · cases h
theorem chk_ne {ls : List Lay} (h : ¬ chk ls = 0) : okP ls = false ∧ chk ls = 20 := by
  unfold chk at h ⊢
  split
  · rename_i h2; rw [if_pos h2] at h; exact absurd rfl h
  · rename_i h2; exact ⟨by simpa using h2, rfl⟩
theorem okP_calm {ls : List Lay} (h : okP ls = true) : Calm ls := calm_of_right (okP_iff.1 h).1 (okP_iff.1 h).2.1
theorem car_pkL {b : Bool} {H : AHeap} {d : Nat} {ls : List Lay} : carL (carry false H (d + 3)) [.agg [.ro b (rows ls)]] = some [.agg [.ro false (rows ls)]] := carL_cons car_pk rfl
theorem car_roL {b : Bool} {H : AHeap} {d : Nat} {ls : List Lay} : carL (carry false H (d + 2)) [.ro b (rows ls)] = some [.ro false (rows ls)] := carL_cons (car_ro_false (rows_simple ls)) rfl
def waterV (ls : List Lay) : Int × Int := if okP ls then (water ls, 0) else (0, 20)
def coldV (ls : List Lay) : Int × Int := if okP ls then (cold ls, 0) else (0, 20)
theorem Water_ok (ls : List Lay) : PCall Tryz.prog 16 [.agg [.ro false (rows ls)]] (.tuple [I (waterV ls).1, I (waterV ls).2]) := by
  refine PCall.intro text16 (by simp) ?_
  unfold ir16
  simp only [walk, wl, rgets, retv, argsEnv, ev, cst, cst1, cstL, AEnv.get, AEnv.trim, envput, qstep, abin, aun, evs, evo, deref, qload, target, if_true, if_false, Nat.reduceEqDiff, reduceIte, Nat.reduceAdd, AV.cells, AV.isTuple, setMany, alen, aiaddr, afill, Nat.reduceLeDiff, Nat.reduceMul, Nat.reduceLT, afillE, List.replicate]
  refine call_pure (Check_ok ls) (frzL_of' (d := 4) car_pkL) ?_
  simp only [walk, wl, rgets, retv, argsEnv, ev, cst, cst1, cstL, AEnv.get, AEnv.trim, envput, qstep, abin, aun, evs, evo, deref, qload, target, if_true, if_false, Nat.reduceEqDiff, reduceIte, Nat.reduceAdd, AV.cells, AV.isTuple, setMany, alen, aiaddr, afill, Nat.reduceLeDiff, Nat.reduceMul, Nat.reduceLT, afillE, List.replicate]
  refine withBool_intro ?_ ?_ <;> intro h <;> simp only [walk, wl, rgets, retv, argsEnv, ev, cst, cst1, cstL, AEnv.get, AEnv.trim, envput, qstep, abin, aun, evs, evo, deref, qload, target, if_true, if_false, Nat.reduceEqDiff, reduceIte, Nat.reduceAdd, AV.cells, AV.isTuple, setMany, alen, aiaddr, afill, Nat.reduceLeDiff, Nat.reduceMul, Nat.reduceLT, afillE, List.replicate]
  · obtain ⟨h1, h2⟩ := chk_ne (ls := ls) (by simpa using h)
    simp only [h2, waterV, h1, Bool.false_eq_true, if_false]; exact out_two out_int out_int
  · have h1 := chk_zero (ls := ls) (by simpa using h)
    refine call_pure (sums_ok (okP_calm h1)) (frzL_of' (d := 4) car_roL) ?_
    simp only [walk, wl, rgets, retv, argsEnv, ev, cst, cst1, cstL, AEnv.get, AEnv.trim, envput, qstep, abin, aun, evs, evo, deref, qload, target, if_true, if_false, Nat.reduceEqDiff, reduceIte, Nat.reduceAdd, AV.cells, AV.isTuple, setMany, alen, aiaddr, afill, Nat.reduceLeDiff, Nat.reduceMul, Nat.reduceLT, afillE, List.replicate]
    simp only [waterV, h1, if_true]; exact out_two out_int out_int
def holdV (l : Lay) : Int × Int := if right l then (l.1 / 20, 0) else (0, 1)
end Go.Proofs.YtomejgikdelgkaaGreatDoor
