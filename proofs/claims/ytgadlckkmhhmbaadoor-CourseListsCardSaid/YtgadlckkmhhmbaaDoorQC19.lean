/- Contracts: lists of sheets and of numbers. -/
import Derived.Test.YtgadlckkmhhmbaaDoorQC18
import Derived.Test.YtgadlckkmhhmbaaDoorQC13
set_option linter.unusedVariables false
set_option linter.unusedSimpArgs false
set_option linter.unusedSectionVars false
namespace Go.Proofs.YtgadlckkmhhmbaaDoor
open Go.Awp Go.Grams
set_option linter.unusedSimpArgs false
set_option linter.unusedVariables false
set_option linter.unusedSectionVars false
set_option maxRecDepth 10000
/-- Sheets, as the cells of a slice. -/
def srows (l : List Sht) : List (List AV) := l.map (shR false)
theorem srows_length (l : List Sht) : (srows l).length = l.length := List.length_map ..
theorem srows_get {l : List Sht} {k : Nat} (h : k < l.length) : (srows l)[k]? = some (shR false l[k]) := by simp [srows, h]
theorem carR_srows {H : AHeap} {d : Nat} : ∀ (l : List Sht), carR (carry false H (d + 3)) (srows l) = some (srows l)
  | [] => rfl
  | s :: r => by
    have h1 : carL (carry false H (d + 3)) (shR false s) = some (shR false s) := carL_cons car_int (carL_cons car_int (carL_cons car_int (carL_cons car_int (carL_cons car_int (carL_cons car_int (carL_cons car_int (carL_cons car_int (carL_cons (car_ro (krows_simple _) (.inl rfl)) rfl))))))))
    have h2 := carR_srows (H := H) (d := d) r
    simp only [srows, List.map_cons] at h2 ⊢
    simp only [carR, h1, h2]
theorem car_srows {b : Bool} {H : AHeap} {d : Nat} {l : List Sht} : carry false H (d + 4) (.ro b (srows l)) = some (.ro false (srows l)) := by
  rw [show carry false H (d + 4) (.ro b (srows l)) = (if false = false ∨ b = true ∨ srows l = [] then (match carR (carry false H (d + 3)) (srows l) with | some l' => some (.ro false l') | none => none) else none) from rfl, if_pos (.inl rfl), carR_srows]
def shsE (l : List Sht) : Int := if 256 < l.length then 2 else if l.all okSh = true then 0 else 12
theorem sheets_ok (l : List Sht) : PCall Tryd.prog 97 [.ro false (srows l)] (I (shsE l)) := by
  refine PCall.intro text97 (by simp) ?_
  unfold ir97
  simp only [walk, wl, rgets, retv, argsEnv, ev, cst, cst1, cstL, AEnv.get, AEnv.trim, envput, qstep, abin, aun, evs, evo, deref, qload, target, if_true, if_false, Nat.reduceEqDiff, reduceIte, Nat.reduceAdd, AV.cells, AV.isTuple, setMany, alen, aiaddr, afill, Nat.reduceLeDiff, Nat.reduceMul, Nat.reduceLT, afillE, List.replicate, srows_length]
  refine withBool_intro ?_ ?_ <;> intro h1 <;> simp only [walk, wl, rgets, retv, argsEnv, ev, cst, cst1, cstL, AEnv.get, AEnv.trim, envput, qstep, abin, aun, evs, evo, deref, qload, target, if_true, if_false, Nat.reduceEqDiff, reduceIte, Nat.reduceAdd, AV.cells, AV.isTuple, setMany, alen, aiaddr, afill, Nat.reduceLeDiff, Nat.reduceMul, Nat.reduceLT, afillE, List.replicate, srows_length]
  · have : shsE l = 2 := by unfold shsE; rw [if_pos (by simp at h1; omega)]
    rw [this]; exact out_int
  · have hl : l.length ≤ 256 := by simp at h1; omega
    refine awp_loop (σ := Nat) (fun k => [(8, .ro false (srows l)), (9, I l.length), (10, I k)]) (fun _ _ => True) (fun k => k ≤ l.length ∧ (l.take k).all okSh = true) (fun k => l.length - k) 0 ⟨Nat.zero_le _, rfl⟩ rfl trivial ?_
    rintro k H ⟨hk, hall⟩ -
    simp only [walkS, wl, rgets, retv, argsEnv, ev, cst, cst1, cstL, AEnv.get, AEnv.trim, envput, qstep, abin, aun, evs, evo, deref, qload, target, if_true, if_false, Nat.reduceEqDiff, reduceIte, Nat.reduceAdd, AV.cells, AV.isTuple, setMany, alen, aiaddr, afill, Nat.reduceLeDiff, Nat.reduceMul, Nat.reduceLT, afillE, List.replicate]
    refine withBool_intro ?_ ?_ <;> intro hb <;> simp only [walkS, wl, rgets, retv, argsEnv, ev, cst, cst1, cstL, AEnv.get, AEnv.trim, envput, qstep, abin, aun, evs, evo, deref, qload, target, if_true, if_false, Nat.reduceEqDiff, reduceIte, Nat.reduceAdd, AV.cells, AV.isTuple, setMany, alen, aiaddr, afill, Nat.reduceLeDiff, Nat.reduceMul, Nat.reduceLT, afillE, List.replicate]
    · have hlt : k < l.length := by simpa using hb
      have w1 := w_succ (k := k) (by omega)
      simp only [walkS, wl, rgets, retv, argsEnv, ev, cst, cst1, cstL, AEnv.get, AEnv.trim, envput, qstep, abin, aun, evs, evo, deref, qload, target, if_true, if_false, Nat.reduceEqDiff, reduceIte, Nat.reduceAdd, AV.cells, AV.isTuple, setMany, alen, aiaddr, afill, Nat.reduceLeDiff, Nat.reduceMul, Nat.reduceLT, afillE, List.replicate, srows_get hlt]
      refine storeR rfl rfl AHeap.obj_push_eq rfl ⟨rfl, rfl, rfl, by simp⟩ fun H1 y1 y2 y3 => ?_
      simp only [AV.cells, setMany, List.set_cons_zero, List.set_cons_succ] at y2
      simp only [walkS, wl, rgets, retv, argsEnv, ev, cst, cst1, cstL, AEnv.get, AEnv.trim, envput, qstep, abin, aun, evs, evo, deref, qload, target, if_true, if_false, Nat.reduceEqDiff, reduceIte, Nat.reduceAdd, AV.cells, AV.isTuple, setMany, alen, aiaddr, afill, Nat.reduceLeDiff, Nat.reduceMul, Nat.reduceLT, afillE, List.replicate, y2]
      refine call_pure (CheckSheet_ok l[k]) (frzL_of' (d := 4) (carL_cons car_sh rfl)) ?_
      simp only [walkS, wl, rgets, retv, argsEnv, ev, cst, cst1, cstL, AEnv.get, AEnv.trim, envput, qstep, abin, aun, evs, evo, deref, qload, target, if_true, if_false, Nat.reduceEqDiff, reduceIte, Nat.reduceAdd, AV.cells, AV.isTuple, setMany, alen, aiaddr, afill, Nat.reduceLeDiff, Nat.reduceMul, Nat.reduceLT, afillE, List.replicate]
      refine withBool_intro ?_ ?_ <;> intro hc <;> simp only [walkS, wl, rgets, retv, argsEnv, ev, cst, cst1, cstL, AEnv.get, AEnv.trim, envput, qstep, abin, aun, evs, evo, deref, qload, target, if_true, if_false, Nat.reduceEqDiff, reduceIte, Nat.reduceAdd, AV.cells, AV.isTuple, setMany, alen, aiaddr, afill, Nat.reduceLeDiff, Nat.reduceMul, Nat.reduceLT, afillE, List.replicate, w1]
      · have : shsE l = 12 := by
          unfold shsE; rw [if_neg (by omega), if_neg]
          intro h
          have := (List.all_eq_true.1 h) l[k] (List.getElem_mem hlt)
          rw [chkSh_t this] at hc; simp at hc
        rw [this]; exact out_int
      · exact loop_end (k + 1) ⟨hlt, all_take hall hlt (chkSh_zero (by simpa using hc))⟩ (by omega) rfl trivial
    · have hk' : k = l.length := by simp at hb; omega
      subst hk'
      rw [List.take_length] at hall
      have : shsE l = 0 := by unfold shsE; rw [if_neg (by omega), if_pos hall]
      rw [this]; exact out_int
theorem rsheets_ok (l : List Sht) : PCall Tryd.prog 101 [.ro false (srows l)] (I (shsE l)) := by
  refine PCall.intro text101 (by simp) ?_
  unfold ir101
  simp only [walk, wl, rgets, retv, argsEnv, ev, cst, cst1, cstL, AEnv.get, AEnv.trim, envput, qstep, abin, aun, evs, evo, deref, qload, target, if_true, if_false, Nat.reduceEqDiff, reduceIte, Nat.reduceAdd, AV.cells, AV.isTuple, setMany, alen, aiaddr, afill, Nat.reduceLeDiff, Nat.reduceMul, Nat.reduceLT, afillE, List.replicate, srows_length]
  refine withBool_intro ?_ ?_ <;> intro h1 <;> simp only [walk, wl, rgets, retv, argsEnv, ev, cst, cst1, cstL, AEnv.get, AEnv.trim, envput, qstep, abin, aun, evs, evo, deref, qload, target, if_true, if_false, Nat.reduceEqDiff, reduceIte, Nat.reduceAdd, AV.cells, AV.isTuple, setMany, alen, aiaddr, afill, Nat.reduceLeDiff, Nat.reduceMul, Nat.reduceLT, afillE, List.replicate, srows_length]
  · have : shsE l = 2 := by unfold shsE; rw [if_pos (by simp at h1; omega)]
    rw [this]; exact out_int
  · have hl : l.length ≤ 256 := by simp at h1; omega
    refine awp_loop (σ := Nat) (fun k => [(0, .ro false (srows l)), (3, I k)]) (fun _ _ => True) (fun k => k ≤ l.length ∧ (l.take k).all okSh = true) (fun k => l.length - k) 0 ⟨Nat.zero_le _, rfl⟩ rfl trivial ?_
    rintro k H ⟨hk, hall⟩ -
    simp only [walkS, wl, rgets, retv, argsEnv, ev, cst, cst1, cstL, AEnv.get, AEnv.trim, envput, qstep, abin, aun, evs, evo, deref, qload, target, if_true, if_false, Nat.reduceEqDiff, reduceIte, Nat.reduceAdd, AV.cells, AV.isTuple, setMany, alen, aiaddr, afill, Nat.reduceLeDiff, Nat.reduceMul, Nat.reduceLT, afillE, List.replicate, srows_length]
    refine withBool_intro ?_ ?_ <;> intro hb <;> simp only [walkS, wl, rgets, retv, argsEnv, ev, cst, cst1, cstL, AEnv.get, AEnv.trim, envput, qstep, abin, aun, evs, evo, deref, qload, target, if_true, if_false, Nat.reduceEqDiff, reduceIte, Nat.reduceAdd, AV.cells, AV.isTuple, setMany, alen, aiaddr, afill, Nat.reduceLeDiff, Nat.reduceMul, Nat.reduceLT, afillE, List.replicate]
    · have hlt : k < l.length := by simpa using hb
      have w1 := w_succ (k := k) (by omega)
      simp only [walkS, wl, rgets, retv, argsEnv, ev, cst, cst1, cstL, AEnv.get, AEnv.trim, envput, qstep, abin, aun, evs, evo, deref, qload, target, if_true, if_false, Nat.reduceEqDiff, reduceIte, Nat.reduceAdd, AV.cells, AV.isTuple, setMany, alen, aiaddr, afill, Nat.reduceLeDiff, Nat.reduceMul, Nat.reduceLT, afillE, List.replicate, srows_get hlt]
      refine call_pure (rCheckSheet_ok l[k]) (frzL_of' (d := 4) (carL_cons car_sh rfl)) ?_
      simp only [walkS, wl, rgets, retv, argsEnv, ev, cst, cst1, cstL, AEnv.get, AEnv.trim, envput, qstep, abin, aun, evs, evo, deref, qload, target, if_true, if_false, Nat.reduceEqDiff, reduceIte, Nat.reduceAdd, AV.cells, AV.isTuple, setMany, alen, aiaddr, afill, Nat.reduceLeDiff, Nat.reduceMul, Nat.reduceLT, afillE, List.replicate]
      refine withBool_intro ?_ ?_ <;> intro hc <;> simp only [walkS, wl, rgets, retv, argsEnv, ev, cst, cst1, cstL, AEnv.get, AEnv.trim, envput, qstep, abin, aun, evs, evo, deref, qload, target, if_true, if_false, Nat.reduceEqDiff, reduceIte, Nat.reduceAdd, AV.cells, AV.isTuple, setMany, alen, aiaddr, afill, Nat.reduceLeDiff, Nat.reduceMul, Nat.reduceLT, afillE, List.replicate, w1]
      · have hn : ¬ okSh l[k] = true := fun h => by rw [chkSh_t h] at hc; simp at hc
        have : shsE l = 12 := by
          unfold shsE; rw [if_neg (by omega), if_neg]
          exact fun h => hn ((List.all_eq_true.1 h) l[k] (List.getElem_mem hlt))
        rw [this, chkSh_f hn]; exact out_int
      · exact loop_end (k + 1) ⟨hlt, all_take hall hlt (chkSh_zero (by simpa using hc))⟩ (by omega) rfl trivial
    · have hk' : k = l.length := by simp at hb; omega
      subst hk'
      rw [List.take_length] at hall
      have : shsE l = 0 := by unfold shsE; rw [if_neg (by omega), if_pos hall]
      rw [this]; exact out_int
def numsV (l : List Int) : Bool := l.all okNo && upI l
theorem numsV_f {l : List Int} (h : ¬ (l.all okNo = true ∧ upI l = true)) : numsV l = false := by
  rw [← Bool.not_eq_true]; simpa [numsV] using h
theorem rNumbers_ok (l : List Int) (hl : l.length ≤ 100000) : PCall Tryd.prog 102 [.ro false (ic l)] (.bool (numsV l)) := by
  refine PCall.intro text102 (by simp) ?_
  unfold ir102
  simp only [walk, wl, rgets, retv, argsEnv, ev, cst, cst1, cstL, AEnv.get, AEnv.trim, envput, qstep, abin, aun, evs, evo, deref, qload, target, if_true, if_false, Nat.reduceEqDiff, reduceIte, Nat.reduceAdd, AV.cells, AV.isTuple, setMany, alen, aiaddr, afill, Nat.reduceLeDiff, Nat.reduceMul, Nat.reduceLT, afillE, List.replicate]
  refine awp_loop (σ := Nat) (fun k => [(0, .ro false (ic l)), (3, I k)]) (fun _ _ => True) (fun k => k ≤ l.length ∧ (l.take k).all okNo = true ∧ upI (l.take k) = true) (fun k => l.length - k) 0 ⟨Nat.zero_le _, rfl, rfl⟩ rfl trivial ?_
  rintro k H ⟨hk, hall, hup⟩ -
  simp only [walk, wl, rgets, retv, argsEnv, ev, cst, cst1, cstL, AEnv.get, AEnv.trim, envput, qstep, abin, aun, evs, evo, deref, qload, target, if_true, if_false, Nat.reduceEqDiff, reduceIte, Nat.reduceAdd, AV.cells, AV.isTuple, setMany, alen, aiaddr, afill, Nat.reduceLeDiff, Nat.reduceMul, Nat.reduceLT, afillE, List.replicate, ic_length]
  refine withBool_intro ?_ ?_ <;> intro hb <;> simp only [walk, wl, rgets, retv, argsEnv, ev, cst, cst1, cstL, AEnv.get, AEnv.trim, envput, qstep, abin, aun, evs, evo, deref, qload, target, if_true, if_false, Nat.reduceEqDiff, reduceIte, Nat.reduceAdd, AV.cells, AV.isTuple, setMany, alen, aiaddr, afill, Nat.reduceLeDiff, Nat.reduceMul, Nat.reduceLT, afillE, List.replicate]
  · have hlt : k < l.length := by simpa using hb
    have w1 := w_succ (k := k) (by omega)
    simp only [walk, wl, rgets, retv, argsEnv, ev, cst, cst1, cstL, AEnv.get, AEnv.trim, envput, qstep, abin, aun, evs, evo, deref, qload, target, if_true, if_false, Nat.reduceEqDiff, reduceIte, Nat.reduceAdd, AV.cells, AV.isTuple, setMany, alen, aiaddr, afill, Nat.reduceLeDiff, Nat.reduceMul, Nat.reduceLT, afillE, List.replicate, ic_get hlt]
    refine call_pure (rNumber_ok _) (frzL_of' (d := 1) rfl) ?_
    simp only [walk, wl, rgets, retv, argsEnv, ev, cst, cst1, cstL, AEnv.get, AEnv.trim, envput, qstep, abin, aun, evs, evo, deref, qload, target, if_true, if_false, Nat.reduceEqDiff, reduceIte, Nat.reduceAdd, AV.cells, AV.isTuple, setMany, alen, aiaddr, afill, Nat.reduceLeDiff, Nat.reduceMul, Nat.reduceLT, afillE, List.replicate]
    refine withGuard_intro ?_ ?_ <;> intro g1 <;> simp only [walk, wl, rgets, retv, argsEnv, ev, cst, cst1, cstL, AEnv.get, AEnv.trim, envput, qstep, abin, aun, evs, evo, deref, qload, target, if_true, if_false, Nat.reduceEqDiff, reduceIte, Nat.reduceAdd, AV.cells, AV.isTuple, setMany, alen, aiaddr, afill, Nat.reduceLeDiff, Nat.reduceMul, Nat.reduceLT, afillE, List.replicate, g1]
    · have hok : okNo l[k] = true := by simpa using g1
      refine withGuard_intro ?_ ?_ <;> intro g2 <;> simp only [walk, wl, rgets, retv, argsEnv, ev, cst, cst1, cstL, AEnv.get, AEnv.trim, envput, qstep, abin, aun, evs, evo, deref, qload, target, if_true, if_false, Nat.reduceEqDiff, reduceIte, Nat.reduceAdd, AV.cells, AV.isTuple, setMany, alen, aiaddr, afill, Nat.reduceLeDiff, Nat.reduceMul, Nat.reduceLT, afillE, List.replicate, g2]
      · have h0 : 0 < k := by simp at g2; omega
        have hlt1 : k - 1 < l.length := by omega
        simp only [walk, wl, rgets, retv, argsEnv, ev, cst, cst1, cstL, AEnv.get, AEnv.trim, envput, qstep, abin, aun, evs, evo, deref, qload, target, if_true, if_false, Nat.reduceEqDiff, reduceIte, Nat.reduceAdd, AV.cells, AV.isTuple, setMany, alen, aiaddr, afill, Nat.reduceLeDiff, Nat.reduceMul, Nat.reduceLT, afillE, List.replicate, w_pred h0 (by omega), ic_get hlt1, ic_get hlt]
        refine withBool_intro ?_ ?_ <;> intro g3 <;> simp only [walk, wl, rgets, retv, argsEnv, ev, cst, cst1, cstL, AEnv.get, AEnv.trim, envput, qstep, abin, aun, evs, evo, deref, qload, target, if_true, if_false, Nat.reduceEqDiff, reduceIte, Nat.reduceAdd, AV.cells, AV.isTuple, setMany, alen, aiaddr, afill, Nat.reduceLeDiff, Nat.reduceMul, Nat.reduceLT, afillE, List.replicate, w1]
        · rw [numsV_f (fun h => upI_f hlt h0 (by simp at g3; omega) h.2)]; exact out_bool
        · exact loop_end (k + 1) ⟨hlt, all_take hall hlt hok, upI_take hlt hup (.inr fun _ => by simp at g3; omega)⟩ (by omega) rfl trivial
      · have h0 : k = 0 := by simp at g2; omega
        rw [w1]
        exact loop_end (k + 1) ⟨hlt, all_take hall hlt hok, upI_take hlt hup (.inl h0)⟩ (by omega) rfl trivial
    · rw [numsV_f (fun h => by have := (List.all_eq_true.1 h.1) l[k] (List.getElem_mem hlt); simp [this] at g1)]; exact out_bool
  · have hk' : k = l.length := by simp at hb; omega
    subst hk'
    rw [List.take_length] at hall hup
    have : numsV l = true := by simp [numsV, hall, hup]
    rw [this]; exact out_bool
theorem rHas_ok (l : List Int) (n : Int) (hl : l.length ≤ 100000) : PCall Tryd.prog 103 [.ro false (ic l), I n] (.bool (l.contains n)) := by
  refine PCall.intro text103 (by simp) ?_
  unfold ir103
  simp only [walk, wl, rgets, retv, argsEnv, ev, cst, cst1, cstL, AEnv.get, AEnv.trim, envput, qstep, abin, aun, evs, evo, deref, qload, target, if_true, if_false, Nat.reduceEqDiff, reduceIte, Nat.reduceAdd, AV.cells, AV.isTuple, setMany, alen, aiaddr, afill, Nat.reduceLeDiff, Nat.reduceMul, Nat.reduceLT, afillE, List.replicate]
  refine awp_loop (σ := Nat) (fun k => [(0, .ro false (ic l)), (1, I n), (5, I k)]) (fun _ _ => True) (fun k => k ≤ l.length ∧ (l.take k).contains n = false) (fun k => l.length - k) 0 ⟨Nat.zero_le _, rfl⟩ rfl trivial ?_
  rintro k H ⟨hk, hno⟩ -
  simp only [walk, wl, rgets, retv, argsEnv, ev, cst, cst1, cstL, AEnv.get, AEnv.trim, envput, qstep, abin, aun, evs, evo, deref, qload, target, if_true, if_false, Nat.reduceEqDiff, reduceIte, Nat.reduceAdd, AV.cells, AV.isTuple, setMany, alen, aiaddr, afill, Nat.reduceLeDiff, Nat.reduceMul, Nat.reduceLT, afillE, List.replicate, ic_length]
  refine withBool_intro ?_ ?_ <;> intro hb <;> simp only [walk, wl, rgets, retv, argsEnv, ev, cst, cst1, cstL, AEnv.get, AEnv.trim, envput, qstep, abin, aun, evs, evo, deref, qload, target, if_true, if_false, Nat.reduceEqDiff, reduceIte, Nat.reduceAdd, AV.cells, AV.isTuple, setMany, alen, aiaddr, afill, Nat.reduceLeDiff, Nat.reduceMul, Nat.reduceLT, afillE, List.replicate]
  · have hlt : k < l.length := by simpa using hb
    have w1 := w_succ (k := k) (by omega)
    simp only [walk, wl, rgets, retv, argsEnv, ev, cst, cst1, cstL, AEnv.get, AEnv.trim, envput, qstep, abin, aun, evs, evo, deref, qload, target, if_true, if_false, Nat.reduceEqDiff, reduceIte, Nat.reduceAdd, AV.cells, AV.isTuple, setMany, alen, aiaddr, afill, Nat.reduceLeDiff, Nat.reduceMul, Nat.reduceLT, afillE, List.replicate, ic_get hlt]
    refine withBool_intro ?_ ?_ <;> intro g1 <;> simp only [walk, wl, rgets, retv, argsEnv, ev, cst, cst1, cstL, AEnv.get, AEnv.trim, envput, qstep, abin, aun, evs, evo, deref, qload, target, if_true, if_false, Nat.reduceEqDiff, reduceIte, Nat.reduceAdd, AV.cells, AV.isTuple, setMany, alen, aiaddr, afill, Nat.reduceLeDiff, Nat.reduceMul, Nat.reduceLT, afillE, List.replicate, w1]
    · have : l.contains n = true := by
        have e : l[k] = n := by simpa using g1
        rw [← e]; simp
      rw [this]; exact out_bool
    · refine loop_end (k + 1) ⟨hlt, ?_⟩ (by omega) rfl trivial
      have g : ¬ l[k] = n := by simpa using g1
      rw [List.take_succ_eq_append_getElem hlt]
      rw [← Bool.not_eq_true, List.contains_iff_mem] at hno ⊢
      intro h
      rcases List.mem_append.1 h with h | h
      · exact hno h
      · exact g (List.mem_singleton.1 h).symm
  · have hk' : k = l.length := by simp at hb; omega
    subst hk'
    rw [List.take_length] at hno
    rw [hno]; exact out_bool
end Go.Proofs.YtgadlckkmhhmbaaDoor
