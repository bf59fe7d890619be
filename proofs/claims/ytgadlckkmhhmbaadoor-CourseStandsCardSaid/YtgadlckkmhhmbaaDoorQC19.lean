/- Contracts: lists of sheets and of numbers. -/
import Derived.Test.YtgadlckkmhhmbaaDoorQC17
import Derived.Test.YtgadlckkmhhmbaaDoorQC14
import Derived.Test.YtgadlckkmhhmbaaDoorQC13
set_option linter.unusedVariables false
set_option linter.unusedSimpArgs false
set_option linter.unusedSectionVars false
namespace Go.Proofs.YtgadlckkmhhmbaaDoor
open Go.Awp Go.Grams
set_option linter.unusedSimpArgs false
set_option linter.unusedVariables false
set_option linter.unusedSectionVars false
set_option maxRecDepth 10000
/-- Sheets, as the cells of a slice. -/
def srows (l : List Sht) : List (List AV) := l.map (shR false)
theorem srows_length (l : List Sht) : (srows l).length = l.length := List.length_map ..
theorem srows_get {l : List Sht} {k : Nat} (h : k < l.length) : (srows l)[k]? = some (shR false l[k]) := by simp [srows, h]
theorem carR_srows {H : AHeap} {d : Nat} : ∀ (l : List Sht), carR (carry false H (d + 3)) (srows l) = some (srows l)
  | [] => rfl
  | s :: r => by
    have h1 : carL (carry false H (d + 3)) (shR false s) = some (shR false s) := carL_cons car_int (carL_cons car_int (carL_cons car_int (carL_cons car_int (carL_cons car_int (carL_cons car_int (carL_cons car_int (carL_cons car_int (carL_cons (car_ro (krows_simple _) (.inl rfl)) rfl))))))))
    have h2 := carR_srows (H := H) (d := d) r
    simp only [srows, List.map_cons] at h2 ⊢
    simp only [carR, h1, h2]
theorem car_srows {b : Bool} {H : AHeap} {d : Nat} {l : List Sht} : carry false H (d + 4) (.ro b (srows l)) = some (.ro false (srows l)) := by
  rw [show carry false H (d + 4) (.ro b (srows l)) = (if false = false ∨ b = true ∨ srows l = [] then (match carR (carry false H (d + 3)) (srows l) with | some l' => some (.ro false l') | none => none) else none) from rfl, if_pos (.inl rfl), carR_srows]
def shsE (l : List Sht) : Int := if 256 < l.length then 2 else if l.all okSh = true then 0 else 12
theorem sheets_ok (l : List Sht) : PCall Tryd.prog 97 [.ro false (srows l)] (I (shsE l)) := by
  refine PCall.intro text97 (by simp) ?_
  unfold ir97
  simp only [walk, wl, rgets, retv, argsEnv, ev, cst, cst1, cstL, AEnv.get, AEnv.trim, envput, qstep, abin, aun, evs, evo, deref, qload, target, if_true, if_false, Nat.reduceEqDiff, reduceIte, Nat.reduceAdd, AV.cells, AV.isTuple, setMany, alen, aiaddr, afill, Nat.reduceLeDiff, Nat.reduceMul, Nat.reduceLT, afillE, List.replicate, srows_length]
  refine withBool_intro ?_ ?_ <;> intro h1 <;> simp only [walk, wl, rgets, retv, argsEnv, ev, cst, cst1, cstL, AEnv.get, AEnv.trim, envput, qstep, abin, aun, evs, evo, deref, qload, target, if_true, if_false, Nat.reduceEqDiff, reduceIte, Nat.reduceAdd, AV.cells, AV.isTuple, setMany, alen, aiaddr, afill, Nat.reduceLeDiff, Nat.reduceMul, Nat.reduceLT, afillE, List.replicate, srows_length]
  · have : shsE l = 2 := by unfold shsE; rw [if_pos (by simp at h1; omega)]
    rw [this]; exact out_int
  · have hl : l.length ≤ 256 := by simp at h1; omega
    refine awp_loop (σ := Nat) (fun k => [(8, .ro false (srows l)), (9, I l.length), (10, I k)]) (fun _ _ => True) (fun k => k ≤ l.length ∧ (l.take k).all okSh = true) (fun k => l.length - k) 0 ⟨Nat.zero_le _, rfl⟩ rfl trivial ?_
    rintro k H ⟨hk, hall⟩ -
    simp only [walkS, wl, rgets, retv, argsEnv, ev, cst, cst1, cstL, AEnv.get, AEnv.trim, envput, qstep, abin, aun, evs, evo, deref, qload, target, if_true, if_false, Nat.reduceEqDiff, reduceIte, Nat.reduceAdd, AV.cells, AV.isTuple, setMany, alen, aiaddr, afill, Nat.reduceLeDiff, Nat.reduceMul, Nat.reduceLT, afillE, List.replicate]
    refine withBool_intro ?_ ?_ <;> intro hb <;> simp only [walkS, wl, rgets, retv, argsEnv, ev, cst, cst1, cstL, AEnv.get, AEnv.trim, envput, qstep, abin, aun, evs, evo, deref, qload, target, if_true, if_false, Nat.reduceEqDiff, reduceIte, Nat.reduceAdd, AV.cells, AV.isTuple, setMany, alen, aiaddr, afill, Nat.reduceLeDiff, Nat.reduceMul, Nat.reduceLT, afillE, List.replicate]
    · have hlt : k < l.length := by simpa using hb
      have w1 := w_succ (k := k) (by omega)
      simp only [walkS, wl, rgets, retv, argsEnv, ev, cst, cst1, cstL, AEnv.get, AEnv.trim, envput, qstep, abin, aun, evs, evo, deref, qload, target, if_true, if_false, Nat.reduceEqDiff, reduceIte, Nat.reduceAdd, AV.cells, AV.isTuple, setMany, alen, aiaddr, afill, Nat.reduceLeDiff, Nat.reduceMul, Nat.reduceLT, afillE, List.replicate, srows_get hlt]
      refine storeR rfl rfl AHeap.obj_push_eq rfl ⟨rfl, rfl, rfl, by simp⟩ fun H1 y1 y2 y3 => ?_
      simp only [AV.cells, setMany, List.set_cons_zero, List.set_cons_succ] at y2
      simp only [walkS, wl, rgets, retv, argsEnv, ev, cst, cst1, cstL, AEnv.get, AEnv.trim, envput, qstep, abin, aun, evs, evo, deref, qload, target, if_true, if_false, Nat.reduceEqDiff, reduceIte, Nat.reduceAdd, AV.cells, AV.isTuple, setMany, alen, aiaddr, afill, Nat.reduceLeDiff, Nat.reduceMul, Nat.reduceLT, afillE, List.replicate, y2]
      refine call_pure (CheckSheet_ok l[k]) (frzL_of' (d := 4) (carL_cons car_sh rfl)) ?_
      simp only [walkS, wl, rgets, retv, argsEnv, ev, cst, cst1, cstL, AEnv.get, AEnv.trim, envput, qstep, abin, aun, evs, evo, deref, qload, target, if_true, if_false, Nat.reduceEqDiff, reduceIte, Nat.reduceAdd, AV.cells, AV.isTuple, setMany, alen, aiaddr, afill, Nat.reduceLeDiff, Nat.reduceMul, Nat.reduceLT, afillE, List.replicate]
      refine withBool_intro ?_ ?_ <;> intro hc <;> simp only [walkS, wl, rgets, retv, argsEnv, ev, cst, cst1, cstL, AEnv.get, AEnv.trim, envput, qstep, abin, aun, evs, evo, deref, qload, target, if_true, if_false, Nat.reduceEqDiff, reduceIte, Nat.reduceAdd, AV.cells, AV.isTuple, setMany, alen, aiaddr, afill, Nat.reduceLeDiff, Nat.reduceMul, Nat.reduceLT, afillE, List.replicate, w1]
      · have : shsE l = 12 := by
          unfold shsE; rw [if_neg (by omega), if_neg]
          intro h
          have := (List.all_eq_true.1 h) l[k] (List.getElem_mem hlt)
          rw [chkSh_t this] at hc; simp at hc
        rw [this]; exact out_int
      · exact loop_end (k + 1) ⟨hlt, all_take hall hlt (chkSh_zero (by simpa using hc))⟩ (by omega) rfl trivial
    · have hk' : k = l.length := by simp at hb; omega
      subst hk'
      rw [List.take_length] at hall
      have : shsE l = 0 := by unfold shsE; rw [if_neg (by omega), if_pos hall]
      rw [this]; exact out_int
def numsV (l : List Int) : Bool := l.all okNo && upI l
theorem numsV_f {l : List Int} (h : ¬ (l.all okNo = true ∧ upI l = true)) : numsV l = false := by
  rw [← Bool.not_eq_true]; simpa [numsV] using h
end Go.Proofs.YtgadlckkmhhmbaaDoor
