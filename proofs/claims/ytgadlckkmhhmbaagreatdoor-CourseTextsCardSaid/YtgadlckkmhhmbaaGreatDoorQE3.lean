/- CourseTexts holds. -/
import Derived.Test.YtgadlckkmhhmbaaGreatDoorQT3
import Derived.Test.YtgadlckkmhhmbaaGreatDoorQE0
import Derived.Test.YtgadlckkmhhmbaaGreatDoorQW12
set_option linter.unusedVariables false
set_option linter.unusedSimpArgs false
set_option linter.unusedSectionVars false
namespace Go.Proofs.YtgadlckkmhhmbaaGreatDoor
open Go.Awp Go.Grams
set_option linter.unusedSimpArgs false
set_option linter.unusedVariables false
set_option linter.unusedSectionVars false
set_option maxRecDepth 10000
def ptD : Option Tst → Tst
  | some t => t
  | none => (0, 0, 0, 0)
def ptE : Option Tst → Int
  | some _ => 0
  | none => 3
theorem ptAV_eq (o : Option Tst) : ptAV o = .tuple [.agg (td (ptD o)), I (ptE o)] := by cases o <;> rfl
def psD : Option Sht → Sht
  | some t => t
  | none => zS
def psE : Option Sht → Int
  | some _ => 0
  | none => 3
theorem psAV_eq (o : Option Sht) : psAV o = .tuple [.agg (shR true (psD o)), I (psE o)] := by cases o <;> rfl
theorem psD_len {f : ByteArray → Option Int} {s : ByteArray} : (psD (psS f s)).st.length ≤ 1000000 := by
  cases h : psS f s with
  | none => simp [psD, zS]
  | some x =>
    show x.st.length ≤ _
    unfold psS psW at h
    split at h
    · cases h
    · obtain ⟨l, st, h1, h2, h3, h4, h5⟩ := psN_some h
      have := (okSh_iff.1 h3).2.2.2.2.2.2.2.2.1
      omega
theorem bself (b : ByteArray) : (b != b) = false := by rw [bneB]; simp
theorem bself2 (b : ByteArray) : (b == b) = true := by rw [beqB]; simp
theorem bempty_size : (ByteArray.mk (Array.mk [])).size = 0 := rfl
theorem prT_size (t : Tst) : (prT t).size ≤ 100000 := by
  unfold prT
  split
  · rename_i h
    have := putB_size (sep := bSp) (by decide) (tNums t) bTest (t_few h)
    have h1 : bTest.size = 4 := rfl
    have h2 : (tNums t).length = 4 := rfl
    omega
  · rw [bempty_size]; omega
theorem prS_size (s : Sht) : (prS s).size ≤ 100000 := by
  unfold prS
  split
  · rename_i h
    have hk := (okSh_iff.1 h).2.2.2.2.2.2.2.2
    have h1 := putB_size (sep := bSp) (by decide) (shNums s) bSheet (sh_few h)
    have h2 := stakes_size s.st (putB bSp (shNums s) bSheet) hk.2
    have h3 : bSheet.size = 5 := rfl
    have h4 : (shNums s).length = 8 := rfl
    unfold sheetB
    omega
  · rw [bempty_size]; omega
theorem obj_at {H : AHeap} {o : Option AObj} {n : Nat} (h : H.length = n) : AHeap.obj (H ++ [o]) n = o := by subst h; exact AHeap.obj_push_eq
theorem tail3_1 {s : Sht} {H : AHeap} {n : Nat} {X : AEnv} (hsl : s.st.length ≤ 1000000) (hn : H.length = n) (h2 : 2 ≤ n) (a1 : AHeap.obj H 1 = some ⟨26, 9, [shR false s]⟩) :
    awp Tryz.prog ir3b (fnPost [(.tmp 6)] fun x H' => Out H' x (.bool true)) ((4, .ptr 1 1 0 0) :: (11, .str (prS s)) :: (12, I (chkSh s)) :: X) H := by
  unfold ir3b
  simp only [walkS, wl, rgets, retv, argsEnv, ev, cst, cst1, cstL, AEnv.get, AEnv.trim, envput, qstep, abin, aun, evs, evo, deref, qload, target, if_true, if_false, Nat.reduceEqDiff, reduceIte, Nat.reduceAdd, AV.cells, AV.isTuple, setMany, alen, aiaddr, afill, Nat.reduceLeDiff, Nat.reduceMul, Nat.reduceLT, afillE, List.replicate]
  refine withBool_intro ?_ ?_ <;> intro g1 <;> simp only [walkS, wl, rgets, retv, argsEnv, ev, cst, cst1, cstL, AEnv.get, AEnv.trim, envput, qstep, abin, aun, evs, evo, deref, qload, target, if_true, if_false, Nat.reduceEqDiff, reduceIte, Nat.reduceAdd, AV.cells, AV.isTuple, setMany, alen, aiaddr, afill, Nat.reduceLeDiff, Nat.reduceMul, Nat.reduceLT, afillE, List.replicate]
  · have hk : okSh s = true := by
      by_cases hk : okSh s = true
      · exact hk
      · rw [chkSh_f hk] at g1; cases g1
    refine call_pure (ParseSheet_ok (prS s) (prS_size s)) (frzL_of' (d := 1) rfl) ?_
    rw [ps_print hk]
    unfold psAV
    simp only [walkS, wl, rgets, retv, argsEnv, ev, cst, cst1, cstL, AEnv.get, AEnv.trim, envput, qstep, abin, aun, evs, evo, deref, qload, target, if_true, if_false, Nat.reduceEqDiff, reduceIte, Nat.reduceAdd, AV.cells, AV.isTuple, setMany, alen, aiaddr, afill, Nat.reduceLeDiff, Nat.reduceMul, Nat.reduceLT, afillE, List.replicate, hn]
    refine storeR rfl rfl (obj_at hn) rfl ⟨rfl, rfl, rfl, by simp⟩ fun H2 y1 b2 y3 => ?_
    simp only [AV.cells, setMany, List.set_cons_zero, List.set_cons_succ] at b2
    have a1 := (y3 1 (by omega)).trans (obj_keep a1)
    simp only [walkS, wl, rgets, retv, argsEnv, ev, cst, cst1, cstL, AEnv.get, AEnv.trim, envput, qstep, abin, aun, evs, evo, deref, qload, target, if_true, if_false, Nat.reduceEqDiff, reduceIte, Nat.reduceAdd, AV.cells, AV.isTuple, setMany, alen, aiaddr, afill, Nat.reduceLeDiff, Nat.reduceMul, Nat.reduceLT, afillE, List.replicate, bne_self_eq_false, b2, a1]
    refine call_pure (SameSheet_refl s hsl) (frzL_of' (d := 4) (carL_cons car_sh (carL_cons car_sh rfl))) ?_
    simp only [walkS, wl, rgets, retv, argsEnv, ev, cst, cst1, cstL, AEnv.get, AEnv.trim, envput, qstep, abin, aun, evs, evo, deref, qload, target, if_true, if_false, Nat.reduceEqDiff, reduceIte, Nat.reduceAdd, AV.cells, AV.isTuple, setMany, alen, aiaddr, afill, Nat.reduceLeDiff, Nat.reduceMul, Nat.reduceLT, afillE, List.replicate, Bool.not_true]
    exact out_bool
  · exact out_bool
theorem tail3_2 {t : Tst} {s : Sht} {H : AHeap} {n : Nat} {X : AEnv} (hsl : s.st.length ≤ 1000000) (hn : H.length = n) (h2 : 2 ≤ n) (a1 : AHeap.obj H 1 = some ⟨26, 9, [shR false s]⟩) :
    awp Tryz.prog ir3b (fnPost [(.tmp 6)] fun x H' => Out H' x (.bool true)) ((3, .ptr 0 1 0 0) :: (4, .ptr 1 1 0 0) :: (7, .str (prT t)) :: (11, .str (prS s)) :: (12, I (chkSh s)) :: X) H := by
  unfold ir3b
  simp only [walkS, wl, rgets, retv, argsEnv, ev, cst, cst1, cstL, AEnv.get, AEnv.trim, envput, qstep, abin, aun, evs, evo, deref, qload, target, if_true, if_false, Nat.reduceEqDiff, reduceIte, Nat.reduceAdd, AV.cells, AV.isTuple, setMany, alen, aiaddr, afill, Nat.reduceLeDiff, Nat.reduceMul, Nat.reduceLT, afillE, List.replicate]
  refine withBool_intro ?_ ?_ <;> intro g1 <;> simp only [walkS, wl, rgets, retv, argsEnv, ev, cst, cst1, cstL, AEnv.get, AEnv.trim, envput, qstep, abin, aun, evs, evo, deref, qload, target, if_true, if_false, Nat.reduceEqDiff, reduceIte, Nat.reduceAdd, AV.cells, AV.isTuple, setMany, alen, aiaddr, afill, Nat.reduceLeDiff, Nat.reduceMul, Nat.reduceLT, afillE, List.replicate]
  · have hk : okSh s = true := by
      by_cases hk : okSh s = true
      · exact hk
      · rw [chkSh_f hk] at g1; cases g1
    refine call_pure (ParseSheet_ok (prS s) (prS_size s)) (frzL_of' (d := 1) rfl) ?_
    rw [ps_print hk]
    unfold psAV
    simp only [walkS, wl, rgets, retv, argsEnv, ev, cst, cst1, cstL, AEnv.get, AEnv.trim, envput, qstep, abin, aun, evs, evo, deref, qload, target, if_true, if_false, Nat.reduceEqDiff, reduceIte, Nat.reduceAdd, AV.cells, AV.isTuple, setMany, alen, aiaddr, afill, Nat.reduceLeDiff, Nat.reduceMul, Nat.reduceLT, afillE, List.replicate, hn]
    refine storeR rfl rfl (obj_at hn) rfl ⟨rfl, rfl, rfl, by simp⟩ fun H2 y1 b2 y3 => ?_
    simp only [AV.cells, setMany, List.set_cons_zero, List.set_cons_succ] at b2
    have a1 := (y3 1 (by omega)).trans (obj_keep a1)
    simp only [walkS, wl, rgets, retv, argsEnv, ev, cst, cst1, cstL, AEnv.get, AEnv.trim, envput, qstep, abin, aun, evs, evo, deref, qload, target, if_true, if_false, Nat.reduceEqDiff, reduceIte, Nat.reduceAdd, AV.cells, AV.isTuple, setMany, alen, aiaddr, afill, Nat.reduceLeDiff, Nat.reduceMul, Nat.reduceLT, afillE, List.replicate, bne_self_eq_false, b2, a1]
    refine call_pure (SameSheet_refl s hsl) (frzL_of' (d := 4) (carL_cons car_sh (carL_cons car_sh rfl))) ?_
    simp only [walkS, wl, rgets, retv, argsEnv, ev, cst, cst1, cstL, AEnv.get, AEnv.trim, envput, qstep, abin, aun, evs, evo, deref, qload, target, if_true, if_false, Nat.reduceEqDiff, reduceIte, Nat.reduceAdd, AV.cells, AV.isTuple, setMany, alen, aiaddr, afill, Nat.reduceLeDiff, Nat.reduceMul, Nat.reduceLT, afillE, List.replicate, Bool.not_true]
    exact out_bool
  · exact out_bool
theorem CourseTexts_ok (t : Tst) (s : Sht) (text : ByteArray) : PCall Tryz.prog 3 [.agg (td t), sh s, .str text] (.bool true) := by
  refine PCall.intro text3 (by simp) ?_
  unfold ir3
  simp only [walkS, wl, rgets, retv, argsEnv, ev, cst, cst1, cstL, AEnv.get, AEnv.trim, envput, qstep, abin, aun, evs, evo, deref, qload, target, if_true, if_false, Nat.reduceEqDiff, reduceIte, Nat.reduceAdd, AV.cells, AV.isTuple, setMany, alen, aiaddr, afill, Nat.reduceLeDiff, Nat.reduceMul, Nat.reduceLT, afillE, List.replicate]
  refine call_pure sane_ok .nil ?_
  simp only [walkS, wl, rgets, retv, argsEnv, ev, cst, cst1, cstL, AEnv.get, AEnv.trim, envput, qstep, abin, aun, evs, evo, deref, qload, target, if_true, if_false, Nat.reduceEqDiff, reduceIte, Nat.reduceAdd, AV.cells, AV.isTuple, setMany, alen, aiaddr, afill, Nat.reduceLeDiff, Nat.reduceMul, Nat.reduceLT, afillE, List.replicate, krows_length]
  refine withGuard_intro ?_ ?_ <;> intro f1 <;> simp only [walkS, wl, rgets, retv, argsEnv, ev, cst, cst1, cstL, AEnv.get, AEnv.trim, envput, qstep, abin, aun, evs, evo, deref, qload, target, if_true, if_false, Nat.reduceEqDiff, reduceIte, Nat.reduceAdd, AV.cells, AV.isTuple, setMany, alen, aiaddr, afill, Nat.reduceLeDiff, Nat.reduceMul, Nat.reduceLT, afillE, List.replicate, f1]
  · refine withBool_intro ?_ ?_ <;> intro f2 <;> simp only [walkS, wl, rgets, retv, argsEnv, ev, cst, cst1, cstL, AEnv.get, AEnv.trim, envput, qstep, abin, aun, evs, evo, deref, qload, target, if_true, if_false, Nat.reduceEqDiff, reduceIte, Nat.reduceAdd, AV.cells, AV.isTuple, setMany, alen, aiaddr, afill, Nat.reduceLeDiff, Nat.reduceMul, Nat.reduceLT, afillE, List.replicate]
    · exact out_bool
    · have hts : text.size ≤ 100000 := by have := of_decide_eq_false f2; omega
      have hsl : s.st.length ≤ 1000000 := by have := of_decide_eq_false f1; omega
      refine call_pure (PrintTest_ok t) (frzL_of' (d := 4) (carL_cons car_td rfl)) ?_
      simp only [walkS, wl, rgets, retv, argsEnv, ev, cst, cst1, cstL, AEnv.get, AEnv.trim, envput, qstep, abin, aun, evs, evo, deref, qload, target, if_true, if_false, Nat.reduceEqDiff, reduceIte, Nat.reduceAdd, AV.cells, AV.isTuple, setMany, alen, aiaddr, afill, Nat.reduceLeDiff, Nat.reduceMul, Nat.reduceLT, afillE, List.replicate]
      refine call_pure (rPrintTest_ok t) (frzL_of' (d := 4) (carL_cons car_td rfl)) ?_
      simp only [walkS, wl, rgets, retv, argsEnv, ev, cst, cst1, cstL, AEnv.get, AEnv.trim, envput, qstep, abin, aun, evs, evo, deref, qload, target, if_true, if_false, Nat.reduceEqDiff, reduceIte, Nat.reduceAdd, AV.cells, AV.isTuple, setMany, alen, aiaddr, afill, Nat.reduceLeDiff, Nat.reduceMul, Nat.reduceLT, afillE, List.replicate]
      refine call_pure (PrintSheet_ok s) (frzL_of' (d := 4) (carL_cons car_sh rfl)) ?_
      simp only [walkS, wl, rgets, retv, argsEnv, ev, cst, cst1, cstL, AEnv.get, AEnv.trim, envput, qstep, abin, aun, evs, evo, deref, qload, target, if_true, if_false, Nat.reduceEqDiff, reduceIte, Nat.reduceAdd, AV.cells, AV.isTuple, setMany, alen, aiaddr, afill, Nat.reduceLeDiff, Nat.reduceMul, Nat.reduceLT, afillE, List.replicate]
      refine call_pure (rPrintSheet_ok s) (frzL_of' (d := 4) (carL_cons car_sh rfl)) ?_
      simp only [walkS, wl, rgets, retv, argsEnv, ev, cst, cst1, cstL, AEnv.get, AEnv.trim, envput, qstep, abin, aun, evs, evo, deref, qload, target, if_true, if_false, Nat.reduceEqDiff, reduceIte, Nat.reduceAdd, AV.cells, AV.isTuple, setMany, alen, aiaddr, afill, Nat.reduceLeDiff, Nat.reduceMul, Nat.reduceLT, afillE, List.replicate]
      refine call_pure (ParseTest_ok text hts) (frzL_of' (d := 1) rfl) ?_
      rw [ptAV_eq]
      obtain ⟨T, hT⟩ : ∃ T, T = ptD (ptT intO text) := ⟨_, rfl⟩
      obtain ⟨TE, hTE⟩ : ∃ T, T = ptE (ptT intO text) := ⟨_, rfl⟩
      rw [← hT, ← hTE]
      simp only [walkS, wl, rgets, retv, argsEnv, ev, cst, cst1, cstL, AEnv.get, AEnv.trim, envput, qstep, abin, aun, evs, evo, deref, qload, target, if_true, if_false, Nat.reduceEqDiff, reduceIte, Nat.reduceAdd, AV.cells, AV.isTuple, setMany, alen, aiaddr, afill, Nat.reduceLeDiff, Nat.reduceMul, Nat.reduceLT, afillE, List.replicate]
      refine storeR rfl rfl rfl rfl ⟨rfl, rfl, rfl, by simp⟩ fun H1 y1 y2 y3 => ?_
      simp only [AV.cells, setMany, List.set_cons_zero, List.set_cons_succ] at y2
      have a0 : AHeap.obj H1 0 = some ⟨23, 4, [td t]⟩ := by rw [y3 0 (by omega)]; rfl
      have a1 : AHeap.obj H1 1 = some ⟨26, 9, [shR false s]⟩ := by rw [y3 1 (by omega)]; rfl
      have hl1 : H1.length = 3 := by rw [y1]; rfl
      simp only [walkS, wl, rgets, retv, argsEnv, ev, cst, cst1, cstL, AEnv.get, AEnv.trim, envput, qstep, abin, aun, evs, evo, deref, qload, target, if_true, if_false, Nat.reduceEqDiff, reduceIte, Nat.reduceAdd, AV.cells, AV.isTuple, setMany, alen, aiaddr, afill, Nat.reduceLeDiff, Nat.reduceMul, Nat.reduceLT, afillE, List.replicate]
      refine call_pure (rParseTest_ok text hts) (frzL_of' (d := 1) rfl) ?_
      rw [ptAV_eq, ← pt_same, ← hT, ← hTE]
      simp only [walkS, wl, rgets, retv, argsEnv, ev, cst, cst1, cstL, AEnv.get, AEnv.trim, envput, qstep, abin, aun, evs, evo, deref, qload, target, if_true, if_false, Nat.reduceEqDiff, reduceIte, Nat.reduceAdd, AV.cells, AV.isTuple, setMany, alen, aiaddr, afill, Nat.reduceLeDiff, Nat.reduceMul, Nat.reduceLT, afillE, List.replicate, hl1]
      refine storeR rfl rfl (obj_at hl1) rfl ⟨rfl, rfl, rfl, by simp⟩ fun H2 y1 b3 y3 => ?_
      simp only [AV.cells, setMany, List.set_cons_zero, List.set_cons_succ] at b3
      have hl2 : H2.length = 4 := by rw [y1, List.length_append, hl1]; rfl
      have a0 := (y3 0 (by omega)).trans (obj_keep a0)
      have a1 := (y3 1 (by omega)).trans (obj_keep a1)
      have y2 := (y3 2 (by omega)).trans (obj_keep y2)
      simp only [walkS, wl, rgets, retv, argsEnv, ev, cst, cst1, cstL, AEnv.get, AEnv.trim, envput, qstep, abin, aun, evs, evo, deref, qload, target, if_true, if_false, Nat.reduceEqDiff, reduceIte, Nat.reduceAdd, AV.cells, AV.isTuple, setMany, alen, aiaddr, afill, Nat.reduceLeDiff, Nat.reduceMul, Nat.reduceLT, afillE, List.replicate]
      refine call_pure (ParseSheet_ok text hts) (frzL_of' (d := 1) rfl) ?_
      have hXl := psD_len (f := intO) (s := text)
      rw [psAV_eq]
      obtain ⟨X, hX⟩ : ∃ X, X = psD (psS intO text) := ⟨_, rfl⟩
      obtain ⟨XE, hXE⟩ : ∃ T, T = psE (psS intO text) := ⟨_, rfl⟩
      rw [← hX] at hXl
      rw [← hX, ← hXE]
      simp only [walkS, wl, rgets, retv, argsEnv, ev, cst, cst1, cstL, AEnv.get, AEnv.trim, envput, qstep, abin, aun, evs, evo, deref, qload, target, if_true, if_false, Nat.reduceEqDiff, reduceIte, Nat.reduceAdd, AV.cells, AV.isTuple, setMany, alen, aiaddr, afill, Nat.reduceLeDiff, Nat.reduceMul, Nat.reduceLT, afillE, List.replicate, hl2]
      refine storeR rfl rfl (obj_at hl2) rfl ⟨rfl, rfl, rfl, by simp⟩ fun H3 y1 b4 y3 => ?_
      simp only [AV.cells, setMany, List.set_cons_zero, List.set_cons_succ] at b4
      have hl3 : H3.length = 5 := by rw [y1, List.length_append, hl2]; rfl
      have a0 := (y3 0 (by omega)).trans (obj_keep a0)
      have a1 := (y3 1 (by omega)).trans (obj_keep a1)
      have y2 := (y3 2 (by omega)).trans (obj_keep y2)
      have b3 := (y3 3 (by omega)).trans (obj_keep b3)
      simp only [walkS, wl, rgets, retv, argsEnv, ev, cst, cst1, cstL, AEnv.get, AEnv.trim, envput, qstep, abin, aun, evs, evo, deref, qload, target, if_true, if_false, Nat.reduceEqDiff, reduceIte, Nat.reduceAdd, AV.cells, AV.isTuple, setMany, alen, aiaddr, afill, Nat.reduceLeDiff, Nat.reduceMul, Nat.reduceLT, afillE, List.replicate]
      refine call_pure (rParseSheet_ok text hts) (frzL_of' (d := 1) rfl) ?_
      rw [psAV_eq, ← ps_same, ← hX, ← hXE]
      simp only [walkS, wl, rgets, retv, argsEnv, ev, cst, cst1, cstL, AEnv.get, AEnv.trim, envput, qstep, abin, aun, evs, evo, deref, qload, target, if_true, if_false, Nat.reduceEqDiff, reduceIte, Nat.reduceAdd, AV.cells, AV.isTuple, setMany, alen, aiaddr, afill, Nat.reduceLeDiff, Nat.reduceMul, Nat.reduceLT, afillE, List.replicate, hl3]
      refine storeR rfl rfl (obj_at hl3) rfl ⟨rfl, rfl, rfl, by simp⟩ fun H4 y1 b5 y3 => ?_
      simp only [AV.cells, setMany, List.set_cons_zero, List.set_cons_succ] at b5
      have hl4 : H4.length = 6 := by rw [y1, List.length_append, hl3]; rfl
      have a0 := (y3 0 (by omega)).trans (obj_keep a0)
      have a1 := (y3 1 (by omega)).trans (obj_keep a1)
      have y2 := (y3 2 (by omega)).trans (obj_keep y2)
      have b3 := (y3 3 (by omega)).trans (obj_keep b3)
      have b4 := (y3 4 (by omega)).trans (obj_keep b4)
      simp only [walkS, wl, rgets, retv, argsEnv, ev, cst, cst1, cstL, AEnv.get, AEnv.trim, envput, qstep, abin, aun, evs, evo, deref, qload, target, if_true, if_false, Nat.reduceEqDiff, reduceIte, Nat.reduceAdd, AV.cells, AV.isTuple, setMany, alen, aiaddr, afill, Nat.reduceLeDiff, Nat.reduceMul, Nat.reduceLT, afillE, List.replicate, bself, bself2, bne_self_eq_false, y2, b3, b4, b5, aeqO, Nat.reduceAdd, beq_self_eq_true, Bool.and_self, Bool.and_true, Bool.not_true]
      refine call_pure (SameSheet_refl X hXl) (frzL_of' (d := 4) (carL_cons car_sh (carL_cons car_sh rfl))) ?_
      simp only [walkS, wl, rgets, retv, argsEnv, ev, cst, cst1, cstL, AEnv.get, AEnv.trim, envput, qstep, abin, aun, evs, evo, deref, qload, target, if_true, if_false, Nat.reduceEqDiff, reduceIte, Nat.reduceAdd, AV.cells, AV.isTuple, setMany, alen, aiaddr, afill, Nat.reduceLeDiff, Nat.reduceMul, Nat.reduceLT, afillE, List.replicate, bself, bself2, bne_self_eq_false, Bool.not_true]
      refine withBool_intro ?_ ?_ <;> intro g1 <;> simp only [walkS, wl, rgets, retv, argsEnv, ev, cst, cst1, cstL, AEnv.get, AEnv.trim, envput, qstep, abin, aun, evs, evo, deref, qload, target, if_true, if_false, Nat.reduceEqDiff, reduceIte, Nat.reduceAdd, AV.cells, AV.isTuple, setMany, alen, aiaddr, afill, Nat.reduceLeDiff, Nat.reduceMul, Nat.reduceLT, afillE, List.replicate]
      · have hk : okT t = true := by
          by_cases hk : okT t = true
          · exact hk
          · rw [chkT_f (by simpa using hk)] at g1; cases g1
        refine call_pure (ParseTest_ok (prT t) (prT_size t)) (frzL_of' (d := 1) rfl) ?_
        rw [pt_print hk]
        unfold ptAV
        simp only [walkS, wl, rgets, retv, argsEnv, ev, cst, cst1, cstL, AEnv.get, AEnv.trim, envput, qstep, abin, aun, evs, evo, deref, qload, target, if_true, if_false, Nat.reduceEqDiff, reduceIte, Nat.reduceAdd, AV.cells, AV.isTuple, setMany, alen, aiaddr, afill, Nat.reduceLeDiff, Nat.reduceMul, Nat.reduceLT, afillE, List.replicate, hl4]
        refine storeR rfl rfl (obj_at hl4) rfl ⟨rfl, rfl, rfl, by simp⟩ fun H5 y1 b6 y3 => ?_
        simp only [AV.cells, setMany, List.set_cons_zero, List.set_cons_succ] at b6
        have hl5 : H5.length = 7 := by rw [y1, List.length_append, hl4]; rfl
        have a0 := (y3 0 (by omega)).trans (obj_keep a0)
        have a1 := (y3 1 (by omega)).trans (obj_keep a1)
        simp only [walkS, wl, rgets, retv, argsEnv, ev, cst, cst1, cstL, AEnv.get, AEnv.trim, envput, qstep, abin, aun, evs, evo, deref, qload, target, if_true, if_false, Nat.reduceEqDiff, reduceIte, Nat.reduceAdd, AV.cells, AV.isTuple, setMany, alen, aiaddr, afill, Nat.reduceLeDiff, Nat.reduceMul, Nat.reduceLT, afillE, List.replicate, bne_self_eq_false, b6, a0, aeqO, Nat.reduceAdd, beq_self_eq_true, Bool.and_self, Bool.and_true, Bool.not_true]
        exact tail3_1 hsl hl5 (by omega) a1
      · exact tail3_2 hsl hl4 (by omega) a1
  · exact out_bool
end Go.Proofs.YtgadlckkmhhmbaaGreatDoor
