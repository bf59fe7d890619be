/- Contracts: printers; sheets compared. -/
import Derived.Test.YtgadlckkmhhmbaaGreatDoorQW6
import Derived.Test.YtgadlckkmhhmbaaGreatDoorQC12
set_option linter.unusedVariables false
set_option linter.unusedSimpArgs false
set_option linter.unusedSectionVars false
namespace Go.Proofs.YtgadlckkmhhmbaaGreatDoor
open Go.Awp Go.Grams
set_option linter.unusedSimpArgs false
set_option linter.unusedVariables false
set_option linter.unusedSectionVars false
set_option maxRecDepth 10000
theorem app_assoc (a b c : ByteArray) : a ++ b ++ c = a ++ (b ++ c) := ByteArray.append_assoc
theorem putB_app {sep a : ByteArray} : ∀ (xs : List Int) (b : ByteArray), putB sep xs (a ++ b) = a ++ putB sep xs b
  | [], b => rfl
  | x :: r, b => by
    show putB sep r (a ++ b ++ sep ++ itoaB x) = a ++ putB sep r (b ++ sep ++ itoaB x)
    rw [app_assoc, app_assoc, putB_app r, ← app_assoc]
theorem few64 {n : Int} (h : Few n) : -9223372036854775808 ≤ n ∧ n ≤ 9223372036854775807 := by unfold Few at h; omega
theorem Line_ok (w sep : ByteArray) (l : List Int) (hw : w.size ≤ 1000000) (hl : l.length ≤ 100) (hs : sep.size ≤ 10) (hf : ∀ x, x ∈ l → Few x) : PCall Tryz.prog 29 [.str w, .ro false (ic l), .str sep] (.str (putB sep l w)) := by
  refine PCall.intro text29 (by simp) ?_
  unfold ir29
  simp only [walk, wl, rgets, retv, argsEnv, ev, cst, cst1, cstL, AEnv.get, AEnv.trim, envput, qstep, abin, aun, evs, evo, deref, qload, target, if_true, if_false, Nat.reduceEqDiff, reduceIte, Nat.reduceAdd, AV.cells, AV.isTuple, setMany, alen, aiaddr, afill, Nat.reduceLeDiff, Nat.reduceMul, Nat.reduceLT, afillE, List.replicate]
  refine awp_loop (σ := Nat) (fun k => [(0, .str (putB sep (l.take k) w)), (1, .ro false (ic l)), (2, .str sep), (7, I k)]) (fun _ _ => True) (fun k => k ≤ l.length) (fun k => l.length - k) 0 (Nat.zero_le _) rfl trivial ?_
  rintro k H hk -
  simp only [walk, wl, rgets, retv, argsEnv, ev, cst, cst1, cstL, AEnv.get, AEnv.trim, envput, qstep, abin, aun, evs, evo, deref, qload, target, if_true, if_false, Nat.reduceEqDiff, reduceIte, Nat.reduceAdd, AV.cells, AV.isTuple, setMany, alen, aiaddr, afill, Nat.reduceLeDiff, Nat.reduceMul, Nat.reduceLT, afillE, List.replicate, ic_length]
  refine withBool_intro ?_ ?_ <;> intro hb <;> simp only [walk, wl, rgets, retv, argsEnv, ev, cst, cst1, cstL, AEnv.get, AEnv.trim, envput, qstep, abin, aun, evs, evo, deref, qload, target, if_true, if_false, Nat.reduceEqDiff, reduceIte, Nat.reduceAdd, AV.cells, AV.isTuple, setMany, alen, aiaddr, afill, Nat.reduceLeDiff, Nat.reduceMul, Nat.reduceLT, afillE, List.replicate]
  · have hlt : k < l.length := by simpa using hb
    have w1 := w_succ (k := k) (by omega)
    have hfk := hf _ (List.getElem_mem hlt)
    have h64 := few64 hfk
    have sz := putB_size hs (l.take k) w fun x hx => hf x (List.mem_of_mem_take hx)
    have si := itoaB_size hfk
    have tk : (l.take k).length ≤ 100 := by rw [List.length_take]; omega
    have q1 : sep.size + (itoaB l[k]).size ≤ 9223372036854775807 := by omega
    have q2 : (putB sep (l.take k) w).size + (sep ++ itoaB l[k]).size ≤ 9223372036854775807 := by rw [size_app]; omega
    simp only [walk, wl, rgets, retv, argsEnv, ev, cst, cst1, cstL, AEnv.get, AEnv.trim, envput, qstep, abin, aun, evs, evo, deref, qload, target, if_true, if_false, Nat.reduceEqDiff, reduceIte, Nat.reduceAdd, AV.cells, AV.isTuple, setMany, alen, aiaddr, afill, Nat.reduceLeDiff, Nat.reduceMul, Nat.reduceLT, afillE, List.replicate, ic_get hlt]
    refine call_pure (Itoa_ok _ h64.1 h64.2) (frzL_of' (d := 1) rfl) ?_
    simp only [walk, wl, rgets, retv, argsEnv, ev, cst, cst1, cstL, AEnv.get, AEnv.trim, envput, qstep, abin, aun, evs, evo, deref, qload, target, if_true, if_false, Nat.reduceEqDiff, reduceIte, Nat.reduceAdd, AV.cells, AV.isTuple, setMany, alen, aiaddr, afill, Nat.reduceLeDiff, Nat.reduceMul, Nat.reduceLT, afillE, List.replicate, q1, q2, w1]
    refine loop_end (k + 1) hlt (by omega) (by rw [putB_take hlt, app_assoc]) trivial
  · have hk' : k = l.length := by simp at hb; omega
    subst hk'
    rw [List.take_length]
    exact out_of (d := 1) rfl
def tNums (t : Tst) : List Int := [t.1, t.2.1, t.2.2.1, t.2.2.2]
theorem t_few {t : Tst} (h : okT t = true) : ∀ x, x ∈ tNums t → Few x := by
  have := okT_iff.1 h
  intro x hx
  simp [tNums] at hx
  unfold Few
  rcases hx with rfl | rfl | rfl | rfl <;> omega
def prT (t : Tst) : ByteArray := if okT t = true then putB bSp (tNums t) bTest else ByteArray.mk (Array.mk [])
theorem rPrintTest_ok (t : Tst) : PCall Tryz.prog 6 [.agg (td t)] (.tuple [.str (prT t), I (chkT t)]) := by
  refine PCall.intro text6 (by simp) ?_
  unfold ir6
  simp only [walk, wl, rgets, retv, argsEnv, ev, cst, cst1, cstL, AEnv.get, AEnv.trim, envput, qstep, abin, aun, evs, evo, deref, qload, target, if_true, if_false, Nat.reduceEqDiff, reduceIte, Nat.reduceAdd, AV.cells, AV.isTuple, setMany, alen, aiaddr, afill, Nat.reduceLeDiff, Nat.reduceMul, Nat.reduceLT, afillE, List.replicate]
  refine call_pure (rCheckTest_ok t) (frzL_of' (d := 4) (carL_cons car_td rfl)) ?_
  by_cases hk : okT t = true
  · rw [chkT_t hk]
    have e : prT t = putB bSp (tNums t) bTest := by unfold prT; rw [if_pos hk]
    rw [e]
    simp only [walk, wl, rgets, retv, argsEnv, ev, cst, cst1, cstL, AEnv.get, AEnv.trim, envput, qstep, abin, aun, evs, evo, deref, qload, target, if_true, if_false, Nat.reduceEqDiff, reduceIte, Nat.reduceAdd, AV.cells, AV.isTuple, setMany, alen, aiaddr, afill, Nat.reduceLeDiff, Nat.reduceMul, Nat.reduceLT, afillE, List.replicate, bne_self_eq_false]
    refine call_pure (Line_ok bTest bSp (tNums t) (by decide) (by simp [tNums]) (by decide) (t_few hk)) ?_ ?_
    · exact frzL_of' (d := 4) (carL_cons rfl (carL_cons rfl (carL_cons rfl rfl)))
    · simp only [walk, wl, rgets, retv, argsEnv, ev, cst, cst1, cstL, AEnv.get, AEnv.trim, envput, qstep, abin, aun, evs, evo, deref, qload, target, if_true, if_false, Nat.reduceEqDiff, reduceIte, Nat.reduceAdd, AV.cells, AV.isTuple, setMany, alen, aiaddr, afill, Nat.reduceLeDiff, Nat.reduceMul, Nat.reduceLT, afillE, List.replicate]
      exact out_of (d := 3) rfl
  · have hk' : okT t = false := by simpa using hk
    have e : prT t = ByteArray.mk (Array.mk []) := by unfold prT; rw [if_neg hk]
    rw [chkT_f hk', e]
    have t10 : ((10 : Int) != 0) = true := rfl
    simp only [walk, wl, rgets, retv, argsEnv, ev, cst, cst1, cstL, AEnv.get, AEnv.trim, envput, qstep, abin, aun, evs, evo, deref, qload, target, if_true, if_false, Nat.reduceEqDiff, reduceIte, Nat.reduceAdd, AV.cells, AV.isTuple, setMany, alen, aiaddr, afill, Nat.reduceLeDiff, Nat.reduceMul, Nat.reduceLT, afillE, List.replicate, t10]
    exact out_of (d := 3) rfl
theorem SameSheet_refl (a : Sht) (hal : a.st.length ≤ 1000000) : PCall Tryz.prog 13 [sh a, sh a] (.bool true) := by
  refine PCall.intro text13 (by simp) ?_
  unfold ir13
  simp only [walk, wl, rgets, retv, argsEnv, ev, cst, cst1, cstL, AEnv.get, AEnv.trim, envput, qstep, abin, aun, evs, evo, deref, qload, target, if_true, if_false, Nat.reduceEqDiff, reduceIte, Nat.reduceAdd, AV.cells, AV.isTuple, setMany, alen, aiaddr, afill, Nat.reduceLeDiff, Nat.reduceMul, Nat.reduceLT, afillE, List.replicate, bne_self_eq_false, krows_length]
  refine awp_loop (σ := Nat) (fun k => [(2, .ptr 0 1 0 0), (3, .ptr 1 1 0 0), (5, I k)]) (fun _ H => H = [some ⟨26, 9, [shR false a]⟩, some ⟨26, 9, [shR false a]⟩]) (fun k => k ≤ a.st.length) (fun k => a.st.length - k) 0 (Nat.zero_le _) rfl rfl ?_
  rintro k H hk rfl
  simp only [walk, wl, rgets, retv, argsEnv, ev, cst, cst1, cstL, AEnv.get, AEnv.trim, envput, qstep, abin, aun, evs, evo, deref, qload, target, if_true, if_false, Nat.reduceEqDiff, reduceIte, Nat.reduceAdd, AV.cells, AV.isTuple, setMany, alen, aiaddr, afill, Nat.reduceLeDiff, Nat.reduceMul, Nat.reduceLT, afillE, List.replicate, krows_length]
  refine withBool_intro ?_ ?_ <;> intro hb <;> simp only [walk, wl, rgets, retv, argsEnv, ev, cst, cst1, cstL, AEnv.get, AEnv.trim, envput, qstep, abin, aun, evs, evo, deref, qload, target, if_true, if_false, Nat.reduceEqDiff, reduceIte, Nat.reduceAdd, AV.cells, AV.isTuple, setMany, alen, aiaddr, afill, Nat.reduceLeDiff, Nat.reduceMul, Nat.reduceLT, afillE, List.replicate]
  · have hlt : k < a.st.length := by simpa using hb
    have w1 := w_succ (k := k) (by omega)
    simp only [walk, wl, rgets, retv, argsEnv, ev, cst, cst1, cstL, AEnv.get, AEnv.trim, envput, qstep, abin, aun, evs, evo, deref, qload, target, if_true, if_false, Nat.reduceEqDiff, reduceIte, Nat.reduceAdd, AV.cells, AV.isTuple, setMany, alen, aiaddr, afill, Nat.reduceLeDiff, Nat.reduceMul, Nat.reduceLT, afillE, List.replicate, krows_get hlt, List.length_cons, aeqO, Nat.reduceAdd, beq_self_eq_true, Bool.and_self, Bool.and_true, Bool.not_true, w1]
    exact loop_end (k + 1) hlt (by omega) rfl rfl
  · exact out_bool
theorem PrintTest_ok (t : Tst) : PCall Tryz.prog 5 [.agg (td t)] (.tuple [.str (prT t), I (chkT t)]) := by
  refine PCall.intro text5 (by simp) ?_
  unfold ir5
  simp only [walk, wl, rgets, retv, argsEnv, ev, cst, cst1, cstL, AEnv.get, AEnv.trim, envput, qstep, abin, aun, evs, evo, deref, qload, target, if_true, if_false, Nat.reduceEqDiff, reduceIte, Nat.reduceAdd, AV.cells, AV.isTuple, setMany, alen, aiaddr, afill, Nat.reduceLeDiff, Nat.reduceMul, Nat.reduceLT, afillE, List.replicate]
  refine call_pure (CheckTest_ok t) (frzL_of' (d := 4) (carL_cons car_td rfl)) ?_
  by_cases hk : okT t = true
  · rw [chkT_t hk]
    have e : prT t = putB bSp (tNums t) bTest := by unfold prT; rw [if_pos hk]
    rw [e]
    simp only [walk, wl, rgets, retv, argsEnv, ev, cst, cst1, cstL, AEnv.get, AEnv.trim, envput, qstep, abin, aun, evs, evo, deref, qload, target, if_true, if_false, Nat.reduceEqDiff, reduceIte, Nat.reduceAdd, AV.cells, AV.isTuple, setMany, alen, aiaddr, afill, Nat.reduceLeDiff, Nat.reduceMul, Nat.reduceLT, afillE, List.replicate, bne_self_eq_false]
    have hb0 : Bld [some ⟨23, 4, [td t]⟩, some ⟨61, 2, [[.nilPtr, .nilSlice]]⟩] 1 none (ByteArray.mk (Array.mk [])) := ⟨_, _, rfl, .inl rfl, .inl ⟨rfl, rfl, rfl⟩⟩
    refine (WriteString_a (s := bTest) hb0 (by decide)).mono ?_
    rintro x H1 ⟨rfl, q1, hb1, hk1, hn1⟩
    have e0 : ByteArray.mk (Array.mk []) ++ bTest = bTest := by decide +kernel
    rw [e0] at hb1
    have k0 : AHeap.obj H1 0 = some ⟨23, 4, [td t]⟩ := hk1.2 0 (by simp) (by decide) (fun e => by cases e)
    simp only [walkS, wl, rgets, retv, argsEnv, ev, cst, cst1, cstL, AEnv.get, AEnv.trim, envput, qstep, abin, aun, evs, evo, deref, qload, target, if_true, if_false, Nat.reduceEqDiff, reduceIte, Nat.reduceAdd, AV.cells, AV.isTuple, setMany, alen, aiaddr, afill, Nat.reduceLeDiff, Nat.reduceMul, Nat.reduceLT, afillE, List.replicate, k0]
    refine (put_a (sep := bSp) (xs := tNums t) (v := H1.length) (hb1.push _) obj_app (by have := hb1.lt; omega) (fun e => by have := hb1.qlt _ e; omega) (by decide) (t_few hk) (by rw [show bTest.size = 4 from rfl, show (tNums t).length = 4 from rfl]; omega)).mono ?_
    rintro x H2 ⟨rfl, q2, hb2, hk2, hn2⟩
    have hge := putB_ge (sep := bSp) (tNums t) bTest
    obtain ⟨B0, hB0⟩ : ∃ B0, B0 = putB bSp (tNums t) bTest := ⟨_, rfl⟩
    rw [← hB0] at hb2 hge ⊢
    have hB5 : B0.size ≠ 0 := by have : bTest.size = 4 := rfl; omega
    obtain ⟨x0, a, ho, hx, hq⟩ := hb2
    simp only [walkS, wl, rgets, retv, argsEnv, ev, cst, cst1, cstL, AEnv.get, AEnv.trim, envput, qstep, abin, aun, evs, evo, deref, qload, target, if_true, if_false, Nat.reduceEqDiff, reduceIte, Nat.reduceAdd, AV.cells, AV.isTuple, setMany, alen, aiaddr, afill, Nat.reduceLeDiff, Nat.reduceMul, Nat.reduceLT, afillE, List.replicate]
    rcases hq with ⟨_, h2, _⟩ | ⟨i, h1, h2, rfl, h4⟩
    · exact absurd h2 hB5
    · refine (String_a ho h4 hB5).mono ?_
      rintro x H5 ⟨rfl, rfl⟩
      simp only [walkS, wl, rgets, retv, argsEnv, ev, cst, cst1, cstL, AEnv.get, AEnv.trim, envput, qstep, abin, aun, evs, evo, deref, qload, target, if_true, if_false, Nat.reduceEqDiff, reduceIte, Nat.reduceAdd, AV.cells, AV.isTuple, setMany, alen, aiaddr, afill, Nat.reduceLeDiff, Nat.reduceMul, Nat.reduceLT, afillE, List.replicate]
      exact out_two (out_of (d := 1) rfl) out_int
  · have hk' : okT t = false := by simpa using hk
    have e : prT t = ByteArray.mk (Array.mk []) := by unfold prT; rw [if_neg hk]
    rw [chkT_f hk', e]
    have t10 : ((10 : Int) != 0) = true := rfl
    simp only [walk, wl, rgets, retv, argsEnv, ev, cst, cst1, cstL, AEnv.get, AEnv.trim, envput, qstep, abin, aun, evs, evo, deref, qload, target, if_true, if_false, Nat.reduceEqDiff, reduceIte, Nat.reduceAdd, AV.cells, AV.isTuple, setMany, alen, aiaddr, afill, Nat.reduceLeDiff, Nat.reduceMul, Nat.reduceLT, afillE, List.replicate, t10]
    exact out_of (d := 3) rfl
theorem rPrintSheet_ok (s : Sht) : PCall Tryz.prog 8 [sh s] (.tuple [.str (prS s), I (chkSh s)]) := by
  refine PCall.intro text8 (by simp) ?_
  unfold ir8
  simp only [walk, wl, rgets, retv, argsEnv, ev, cst, cst1, cstL, AEnv.get, AEnv.trim, envput, qstep, abin, aun, evs, evo, deref, qload, target, if_true, if_false, Nat.reduceEqDiff, reduceIte, Nat.reduceAdd, AV.cells, AV.isTuple, setMany, alen, aiaddr, afill, Nat.reduceLeDiff, Nat.reduceMul, Nat.reduceLT, afillE, List.replicate]
  refine call_pure (rCheckSheet_ok s) (frzL_of' (d := 4) (carL_cons car_sh rfl)) ?_
  simp only [walk, wl, rgets, retv, argsEnv, ev, cst, cst1, cstL, AEnv.get, AEnv.trim, envput, qstep, abin, aun, evs, evo, deref, qload, target, if_true, if_false, Nat.reduceEqDiff, reduceIte, Nat.reduceAdd, AV.cells, AV.isTuple, setMany, alen, aiaddr, afill, Nat.reduceLeDiff, Nat.reduceMul, Nat.reduceLT, afillE, List.replicate]
  refine withBool_intro ?_ ?_ <;> intro h1 <;> simp only [walk, wl, rgets, retv, argsEnv, ev, cst, cst1, cstL, AEnv.get, AEnv.trim, envput, qstep, abin, aun, evs, evo, deref, qload, target, if_true, if_false, Nat.reduceEqDiff, reduceIte, Nat.reduceAdd, AV.cells, AV.isTuple, setMany, alen, aiaddr, afill, Nat.reduceLeDiff, Nat.reduceMul, Nat.reduceLT, afillE, List.replicate]
  · have : prS s = ByteArray.mk (Array.mk []) := by
      unfold prS; rw [if_neg]; intro h; simp [chkSh, h] at h1
    rw [this]; exact out_two (out_of (d := 1) rfl) out_int
  · have h0 : chkSh s = 0 := by simpa using h1
    have hs := chkSh_zero h0
    obtain ⟨n1, n2, n3, d1, d2, d3, ge, hm, hn, hk⟩ := okSh_iff.1 hs
    have hfew : ∀ x, x ∈ shNums s → Few x := by
      simp [okNo, okDay, okGram] at n1 n2 n3 d1 d2 d3 ge
      intro x hx
      simp [shNums] at hx
      rcases hx with rfl | rfl | rfl | rfl | rfl | rfl | rfl | rfl <;> omega
    refine call_pure (Line_ok bSheet bSp (shNums s) (by decide) (by simp [shNums]) (by decide) hfew) (frzL_of' (d := 4) (carL_cons rfl (carL_cons rfl (carL_cons rfl rfl)))) ?_
    have hsz0 : (putB bSp (shNums s) bSheet).size ≤ 300 := by
      have := putB_size (sep := bSp) (by decide) (shNums s) bSheet hfew
      have h1 : bSheet.size = 5 := rfl
      have h2 : (shNums s).length = 8 := rfl
      omega
    obtain ⟨B0, hB0⟩ : ∃ B0, B0 = putB bSp (shNums s) bSheet := ⟨_, rfl⟩
    have hprS : prS s = s.st.foldl stakeB B0 := by unfold prS; rw [if_pos hs, hB0]; rfl
    rw [← hB0] at hsz0 ⊢
    rw [hprS, h0]
    clear hB0 hprS
    simp only [walkS, wl, rgets, retv, argsEnv, ev, cst, cst1, cstL, AEnv.get, AEnv.trim, envput, qstep, abin, aun, evs, evo, deref, qload, target, if_true, if_false, Nat.reduceEqDiff, reduceIte, Nat.reduceAdd, AV.cells, AV.isTuple, setMany, alen, aiaddr, afill, Nat.reduceLeDiff, Nat.reduceMul, Nat.reduceLT, afillE, List.replicate]
    refine awp_loop (σ := Nat) (fun k => [(1, .ptr 0 1 0 0), (5, .str ((s.st.take k).foldl stakeB B0)), (6, I k)]) (fun k H => AHeap.obj H 0 = some ⟨26, 9, [shR false s]⟩) (fun k => k ≤ s.st.length) (fun k => s.st.length - k) 0 (Nat.zero_le _) rfl rfl ?_
    rintro k H hk0 o0
    simp only [walkS, wl, rgets, retv, argsEnv, ev, cst, cst1, cstL, AEnv.get, AEnv.trim, envput, qstep, abin, aun, evs, evo, deref, qload, target, if_true, if_false, Nat.reduceEqDiff, reduceIte, Nat.reduceAdd, AV.cells, AV.isTuple, setMany, alen, aiaddr, afill, Nat.reduceLeDiff, Nat.reduceMul, Nat.reduceLT, afillE, List.replicate, o0, krows_length]
    refine withBool_intro ?_ ?_ <;> intro hbb <;> simp only [walkS, wl, rgets, retv, argsEnv, ev, cst, cst1, cstL, AEnv.get, AEnv.trim, envput, qstep, abin, aun, evs, evo, deref, qload, target, if_true, if_false, Nat.reduceEqDiff, reduceIte, Nat.reduceAdd, AV.cells, AV.isTuple, setMany, alen, aiaddr, afill, Nat.reduceLeDiff, Nat.reduceMul, Nat.reduceLT, afillE, List.replicate]
    · have hlt : k < s.st.length := by simpa using hbb
      have w1 := w_succ (k := k) (by omega)
      have hkk := hk _ (List.getElem_mem hlt)
      have hsz := stakes_size (s.st.take k) B0 fun q hq => hk q (List.mem_of_mem_take hq)
      have hft := foldl_take (f := stakeB) (b := B0) hlt
      have hln : (s.st.take k).length ≤ 32 := by rw [List.length_take]; omega
      simp only [walkS, wl, rgets, retv, argsEnv, ev, cst, cst1, cstL, AEnv.get, AEnv.trim, envput, qstep, abin, aun, evs, evo, deref, qload, target, if_true, if_false, Nat.reduceEqDiff, reduceIte, Nat.reduceAdd, AV.cells, AV.isTuple, setMany, alen, aiaddr, afill, Nat.reduceLeDiff, Nat.reduceMul, Nat.reduceLT, afillE, List.replicate, o0, krows_get hlt, List.length_cons]
      obtain ⟨B1, hB1⟩ : ∃ B1, B1 = (s.st.take k).foldl stakeB B0 := ⟨_, rfl⟩
      rw [← hB1] at hsz hft ⊢
      obtain ⟨kk, hkk'⟩ : ∃ kk, kk = s.st[k] := ⟨_, rfl⟩
      rw [← hkk'] at hkk hft ⊢
      obtain ⟨f1, f2, f3, f4, f5⟩ := stake_few hkk
      have g1 := few64 f1
      have stB : stakeB B1 kk = B1 ++ (bSp ++ putB bSl [kk.2.1, kk.2.2.1, kk.2.2.2.1, kk.2.2.2.2] (itoaB kk.1)) := by
        show putB bSl _ (B1 ++ bSp ++ itoaB kk.1) = _
        rw [putB_app, app_assoc]
      have i1 := itoaB_size f1
      have i2 := putB_size (sep := bSl) (by decide) [kk.2.1, kk.2.2.1, kk.2.2.2.1, kk.2.2.2.2] (itoaB kk.1) (by intro x hx; simp at hx; rcases hx with rfl | rfl | rfl | rfl <;> assumption)
      simp only [List.length_cons, List.length_nil] at i2
      have hsp : bSp.size = 1 := rfl
      have q1 : bSp.size + (putB bSl [kk.2.1, kk.2.2.1, kk.2.2.2.1, kk.2.2.2.2] (itoaB kk.1)).size ≤ 9223372036854775807 := by omega
      have q2 : B1.size + (bSp ++ putB bSl [kk.2.1, kk.2.2.1, kk.2.2.2.1, kk.2.2.2.2] (itoaB kk.1)).size ≤ 9223372036854775807 := by rw [size_app]; omega
      refine storeR rfl rfl AHeap.obj_push_eq rfl ⟨rfl, rfl, rfl, by simp⟩ fun H1 y1 y2 y3 => ?_
      simp only [AV.cells, setMany, List.set_cons_zero, List.set_cons_succ] at y2
      simp only [List.length_append, List.length_cons, List.length_nil] at y1
      have p0 := (y3 0 (by have := AHeap.obj_lt o0; omega)).trans (obj_keep o0)
      simp only [walkS, wl, rgets, retv, argsEnv, ev, cst, cst1, cstL, AEnv.get, AEnv.trim, envput, qstep, abin, aun, evs, evo, deref, qload, target, if_true, if_false, Nat.reduceEqDiff, reduceIte, Nat.reduceAdd, AV.cells, AV.isTuple, setMany, alen, aiaddr, afill, Nat.reduceLeDiff, Nat.reduceMul, Nat.reduceLT, afillE, List.replicate, y2]
      refine dcall_pure (Itoa_ok kk.1 g1.1 g1.2) (fun X => frzL_of (d := 1) rfl X) ?_
      simp only [walkS, wl, rgets, retv, argsEnv, ev, cst, cst1, cstL, AEnv.get, AEnv.trim, envput, qstep, abin, aun, evs, evo, deref, qload, target, if_true, if_false, Nat.reduceEqDiff, reduceIte, Nat.reduceAdd, AV.cells, AV.isTuple, setMany, alen, aiaddr, afill, Nat.reduceLeDiff, Nat.reduceMul, Nat.reduceLT, afillE, List.replicate, y2]
      refine dcall_pure (Line_ok (itoaB kk.1) bSl [kk.2.1, kk.2.2.1, kk.2.2.2.1, kk.2.2.2.2] (by omega) (by simp) (by decide) (by intro x hx; simp at hx; rcases hx with rfl | rfl | rfl | rfl <;> assumption)) (fun X => frzL_of (d := 4) (carL_cons car_str (carL_cons (car_ownN (els := ic [kk.2.1, kk.2.2.1, kk.2.2.2.1, kk.2.2.2.2]) AHeap.obj_push_eq rfl (ic_simple _)) (carL_cons car_str rfl))) X) ?_
      have q1' : (ByteArray.mk (Array.mk [32])).size + (putB bSl [kk.2.1, kk.2.2.1, kk.2.2.2.1, kk.2.2.2.2] (itoaB kk.1)).size ≤ 9223372036854775807 := q1
      have q2' : B1.size + ((ByteArray.mk (Array.mk [32])) ++ putB bSl [kk.2.1, kk.2.2.1, kk.2.2.2.1, kk.2.2.2.2] (itoaB kk.1)).size ≤ 9223372036854775807 := q2
      simp only [walkS, wl, rgets, retv, argsEnv, ev, cst, cst1, cstL, AEnv.get, AEnv.trim, envput, qstep, abin, aun, evs, evo, deref, qload, target, if_true, if_false, Nat.reduceEqDiff, reduceIte, Nat.reduceAdd, AV.cells, AV.isTuple, setMany, alen, aiaddr, afill, Nat.reduceLeDiff, Nat.reduceMul, Nat.reduceLT, afillE, List.replicate, q1', q2', w1]
      refine loop_end (k + 1) hlt (by omega) (by rw [hft, stB]; rfl) (obj_keep p0)
    · have hk' : k = s.st.length := by simp at hbb; omega
      subst hk'
      rw [List.take_length]
      exact out_of (d := 3) rfl
end Go.Proofs.YtgadlckkmhhmbaaGreatDoor
