/- Contracts: Standing of the specification. -/
import Derived.Test.YtgadlckkmhhmbaaDoorQC20
set_option linter.unusedVariables false
set_option linter.unusedSimpArgs false
set_option linter.unusedSectionVars false
namespace Go.Proofs.YtgadlckkmhhmbaaDoor
open Go.Awp Go.Grams
set_option linter.unusedSimpArgs false
set_option linter.unusedVariables false
set_option linter.unusedSectionVars false
set_option maxRecDepth 10000
def zeroS : Sht := ⟨0, 0, 0, 0, 0, 0, 0, 0, []⟩
def shAt (l : List Sht) (k : Nat) : Sht := (l[k]?).getD zeroS
theorem shAt_eq {l : List Sht} {k : Nat} (h : k < l.length) : shAt l k = l[k] := by
  unfold shAt; rw [List.getElem?_eq_getElem h]; rfl
/-- Whether the first sheet is replaced by the second one. -/
def repl (l : List Sht) (known : Int) (i j : Nat) : Bool := (shAt l i).no == (shAt l j).no && decide ((shAt l j).known ≤ known) && (decide ((shAt l j).known > (shAt l i).known) || ((shAt l j).known == (shAt l i).known && decide ((j : Int) > (i : Int))))
def lasts (l : List Sht) (known : Int) (i m : Nat) : Bool := !((List.range m).any (repl l known i))
theorem lasts_succ {l : List Sht} {known : Int} {i m : Nat} : lasts l known i (m + 1) = (lasts l known i m && !repl l known i m) := by
  simp [lasts, List.range_succ, List.any_append, Bool.not_or]
def stq (l : List Sht) (wd : List Int) (known : Int) (i : Nat) : Bool := !wd.contains (shAt l i).no && decide ((shAt l i).known ≤ known) && lasts l known i l.length
def stE (l : List Sht) (wd : List Int) (known : Int) : Int := if shsE l ≠ 0 then shsE l else if numsV wd = true ∧ okDay known = true then 0 else 1
def stL (l : List Sht) (wd : List Int) (known : Int) : List Int := if stE l wd known = 0 then idxs (stq l wd known) l.length else []
def stV (l : List Sht) (wd : List Int) (known : Int) : AV := .tuple [.ro true (ic (stL l wd known)), I (stE l wd known)]
theorem st_bad {l : List Sht} {wd : List Int} {known e : Int} (he : stE l wd known = e) (h0 : e ≠ 0) (H : AHeap) : Out H (.tuple [.nilSlice, I e]) (stV l wd known) := by
  have : stL l wd known = [] := by unfold stL; rw [he, if_neg h0]
  unfold stV; rw [this, he]; exact out_two out_nil out_int
theorem st_good {l : List Sht} {wd : List Int} {known : Int} (he : stE l wd known = 0) {H : AHeap} {lo : Nat} {a : AV} (ha : Acc lo H a 3 1 (ic (idxs (stq l wd known) l.length))) : Out H (.tuple [a, I 0]) (stV l wd known) := by
  have : stL l wd known = idxs (stq l wd known) l.length := by unfold stL; rw [if_pos he]
  unfold stV; rw [this, he]; exact out_two (ha.out (ic_simple _)) out_int
theorem rStanding_ok (l : List Sht) (wd : List Int) (known : Int) (hwd : wd.length ≤ 100000) : PCall Tryd.prog 42 [.ro false (srows l), .ro false (ic wd), I known] (stV l wd known) := by
  refine PCall.intro text42 (by simp) ?_
  unfold ir42
  simp only [walk, wl, rgets, retv, argsEnv, ev, cst, cst1, cstL, AEnv.get, AEnv.trim, envput, qstep, abin, aun, evs, evo, deref, qload, target, if_true, if_false, Nat.reduceEqDiff, reduceIte, Nat.reduceAdd, AV.cells, AV.isTuple, setMany, alen, aiaddr, afill, Nat.reduceLeDiff, Nat.reduceMul, Nat.reduceLT, afillE, List.replicate]
  refine call_pure (rsheets_ok l) (frzL_of' (d := 4) (carL_cons car_srows rfl)) ?_
  simp only [walk, wl, rgets, retv, argsEnv, ev, cst, cst1, cstL, AEnv.get, AEnv.trim, envput, qstep, abin, aun, evs, evo, deref, qload, target, if_true, if_false, Nat.reduceEqDiff, reduceIte, Nat.reduceAdd, AV.cells, AV.isTuple, setMany, alen, aiaddr, afill, Nat.reduceLeDiff, Nat.reduceMul, Nat.reduceLT, afillE, List.replicate]
  refine withBool_intro ?_ ?_ <;> intro h2 <;> simp only [walk, wl, rgets, retv, argsEnv, ev, cst, cst1, cstL, AEnv.get, AEnv.trim, envput, qstep, abin, aun, evs, evo, deref, qload, target, if_true, if_false, Nat.reduceEqDiff, reduceIte, Nat.reduceAdd, AV.cells, AV.isTuple, setMany, alen, aiaddr, afill, Nat.reduceLeDiff, Nat.reduceMul, Nat.reduceLT, afillE, List.replicate]
  · have h2' : shsE l ≠ 0 := by simpa using h2
    exact st_bad (by unfold stE; rw [if_pos h2']) h2' _
  · have h2' : shsE l = 0 := by simpa using h2
    have bad : ¬ (numsV wd = true ∧ okDay known = true) → stE l wd known = 1 := fun h => by unfold stE; rw [if_neg (by simp [h2']), if_neg h]
    have hl : l.length ≤ 256 := by
      unfold shsE at h2'; split at h2'
      · cases h2'
      · omega
    refine call_pure (rNumbers_ok wd hwd) (frzL_of' (d := 4) (carL_cons car_ic rfl)) ?_
    simp only [walk, wl, rgets, retv, argsEnv, ev, cst, cst1, cstL, AEnv.get, AEnv.trim, envput, qstep, abin, aun, evs, evo, deref, qload, target, if_true, if_false, Nat.reduceEqDiff, reduceIte, Nat.reduceAdd, AV.cells, AV.isTuple, setMany, alen, aiaddr, afill, Nat.reduceLeDiff, Nat.reduceMul, Nat.reduceLT, afillE, List.replicate]
    refine call_pure (rDay_ok known) (frzL_of' (d := 1) rfl) ?_
    simp only [walk, wl, rgets, retv, argsEnv, ev, cst, cst1, cstL, AEnv.get, AEnv.trim, envput, qstep, abin, aun, evs, evo, deref, qload, target, if_true, if_false, Nat.reduceEqDiff, reduceIte, Nat.reduceAdd, AV.cells, AV.isTuple, setMany, alen, aiaddr, afill, Nat.reduceLeDiff, Nat.reduceMul, Nat.reduceLT, afillE, List.replicate]
    refine withGuard_intro ?_ ?_ <;> intro h3 <;> simp only [walk, wl, rgets, retv, argsEnv, ev, cst, cst1, cstL, AEnv.get, AEnv.trim, envput, qstep, abin, aun, evs, evo, deref, qload, target, if_true, if_false, Nat.reduceEqDiff, reduceIte, Nat.reduceAdd, AV.cells, AV.isTuple, setMany, alen, aiaddr, afill, Nat.reduceLeDiff, Nat.reduceMul, Nat.reduceLT, afillE, List.replicate, h3]
    · refine withBool_intro ?_ ?_ <;> intro h4 <;> simp only [walk, wl, rgets, retv, argsEnv, ev, cst, cst1, cstL, AEnv.get, AEnv.trim, envput, qstep, abin, aun, evs, evo, deref, qload, target, if_true, if_false, Nat.reduceEqDiff, reduceIte, Nat.reduceAdd, AV.cells, AV.isTuple, setMany, alen, aiaddr, afill, Nat.reduceLeDiff, Nat.reduceMul, Nat.reduceLT, afillE, List.replicate]
      · exact st_bad (bad (by simp at h4; simp [h4])) (by decide) _
      · have hE : stE l wd known = 0 := by unfold stE; rw [if_neg (by simp [h2']), if_pos ⟨by simpa using h3, by simpa using h4⟩]
        refine awp_loop (σ := Nat × AV) (fun s => [(0, .ro false (srows l)), (1, .ro false (ic wd)), (2, I known), (11, s.2), (12, I s.1)]) (fun s H => Acc 0 H s.2 3 1 (ic (idxs (stq l wd known) s.1))) (fun s => s.1 ≤ l.length) (fun s => l.length - s.1) (0, .nilSlice) (Nat.zero_le _) rfl (.inl ⟨rfl, rfl⟩) ?_
        rintro ⟨k, a⟩ H hk hacc
        simp only at hk hacc
        simp only [walkS, wl, rgets, retv, argsEnv, ev, cst, cst1, cstL, AEnv.get, AEnv.trim, envput, qstep, abin, aun, evs, evo, deref, qload, target, if_true, if_false, Nat.reduceEqDiff, reduceIte, Nat.reduceAdd, AV.cells, AV.isTuple, setMany, alen, aiaddr, afill, Nat.reduceLeDiff, Nat.reduceMul, Nat.reduceLT, afillE, List.replicate, srows_length]
        refine withBool_intro ?_ ?_ <;> intro hb <;> simp only [walkS, wl, rgets, retv, argsEnv, ev, cst, cst1, cstL, AEnv.get, AEnv.trim, envput, qstep, abin, aun, evs, evo, deref, qload, target, if_true, if_false, Nat.reduceEqDiff, reduceIte, Nat.reduceAdd, AV.cells, AV.isTuple, setMany, alen, aiaddr, afill, Nat.reduceLeDiff, Nat.reduceMul, Nat.reduceLT, afillE, List.replicate]
        · have hlt : k < l.length := by simpa using hb
          have w1 := w_succ (k := k) (by omega)
          have ek := shAt_eq hlt
          simp only [walkS, wl, rgets, retv, argsEnv, ev, cst, cst1, cstL, AEnv.get, AEnv.trim, envput, qstep, abin, aun, evs, evo, deref, qload, target, if_true, if_false, Nat.reduceEqDiff, reduceIte, Nat.reduceAdd, AV.cells, AV.isTuple, setMany, alen, aiaddr, afill, Nat.reduceLeDiff, Nat.reduceMul, Nat.reduceLT, afillE, List.replicate, srows_get hlt]
          refine call_pure (rHas_ok wd l[k].no hwd) (frzL_of' (d := 4) (carL_cons car_ic rfl)) ?_
          simp only [walkS, wl, rgets, retv, argsEnv, ev, cst, cst1, cstL, AEnv.get, AEnv.trim, envput, qstep, abin, aun, evs, evo, deref, qload, target, if_true, if_false, Nat.reduceEqDiff, reduceIte, Nat.reduceAdd, AV.cells, AV.isTuple, setMany, alen, aiaddr, afill, Nat.reduceLeDiff, Nat.reduceMul, Nat.reduceLT, afillE, List.replicate]
          have skip : ¬ (wd.contains l[k].no = false ∧ l[k].known ≤ known) → stq l wd known k = false := fun h => by
            unfold stq; rw [ek, ← Bool.not_eq_true]; intro hh; simp only [Bool.and_eq_true, Bool.not_eq_true', decide_eq_true_eq] at hh; exact h hh.1
          refine withGuard_intro ?_ ?_ <;> intro g1 <;> simp only [walkS, wl, rgets, retv, argsEnv, ev, cst, cst1, cstL, AEnv.get, AEnv.trim, envput, qstep, abin, aun, evs, evo, deref, qload, target, if_true, if_false, Nat.reduceEqDiff, reduceIte, Nat.reduceAdd, AV.cells, AV.isTuple, setMany, alen, aiaddr, afill, Nat.reduceLeDiff, Nat.reduceMul, Nat.reduceLT, afillE, List.replicate, g1, srows_get hlt]
          · refine withBool_intro ?_ ?_ <;> intro g2 <;> simp only [walkS, wl, rgets, retv, argsEnv, ev, cst, cst1, cstL, AEnv.get, AEnv.trim, envput, qstep, abin, aun, evs, evo, deref, qload, target, if_true, if_false, Nat.reduceEqDiff, reduceIte, Nat.reduceAdd, AV.cells, AV.isTuple, setMany, alen, aiaddr, afill, Nat.reduceLeDiff, Nat.reduceMul, Nat.reduceLT, afillE, List.replicate, w1]
            · refine loop_end (k + 1, a) hlt (by simp only; omega) rfl ?_
              rw [idxs_f (skip (by simp at g2; omega))]; exact hacc
            · have hkn : l[k].known ≤ known := by simp at g2; omega
              refine awp_loop (σ := Nat) (fun m => [(0, .ro false (srows l)), (1, .ro false (ic wd)), (2, I known), (11, a), (12, I k), (14, .bool (lasts l known k m)), (15, I m)]) (fun m H => Acc 0 H a 3 1 (ic (idxs (stq l wd known) k))) (fun m => m ≤ l.length) (fun m => l.length - m) 0 (Nat.zero_le _) rfl hacc ?_
              rintro m H2 hm hacc2
              simp only [walkS, wl, rgets, retv, argsEnv, ev, cst, cst1, cstL, AEnv.get, AEnv.trim, envput, qstep, abin, aun, evs, evo, deref, qload, target, if_true, if_false, Nat.reduceEqDiff, reduceIte, Nat.reduceAdd, AV.cells, AV.isTuple, setMany, alen, aiaddr, afill, Nat.reduceLeDiff, Nat.reduceMul, Nat.reduceLT, afillE, List.replicate, srows_length]
              refine withBool_intro ?_ ?_ <;> intro hb2 <;> simp only [walkS, wl, rgets, retv, argsEnv, ev, cst, cst1, cstL, AEnv.get, AEnv.trim, envput, qstep, abin, aun, evs, evo, deref, qload, target, if_true, if_false, Nat.reduceEqDiff, reduceIte, Nat.reduceAdd, AV.cells, AV.isTuple, setMany, alen, aiaddr, afill, Nat.reduceLeDiff, Nat.reduceMul, Nat.reduceLT, afillE, List.replicate]
              · have hmt : m < l.length := by simpa using hb2
                have w2 := w_succ (k := m) (by omega)
                have em := shAt_eq hmt
                have no : repl l known k m = false → lasts l known k (m + 1) = lasts l known k m := fun h => by rw [lasts_succ, h]; simp
                have yes : repl l known k m = true → lasts l known k (m + 1) = false := fun h => by rw [lasts_succ, h]; simp
                simp only [walkS, wl, rgets, retv, argsEnv, ev, cst, cst1, cstL, AEnv.get, AEnv.trim, envput, qstep, abin, aun, evs, evo, deref, qload, target, if_true, if_false, Nat.reduceEqDiff, reduceIte, Nat.reduceAdd, AV.cells, AV.isTuple, setMany, alen, aiaddr, afill, Nat.reduceLeDiff, Nat.reduceMul, Nat.reduceLT, afillE, List.replicate, srows_get hlt, srows_get hmt]
                refine withGuard_intro ?_ ?_ <;> intro g3 <;> simp only [walkS, wl, rgets, retv, argsEnv, ev, cst, cst1, cstL, AEnv.get, AEnv.trim, envput, qstep, abin, aun, evs, evo, deref, qload, target, if_true, if_false, Nat.reduceEqDiff, reduceIte, Nat.reduceAdd, AV.cells, AV.isTuple, setMany, alen, aiaddr, afill, Nat.reduceLeDiff, Nat.reduceMul, Nat.reduceLT, afillE, List.replicate, g3, srows_get hlt, srows_get hmt, w2]
                · refine withBool_intro ?_ ?_ <;> intro g4 <;> simp only [walkS, wl, rgets, retv, argsEnv, ev, cst, cst1, cstL, AEnv.get, AEnv.trim, envput, qstep, abin, aun, evs, evo, deref, qload, target, if_true, if_false, Nat.reduceEqDiff, reduceIte, Nat.reduceAdd, AV.cells, AV.isTuple, setMany, alen, aiaddr, afill, Nat.reduceLeDiff, Nat.reduceMul, Nat.reduceLT, afillE, List.replicate, w2, srows_get hlt, srows_get hmt]
                  · refine loop_end (m + 1) hmt (by omega) (by rw [no (by unfold repl; rw [ek, em]; simp at g4; simp; intros; omega)]) hacc2
                  · have q3 : l[m].no = l[k].no := by simpa using g3
                    have q4 : l[m].known ≤ known := by simp at g4; omega
                    have rp : repl l known k m = (decide (l[m].known > l[k].known) || (l[m].known == l[k].known && decide ((m : Int) > (k : Int)))) := by unfold repl; rw [ek, em, q3]; simp [q4]
                    refine withGuard_intro ?_ ?_ <;> intro g5 <;> simp only [walkS, wl, rgets, retv, argsEnv, ev, cst, cst1, cstL, AEnv.get, AEnv.trim, envput, qstep, abin, aun, evs, evo, deref, qload, target, if_true, if_false, Nat.reduceEqDiff, reduceIte, Nat.reduceAdd, AV.cells, AV.isTuple, setMany, alen, aiaddr, afill, Nat.reduceLeDiff, Nat.reduceMul, Nat.reduceLT, afillE, List.replicate, g5, srows_get hlt, srows_get hmt]
                    · refine withGuard_intro ?_ ?_ <;> intro g6 <;> simp only [walkS, wl, rgets, retv, argsEnv, ev, cst, cst1, cstL, AEnv.get, AEnv.trim, envput, qstep, abin, aun, evs, evo, deref, qload, target, if_true, if_false, Nat.reduceEqDiff, reduceIte, Nat.reduceAdd, AV.cells, AV.isTuple, setMany, alen, aiaddr, afill, Nat.reduceLeDiff, Nat.reduceMul, Nat.reduceLT, afillE, List.replicate, g6, srows_get hlt, srows_get hmt]
                      · refine withBool_intro ?_ ?_ <;> intro g7 <;> simp only [walkS, wl, rgets, retv, argsEnv, ev, cst, cst1, cstL, AEnv.get, AEnv.trim, envput, qstep, abin, aun, evs, evo, deref, qload, target, if_true, if_false, Nat.reduceEqDiff, reduceIte, Nat.reduceAdd, AV.cells, AV.isTuple, setMany, alen, aiaddr, afill, Nat.reduceLeDiff, Nat.reduceMul, Nat.reduceLT, afillE, List.replicate, w2]
                        · refine loop_end (m + 1) hmt (by omega) (by rw [yes (by rw [rp, g5, g6, g7]; rfl)]) hacc2
                        · refine loop_end (m + 1) hmt (by omega) (by rw [no (by rw [rp, g5, g6, g7]; rfl)]) hacc2
                      · simp only [walkS, wl, rgets, retv, argsEnv, ev, cst, cst1, cstL, AEnv.get, AEnv.trim, envput, qstep, abin, aun, evs, evo, deref, qload, target, if_true, if_false, Nat.reduceEqDiff, reduceIte, Nat.reduceAdd, AV.cells, AV.isTuple, setMany, alen, aiaddr, afill, Nat.reduceLeDiff, Nat.reduceMul, Nat.reduceLT, afillE, List.replicate, w2]
                        refine loop_end (m + 1) hmt (by omega) (by rw [no (by rw [rp, g5, g6]; rfl)]) hacc2
                    · simp only [walkS, wl, rgets, retv, argsEnv, ev, cst, cst1, cstL, AEnv.get, AEnv.trim, envput, qstep, abin, aun, evs, evo, deref, qload, target, if_true, if_false, Nat.reduceEqDiff, reduceIte, Nat.reduceAdd, AV.cells, AV.isTuple, setMany, alen, aiaddr, afill, Nat.reduceLeDiff, Nat.reduceMul, Nat.reduceLT, afillE, List.replicate, w2]
                      refine loop_end (m + 1) hmt (by omega) (by rw [yes (by rw [rp, g5]; rfl)]) hacc2
                · refine loop_end (m + 1) hmt (by omega) (by rw [no (by unfold repl; rw [ek, em]; simp at g3; simp; intro h; exact absurd h.symm g3)]) hacc2
              · have hm' : m = l.length := by simp at hb2; omega
                subst hm'
                refine withBool_intro ?_ ?_ <;> intro g3 <;> simp only [walkS, wl, rgets, retv, argsEnv, ev, cst, cst1, cstL, AEnv.get, AEnv.trim, envput, qstep, abin, aun, evs, evo, deref, qload, target, if_true, if_false, Nat.reduceEqDiff, reduceIte, Nat.reduceAdd, AV.cells, AV.isTuple, setMany, alen, aiaddr, afill, Nat.reduceLeDiff, Nat.reduceMul, Nat.reduceLT, afillE, List.replicate]
                · refine acc_append (lo := 0) (Nat.zero_le _) (hacc2.push _) rfl rfl AHeap.obj_push_eq (by rw [ic_length]; have := idxs_len (q := stq l wd known) (k := k); omega) fun a' H4 x1 x2 x3 => ?_
                  simp only [walkS, wl, rgets, retv, argsEnv, ev, cst, cst1, cstL, AEnv.get, AEnv.trim, envput, qstep, abin, aun, evs, evo, deref, qload, target, if_true, if_false, Nat.reduceEqDiff, reduceIte, Nat.reduceAdd, AV.cells, AV.isTuple, setMany, alen, aiaddr, afill, Nat.reduceLeDiff, Nat.reduceMul, Nat.reduceLT, afillE, List.replicate, w1]
                  refine loop_end (k + 1, a') hlt (by simp only; omega) rfl ?_
                  rw [idxs_t (by unfold stq; rw [ek, g1, g3]; simp [hkn]), ic_snoc]; exact x2
                · simp only [walkS, wl, rgets, retv, argsEnv, ev, cst, cst1, cstL, AEnv.get, AEnv.trim, envput, qstep, abin, aun, evs, evo, deref, qload, target, if_true, if_false, Nat.reduceEqDiff, reduceIte, Nat.reduceAdd, AV.cells, AV.isTuple, setMany, alen, aiaddr, afill, Nat.reduceLeDiff, Nat.reduceMul, Nat.reduceLT, afillE, List.replicate, w1]
                  refine loop_end (k + 1, a) hlt (by simp only; omega) rfl ?_
                  rw [idxs_f (by unfold stq; rw [g3]; simp)]; exact hacc2
          · simp only [walkS, wl, rgets, retv, argsEnv, ev, cst, cst1, cstL, AEnv.get, AEnv.trim, envput, qstep, abin, aun, evs, evo, deref, qload, target, if_true, if_false, Nat.reduceEqDiff, reduceIte, Nat.reduceAdd, AV.cells, AV.isTuple, setMany, alen, aiaddr, afill, Nat.reduceLeDiff, Nat.reduceMul, Nat.reduceLT, afillE, List.replicate, w1]
            refine loop_end (k + 1, a) hlt (by simp only; omega) rfl ?_
            rw [idxs_f (skip (by simp at g1; simp [g1]))]; exact hacc
        · have hk' : k = l.length := by simp at hb; omega
          subst hk'
          exact st_good hE hacc
    · exact st_bad (bad (by simp at h3; simp [h3])) (by decide) _
end Go.Proofs.YtgadlckkmhhmbaaDoor
