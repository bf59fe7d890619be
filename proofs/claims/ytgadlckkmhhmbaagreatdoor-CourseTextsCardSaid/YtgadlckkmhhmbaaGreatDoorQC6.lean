/- Contracts: a further test; scales that are the same. -/
import Derived.Test.YtgadlckkmhhmbaaGreatDoorQC5
import Derived.Test.YtgadlckkmhhmbaaGreatDoorQG7
set_option linter.unusedVariables false
set_option linter.unusedSimpArgs false
set_option linter.unusedSectionVars false
namespace Go.Proofs.YtgadlckkmhhmbaaGreatDoor
open Go.Awp Go.Grams
set_option linter.unusedSimpArgs false
set_option linter.unusedVariables false
set_option linter.unusedSectionVars false
set_option maxRecDepth 10000
def addV (no rate : Int) (ts : List Tst) (t : Tst) : AV := .tuple [.agg [I (addS no rate ts t).1, I (addS no rate ts t).2.1, .ro true (trows (addS no rate ts t).2.2)], I (addE no rate ts t)]
theorem aslice3_full {H : AHeap} {b : Bool} {ts : List Tst} : aslice3 H 4 (.ro b (trows ts)) none (some (I ts.length)) (some (I ts.length)) = some (.full (trows ts)) := by
  have h2 : (0 : Int) ≤ (ts.length : Int) ∧ (ts.length : Int) ≤ (ts.length : Int) := by omega
  have h3 : List.take ts.length (trows ts) = trows ts := by rw [← trows_length ts, List.take_length]
  simp only [aslice3, trows_all, if_true, abndX, abnds, abnd1, trows_length, h2, and_self, Int.toNat_natCast, h3, List.drop_zero]
theorem app_full {env : AEnv} {x y : Operand} {H : AHeap} {hl e s bytes : Nat} {l : List (List AV)} {r : List AV} {K : AV → AHeap → Prop} (hx : ev env x = some (.full l)) (hy : ev env y = some (.own hl 1 0 1)) (ho : AHeap.obj H hl = some ⟨e, s, [r]⟩) (hu : (l.all fun e => e.length == s) = true)
    (hb : l.length + 1 ≤ 140737488355328 ∧ (l.length + 1) * bytes ≤ 140737488355328) (hk : K (.own H.length (l.length + 1) 0 (l.length + 1)) (H ++ [some ⟨e, s, l ++ [r]⟩])) : withRes (sstep (.append e s bytes x y) env H) K := by
  have hs : asrc H s (.own hl 1 0 1) = some [r] := by simp only [asrc, ho, List.length_cons, List.length_nil, and_self, if_true]; rfl
  simp only [sstep, hx, hy, hs, hu]
  rw [if_neg (by simp), if_pos ⟨trivial, by simpa using hb.1, by simpa using hb.2⟩]
  exact hk
theorem out_nosc {H : AHeap} : Out H (.agg [I 0, I 0, .nilSlice]) (.agg [I 0, I 0, .ro true (trows [])]) := out_agg3 out_int out_int out_nil rfl rfl rfl
theorem add_bad {no rate : Int} {ts : List Tst} {t : Tst} {e : Int} (he : addE no rate ts t = e) (h0 : e ≠ 0) (H : AHeap) : Out H (.tuple [.agg [I 0, I 0, .nilSlice], I e]) (addV no rate ts t) := by
  have : addS no rate ts t = (0, 0, []) := by unfold addS; rw [he, if_neg h0]
  unfold addV; rw [this, he]; exact out_two out_nosc out_int
theorem AddTest_ok (no rate : Int) (ts : List Tst) (t : Tst) : PCall Tryz.prog 16 [sc no rate ts, .agg (td t)] (addV no rate ts t) := by
  refine PCall.intro text16 (by simp) ?_
  unfold ir16
  simp only [walk, wl, rgets, retv, argsEnv, ev, cst, cst1, cstL, AEnv.get, AEnv.trim, envput, qstep, abin, aun, evs, evo, deref, qload, target, if_true, if_false, Nat.reduceEqDiff, reduceIte, Nat.reduceAdd, AV.cells, AV.isTuple, setMany, alen, aiaddr, afill, Nat.reduceLeDiff, Nat.reduceMul, Nat.reduceLT, afillE, List.replicate]
  refine call_pure (CheckScale_ok no rate ts) (frzL_of' (d := 4) (carL_cons car_sc rfl)) ?_
  simp only [walk, wl, rgets, retv, argsEnv, ev, cst, cst1, cstL, AEnv.get, AEnv.trim, envput, qstep, abin, aun, evs, evo, deref, qload, target, if_true, if_false, Nat.reduceEqDiff, reduceIte, Nat.reduceAdd, AV.cells, AV.isTuple, setMany, alen, aiaddr, afill, Nat.reduceLeDiff, Nat.reduceMul, Nat.reduceLT, afillE, List.replicate]
  refine withBool_intro ?_ ?_ <;> intro h1 <;> simp only [walk, wl, rgets, retv, argsEnv, ev, cst, cst1, cstL, AEnv.get, AEnv.trim, envput, qstep, abin, aun, evs, evo, deref, qload, target, if_true, if_false, Nat.reduceEqDiff, reduceIte, Nat.reduceAdd, AV.cells, AV.isTuple, setMany, alen, aiaddr, afill, Nat.reduceLeDiff, Nat.reduceMul, Nat.reduceLT, afillE, List.replicate]
  · exact add_bad (by simp at h1; simp [addE, h1]) (by simpa using h1) _
  · have h1' : chkS no rate ts = 0 := by simpa using h1
    obtain ⟨hw, hc⟩ := chkS_zero h1'
    obtain ⟨-, hr, hlen, hok, -⟩ := well_iff.1 hw
    refine call_pure (CheckTest_ok t) (frzL_of' (d := 4) rfl) ?_
    simp only [walk, wl, rgets, retv, argsEnv, ev, cst, cst1, cstL, AEnv.get, AEnv.trim, envput, qstep, abin, aun, evs, evo, deref, qload, target, if_true, if_false, Nat.reduceEqDiff, reduceIte, Nat.reduceAdd, AV.cells, AV.isTuple, setMany, alen, aiaddr, afill, Nat.reduceLeDiff, Nat.reduceMul, Nat.reduceLT, afillE, List.replicate]
    refine withBool_intro ?_ ?_ <;> intro h2 <;> simp only [walk, wl, rgets, retv, argsEnv, ev, cst, cst1, cstL, AEnv.get, AEnv.trim, envput, qstep, abin, aun, evs, evo, deref, qload, target, if_true, if_false, Nat.reduceEqDiff, reduceIte, Nat.reduceAdd, AV.cells, AV.isTuple, setMany, alen, aiaddr, afill, Nat.reduceLeDiff, Nat.reduceMul, Nat.reduceLT, afillE, List.replicate, trows_length]
    · have ht : okT t = false := by
        unfold chkT at h2; split at h2
        · simp at h2
        · simpa using ‹¬ okT t = true›
      exact add_bad (by simp [addE, h1', ht]) (by decide) _
    · have ht : okT t = true := by
        unfold chkT at h2; split at h2
        · assumption
        · simp at h2
      refine withBool_intro ?_ ?_ <;> intro h3 <;> simp only [walk, wl, rgets, retv, argsEnv, ev, cst, cst1, cstL, AEnv.get, AEnv.trim, envput, qstep, abin, aun, evs, evo, deref, qload, target, if_true, if_false, Nat.reduceEqDiff, reduceIte, Nat.reduceAdd, AV.cells, AV.isTuple, setMany, alen, aiaddr, afill, Nat.reduceLeDiff, Nat.reduceMul, Nat.reduceLT, afillE, List.replicate]
      · have h3' : ts.length = 64 := by simp at h3; omega
        exact add_bad (by simp [addE, h1', ht, h3']) (by decide) _
      · have h3' : ¬ ts.length = 64 := by simp at h3; omega
        have hlt64 : ts.length < 64 := by omega
        refine withGuard_intro ?_ ?_ <;> intro h4 <;> simp only [walk, wl, rgets, retv, argsEnv, ev, cst, cst1, cstL, AEnv.get, AEnv.trim, envput, qstep, abin, aun, evs, evo, deref, qload, target, if_true, if_false, Nat.reduceEqDiff, reduceIte, Nat.reduceAdd, AV.cells, AV.isTuple, setMany, alen, aiaddr, afill, Nat.reduceLeDiff, Nat.reduceMul, Nat.reduceLT, afillE, List.replicate, h4, trows_length]
        · have h0 : 0 < ts.length := by simp at h4; omega
          have hl1 : ts.length - 1 < ts.length := by omega
          simp only [walk, wl, rgets, retv, argsEnv, ev, cst, cst1, cstL, AEnv.get, AEnv.trim, envput, qstep, abin, aun, evs, evo, deref, qload, target, if_true, if_false, Nat.reduceEqDiff, reduceIte, Nat.reduceAdd, AV.cells, AV.isTuple, setMany, alen, aiaddr, afill, Nat.reduceLeDiff, Nat.reduceMul, Nat.reduceLT, afillE, List.replicate, w_pred h0 (by omega), trows_get hl1]
          refine withBool_intro ?_ ?_ <;> intro h5 <;> simp only [walk, wl, rgets, retv, argsEnv, ev, cst, cst1, cstL, AEnv.get, AEnv.trim, envput, qstep, abin, aun, evs, evo, deref, qload, target, if_true, if_false, Nat.reduceEqDiff, reduceIte, Nat.reduceAdd, AV.cells, AV.isTuple, setMany, alen, aiaddr, afill, Nat.reduceLeDiff, Nat.reduceMul, Nat.reduceLT, afillE, List.replicate]
          · have he : earlyT ts t = true := by rw [earlyT_get h0]; exact h5
            exact add_bad (by simp [addE, h1', ht, h3', he]) (by decide) _
          · have he : earlyT ts t = false := by rw [earlyT_get h0]; exact h5
            have hE : addE no rate ts t = if ts.any (clash rate t) = true then 13 else 0 := by simp [addE, h1', ht, h3', he]
            simp only [walk, wl, rgets, retv, argsEnv, ev, cst, cst1, cstL, AEnv.get, AEnv.trim, envput, qstep, abin, aun, evs, evo, deref, qload, target, if_true, if_false, Nat.reduceEqDiff, reduceIte, Nat.reduceAdd, AV.cells, AV.isTuple, setMany, alen, aiaddr, afill, Nat.reduceLeDiff, Nat.reduceMul, Nat.reduceLT, afillE, List.replicate, trows_length]
            refine awp_loop (σ := Nat) (fun k => [(2, .ptr 0 1 0 0), (3, .ptr 1 1 0 0), (4, .ptr 2 1 0 0), (7, I ts.length), (42, .ro false (trows ts)), (43, I ts.length), (44, I k)]) (fun _ H => ∃ X, H = some ⟨40, 3, [[I no, I rate, .ro false (trows ts)]]⟩ :: some ⟨23, 4, [[I t.1, I t.2.1, I t.2.2.1, I t.2.2.2]]⟩ :: some ⟨40, 3, [[I 0, I 0, .nilSlice]]⟩ :: X) (fun k => k ≤ ts.length ∧ (ts.take k).any (clash rate t) = false) (fun k => ts.length - k) 0 ⟨Nat.zero_le _, rfl⟩ rfl ⟨[], rfl⟩ ?_
            rintro k H ⟨hk, hany⟩ ⟨X, rfl⟩
            simp only [walk, wl, rgets, retv, argsEnv, ev, cst, cst1, cstL, AEnv.get, AEnv.trim, envput, qstep, abin, aun, evs, evo, deref, qload, target, if_true, if_false, Nat.reduceEqDiff, reduceIte, Nat.reduceAdd, AV.cells, AV.isTuple, setMany, alen, aiaddr, afill, Nat.reduceLeDiff, Nat.reduceMul, Nat.reduceLT, afillE, List.replicate]
            refine withBool_intro ?_ ?_ <;> intro hb <;> simp only [walk, wl, rgets, retv, argsEnv, ev, cst, cst1, cstL, AEnv.get, AEnv.trim, envput, qstep, abin, aun, evs, evo, deref, qload, target, if_true, if_false, Nat.reduceEqDiff, reduceIte, Nat.reduceAdd, AV.cells, AV.isTuple, setMany, alen, aiaddr, afill, Nat.reduceLeDiff, Nat.reduceMul, Nat.reduceLT, afillE, List.replicate]
            · have hlt : k < ts.length := by simpa using hb
              have w1 := w_succ (k := k) (by omega)
              simp only [walk, wl, rgets, retv, argsEnv, ev, cst, cst1, cstL, AEnv.get, AEnv.trim, envput, qstep, abin, aun, evs, evo, deref, qload, target, if_true, if_false, Nat.reduceEqDiff, reduceIte, Nat.reduceAdd, AV.cells, AV.isTuple, setMany, alen, aiaddr, afill, Nat.reduceLeDiff, Nat.reduceMul, Nat.reduceLT, afillE, List.replicate, trows_get hlt, List.length_cons]
              refine call_pure (contradict_ok hr ht (hok _ (List.getElem_mem hlt))) (frzL_of' (d := 4) rfl) ?_
              simp only [walk, wl, rgets, retv, argsEnv, ev, cst, cst1, cstL, AEnv.get, AEnv.trim, envput, qstep, abin, aun, evs, evo, deref, qload, target, if_true, if_false, Nat.reduceEqDiff, reduceIte, Nat.reduceAdd, AV.cells, AV.isTuple, setMany, alen, aiaddr, afill, Nat.reduceLeDiff, Nat.reduceMul, Nat.reduceLT, afillE, List.replicate]
              refine withBool_intro ?_ ?_ <;> intro hq <;> simp only [walk, wl, rgets, retv, argsEnv, ev, cst, cst1, cstL, AEnv.get, AEnv.trim, envput, qstep, abin, aun, evs, evo, deref, qload, target, if_true, if_false, Nat.reduceEqDiff, reduceIte, Nat.reduceAdd, AV.cells, AV.isTuple, setMany, alen, aiaddr, afill, Nat.reduceLeDiff, Nat.reduceMul, Nat.reduceLT, afillE, List.replicate, w1]
              · have : addE no rate ts t = 13 := by
                  rw [hE, if_pos]
                  exact List.any_eq_true.2 ⟨ts[k], List.getElem_mem hlt, hq⟩
                exact add_bad this (by decide) _
              · refine loop_end (k + 1) ⟨hlt, ?_⟩ (by omega) rfl ⟨_, rfl⟩
                rw [List.take_succ_eq_append_getElem hlt, List.any_append, hany]
                simp [hq]
            · have hk' : k = ts.length := by simp at hb; omega
              subst hk'
              rw [List.take_length] at hany
              have hE0 : addE no rate ts t = 0 := by rw [hE, hany]; rfl
              simp only [walk, wl, rgets, retv, argsEnv, ev, cst, cst1, cstL, AEnv.get, AEnv.trim, envput, qstep, abin, aun, evs, evo, deref, qload, target, if_true, if_false, Nat.reduceEqDiff, reduceIte, Nat.reduceAdd, AV.cells, AV.isTuple, setMany, alen, aiaddr, afill, Nat.reduceLeDiff, Nat.reduceMul, Nat.reduceLT, afillE, List.replicate, aslice3_full]
              refine app_full rfl rfl (by simp only [obj_succ, obj_app]; rfl) (trows_all ts) (by rw [trows_length]; omega) ?_
              simp only [walk, wl, rgets, retv, argsEnv, ev, cst, cst1, cstL, AEnv.get, AEnv.trim, envput, qstep, abin, aun, evs, evo, deref, qload, target, if_true, if_false, Nat.reduceEqDiff, reduceIte, Nat.reduceAdd, AV.cells, AV.isTuple, setMany, alen, aiaddr, afill, Nat.reduceLeDiff, Nat.reduceMul, Nat.reduceLT, afillE, List.replicate, trows_length]
              have hV : addV no rate ts t = .tuple [.agg [I no, I rate, .ro true (trows (ts ++ [t]))], I 0] := by simp [addV, addS, hE0]
              rw [hV]
              refine out_two (out_agg3 out_int out_int (out_of (d := 2) (car_ownN (els := trows (ts ++ [t])) (e := 23) (s := 4) ?_ (by rw [trows_length]; simp) (trows_simple _))) rfl rfl rfl) out_int
              simp only [obj_succ, obj_app_add, obj_zero, trows_snoc]
        · have h0 : ts.length = 0 := by simp at h4; simp [h4]
          have he : earlyT ts t = false := earlyT_nil h0
          have hE : addE no rate ts t = if ts.any (clash rate t) = true then 13 else 0 := by simp [addE, h1', ht, h3', he]
          refine awp_loop (σ := Nat) (fun k => [(2, .ptr 0 1 0 0), (3, .ptr 1 1 0 0), (4, .ptr 2 1 0 0), (7, I ts.length), (42, .ro false (trows ts)), (43, I ts.length), (44, I k)]) (fun _ H => ∃ X, H = some ⟨40, 3, [[I no, I rate, .ro false (trows ts)]]⟩ :: some ⟨23, 4, [[I t.1, I t.2.1, I t.2.2.1, I t.2.2.2]]⟩ :: some ⟨40, 3, [[I 0, I 0, .nilSlice]]⟩ :: X) (fun k => k ≤ ts.length ∧ (ts.take k).any (clash rate t) = false) (fun k => ts.length - k) 0 ⟨Nat.zero_le _, rfl⟩ rfl ⟨[], rfl⟩ ?_
          rintro k H ⟨hk, hany⟩ ⟨X, rfl⟩
          simp only [walk, wl, rgets, retv, argsEnv, ev, cst, cst1, cstL, AEnv.get, AEnv.trim, envput, qstep, abin, aun, evs, evo, deref, qload, target, if_true, if_false, Nat.reduceEqDiff, reduceIte, Nat.reduceAdd, AV.cells, AV.isTuple, setMany, alen, aiaddr, afill, Nat.reduceLeDiff, Nat.reduceMul, Nat.reduceLT, afillE, List.replicate]
          refine withBool_intro ?_ ?_ <;> intro hb <;> simp only [walk, wl, rgets, retv, argsEnv, ev, cst, cst1, cstL, AEnv.get, AEnv.trim, envput, qstep, abin, aun, evs, evo, deref, qload, target, if_true, if_false, Nat.reduceEqDiff, reduceIte, Nat.reduceAdd, AV.cells, AV.isTuple, setMany, alen, aiaddr, afill, Nat.reduceLeDiff, Nat.reduceMul, Nat.reduceLT, afillE, List.replicate]
          · have hlt : k < ts.length := by simpa using hb
            have w1 := w_succ (k := k) (by omega)
            simp only [walk, wl, rgets, retv, argsEnv, ev, cst, cst1, cstL, AEnv.get, AEnv.trim, envput, qstep, abin, aun, evs, evo, deref, qload, target, if_true, if_false, Nat.reduceEqDiff, reduceIte, Nat.reduceAdd, AV.cells, AV.isTuple, setMany, alen, aiaddr, afill, Nat.reduceLeDiff, Nat.reduceMul, Nat.reduceLT, afillE, List.replicate, trows_get hlt, List.length_cons]
            refine call_pure (contradict_ok hr ht (hok _ (List.getElem_mem hlt))) (frzL_of' (d := 4) rfl) ?_
            simp only [walk, wl, rgets, retv, argsEnv, ev, cst, cst1, cstL, AEnv.get, AEnv.trim, envput, qstep, abin, aun, evs, evo, deref, qload, target, if_true, if_false, Nat.reduceEqDiff, reduceIte, Nat.reduceAdd, AV.cells, AV.isTuple, setMany, alen, aiaddr, afill, Nat.reduceLeDiff, Nat.reduceMul, Nat.reduceLT, afillE, List.replicate]
            refine withBool_intro ?_ ?_ <;> intro hq <;> simp only [walk, wl, rgets, retv, argsEnv, ev, cst, cst1, cstL, AEnv.get, AEnv.trim, envput, qstep, abin, aun, evs, evo, deref, qload, target, if_true, if_false, Nat.reduceEqDiff, reduceIte, Nat.reduceAdd, AV.cells, AV.isTuple, setMany, alen, aiaddr, afill, Nat.reduceLeDiff, Nat.reduceMul, Nat.reduceLT, afillE, List.replicate, w1]
            · have : addE no rate ts t = 13 := by
                rw [hE, if_pos]
                exact List.any_eq_true.2 ⟨ts[k], List.getElem_mem hlt, hq⟩
              exact add_bad this (by decide) _
            · refine loop_end (k + 1) ⟨hlt, ?_⟩ (by omega) rfl ⟨_, rfl⟩
              rw [List.take_succ_eq_append_getElem hlt, List.any_append, hany]
              simp [hq]
          · have hk' : k = ts.length := by simp at hb; omega
            subst hk'
            rw [List.take_length] at hany
            have hE0 : addE no rate ts t = 0 := by rw [hE, hany]; rfl
            simp only [walk, wl, rgets, retv, argsEnv, ev, cst, cst1, cstL, AEnv.get, AEnv.trim, envput, qstep, abin, aun, evs, evo, deref, qload, target, if_true, if_false, Nat.reduceEqDiff, reduceIte, Nat.reduceAdd, AV.cells, AV.isTuple, setMany, alen, aiaddr, afill, Nat.reduceLeDiff, Nat.reduceMul, Nat.reduceLT, afillE, List.replicate, aslice3_full]
            refine app_full rfl rfl (by simp only [obj_succ, obj_app]; rfl) (trows_all ts) (by rw [trows_length]; omega) ?_
            simp only [walk, wl, rgets, retv, argsEnv, ev, cst, cst1, cstL, AEnv.get, AEnv.trim, envput, qstep, abin, aun, evs, evo, deref, qload, target, if_true, if_false, Nat.reduceEqDiff, reduceIte, Nat.reduceAdd, AV.cells, AV.isTuple, setMany, alen, aiaddr, afill, Nat.reduceLeDiff, Nat.reduceMul, Nat.reduceLT, afillE, List.replicate, trows_length]
            have hV : addV no rate ts t = .tuple [.agg [I no, I rate, .ro true (trows (ts ++ [t]))], I 0] := by simp [addV, addS, hE0]
            rw [hV]
            refine out_two (out_agg3 out_int out_int (out_of (d := 2) (car_ownN (els := trows (ts ++ [t])) (e := 23) (s := 4) ?_ (by rw [trows_length]; simp) (trows_simple _))) rfl rfl rfl) out_int
            simp only [obj_succ, obj_app_add, obj_zero, trows_snoc]
end Go.Proofs.YtgadlckkmhhmbaaGreatDoor
