/- Contracts: a further test; scales that are the same. -/
import Derived.Test.YtgadlckkmhhmbaaDoorQC5
import Derived.Test.YtgadlckkmhhmbaaDoorQG7
set_option linter.unusedVariables false
set_option linter.unusedSimpArgs false
set_option linter.unusedSectionVars false
namespace Go.Proofs.YtgadlckkmhhmbaaDoor
open Go.Awp Go.Grams
set_option linter.unusedSimpArgs false
set_option linter.unusedVariables false
set_option linter.unusedSectionVars false
set_option maxRecDepth 10000
def addV (no rate : Int) (ts : List Tst) (t : Tst) : AV := .tuple [.agg [I (addS no rate ts t).1, I (addS no rate ts t).2.1, .ro true (trows (addS no rate ts t).2.2)], I (addE no rate ts t)]
theorem aslice3_full {H : AHeap} {b : Bool} {ts : List Tst} : aslice3 H 4 (.ro b (trows ts)) none (some (I ts.length)) (some (I ts.length)) = some (.full (trows ts)) := by
  have h2 : (0 : Int) ≤ (ts.length : Int) ∧ (ts.length : Int) ≤ (ts.length : Int) := by omega
  have h3 : List.take ts.length (trows ts) = trows ts := by rw [← trows_length ts, List.take_length]
  simp only [aslice3, trows_all, if_true, abndX, abnds, abnd1, trows_length, h2, and_self, Int.toNat_natCast, h3, List.drop_zero]
theorem app_full {env : AEnv} {x y : Operand} {H : AHeap} {hl e s bytes : Nat} {l : List (List AV)} {r : List AV} {K : AV → AHeap → Prop} (hx : ev env x = some (.full l)) (hy : ev env y = some (.own hl 1 0 1)) (ho : AHeap.obj H hl = some ⟨e, s, [r]⟩) (hu : (l.all fun e => e.length == s) = true)
    (hb : l.length + 1 ≤ 140737488355328 ∧ (l.length + 1) * bytes ≤ 140737488355328) (hk : K (.own H.length (l.length + 1) 0 (l.length + 1)) (H ++ [some ⟨e, s, l ++ [r]⟩])) : withRes (sstep (.append e s bytes x y) env H) K := by
  have hs : asrc H s (.own hl 1 0 1) = some [r] := by simp only [asrc, ho, List.length_cons, List.length_nil, and_self, if_true]; rfl
  simp only [sstep, hx, hy, hs, hu]
  rw [if_neg (by simp), if_pos ⟨trivial, by simpa using hb.1, by simpa using hb.2⟩]
  exact hk
theorem acc_app1 {lo : Nat} {H : AHeap} {a : AV} {e s bytes hl : Nat} {els : List (List AV)} {r : List AV} {env : AEnv} {x y : Operand} {K : AV → AHeap → Prop} (hlo : lo ≤ H.length) (hacc : Acc lo H a e s els) (hx : ev env x = some a) (hy : ev env y = some (.own hl 1 0 1)) (hobj : AHeap.obj H hl = some ⟨e, s, [r]⟩)
    (hb : els.length + 1 ≤ 140737488355328 ∧ (els.length + 1) * bytes ≤ 140737488355328) (hk : ∀ a' H', H.length ≤ H'.length → Acc lo H' a' e s (els ++ [r]) → (∀ i, i < H.length → (∀ n, a ≠ .own i n 0 n) → AHeap.obj H' i = AHeap.obj H i) → K a' H') : withRes (sstep (.append e s bytes x y) env H) K := by
  have hs : asrc H s (.own hl 1 0 1) = some [r] := by
    simp only [asrc, hobj, List.length_cons, List.length_nil, and_self, if_true]
    rfl
  have hb1 : bytes ≤ 140737488355328 := by
    have := hb.2
    rw [Nat.add_mul] at this; omega
  rcases hacc with ⟨rfl, rfl⟩ | ⟨h, h1, rfl, h3⟩
  · simp only [sstep, hx, hy, hs]
    rw [if_neg (by simp), if_pos ⟨by simp, by simpa using hb1⟩]
    refine hk _ _ (by simp) (.inr ⟨H.length, hlo, rfl, AHeap.obj_push_eq⟩) fun i hi _ => AHeap.obj_push_lt hi
  · simp only [sstep, hx, hy, hs, h3]
    rw [if_pos ⟨trivial, trivial, trivial, trivial, trivial, by simpa using hb.1, by simpa using hb.2⟩]
    refine hk _ _ (by simp) (.inr ⟨h, h1, by simp, AHeap.obj_set_eq (AHeap.obj_lt h3)⟩) fun i hi hn => AHeap.obj_set_ne fun e => hn _ (by rw [e])
theorem acc_notown {lo : Nat} {H : AHeap} {a : AV} {e s i : Nat} {els : List (List AV)} (h : Acc lo H a e s els) (hi : i < lo ∨ H.length ≤ i) : ∀ n, a ≠ .own i n 0 n := by
  intro n e'
  rcases h with ⟨_, rfl⟩ | ⟨k, h1, rfl, h3⟩
  · cases e'
  · have := AHeap.obj_lt h3
    injection e' with e1
    omega
theorem acc_store {lo : Nat} {H H' : AHeap} {a : AV} {e s b : Nat} {els : List (List AV)} {o : AObj} (h : Acc lo H a e s els) (hb : AHeap.obj H b = some o) (hne : o.e ≠ e) (hk : ∀ q, q ≠ b → AHeap.obj H' q = AHeap.obj H q) : Acc lo H' a e s els := by
  rcases h with h | ⟨k, h1, h2, h3⟩
  · exact .inl h
  · refine .inr ⟨k, h1, h2, ?_⟩
    rw [hk k (fun e' => by subst e'; rw [hb] at h3; cases h3; exact hne rfl)]; exact h3
theorem acc_own {lo : Nat} {H : AHeap} {a : AV} {e s : Nat} {els : List (List AV)} (h : Acc lo H a e s els) (hn : 0 < els.length) : ∃ q, lo ≤ q ∧ a = .own q els.length 0 els.length ∧ AHeap.obj H q = some ⟨e, s, els⟩ := by
  rcases h with ⟨rfl, _⟩ | h
  · simp at hn
  · exact h
theorem out_nosc {H : AHeap} : Out H (.agg [I 0, I 0, .nilSlice]) (.agg [I 0, I 0, .ro true (trows [])]) := out_agg3 out_int out_int out_nil rfl rfl rfl
theorem add_bad {no rate : Int} {ts : List Tst} {t : Tst} {e : Int} (he : addE no rate ts t = e) (h0 : e ≠ 0) (H : AHeap) : Out H (.tuple [.agg [I 0, I 0, .nilSlice], I e]) (addV no rate ts t) := by
  have : addS no rate ts t = (0, 0, []) := by unfold addS; rw [he, if_neg h0]
  unfold addV; rw [this, he]; exact out_two out_nosc out_int
theorem AddTest_ok (no rate : Int) (ts : List Tst) (t : Tst) : PCall Tryd.prog 15 [sc no rate ts, .agg (td t)] (addV no rate ts t) := by
  refine PCall.intro text15 (by simp) ?_
  unfold ir15
  simp only [walk, wl, rgets, retv, argsEnv, ev, cst, cst1, cstL, AEnv.get, AEnv.trim, envput, qstep, abin, aun, evs, evo, deref, qload, target, if_true, if_false, Nat.reduceEqDiff, reduceIte, Nat.reduceAdd, AV.cells, AV.isTuple, setMany, alen, aiaddr, afill, Nat.reduceLeDiff, Nat.reduceMul, Nat.reduceLT, afillE, List.replicate]
  refine call_pure (CheckScale_ok no rate ts) (frzL_of' (d := 4) (carL_cons car_sc rfl)) ?_
  simp only [walk, wl, rgets, retv, argsEnv, ev, cst, cst1, cstL, AEnv.get, AEnv.trim, envput, qstep, abin, aun, evs, evo, deref, qload, target, if_true, if_false, Nat.reduceEqDiff, reduceIte, Nat.reduceAdd, AV.cells, AV.isTuple, setMany, alen, aiaddr, afill, Nat.reduceLeDiff, Nat.reduceMul, Nat.reduceLT, afillE, List.replicate]
  refine withBool_intro ?_ ?_ <;> intro h1 <;> simp only [walk, wl, rgets, retv, argsEnv, ev, cst, cst1, cstL, AEnv.get, AEnv.trim, envput, qstep, abin, aun, evs, evo, deref, qload, target, if_true, if_false, Nat.reduceEqDiff, reduceIte, Nat.reduceAdd, AV.cells, AV.isTuple, setMany, alen, aiaddr, afill, Nat.reduceLeDiff, Nat.reduceMul, Nat.reduceLT, afillE, List.replicate]
  · exact add_bad (by simp at h1; simp [addE, h1]) (by simpa using h1) _
  · have h1' : chkS no rate ts = 0 := by simpa using h1
    obtain ⟨hw, hc⟩ := chkS_zero h1'
    obtain ⟨-, hr, hlen, hok, -⟩ := well_iff.1 hw
    refine call_pure (CheckTest_ok t) (frzL_of' (d := 4) rfl) ?_
    simp only [walk, wl, rgets, retv, argsEnv, ev, cst, cst1, cstL, AEnv.get, AEnv.trim, envput, qstep, abin, aun, evs, evo, deref, qload, target, if_true, if_false, Nat.reduceEqDiff, reduceIte, Nat.reduceAdd, AV.cells, AV.isTuple, setMany, alen, aiaddr, afill, Nat.reduceLeDiff, Nat.reduceMul, Nat.reduceLT, afillE, List.replicate]
    refine withBool_intro ?_ ?_ <;> intro h2 <;> simp only [walk, wl, rgets, retv, argsEnv, ev, cst, cst1, cstL, AEnv.get, AEnv.trim, envput, qstep, abin, aun, evs, evo, deref, qload, target, if_true, if_false, Nat.reduceEqDiff, reduceIte, Nat.reduceAdd, AV.cells, AV.isTuple, setMany, alen, aiaddr, afill, Nat.reduceLeDiff, Nat.reduceMul, Nat.reduceLT, afillE, List.replicate, trows_length]
    · have ht : okT t = false := by
        unfold chkT at h2; split at h2
        · simp at h2
        · simpa using ‹¬ okT t = true›
      exact add_bad (by simp [addE, h1', ht]) (by decide) _
    · have ht : okT t = true := by
        unfold chkT at h2; split at h2
        · assumption
        · simp at h2
      refine withBool_intro ?_ ?_ <;> intro h3 <;> simp only [walk, wl, rgets, retv, argsEnv, ev, cst, cst1, cstL, AEnv.get, AEnv.trim, envput, qstep, abin, aun, evs, evo, deref, qload, target, if_true, if_false, Nat.reduceEqDiff, reduceIte, Nat.reduceAdd, AV.cells, AV.isTuple, setMany, alen, aiaddr, afill, Nat.reduceLeDiff, Nat.reduceMul, Nat.reduceLT, afillE, List.replicate]
      · have h3' : ts.length = 64 := by simp at h3; omega
        exact add_bad (by simp [addE, h1', ht, h3']) (by decide) _
      · have h3' : ¬ ts.length = 64 := by simp at h3; omega
        have hlt64 : ts.length < 64 := by omega
        refine withGuard_intro ?_ ?_ <;> intro h4 <;> simp only [walk, wl, rgets, retv, argsEnv, ev, cst, cst1, cstL, AEnv.get, AEnv.trim, envput, qstep, abin, aun, evs, evo, deref, qload, target, if_true, if_false, Nat.reduceEqDiff, reduceIte, Nat.reduceAdd, AV.cells, AV.isTuple, setMany, alen, aiaddr, afill, Nat.reduceLeDiff, Nat.reduceMul, Nat.reduceLT, afillE, List.replicate, h4, trows_length]
        · have h0 : 0 < ts.length := by simp at h4; omega
          have hl1 : ts.length - 1 < ts.length := by omega
          simp only [walk, wl, rgets, retv, argsEnv, ev, cst, cst1, cstL, AEnv.get, AEnv.trim, envput, qstep, abin, aun, evs, evo, deref, qload, target, if_true, if_false, Nat.reduceEqDiff, reduceIte, Nat.reduceAdd, AV.cells, AV.isTuple, setMany, alen, aiaddr, afill, Nat.reduceLeDiff, Nat.reduceMul, Nat.reduceLT, afillE, List.replicate, w_pred h0 (by omega), trows_get hl1]
          refine withBool_intro ?_ ?_ <;> intro h5 <;> simp only [walk, wl, rgets, retv, argsEnv, ev, cst, cst1, cstL, AEnv.get, AEnv.trim, envput, qstep, abin, aun, evs, evo, deref, qload, target, if_true, if_false, Nat.reduceEqDiff, reduceIte, Nat.reduceAdd, AV.cells, AV.isTuple, setMany, alen, aiaddr, afill, Nat.reduceLeDiff, Nat.reduceMul, Nat.reduceLT, afillE, List.replicate]
          · have he : earlyT ts t = true := by rw [earlyT_get h0]; exact h5
            exact add_bad (by simp [addE, h1', ht, h3', he]) (by decide) _
          · have he : earlyT ts t = false := by rw [earlyT_get h0]; exact h5
            have hE : addE no rate ts t = if ts.any (clash rate t) = true then 13 else 0 := by simp [addE, h1', ht, h3', he]
            simp only [walk, wl, rgets, retv, argsEnv, ev, cst, cst1, cstL, AEnv.get, AEnv.trim, envput, qstep, abin, aun, evs, evo, deref, qload, target, if_true, if_false, Nat.reduceEqDiff, reduceIte, Nat.reduceAdd, AV.cells, AV.isTuple, setMany, alen, aiaddr, afill, Nat.reduceLeDiff, Nat.reduceMul, Nat.reduceLT, afillE, List.replicate, trows_length]
            refine awp_loop (σ := Nat) (fun k => [(2, .ptr 0 1 0 0), (3, .ptr 1 1 0 0), (4, .ptr 2 1 0 0), (7, I ts.length), (42, .ro false (trows ts)), (43, I ts.length), (44, I k)]) (fun _ H => ∃ X, H = some ⟨24, 3, [[I no, I rate, .ro false (trows ts)]]⟩ :: some ⟨26, 4, [[I t.1, I t.2.1, I t.2.2.1, I t.2.2.2]]⟩ :: some ⟨24, 3, [[I 0, I 0, .nilSlice]]⟩ :: X) (fun k => k ≤ ts.length ∧ (ts.take k).any (clash rate t) = false) (fun k => ts.length - k) 0 ⟨Nat.zero_le _, rfl⟩ rfl ⟨[], rfl⟩ ?_
            rintro k H ⟨hk, hany⟩ ⟨X, rfl⟩
            simp only [walk, wl, rgets, retv, argsEnv, ev, cst, cst1, cstL, AEnv.get, AEnv.trim, envput, qstep, abin, aun, evs, evo, deref, qload, target, if_true, if_false, Nat.reduceEqDiff, reduceIte, Nat.reduceAdd, AV.cells, AV.isTuple, setMany, alen, aiaddr, afill, Nat.reduceLeDiff, Nat.reduceMul, Nat.reduceLT, afillE, List.replicate]
            refine withBool_intro ?_ ?_ <;> intro hb <;> simp only [walk, wl, rgets, retv, argsEnv, ev, cst, cst1, cstL, AEnv.get, AEnv.trim, envput, qstep, abin, aun, evs, evo, deref, qload, target, if_true, if_false, Nat.reduceEqDiff, reduceIte, Nat.reduceAdd, AV.cells, AV.isTuple, setMany, alen, aiaddr, afill, Nat.reduceLeDiff, Nat.reduceMul, Nat.reduceLT, afillE, List.replicate]
            · have hlt : k < ts.length := by simpa using hb
              have w1 := w_succ (k := k) (by omega)
              simp only [walk, wl, rgets, retv, argsEnv, ev, cst, cst1, cstL, AEnv.get, AEnv.trim, envput, qstep, abin, aun, evs, evo, deref, qload, target, if_true, if_false, Nat.reduceEqDiff, reduceIte, Nat.reduceAdd, AV.cells, AV.isTuple, setMany, alen, aiaddr, afill, Nat.reduceLeDiff, Nat.reduceMul, Nat.reduceLT, afillE, List.replicate, trows_get hlt, List.length_cons]
              refine call_pure (contradict_ok hr ht (hok _ (List.getElem_mem hlt))) (frzL_of' (d := 4) rfl) ?_
              simp only [walk, wl, rgets, retv, argsEnv, ev, cst, cst1, cstL, AEnv.get, AEnv.trim, envput, qstep, abin, aun, evs, evo, deref, qload, target, if_true, if_false, Nat.reduceEqDiff, reduceIte, Nat.reduceAdd, AV.cells, AV.isTuple, setMany, alen, aiaddr, afill, Nat.reduceLeDiff, Nat.reduceMul, Nat.reduceLT, afillE, List.replicate]
              refine withBool_intro ?_ ?_ <;> intro hq <;> simp only [walk, wl, rgets, retv, argsEnv, ev, cst, cst1, cstL, AEnv.get, AEnv.trim, envput, qstep, abin, aun, evs, evo, deref, qload, target, if_true, if_false, Nat.reduceEqDiff, reduceIte, Nat.reduceAdd, AV.cells, AV.isTuple, setMany, alen, aiaddr, afill, Nat.reduceLeDiff, Nat.reduceMul, Nat.reduceLT, afillE, List.replicate, w1]
              · have : addE no rate ts t = 13 := by
                  rw [hE, if_pos]
                  exact List.any_eq_true.2 ⟨ts[k], List.getElem_mem hlt, hq⟩
                exact add_bad this (by decide) _
              · refine loop_end (k + 1) ⟨hlt, ?_⟩ (by omega) rfl ⟨_, rfl⟩
                rw [List.take_succ_eq_append_getElem hlt, List.any_append, hany]
                simp [hq]
            · have hk' : k = ts.length := by simp at hb; omega
              subst hk'
              rw [List.take_length] at hany
              have hE0 : addE no rate ts t = 0 := by rw [hE, hany]; rfl
              simp only [walk, wl, rgets, retv, argsEnv, ev, cst, cst1, cstL, AEnv.get, AEnv.trim, envput, qstep, abin, aun, evs, evo, deref, qload, target, if_true, if_false, Nat.reduceEqDiff, reduceIte, Nat.reduceAdd, AV.cells, AV.isTuple, setMany, alen, aiaddr, afill, Nat.reduceLeDiff, Nat.reduceMul, Nat.reduceLT, afillE, List.replicate, aslice3_full]
              refine app_full rfl rfl (by simp only [obj_succ, obj_app]; rfl) (trows_all ts) (by rw [trows_length]; omega) ?_
              simp only [walk, wl, rgets, retv, argsEnv, ev, cst, cst1, cstL, AEnv.get, AEnv.trim, envput, qstep, abin, aun, evs, evo, deref, qload, target, if_true, if_false, Nat.reduceEqDiff, reduceIte, Nat.reduceAdd, AV.cells, AV.isTuple, setMany, alen, aiaddr, afill, Nat.reduceLeDiff, Nat.reduceMul, Nat.reduceLT, afillE, List.replicate, trows_length]
              have hV : addV no rate ts t = .tuple [.agg [I no, I rate, .ro true (trows (ts ++ [t]))], I 0] := by simp [addV, addS, hE0]
              rw [hV]
              refine out_two (out_agg3 out_int out_int (out_of (d := 2) (car_ownN (els := trows (ts ++ [t])) (e := 26) (s := 4) ?_ (by rw [trows_length]; simp) (trows_simple _))) rfl rfl rfl) out_int
              simp only [obj_succ, obj_app_add, obj_zero, trows_snoc]
        · have h0 : ts.length = 0 := by simp at h4; simp [h4]
          have he : earlyT ts t = false := earlyT_nil h0
          have hE : addE no rate ts t = if ts.any (clash rate t) = true then 13 else 0 := by simp [addE, h1', ht, h3', he]
          refine awp_loop (σ := Nat) (fun k => [(2, .ptr 0 1 0 0), (3, .ptr 1 1 0 0), (4, .ptr 2 1 0 0), (7, I ts.length), (42, .ro false (trows ts)), (43, I ts.length), (44, I k)]) (fun _ H => ∃ X, H = some ⟨24, 3, [[I no, I rate, .ro false (trows ts)]]⟩ :: some ⟨26, 4, [[I t.1, I t.2.1, I t.2.2.1, I t.2.2.2]]⟩ :: some ⟨24, 3, [[I 0, I 0, .nilSlice]]⟩ :: X) (fun k => k ≤ ts.length ∧ (ts.take k).any (clash rate t) = false) (fun k => ts.length - k) 0 ⟨Nat.zero_le _, rfl⟩ rfl ⟨[], rfl⟩ ?_
          rintro k H ⟨hk, hany⟩ ⟨X, rfl⟩
          simp only [walk, wl, rgets, retv, argsEnv, ev, cst, cst1, cstL, AEnv.get, AEnv.trim, envput, qstep, abin, aun, evs, evo, deref, qload, target, if_true, if_false, Nat.reduceEqDiff, reduceIte, Nat.reduceAdd, AV.cells, AV.isTuple, setMany, alen, aiaddr, afill, Nat.reduceLeDiff, Nat.reduceMul, Nat.reduceLT, afillE, List.replicate]
          refine withBool_intro ?_ ?_ <;> intro hb <;> simp only [walk, wl, rgets, retv, argsEnv, ev, cst, cst1, cstL, AEnv.get, AEnv.trim, envput, qstep, abin, aun, evs, evo, deref, qload, target, if_true, if_false, Nat.reduceEqDiff, reduceIte, Nat.reduceAdd, AV.cells, AV.isTuple, setMany, alen, aiaddr, afill, Nat.reduceLeDiff, Nat.reduceMul, Nat.reduceLT, afillE, List.replicate]
          · have hlt : k < ts.length := by simpa using hb
            have w1 := w_succ (k := k) (by omega)
            simp only [walk, wl, rgets, retv, argsEnv, ev, cst, cst1, cstL, AEnv.get, AEnv.trim, envput, qstep, abin, aun, evs, evo, deref, qload, target, if_true, if_false, Nat.reduceEqDiff, reduceIte, Nat.reduceAdd, AV.cells, AV.isTuple, setMany, alen, aiaddr, afill, Nat.reduceLeDiff, Nat.reduceMul, Nat.reduceLT, afillE, List.replicate, trows_get hlt, List.length_cons]
            refine call_pure (contradict_ok hr ht (hok _ (List.getElem_mem hlt))) (frzL_of' (d := 4) rfl) ?_
            simp only [walk, wl, rgets, retv, argsEnv, ev, cst, cst1, cstL, AEnv.get, AEnv.trim, envput, qstep, abin, aun, evs, evo, deref, qload, target, if_true, if_false, Nat.reduceEqDiff, reduceIte, Nat.reduceAdd, AV.cells, AV.isTuple, setMany, alen, aiaddr, afill, Nat.reduceLeDiff, Nat.reduceMul, Nat.reduceLT, afillE, List.replicate]
            refine withBool_intro ?_ ?_ <;> intro hq <;> simp only [walk, wl, rgets, retv, argsEnv, ev, cst, cst1, cstL, AEnv.get, AEnv.trim, envput, qstep, abin, aun, evs, evo, deref, qload, target, if_true, if_false, Nat.reduceEqDiff, reduceIte, Nat.reduceAdd, AV.cells, AV.isTuple, setMany, alen, aiaddr, afill, Nat.reduceLeDiff, Nat.reduceMul, Nat.reduceLT, afillE, List.replicate, w1]
            · have : addE no rate ts t = 13 := by
                rw [hE, if_pos]
                exact List.any_eq_true.2 ⟨ts[k], List.getElem_mem hlt, hq⟩
              exact add_bad this (by decide) _
            · refine loop_end (k + 1) ⟨hlt, ?_⟩ (by omega) rfl ⟨_, rfl⟩
              rw [List.take_succ_eq_append_getElem hlt, List.any_append, hany]
              simp [hq]
          · have hk' : k = ts.length := by simp at hb; omega
            subst hk'
            rw [List.take_length] at hany
            have hE0 : addE no rate ts t = 0 := by rw [hE, hany]; rfl
            simp only [walk, wl, rgets, retv, argsEnv, ev, cst, cst1, cstL, AEnv.get, AEnv.trim, envput, qstep, abin, aun, evs, evo, deref, qload, target, if_true, if_false, Nat.reduceEqDiff, reduceIte, Nat.reduceAdd, AV.cells, AV.isTuple, setMany, alen, aiaddr, afill, Nat.reduceLeDiff, Nat.reduceMul, Nat.reduceLT, afillE, List.replicate, aslice3_full]
            refine app_full rfl rfl (by simp only [obj_succ, obj_app]; rfl) (trows_all ts) (by rw [trows_length]; omega) ?_
            simp only [walk, wl, rgets, retv, argsEnv, ev, cst, cst1, cstL, AEnv.get, AEnv.trim, envput, qstep, abin, aun, evs, evo, deref, qload, target, if_true, if_false, Nat.reduceEqDiff, reduceIte, Nat.reduceAdd, AV.cells, AV.isTuple, setMany, alen, aiaddr, afill, Nat.reduceLeDiff, Nat.reduceMul, Nat.reduceLT, afillE, List.replicate, trows_length]
            have hV : addV no rate ts t = .tuple [.agg [I no, I rate, .ro true (trows (ts ++ [t]))], I 0] := by simp [addV, addS, hE0]
            rw [hV]
            refine out_two (out_agg3 out_int out_int (out_of (d := 2) (car_ownN (els := trows (ts ++ [t])) (e := 26) (s := 4) ?_ (by rw [trows_length]; simp) (trows_simple _))) rfl rfl rfl) out_int
            simp only [obj_succ, obj_app_add, obj_zero, trows_snoc]
theorem rcopy_a (no rate : Int) (ts : List Tst) (hl : ts.length ≤ 1000) (H : AHeap) : ACall Tryd.prog 65 [sc no rate ts] H fun x H' => ∃ a, x = .agg [I no, I rate, a] ∧ Acc H.length H' a 26 4 (trows ts) ∧ H.length ≤ H'.length ∧ ∀ i, i < H.length → AHeap.obj H' i = AHeap.obj H i := by
  refine ACall.intro text65 (by simp) ?_
  unfold ir65
  simp only [walk, wl, rgets, retv, argsEnv, ev, cst, cst1, cstL, AEnv.get, AEnv.trim, envput, qstep, abin, aun, evs, evo, deref, qload, target, if_true, if_false, Nat.reduceEqDiff, reduceIte, Nat.reduceAdd, AV.cells, AV.isTuple, setMany, alen, aiaddr, afill, Nat.reduceLeDiff, Nat.reduceMul, Nat.reduceLT, afillE, List.replicate]
  have hs : asrc (H ++ [some ⟨24, 3, [[I no, I rate, .ro false (trows ts)]]⟩, some ⟨24, 3, [[I 0, I 0, .nilSlice]]⟩]) 4 (.ro false (trows ts)) = some (trows ts) := asrc_ro (trows_all ts)
  refine acc_appendL (lo := H.length + 2) (by simp) (.inl ⟨rfl, rfl⟩) rfl rfl hs (by rw [trows_length]; simp only [List.length_nil]; omega) fun a' H' hlen hacc hkeep => ?_
  have k0 : AHeap.obj H' H.length = some ⟨24, 3, [[I no, I rate, .ro false (trows ts)]]⟩ := (hkeep _ (by omega)).trans obj_app
  have k1 : AHeap.obj H' (H.length + 1) = some ⟨24, 3, [[I 0, I 0, .nilSlice]]⟩ := (hkeep _ (by omega)).trans obj_app_add
  have ha1 := hacc.one
  simp only [walkS, wl, rgets, retv, argsEnv, ev, cst, cst1, cstL, AEnv.get, AEnv.trim, envput, qstep, abin, aun, evs, evo, deref, qload, target, if_true, if_false, Nat.reduceEqDiff, reduceIte, Nat.reduceAdd, AV.cells, AV.isTuple, setMany, alen, aiaddr, afill, Nat.reduceLeDiff, Nat.reduceMul, Nat.reduceLT, afillE, List.replicate, k0, k1]
  refine storeR rfl rfl k0 rfl ⟨rfl, by rw [ha1.1]; rfl, ha1.2, by simp⟩ fun H1 y1 y2 y3 => ?_
  simp only [ha1.1, setMany, List.set_cons_zero, List.set_cons_succ] at y2
  have k1' := (y3 (H.length + 1) (by omega)).trans k1
  simp only [walkS, wl, rgets, retv, argsEnv, ev, cst, cst1, cstL, AEnv.get, AEnv.trim, envput, qstep, abin, aun, evs, evo, deref, qload, target, if_true, if_false, Nat.reduceEqDiff, reduceIte, Nat.reduceAdd, AV.cells, AV.isTuple, setMany, alen, aiaddr, afill, Nat.reduceLeDiff, Nat.reduceMul, Nat.reduceLT, afillE, List.replicate, y2, k1']
  refine storeR rfl rfl k1' rfl ⟨rfl, rfl, rfl, by simp⟩ fun H2 z1 z2 z3 => ?_
  simp only [AV.cells, setMany, List.set_cons_zero, List.set_cons_succ] at z2
  simp only [walkS, wl, rgets, retv, argsEnv, ev, cst, cst1, cstL, AEnv.get, AEnv.trim, envput, qstep, abin, aun, evs, evo, deref, qload, target, if_true, if_false, Nat.reduceEqDiff, reduceIte, Nat.reduceAdd, AV.cells, AV.isTuple, setMany, alen, aiaddr, afill, Nat.reduceLeDiff, Nat.reduceMul, Nat.reduceLT, afillE, List.replicate, z2]
  have hacc2 : Acc (H.length + 2) H2 a' 26 4 (trows ts) := hacc.keep fun i h1 h2 => (z3 i (by omega)).trans (y3 i (by omega))
  refine ⟨a', rfl, hacc2.weaken (by omega), by simp at hlen; omega, fun i hi => ?_⟩
  rw [z3 i (by omega), y3 i (by omega), hkeep i (by omega), AHeap.obj_push_lt hi]
theorem rAddTest_ok (no rate : Int) (ts : List Tst) (t : Tst) : PCall Tryd.prog 16 [sc no rate ts, .agg (td t)] (addV no rate ts t) := by
  refine PCall.intro text16 (by simp) ?_
  unfold ir16
  simp only [walk, wl, rgets, retv, argsEnv, ev, cst, cst1, cstL, AEnv.get, AEnv.trim, envput, qstep, abin, aun, evs, evo, deref, qload, target, if_true, if_false, Nat.reduceEqDiff, reduceIte, Nat.reduceAdd, AV.cells, AV.isTuple, setMany, alen, aiaddr, afill, Nat.reduceLeDiff, Nat.reduceMul, Nat.reduceLT, afillE, List.replicate]
  refine call_pure (rCheckScale_ok no rate ts) (frzL_of' (d := 4) (carL_cons car_sc rfl)) ?_
  simp only [walk, wl, rgets, retv, argsEnv, ev, cst, cst1, cstL, AEnv.get, AEnv.trim, envput, qstep, abin, aun, evs, evo, deref, qload, target, if_true, if_false, Nat.reduceEqDiff, reduceIte, Nat.reduceAdd, AV.cells, AV.isTuple, setMany, alen, aiaddr, afill, Nat.reduceLeDiff, Nat.reduceMul, Nat.reduceLT, afillE, List.replicate]
  refine withBool_intro ?_ ?_ <;> intro h1 <;> simp only [walk, wl, rgets, retv, argsEnv, ev, cst, cst1, cstL, AEnv.get, AEnv.trim, envput, qstep, abin, aun, evs, evo, deref, qload, target, if_true, if_false, Nat.reduceEqDiff, reduceIte, Nat.reduceAdd, AV.cells, AV.isTuple, setMany, alen, aiaddr, afill, Nat.reduceLeDiff, Nat.reduceMul, Nat.reduceLT, afillE, List.replicate]
  · exact add_bad (by simp at h1; simp [addE, h1]) (by simpa using h1) _
  · have h1' : chkS no rate ts = 0 := by simpa using h1
    obtain ⟨hw, hc⟩ := chkS_zero h1'
    obtain ⟨-, hr, hlen, hok, -⟩ := well_iff.1 hw
    refine call_pure (rCheckTest_ok t) (frzL_of' (d := 4) rfl) ?_
    simp only [walk, wl, rgets, retv, argsEnv, ev, cst, cst1, cstL, AEnv.get, AEnv.trim, envput, qstep, abin, aun, evs, evo, deref, qload, target, if_true, if_false, Nat.reduceEqDiff, reduceIte, Nat.reduceAdd, AV.cells, AV.isTuple, setMany, alen, aiaddr, afill, Nat.reduceLeDiff, Nat.reduceMul, Nat.reduceLT, afillE, List.replicate]
    refine withBool_intro ?_ ?_ <;> intro h2 <;> simp only [walk, wl, rgets, retv, argsEnv, ev, cst, cst1, cstL, AEnv.get, AEnv.trim, envput, qstep, abin, aun, evs, evo, deref, qload, target, if_true, if_false, Nat.reduceEqDiff, reduceIte, Nat.reduceAdd, AV.cells, AV.isTuple, setMany, alen, aiaddr, afill, Nat.reduceLeDiff, Nat.reduceMul, Nat.reduceLT, afillE, List.replicate, trows_length]
    · have ht : okT t = false := by
        unfold chkT at h2; split at h2
        · simp at h2
        · simpa using ‹¬ okT t = true›
      have hq : chkT t = 10 := chkT_f ht
      rw [hq]
      exact add_bad (by simp [addE, h1', ht]) (by decide) _
    · have ht : okT t = true := by
        unfold chkT at h2; split at h2
        · assumption
        · simp at h2
      refine withBool_intro ?_ ?_ <;> intro h3 <;> simp only [walk, wl, rgets, retv, argsEnv, ev, cst, cst1, cstL, AEnv.get, AEnv.trim, envput, qstep, abin, aun, evs, evo, deref, qload, target, if_true, if_false, Nat.reduceEqDiff, reduceIte, Nat.reduceAdd, AV.cells, AV.isTuple, setMany, alen, aiaddr, afill, Nat.reduceLeDiff, Nat.reduceMul, Nat.reduceLT, afillE, List.replicate]
      · have h3' : ts.length = 64 := by simp at h3; omega
        exact add_bad (by simp [addE, h1', ht, h3']) (by decide) _
      · have h3' : ¬ ts.length = 64 := by simp at h3; omega
        have hlt64 : ts.length < 64 := by omega
        refine withGuard_intro ?_ ?_ <;> intro h4 <;> simp only [walk, wl, rgets, retv, argsEnv, ev, cst, cst1, cstL, AEnv.get, AEnv.trim, envput, qstep, abin, aun, evs, evo, deref, qload, target, if_true, if_false, Nat.reduceEqDiff, reduceIte, Nat.reduceAdd, AV.cells, AV.isTuple, setMany, alen, aiaddr, afill, Nat.reduceLeDiff, Nat.reduceMul, Nat.reduceLT, afillE, List.replicate, h4, trows_length]
        · have h0 : 0 < ts.length := by simp at h4; omega
          have hl1 : ts.length - 1 < ts.length := by omega
          simp only [walk, wl, rgets, retv, argsEnv, ev, cst, cst1, cstL, AEnv.get, AEnv.trim, envput, qstep, abin, aun, evs, evo, deref, qload, target, if_true, if_false, Nat.reduceEqDiff, reduceIte, Nat.reduceAdd, AV.cells, AV.isTuple, setMany, alen, aiaddr, afill, Nat.reduceLeDiff, Nat.reduceMul, Nat.reduceLT, afillE, List.replicate, w_pred h0 (by omega), trows_get hl1]
          refine withBool_intro ?_ ?_ <;> intro h5 <;> simp only [walk, wl, rgets, retv, argsEnv, ev, cst, cst1, cstL, AEnv.get, AEnv.trim, envput, qstep, abin, aun, evs, evo, deref, qload, target, if_true, if_false, Nat.reduceEqDiff, reduceIte, Nat.reduceAdd, AV.cells, AV.isTuple, setMany, alen, aiaddr, afill, Nat.reduceLeDiff, Nat.reduceMul, Nat.reduceLT, afillE, List.replicate]
          · have he : earlyT ts t = true := by rw [earlyT_get h0]; exact h5
            exact add_bad (by simp [addE, h1', ht, h3', he]) (by decide) _
          · have he : earlyT ts t = false := by rw [earlyT_get h0]; exact h5
            have hE : addE no rate ts t = if ts.any (clash rate t) = true then 13 else 0 := by simp [addE, h1', ht, h3', he]
            have hw2 := well_snoc hw ht hlt64 he
            refine (rcopy_a no rate ts (by omega) _).mono ?_
            rintro x H ⟨a, rfl, hacc, hlen2, hkeep⟩
            have k1 : AHeap.obj H 1 = some ⟨26, 4, [[I t.1, I t.2.1, I t.2.2.1, I t.2.2.2]]⟩ := hkeep 1 (by simp)
            have k2 : AHeap.obj H 2 = some ⟨24, 3, [[I 0, I 0, .nilSlice]]⟩ := hkeep 2 (by simp)
            have hacc : Acc 3 H a 26 4 (trows ts) := hacc
            have hH3 : 3 ≤ H.length := by simpa using hlen2
            simp only [walk, wl, rgets, retv, argsEnv, ev, cst, cst1, cstL, AEnv.get, AEnv.trim, envput, qstep, abin, aun, evs, evo, deref, qload, target, if_true, if_false, Nat.reduceEqDiff, reduceIte, Nat.reduceAdd, AV.cells, AV.isTuple, setMany, alen, aiaddr, afill, Nat.reduceLeDiff, Nat.reduceMul, Nat.reduceLT, afillE, List.replicate, obj_keep k1]
            refine acc_app1 (lo := 3) (by simp; omega) (hacc.push _) rfl rfl (hl := H.length + 1) (by rw [obj_app_add]; rfl) (by rw [trows_length]; omega) fun a1 H1 hl1 hacc1 hkeep1 => ?_
            have c0 : AHeap.obj H1 H.length = some ⟨24, 3, [[I no, I rate, a]]⟩ := (hkeep1 _ (by simp) (acc_notown hacc (.inr (Nat.le_refl _)))).trans obj_app
            have c2 : AHeap.obj H1 2 = some ⟨24, 3, [[I 0, I 0, .nilSlice]]⟩ := (hkeep1 2 (by simp; omega) (acc_notown hacc (.inl (by simp)))).trans (obj_keep k2)
            have ha1 := hacc1.one
            simp only [walkS, wl, rgets, retv, argsEnv, ev, cst, cst1, cstL, AEnv.get, AEnv.trim, envput, qstep, abin, aun, evs, evo, deref, qload, target, if_true, if_false, Nat.reduceEqDiff, reduceIte, Nat.reduceAdd, AV.cells, AV.isTuple, setMany, alen, aiaddr, afill, Nat.reduceLeDiff, Nat.reduceMul, Nat.reduceLT, afillE, List.replicate, c0]
            refine storeR rfl rfl c0 rfl ⟨rfl, by rw [ha1.1]; rfl, ha1.2, by simp⟩ fun H2 y1 y2 y3 => ?_
            simp only [ha1.1, setMany, List.set_cons_zero, List.set_cons_succ] at y2
            have p2 := (y3 2 (by omega)).trans c2
            have hacc2 : Acc 3 H2 a1 26 4 (trows (ts ++ [t])) := by
              rw [trows_snoc]
              exact acc_store hacc1 c0 (by simp) y3
            obtain ⟨q, hq1, rfl, hq3⟩ := acc_own hacc2 (by rw [trows_length]; simp)
            have hcar : ∀ d, carL (carry false H2 (d + 3)) [.agg [I no, I rate, .own q (trows (ts ++ [t])).length 0 (trows (ts ++ [t])).length]] = some [sc no rate (ts ++ [t])] := fun d => carL_cons (car_agg (carL_cons car_int (carL_cons car_int (carL_cons (car_ownN hq3 rfl (trows_simple _)) rfl)))) rfl
            simp only [walkS, wl, rgets, retv, argsEnv, ev, cst, cst1, cstL, AEnv.get, AEnv.trim, envput, qstep, abin, aun, evs, evo, deref, qload, target, if_true, if_false, Nat.reduceEqDiff, reduceIte, Nat.reduceAdd, AV.cells, AV.isTuple, setMany, alen, aiaddr, afill, Nat.reduceLeDiff, Nat.reduceMul, Nat.reduceLT, afillE, List.replicate, y2]
            refine call_pure (pair_ok no rate (ts ++ [t]) hw2) (frzL_of' (d := 4) (hcar 1)) ?_
            rw [pairP_snoc hw hc ht]
            simp only [walk, wl, rgets, retv, argsEnv, ev, cst, cst1, cstL, AEnv.get, AEnv.trim, envput, qstep, abin, aun, evs, evo, deref, qload, target, if_true, if_false, Nat.reduceEqDiff, reduceIte, Nat.reduceAdd, AV.cells, AV.isTuple, setMany, alen, aiaddr, afill, Nat.reduceLeDiff, Nat.reduceMul, Nat.reduceLT, afillE, List.replicate]
            refine withBool_intro ?_ ?_ <;> intro hany <;> simp only [walkS, wl, rgets, retv, argsEnv, ev, cst, cst1, cstL, AEnv.get, AEnv.trim, envput, qstep, abin, aun, evs, evo, deref, qload, target, if_true, if_false, Nat.reduceEqDiff, reduceIte, Nat.reduceAdd, AV.cells, AV.isTuple, setMany, alen, aiaddr, afill, Nat.reduceLeDiff, Nat.reduceMul, Nat.reduceLT, afillE, List.replicate]
            · refine storeR rfl rfl (obj_keep p2) rfl ⟨rfl, rfl, rfl, by simp⟩ fun H3 z1 z2 z3 => ?_
              simp only [AV.cells, setMany, List.set_cons_zero, List.set_cons_succ] at z2
              simp only [walkS, wl, rgets, retv, argsEnv, ev, cst, cst1, cstL, AEnv.get, AEnv.trim, envput, qstep, abin, aun, evs, evo, deref, qload, target, if_true, if_false, Nat.reduceEqDiff, reduceIte, Nat.reduceAdd, AV.cells, AV.isTuple, setMany, alen, aiaddr, afill, Nat.reduceLeDiff, Nat.reduceMul, Nat.reduceLT, afillE, List.replicate, z2]
              exact add_bad (by rw [hE, hany]; rfl) (by decide) _
            · simp only [walkS, wl, rgets, retv, argsEnv, ev, cst, cst1, cstL, AEnv.get, AEnv.trim, envput, qstep, abin, aun, evs, evo, deref, qload, target, if_true, if_false, Nat.reduceEqDiff, reduceIte, Nat.reduceAdd, AV.cells, AV.isTuple, setMany, alen, aiaddr, afill, Nat.reduceLeDiff, Nat.reduceMul, Nat.reduceLT, afillE, List.replicate, obj_keep y2]
              refine storeR rfl rfl (obj_keep p2) rfl ⟨rfl, rfl, rfl, by simp⟩ fun H3 z1 z2 z3 => ?_
              simp only [AV.cells, setMany, List.set_cons_zero, List.set_cons_succ] at z2
              simp only [walkS, wl, rgets, retv, argsEnv, ev, cst, cst1, cstL, AEnv.get, AEnv.trim, envput, qstep, abin, aun, evs, evo, deref, qload, target, if_true, if_false, Nat.reduceEqDiff, reduceIte, Nat.reduceAdd, AV.cells, AV.isTuple, setMany, alen, aiaddr, afill, Nat.reduceLeDiff, Nat.reduceMul, Nat.reduceLT, afillE, List.replicate, z2]
              have hE0 : addE no rate ts t = 0 := by rw [hE, hany]; rfl
              have hV : addV no rate ts t = .tuple [.agg [I no, I rate, .ro true (trows (ts ++ [t]))], I 0] := by simp [addV, addS, hE0]
              rw [hV]
              have hq4 : AHeap.obj H3 q = some ⟨26, 4, trows (ts ++ [t])⟩ := (z3 q (by omega)).trans (obj_keep hq3)
              exact out_two (out_agg3 out_int out_int (out_of (d := 2) (car_ownN hq4 rfl (trows_simple _))) rfl rfl rfl) out_int
        · have h0 : ts.length = 0 := by simp at h4; simp [h4]
          have he : earlyT ts t = false := earlyT_nil h0
          have hE : addE no rate ts t = if ts.any (clash rate t) = true then 13 else 0 := by simp [addE, h1', ht, h3', he]
          have hw2 := well_snoc hw ht hlt64 he
          refine (rcopy_a no rate ts (by omega) _).mono ?_
          rintro x H ⟨a, rfl, hacc, hlen2, hkeep⟩
          have k1 : AHeap.obj H 1 = some ⟨26, 4, [[I t.1, I t.2.1, I t.2.2.1, I t.2.2.2]]⟩ := hkeep 1 (by simp)
          have k2 : AHeap.obj H 2 = some ⟨24, 3, [[I 0, I 0, .nilSlice]]⟩ := hkeep 2 (by simp)
          have hacc : Acc 3 H a 26 4 (trows ts) := hacc
          have hH3 : 3 ≤ H.length := by simpa using hlen2
          simp only [walk, wl, rgets, retv, argsEnv, ev, cst, cst1, cstL, AEnv.get, AEnv.trim, envput, qstep, abin, aun, evs, evo, deref, qload, target, if_true, if_false, Nat.reduceEqDiff, reduceIte, Nat.reduceAdd, AV.cells, AV.isTuple, setMany, alen, aiaddr, afill, Nat.reduceLeDiff, Nat.reduceMul, Nat.reduceLT, afillE, List.replicate, obj_keep k1]
          refine acc_app1 (lo := 3) (by simp; omega) (hacc.push _) rfl rfl (hl := H.length + 1) (by rw [obj_app_add]; rfl) (by rw [trows_length]; omega) fun a1 H1 hl1 hacc1 hkeep1 => ?_
          have c0 : AHeap.obj H1 H.length = some ⟨24, 3, [[I no, I rate, a]]⟩ := (hkeep1 _ (by simp) (acc_notown hacc (.inr (Nat.le_refl _)))).trans obj_app
          have c2 : AHeap.obj H1 2 = some ⟨24, 3, [[I 0, I 0, .nilSlice]]⟩ := (hkeep1 2 (by simp; omega) (acc_notown hacc (.inl (by simp)))).trans (obj_keep k2)
          have ha1 := hacc1.one
          simp only [walkS, wl, rgets, retv, argsEnv, ev, cst, cst1, cstL, AEnv.get, AEnv.trim, envput, qstep, abin, aun, evs, evo, deref, qload, target, if_true, if_false, Nat.reduceEqDiff, reduceIte, Nat.reduceAdd, AV.cells, AV.isTuple, setMany, alen, aiaddr, afill, Nat.reduceLeDiff, Nat.reduceMul, Nat.reduceLT, afillE, List.replicate, c0]
          refine storeR rfl rfl c0 rfl ⟨rfl, by rw [ha1.1]; rfl, ha1.2, by simp⟩ fun H2 y1 y2 y3 => ?_
          simp only [ha1.1, setMany, List.set_cons_zero, List.set_cons_succ] at y2
          have p2 := (y3 2 (by omega)).trans c2
          have hacc2 : Acc 3 H2 a1 26 4 (trows (ts ++ [t])) := by
            rw [trows_snoc]
            exact acc_store hacc1 c0 (by simp) y3
          obtain ⟨q, hq1, rfl, hq3⟩ := acc_own hacc2 (by rw [trows_length]; simp)
          have hcar : ∀ d, carL (carry false H2 (d + 3)) [.agg [I no, I rate, .own q (trows (ts ++ [t])).length 0 (trows (ts ++ [t])).length]] = some [sc no rate (ts ++ [t])] := fun d => carL_cons (car_agg (carL_cons car_int (carL_cons car_int (carL_cons (car_ownN hq3 rfl (trows_simple _)) rfl)))) rfl
          simp only [walkS, wl, rgets, retv, argsEnv, ev, cst, cst1, cstL, AEnv.get, AEnv.trim, envput, qstep, abin, aun, evs, evo, deref, qload, target, if_true, if_false, Nat.reduceEqDiff, reduceIte, Nat.reduceAdd, AV.cells, AV.isTuple, setMany, alen, aiaddr, afill, Nat.reduceLeDiff, Nat.reduceMul, Nat.reduceLT, afillE, List.replicate, y2]
          refine call_pure (pair_ok no rate (ts ++ [t]) hw2) (frzL_of' (d := 4) (hcar 1)) ?_
          rw [pairP_snoc hw hc ht]
          simp only [walk, wl, rgets, retv, argsEnv, ev, cst, cst1, cstL, AEnv.get, AEnv.trim, envput, qstep, abin, aun, evs, evo, deref, qload, target, if_true, if_false, Nat.reduceEqDiff, reduceIte, Nat.reduceAdd, AV.cells, AV.isTuple, setMany, alen, aiaddr, afill, Nat.reduceLeDiff, Nat.reduceMul, Nat.reduceLT, afillE, List.replicate]
          refine withBool_intro ?_ ?_ <;> intro hany <;> simp only [walkS, wl, rgets, retv, argsEnv, ev, cst, cst1, cstL, AEnv.get, AEnv.trim, envput, qstep, abin, aun, evs, evo, deref, qload, target, if_true, if_false, Nat.reduceEqDiff, reduceIte, Nat.reduceAdd, AV.cells, AV.isTuple, setMany, alen, aiaddr, afill, Nat.reduceLeDiff, Nat.reduceMul, Nat.reduceLT, afillE, List.replicate]
          · refine storeR rfl rfl (obj_keep p2) rfl ⟨rfl, rfl, rfl, by simp⟩ fun H3 z1 z2 z3 => ?_
            simp only [AV.cells, setMany, List.set_cons_zero, List.set_cons_succ] at z2
            simp only [walkS, wl, rgets, retv, argsEnv, ev, cst, cst1, cstL, AEnv.get, AEnv.trim, envput, qstep, abin, aun, evs, evo, deref, qload, target, if_true, if_false, Nat.reduceEqDiff, reduceIte, Nat.reduceAdd, AV.cells, AV.isTuple, setMany, alen, aiaddr, afill, Nat.reduceLeDiff, Nat.reduceMul, Nat.reduceLT, afillE, List.replicate, z2]
            exact add_bad (by rw [hE, hany]; rfl) (by decide) _
          · simp only [walkS, wl, rgets, retv, argsEnv, ev, cst, cst1, cstL, AEnv.get, AEnv.trim, envput, qstep, abin, aun, evs, evo, deref, qload, target, if_true, if_false, Nat.reduceEqDiff, reduceIte, Nat.reduceAdd, AV.cells, AV.isTuple, setMany, alen, aiaddr, afill, Nat.reduceLeDiff, Nat.reduceMul, Nat.reduceLT, afillE, List.replicate, obj_keep y2]
            refine storeR rfl rfl (obj_keep p2) rfl ⟨rfl, rfl, rfl, by simp⟩ fun H3 z1 z2 z3 => ?_
            simp only [AV.cells, setMany, List.set_cons_zero, List.set_cons_succ] at z2
            simp only [walkS, wl, rgets, retv, argsEnv, ev, cst, cst1, cstL, AEnv.get, AEnv.trim, envput, qstep, abin, aun, evs, evo, deref, qload, target, if_true, if_false, Nat.reduceEqDiff, reduceIte, Nat.reduceAdd, AV.cells, AV.isTuple, setMany, alen, aiaddr, afill, Nat.reduceLeDiff, Nat.reduceMul, Nat.reduceLT, afillE, List.replicate, z2]
            have hE0 : addE no rate ts t = 0 := by rw [hE, hany]; rfl
            have hV : addV no rate ts t = .tuple [.agg [I no, I rate, .ro true (trows (ts ++ [t]))], I 0] := by simp [addV, addS, hE0]
            rw [hV]
            have hq4 : AHeap.obj H3 q = some ⟨26, 4, trows (ts ++ [t])⟩ := (z3 q (by omega)).trans (obj_keep hq3)
            exact out_two (out_agg3 out_int out_int (out_of (d := 2) (car_ownN hq4 rfl (trows_simple _))) rfl rfl rfl) out_int
theorem Same_ok (n1 r1 n2 r2 : Int) (a b : List Tst) (hl : a.length ≤ 1000) : PCall Tryd.prog 21 [sc n1 r1 a, sc n2 r2 b] (.bool (decide (n1 = n2 ∧ r1 = r2 ∧ a = b))) := by
  refine PCall.intro text21 (by simp) ?_
  unfold ir21
  simp only [walk, wl, rgets, retv, argsEnv, ev, cst, cst1, cstL, AEnv.get, AEnv.trim, envput, qstep, abin, aun, evs, evo, deref, qload, target, if_true, if_false, Nat.reduceEqDiff, reduceIte, Nat.reduceAdd, AV.cells, AV.isTuple, setMany, alen, aiaddr, afill, Nat.reduceLeDiff, Nat.reduceMul, Nat.reduceLT, afillE, List.replicate]
  refine withGuard_intro ?_ ?_ <;> intro h1 <;> simp only [walk, wl, rgets, retv, argsEnv, ev, cst, cst1, cstL, AEnv.get, AEnv.trim, envput, qstep, abin, aun, evs, evo, deref, qload, target, if_true, if_false, Nat.reduceEqDiff, reduceIte, Nat.reduceAdd, AV.cells, AV.isTuple, setMany, alen, aiaddr, afill, Nat.reduceLeDiff, Nat.reduceMul, Nat.reduceLT, afillE, List.replicate, h1]
  · refine withGuard_intro ?_ ?_ <;> intro h2 <;> simp only [walk, wl, rgets, retv, argsEnv, ev, cst, cst1, cstL, AEnv.get, AEnv.trim, envput, qstep, abin, aun, evs, evo, deref, qload, target, if_true, if_false, Nat.reduceEqDiff, reduceIte, Nat.reduceAdd, AV.cells, AV.isTuple, setMany, alen, aiaddr, afill, Nat.reduceLeDiff, Nat.reduceMul, Nat.reduceLT, afillE, List.replicate, h2, trows_length]
    · refine withBool_intro ?_ ?_ <;> intro h3 <;> simp only [walk, wl, rgets, retv, argsEnv, ev, cst, cst1, cstL, AEnv.get, AEnv.trim, envput, qstep, abin, aun, evs, evo, deref, qload, target, if_true, if_false, Nat.reduceEqDiff, reduceIte, Nat.reduceAdd, AV.cells, AV.isTuple, setMany, alen, aiaddr, afill, Nat.reduceLeDiff, Nat.reduceMul, Nat.reduceLT, afillE, List.replicate]
      · have : ¬ (n1 = n2 ∧ r1 = r2 ∧ a = b) := fun h => by rw [h.2.2] at h3; simp at h3
        rw [decide_eq_false this]; exact out_bool
      · have e1 : n1 = n2 := by simpa using h1
        have e2 : r1 = r2 := by simpa using h2
        have hab : a.length = b.length := by simp at h3; omega
        refine awp_loop (σ := Nat) (fun k => [(2, .ptr 0 1 0 0), (3, .ptr 1 1 0 0), (5, I k)]) (fun _ H => H = [some ⟨24, 3, [[I n1, I r1, .ro false (trows a)]]⟩, some ⟨24, 3, [[I n2, I r2, .ro false (trows b)]]⟩]) (fun k => k ≤ a.length ∧ ∀ j (h : j < a.length), j < k → a[j] = b[j]'(by omega)) (fun k => a.length - k) 0 ⟨Nat.zero_le _, fun j _ hj => absurd hj (Nat.not_lt_zero _)⟩ rfl rfl ?_
        rintro k H ⟨hk, hall⟩ rfl
        simp only [walk, wl, rgets, retv, argsEnv, ev, cst, cst1, cstL, AEnv.get, AEnv.trim, envput, qstep, abin, aun, evs, evo, deref, qload, target, if_true, if_false, Nat.reduceEqDiff, reduceIte, Nat.reduceAdd, AV.cells, AV.isTuple, setMany, alen, aiaddr, afill, Nat.reduceLeDiff, Nat.reduceMul, Nat.reduceLT, afillE, List.replicate, trows_length]
        refine withBool_intro ?_ ?_ <;> intro hb <;> simp only [walk, wl, rgets, retv, argsEnv, ev, cst, cst1, cstL, AEnv.get, AEnv.trim, envput, qstep, abin, aun, evs, evo, deref, qload, target, if_true, if_false, Nat.reduceEqDiff, reduceIte, Nat.reduceAdd, AV.cells, AV.isTuple, setMany, alen, aiaddr, afill, Nat.reduceLeDiff, Nat.reduceMul, Nat.reduceLT, afillE, List.replicate]
        · have hlt : k < a.length := by simpa using hb
          have hlt2 : k < b.length := by omega
          have w1 := w_succ (k := k) (by omega)
          simp only [walk, wl, rgets, retv, argsEnv, ev, cst, cst1, cstL, AEnv.get, AEnv.trim, envput, qstep, abin, aun, evs, evo, deref, qload, target, if_true, if_false, Nat.reduceEqDiff, reduceIte, Nat.reduceAdd, AV.cells, AV.isTuple, setMany, alen, aiaddr, afill, Nat.reduceLeDiff, Nat.reduceMul, Nat.reduceLT, afillE, List.replicate, trows_get hlt, trows_get hlt2, List.length_cons, aeqO, Nat.reduceAdd]
          refine withBool_intro ?_ ?_ <;> intro h4 <;> simp only [walk, wl, rgets, retv, argsEnv, ev, cst, cst1, cstL, AEnv.get, AEnv.trim, envput, qstep, abin, aun, evs, evo, deref, qload, target, if_true, if_false, Nat.reduceEqDiff, reduceIte, Nat.reduceAdd, AV.cells, AV.isTuple, setMany, alen, aiaddr, afill, Nat.reduceLeDiff, Nat.reduceMul, Nat.reduceLT, afillE, List.replicate, w1]
          · have : ¬ (n1 = n2 ∧ r1 = r2 ∧ a = b) := fun h => by
              have := h.2.2; subst this; simp at h4
            rw [decide_eq_false this]; exact out_bool
          · refine loop_end (k + 1) ⟨hlt, fun j hj hjk => ?_⟩ (by omega) rfl rfl
            rcases Nat.lt_or_ge j k with h | h
            · exact hall j hj h
            · obtain rfl : j = k := by omega
              have h5 : a[j].1 = b[j].1 ∧ a[j].2.1 = b[j].2.1 ∧ a[j].2.2.1 = b[j].2.2.1 ∧ a[j].2.2.2 = b[j].2.2.2 := by simpa using h4
              exact Prod.ext h5.1 (Prod.ext h5.2.1 (Prod.ext h5.2.2.1 h5.2.2.2))
        · have hk' : k = a.length := by simp at hb; omega
          subst hk'
          have : n1 = n2 ∧ r1 = r2 ∧ a = b := ⟨e1, e2, List.ext_getElem hab fun j h1 h2 => hall j h1 h1⟩
          rw [decide_eq_true this]; exact out_bool
    · have : ¬ (n1 = n2 ∧ r1 = r2 ∧ a = b) := fun h => by simp at h2; exact h2 h.2.1
      rw [decide_eq_false this]; exact out_bool
  · have : ¬ (n1 = n2 ∧ r1 = r2 ∧ a = b) := fun h => by simp at h1; exact h1 h.1
    rw [decide_eq_false this]; exact out_bool
end Go.Proofs.YtgadlckkmhhmbaaDoor
