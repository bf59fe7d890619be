/- Contracts: the first tests that contradict each other. -/
import Derived.Test.YtgadlckkmhhmbaaGreatDoorQC2
set_option linter.unusedVariables false
set_option linter.unusedSimpArgs false
set_option linter.unusedSectionVars false
namespace Go.Proofs.YtgadlckkmhhmbaaGreatDoor
open Go.Awp Go.Grams
set_option linter.unusedSimpArgs false
set_option linter.unusedVariables false
set_option linter.unusedSectionVars false
set_option maxRecDepth 10000
theorem out_agg2I {H : AHeap} {a b : Int} : Out H (.agg [I a, I b]) (.agg [I a, I b]) := out_of (d := 2) rfl
theorem out_three' {H : AHeap} {x y z x' y' z' : AV} (hx : Out H x x') (hy : Out H y y') (hz : Out H z z') : Out H (.tuple [x, y, z]) (.tuple [x', y', z']) := out_tuple (.cons hx (.cons hy (.cons hz .nil)))
def apV (no rate : Int) (ts : List Tst) : AV := .tuple [.agg [I (apA no rate ts).1, I (apA no rate ts).2], .bool (apB no rate ts), I (apE no rate ts)]
theorem Apart_ok (no rate : Int) (ts : List Tst) : PCall Tryz.prog 66 [sc no rate ts] (apV no rate ts) := by
  refine PCall.intro text66 (by simp) ?_
  unfold ir66
  simp only [walk, wl, rgets, retv, argsEnv, ev, cst, cst1, cstL, AEnv.get, AEnv.trim, envput, qstep, abin, aun, evs, evo, deref, qload, target, if_true, if_false, Nat.reduceEqDiff, reduceIte, Nat.reduceAdd, AV.cells, AV.isTuple, setMany, alen, aiaddr, afill, Nat.reduceLeDiff, Nat.reduceMul, Nat.reduceLT, afillE, List.replicate]
  refine call_pure (well_ok no rate ts) (frzL_of' (d := 4) (carL_cons car_sc rfl)) ?_
  simp only [walk, wl, rgets, retv, argsEnv, ev, cst, cst1, cstL, AEnv.get, AEnv.trim, envput, qstep, abin, aun, evs, evo, deref, qload, target, if_true, if_false, Nat.reduceEqDiff, reduceIte, Nat.reduceAdd, AV.cells, AV.isTuple, setMany, alen, aiaddr, afill, Nat.reduceLeDiff, Nat.reduceMul, Nat.reduceLT, afillE, List.replicate]
  refine withBool_intro ?_ ?_ <;> intro h1 <;> simp only [walk, wl, rgets, retv, argsEnv, ev, cst, cst1, cstL, AEnv.get, AEnv.trim, envput, qstep, abin, aun, evs, evo, deref, qload, target, if_true, if_false, Nat.reduceEqDiff, reduceIte, Nat.reduceAdd, AV.cells, AV.isTuple, setMany, alen, aiaddr, afill, Nat.reduceLeDiff, Nat.reduceMul, Nat.reduceLT, afillE, List.replicate]
  · have hw : well no rate ts = false := by
      unfold chkW at h1; split at h1
      · simp at h1
      · simpa using ‹¬ well no rate ts = true›
    have hc : chkW no rate ts = 11 := by simp [chkW, hw]
    rw [hc]
    have : apV no rate ts = .tuple [.agg [I 0, I 0], .bool false, I 11] := by simp [apV, apA, apB, apE, hw]
    rw [this]
    exact out_three' out_agg2I out_bool out_int
  · have hw : well no rate ts = true := by
      unfold chkW at h1; split at h1
      · assumption
      · simp at h1
    obtain ⟨-, hr, hlen, hok, -⟩ := well_iff.1 hw
    have fin : ∀ (H : AHeap) (a b : Int) (c : Bool), pairP rate ts = ((a, b), c) → Out H (.tuple [.agg [I a, I b], .bool c, I 0]) (apV no rate ts) := by
      intro H a b c he
      have : apV no rate ts = .tuple [.agg [I a, I b], .bool c, I 0] := by simp [apV, apA, apB, apE, hw, he]
      rw [this]
      exact out_three' out_agg2I out_bool out_int
    simp only [walk, wl, rgets, retv, argsEnv, ev, cst, cst1, cstL, AEnv.get, AEnv.trim, envput, qstep, abin, aun, evs, evo, deref, qload, target, if_true, if_false, Nat.reduceEqDiff, reduceIte, Nat.reduceAdd, AV.cells, AV.isTuple, setMany, alen, aiaddr, afill, Nat.reduceLeDiff, Nat.reduceMul, Nat.reduceLT, afillE, List.replicate, trows_length]
    refine awp_loop (σ := Nat) (fun k => [(1, .ptr 0 1 0 0), (2, .ptr 1 1 0 0), (16, .ro false (trows ts)), (17, I ts.length), (18, I k)]) (fun _ H => ∃ X, H = some ⟨40, 3, [[I no, I rate, .ro false (trows ts)]]⟩ :: some ⟨79, 2, [[I 0, I 0]]⟩ :: X) (fun k => k ≤ ts.length ∧ pairFrom rate ts 0 = pairFrom rate (ts.drop k) k) (fun k => ts.length - k) 0 ⟨Nat.zero_le _, rfl⟩ rfl ⟨[], rfl⟩ ?_
    rintro k H ⟨hk, hp⟩ ⟨X, rfl⟩
    simp only [walk, wl, rgets, retv, argsEnv, ev, cst, cst1, cstL, AEnv.get, AEnv.trim, envput, qstep, abin, aun, evs, evo, deref, qload, target, if_true, if_false, Nat.reduceEqDiff, reduceIte, Nat.reduceAdd, AV.cells, AV.isTuple, setMany, alen, aiaddr, afill, Nat.reduceLeDiff, Nat.reduceMul, Nat.reduceLT, afillE, List.replicate]
    refine withBool_intro ?_ ?_ <;> intro hb <;> simp only [walk, wl, rgets, retv, argsEnv, ev, cst, cst1, cstL, AEnv.get, AEnv.trim, envput, qstep, abin, aun, evs, evo, deref, qload, target, if_true, if_false, Nat.reduceEqDiff, reduceIte, Nat.reduceAdd, AV.cells, AV.isTuple, setMany, alen, aiaddr, afill, Nat.reduceLeDiff, Nat.reduceMul, Nat.reduceLT, afillE, List.replicate]
    · have hlt : k < ts.length := by simpa using hb
      have w1 := w_succ (k := k) (by omega)
      rw [pair_drop hlt] at hp
      simp only [walk, wl, rgets, retv, argsEnv, ev, cst, cst1, cstL, AEnv.get, AEnv.trim, envput, qstep, abin, aun, evs, evo, deref, qload, target, if_true, if_false, Nat.reduceEqDiff, reduceIte, Nat.reduceAdd, AV.cells, AV.isTuple, setMany, alen, aiaddr, afill, Nat.reduceLeDiff, Nat.reduceMul, Nat.reduceLT, afillE, List.replicate, trows_get hlt, List.length_cons, w1]
      refine awp_loop (σ := Nat) (fun j => [(1, .ptr 0 1 0 0), (2, .ptr 1 1 0 0), (6, I k), (7, .ptr (X.length + 1 + 1) 1 0 0), (8, I j), (16, .ro false (trows ts)), (17, I ts.length), (18, I k)]) (fun _ H => H = some ⟨40, 3, [[I no, I rate, .ro false (trows ts)]]⟩ :: some ⟨79, 2, [[I 0, I 0]]⟩ :: (X ++ [some ⟨23, 4, [[I ts[k].1, I ts[k].2.1, I ts[k].2.2.1, I ts[k].2.2.2]]⟩])) (fun j => k < j ∧ j ≤ ts.length ∧ mateFrom rate ts[k] (ts.drop (k + 1)) (k + 1) = mateFrom rate ts[k] (ts.drop j) j) (fun j => ts.length - j) (k + 1) ⟨by omega, hlt, rfl⟩ rfl rfl ?_
      rintro j H ⟨hj1, hj2, hm⟩ rfl
      simp only [walk, wl, rgets, retv, argsEnv, ev, cst, cst1, cstL, AEnv.get, AEnv.trim, envput, qstep, abin, aun, evs, evo, deref, qload, target, if_true, if_false, Nat.reduceEqDiff, reduceIte, Nat.reduceAdd, AV.cells, AV.isTuple, setMany, alen, aiaddr, afill, Nat.reduceLeDiff, Nat.reduceMul, Nat.reduceLT, afillE, List.replicate, trows_length]
      refine withBool_intro ?_ ?_ <;> intro hb2 <;> simp only [walk, wl, rgets, retv, argsEnv, ev, cst, cst1, cstL, AEnv.get, AEnv.trim, envput, qstep, abin, aun, evs, evo, deref, qload, target, if_true, if_false, Nat.reduceEqDiff, reduceIte, Nat.reduceAdd, AV.cells, AV.isTuple, setMany, alen, aiaddr, afill, Nat.reduceLeDiff, Nat.reduceMul, Nat.reduceLT, afillE, List.replicate]
      · have hlt2 : j < ts.length := by simpa using hb2
        have w2 := w_succ (k := j) (by omega)
        rw [mate_drop hlt2] at hm
        simp only [walk, wl, rgets, retv, argsEnv, ev, cst, cst1, cstL, AEnv.get, AEnv.trim, envput, qstep, abin, aun, evs, evo, deref, qload, target, if_true, if_false, Nat.reduceEqDiff, reduceIte, Nat.reduceAdd, AV.cells, AV.isTuple, setMany, alen, aiaddr, afill, Nat.reduceLeDiff, Nat.reduceMul, Nat.reduceLT, afillE, List.replicate, trows_get hlt2, List.length_cons]
        refine call_pure (contradict_ok hr (hok _ (List.getElem_mem hlt)) (hok _ (List.getElem_mem hlt2))) (frzL_of' (d := 4) rfl) ?_
        simp only [walk, wl, rgets, retv, argsEnv, ev, cst, cst1, cstL, AEnv.get, AEnv.trim, envput, qstep, abin, aun, evs, evo, deref, qload, target, if_true, if_false, Nat.reduceEqDiff, reduceIte, Nat.reduceAdd, AV.cells, AV.isTuple, setMany, alen, aiaddr, afill, Nat.reduceLeDiff, Nat.reduceMul, Nat.reduceLT, afillE, List.replicate]
        refine withBool_intro ?_ ?_ <;> intro hc <;> simp only [walk, wl, rgets, retv, argsEnv, ev, cst, cst1, cstL, AEnv.get, AEnv.trim, envput, qstep, abin, aun, evs, evo, deref, qload, target, if_true, if_false, Nat.reduceEqDiff, reduceIte, Nat.reduceAdd, AV.cells, AV.isTuple, setMany, alen, aiaddr, afill, Nat.reduceLeDiff, Nat.reduceMul, Nat.reduceLT, afillE, List.replicate, hc]
        · rw [if_pos hc] at hm
          refine fin _ k j true ?_
          simp only [hm] at hp
          simp [pairP, hp]
        · rw [if_neg (by rw [hc]; decide)] at hm
          rw [w2]
          refine loop_end (j + 1) ⟨by omega, hlt2, hm⟩ (by omega) rfl rfl
      · have hj' : j = ts.length := by simp at hb2; omega
        subst hj'
        rw [mate_end (Nat.le_refl _)] at hm
        rw [hm] at hp
        rw [w1]
        refine loop_end (k + 1) ⟨hlt, hp⟩ (by omega) rfl ⟨_, rfl⟩
    · have hk' : k = ts.length := by simp at hb; omega
      subst hk'
      rw [pair_end (Nat.le_refl _)] at hp
      exact fin _ 0 0 false (by simp [pairP, hp])
theorem CheckScale_ok (no rate : Int) (ts : List Tst) : PCall Tryz.prog 40 [sc no rate ts] (I (chkS no rate ts)) := by
  refine PCall.intro text40 (by simp) ?_
  unfold ir40
  simp only [walk, wl, rgets, retv, argsEnv, ev, cst, cst1, cstL, AEnv.get, AEnv.trim, envput, qstep, abin, aun, evs, evo, deref, qload, target, if_true, if_false, Nat.reduceEqDiff, reduceIte, Nat.reduceAdd, AV.cells, AV.isTuple, setMany, alen, aiaddr, afill, Nat.reduceLeDiff, Nat.reduceMul, Nat.reduceLT, afillE, List.replicate]
  refine call_pure (Apart_ok no rate ts) (frzL_of' (d := 4) (carL_cons car_sc rfl)) ?_
  unfold apV
  simp only [walk, wl, rgets, retv, argsEnv, ev, cst, cst1, cstL, AEnv.get, AEnv.trim, envput, qstep, abin, aun, evs, evo, deref, qload, target, if_true, if_false, Nat.reduceEqDiff, reduceIte, Nat.reduceAdd, AV.cells, AV.isTuple, setMany, alen, aiaddr, afill, Nat.reduceLeDiff, Nat.reduceMul, Nat.reduceLT, afillE, List.replicate]
  refine withBool_intro ?_ ?_ <;> intro h1 <;> simp only [walk, wl, rgets, retv, argsEnv, ev, cst, cst1, cstL, AEnv.get, AEnv.trim, envput, qstep, abin, aun, evs, evo, deref, qload, target, if_true, if_false, Nat.reduceEqDiff, reduceIte, Nat.reduceAdd, AV.cells, AV.isTuple, setMany, alen, aiaddr, afill, Nat.reduceLeDiff, Nat.reduceMul, Nat.reduceLT, afillE, List.replicate]
  · have : chkS no rate ts = 13 := by
      unfold apB at h1; simp at h1; simp [chkS, h1]
    rw [this]; exact out_int
  · have : chkS no rate ts = apE no rate ts := by
      unfold apB at h1; unfold chkS apE; split
      · rename_i hw; rw [if_neg (by simpa [hw] using h1)]
      · rfl
    rw [this]; exact out_int
end Go.Proofs.YtgadlckkmhhmbaaGreatDoor
