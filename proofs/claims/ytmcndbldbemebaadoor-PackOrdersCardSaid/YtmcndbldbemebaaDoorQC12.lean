/- Contracts: Run. -/
import Derived.Test.YtmcndbldbemebaaDoorQC11
set_option linter.unusedVariables false
set_option linter.unusedSimpArgs false
set_option linter.unusedSectionVars false
namespace Go.Proofs.YtmcndbldbemebaaDoor
open Go.Awp Go.Snow
set_option linter.unusedSimpArgs false
set_option linter.unusedVariables false
set_option linter.unusedSectionVars false
set_option maxRecDepth 10000
def runGo : List Lay → List Int → List Lay → List Lay × List Int × Int
  | ls, os, [] => (ls, os, 0)
  | ls, os, s :: r => if (applyV ls s.1 s.2.1 s.2.2).2.2 = 0 then runGo (applyV ls s.1 s.2.1 s.2.2).1 (os ++ [(applyV ls s.1 s.2.1 s.2.2).2.1]) r else ([], [], (applyV ls s.1 s.2.1 s.2.2).2.2)
def runV (ls st : List Lay) : List Lay × List Int × Int := if okP ls then (if st.length ≤ 256 then runGo ls [] st else ([], [], 2)) else ([], [], 20)
/-- A value that reads as layers. -/
def PV (lo : Nat) (H : AHeap) (a : AV) (ls : List Lay) : Prop := Acc lo H a 43 3 (rows ls) ∨ a = .ro true (rows ls)
theorem PV.out {lo : Nat} {H : AHeap} {a : AV} {ls : List Lay} (h : PV lo H a ls) : Out H a (.ro true (rows ls)) := by
  rcases h with h | rfl
  · exact h.out (rows_simple _)
  · exact out_of (d := 2) (car_ro_true (rows_simple _))
theorem PV.frz {lo : Nat} {H : AHeap} {a : AV} {ls : List Lay} (h : PV lo H a ls) : Frz H a (.ro false (rows ls)) := by
  rcases h with h | rfl
  · exact h.carF (d := 0) (rows_simple _)
  · exact frz_car (d := 2) (car_ro_false (rows_simple _))
theorem PV.keep {lo : Nat} {H H' : AHeap} {a : AV} {ls : List Lay} (h : PV lo H a ls) (hk : ∀ i, lo ≤ i → i < H.length → AHeap.obj H' i = AHeap.obj H i) : PV lo H' a ls := by
  rcases h with h | rfl
  · exact .inl (h.keep hk)
  · exact .inr rfl
theorem PV.one {lo : Nat} {H : AHeap} {a : AV} {ls : List Lay} (h : PV lo H a ls) : a = .nilSlice ∨ (∃ q n, a = .own q n 0 n) ∨ ∃ b l, a = .ro b l := by
  rcases h with h | rfl
  · rcases h.form with h | h
    · exact .inl h
    · exact .inr (.inl h)
  · exact .inr (.inr ⟨_, _, rfl⟩)
theorem PV.two {lo : Nat} {H : AHeap} {a : AV} {ls : List Lay} (h : PV lo H a ls) : a.cells = [a] ∧ a.isTuple = false := by
  rcases h.one with rfl | ⟨q, n, rfl⟩ | ⟨b, l, rfl⟩ <;> exact ⟨rfl, rfl⟩
theorem frzL2 {H : AHeap} {x x' y y' : AV} (h1 : Frz H x x') (h2 : Frz H y y') : FrzL H [x, y] [x', y'] := .cons h1 (.cons h2 .nil)
theorem out_run0 {H : AHeap} {e : Int} : Out H (.tuple [.agg [.nilSlice], .nilSlice, I e]) (.tuple [.agg [.ro true (rows [])], .ro true (ic []), I e]) := out_three out_nopk out_nil out_int
theorem Run_ok (ls st : List Lay) : PCall Tryd.prog 43 [.agg [.ro false (rows ls)], .ro false (rows st)] (.tuple [.agg [.ro true (rows (runV ls st).1)], .ro true (ic (runV ls st).2.1), I (runV ls st).2.2]) := by
  refine PCall.intro text43 (by simp) ?_
  unfold ir43
  simp only [walkS, wl, rgets, retv, argsEnv, ev, cst, cst1, cstL, AEnv.get, AEnv.trim, envput, qstep, abin, aun, evs, evo, deref, qload, target, if_true, if_false, Nat.reduceEqDiff, reduceIte, Nat.reduceAdd, AV.cells, AV.isTuple, setMany, alen, aiaddr, afill, Nat.reduceLeDiff, Nat.reduceMul, Nat.reduceLT, afillE, List.replicate]
  refine call_pure (Check_ok ls) (frzL_of' (d := 4) car_pkL) ?_
  simp only [walkS, wl, rgets, retv, argsEnv, ev, cst, cst1, cstL, AEnv.get, AEnv.trim, envput, qstep, abin, aun, evs, evo, deref, qload, target, if_true, if_false, Nat.reduceEqDiff, reduceIte, Nat.reduceAdd, AV.cells, AV.isTuple, setMany, alen, aiaddr, afill, Nat.reduceLeDiff, Nat.reduceMul, Nat.reduceLT, afillE, List.replicate]
  refine withBool_intro ?_ ?_ <;> intro h <;> simp only [walkS, wl, rgets, retv, argsEnv, ev, cst, cst1, cstL, AEnv.get, AEnv.trim, envput, qstep, abin, aun, evs, evo, deref, qload, target, if_true, if_false, Nat.reduceEqDiff, reduceIte, Nat.reduceAdd, AV.cells, AV.isTuple, setMany, alen, aiaddr, afill, Nat.reduceLeDiff, Nat.reduceMul, Nat.reduceLT, afillE, List.replicate, rows_length]
  · obtain ⟨h1, h2⟩ := chk_ne (ls := ls) (by simpa using h)
    refine storeR rfl rfl rfl rfl ⟨rfl, rfl, rfl, by simp⟩ fun H1 y1 y2 y3 => ?_
    simp only [AV.cells, setMany, List.set_cons_zero, List.set_cons_succ] at y2
    simp only [walkS, wl, rgets, retv, argsEnv, ev, cst, cst1, cstL, AEnv.get, AEnv.trim, envput, qstep, abin, aun, evs, evo, deref, qload, target, if_true, if_false, Nat.reduceEqDiff, reduceIte, Nat.reduceAdd, AV.cells, AV.isTuple, setMany, alen, aiaddr, afill, Nat.reduceLeDiff, Nat.reduceMul, Nat.reduceLT, afillE, List.replicate, y2]
    simp only [h2, runV, h1, Bool.false_eq_true, if_false]; exact out_run0
  · have h1 := chk_zero (ls := ls) (by simpa using h)
    have hl := (okP_iff.1 h1).1
    refine withBool_intro ?_ ?_ <;> intro h3 <;> simp only [walkS, wl, rgets, retv, argsEnv, ev, cst, cst1, cstL, AEnv.get, AEnv.trim, envput, qstep, abin, aun, evs, evo, deref, qload, target, if_true, if_false, Nat.reduceEqDiff, reduceIte, Nat.reduceAdd, AV.cells, AV.isTuple, setMany, alen, aiaddr, afill, Nat.reduceLeDiff, Nat.reduceMul, Nat.reduceLT, afillE, List.replicate]
    · have h3' : ¬ st.length ≤ 256 := by simp at h3; omega
      refine storeR rfl rfl rfl rfl ⟨rfl, rfl, rfl, by simp⟩ fun H1 y1 y2 y3 => ?_
      simp only [AV.cells, setMany, List.set_cons_zero, List.set_cons_succ] at y2
      simp only [walkS, wl, rgets, retv, argsEnv, ev, cst, cst1, cstL, AEnv.get, AEnv.trim, envput, qstep, abin, aun, evs, evo, deref, qload, target, if_true, if_false, Nat.reduceEqDiff, reduceIte, Nat.reduceAdd, AV.cells, AV.isTuple, setMany, alen, aiaddr, afill, Nat.reduceLeDiff, Nat.reduceMul, Nat.reduceLT, afillE, List.replicate, y2]
      simp only [runV, h1, h3', if_true, if_false]; exact out_run0
    · have h3' : st.length ≤ 256 := by simp at h3; omega
      have hv : runV ls st = runGo ls [] st := by simp only [runV, h1, h3', if_true]
      rw [hv]
      clear hv
      refine acc_appendL (lo := 2) (els := []) (by simp) (.inl ⟨rfl, rfl⟩) rfl rfl (asrc_ro (rows_all ls)) (by simp only [rows_length, List.length_nil]; omega) fun a H1 y1 y2 y3 => ?_
      rw [List.nil_append] at y2
      simp only [List.length_append, List.length_cons, List.length_nil] at y1
      have o0 : AHeap.obj H1 0 = some ⟨24, 1, [[.ro false (rows ls)]]⟩ := by rw [y3 _ (by omega)]; rfl
      have o1 : AHeap.obj H1 1 = some ⟨24, 1, [[.nilSlice]]⟩ := by rw [y3 _ (by omega)]; rfl
      have hpv : PV 2 H1 a ls := .inl y2
      rcases y2.form with rfl | ⟨q, n, rfl⟩
      all_goals
        simp only [walkS, wl, rgets, retv, argsEnv, ev, cst, cst1, cstL, AEnv.get, AEnv.trim, envput, qstep, abin, aun, evs, evo, deref, qload, target, if_true, if_false, Nat.reduceEqDiff, reduceIte, Nat.reduceAdd, AV.cells, AV.isTuple, setMany, alen, aiaddr, afill, Nat.reduceLeDiff, Nat.reduceMul, Nat.reduceLT, afillE, List.replicate]
        refine storeR rfl rfl o0 rfl ⟨rfl, rfl, rfl, by simp⟩ fun H2 z1 z2 z3 => ?_
        simp only [AV.cells, setMany, List.set_cons_zero, List.set_cons_succ] at z2
        have hpv2 := hpv.keep (H' := H2) fun i h1 h2 => z3 i (by omega)
        have p1 : AHeap.obj H2 1 = some ⟨24, 1, [[.nilSlice]]⟩ := by rw [z3 1 (by omega)]; exact o1
        simp only [walkS, wl, rgets, retv, argsEnv, ev, cst, cst1, cstL, AEnv.get, AEnv.trim, envput, qstep, abin, aun, evs, evo, deref, qload, target, if_true, if_false, Nat.reduceEqDiff, reduceIte, Nat.reduceAdd, AV.cells, AV.isTuple, setMany, alen, aiaddr, afill, Nat.reduceLeDiff, Nat.reduceMul, Nat.reduceLT, afillE, List.replicate, rows_length]
        refine awp_loop (σ := Nat × List Lay × List Int × AV × AV) (fun s => [(2, .ptr 0 1 0 0), (4, .ptr 1 1 0 0), (8, s.2.2.2.2), (28, .ro false (rows st)), (29, I st.length), (30, I s.1)])
          (fun s H => 2 ≤ H.length ∧ AHeap.obj H 0 = some ⟨24, 1, [[s.2.2.2.1]]⟩ ∧ AHeap.obj H 1 = some ⟨24, 1, [[.nilSlice]]⟩ ∧ PV 2 H s.2.2.2.1 s.2.1 ∧ Acc 2 H s.2.2.2.2 3 1 (ic s.2.2.1))
          (fun s => s.1 ≤ st.length ∧ s.2.2.1.length ≤ 256 ∧ s.2.2.1.length = s.1 ∧ runGo ls [] st = runGo s.2.1 s.2.2.1 (st.drop s.1)) (fun s => st.length - s.1) (0, ls, [], _, .nilSlice) ⟨Nat.zero_le _, by simp, rfl, rfl⟩ rfl ⟨by omega, z2, p1, hpv2, .inl ⟨rfl, rfl⟩⟩ ?_
        clear hpv hpv2 z1 z2 z3 y1 y2 y3 o0 o1 p1
        rintro ⟨k, ls', os, b, c⟩ H ⟨hk, ho1, ho2, hrun⟩ ⟨hH, q0, q1, hb, hc⟩
        simp only at hk ho1 ho2 hrun q0 hb hc
        simp only [walkS, wl, rgets, retv, argsEnv, ev, cst, cst1, cstL, AEnv.get, AEnv.trim, envput, qstep, abin, aun, evs, evo, deref, qload, target, if_true, if_false, Nat.reduceEqDiff, reduceIte, Nat.reduceAdd, AV.cells, AV.isTuple, setMany, alen, aiaddr, afill, Nat.reduceLeDiff, Nat.reduceMul, Nat.reduceLT, afillE, List.replicate]
        refine withBool_intro ?_ ?_ <;> intro hd <;> simp only [walkS, wl, rgets, retv, argsEnv, ev, cst, cst1, cstL, AEnv.get, AEnv.trim, envput, qstep, abin, aun, evs, evo, deref, qload, target, if_true, if_false, Nat.reduceEqDiff, reduceIte, Nat.reduceAdd, AV.cells, AV.isTuple, setMany, alen, aiaddr, afill, Nat.reduceLeDiff, Nat.reduceMul, Nat.reduceLT, afillE, List.replicate]
        · have hlt : k < st.length := by simpa using hd
          have hdr : st.drop k = st[k] :: st.drop (k + 1) := List.drop_eq_getElem_cons hlt
          rw [hdr] at hrun
          simp only [runGo] at hrun
          simp only [walkS, wl, rgets, retv, argsEnv, ev, cst, cst1, cstL, AEnv.get, AEnv.trim, envput, qstep, abin, aun, evs, evo, deref, qload, target, if_true, if_false, Nat.reduceEqDiff, reduceIte, Nat.reduceAdd, AV.cells, AV.isTuple, setMany, alen, aiaddr, afill, Nat.reduceLeDiff, Nat.reduceMul, Nat.reduceLT, afillE, List.replicate, rows_get hlt]
          refine storeR rfl rfl AHeap.obj_push_eq rfl ⟨rfl, rfl, rfl, by simp⟩ fun H3 u1 u2 u3 => ?_
          simp only [AV.cells, setMany, List.set_cons_zero, List.set_cons_succ] at u2
          simp only [List.length_append, List.length_cons, List.length_nil] at u1
          have q0' : AHeap.obj H3 0 = some ⟨24, 1, [[b]]⟩ := by rw [u3 0 (by omega), AHeap.obj_push_lt (by omega)]; exact q0
          have q1' : AHeap.obj H3 1 = some ⟨24, 1, [[.nilSlice]]⟩ := by rw [u3 1 (by omega), AHeap.obj_push_lt (by omega)]; exact q1
          have hb' := hb.keep (H' := H3) fun i h1 h2 => by rw [u3 i (by omega), AHeap.obj_push_lt h2]
          have hc' := hc.keep (H' := H3) fun i h1 h2 => by rw [u3 i (by omega), AHeap.obj_push_lt h2]
          simp only [walkS, wl, rgets, retv, argsEnv, ev, cst, cst1, cstL, AEnv.get, AEnv.trim, envput, qstep, abin, aun, evs, evo, deref, qload, target, if_true, if_false, Nat.reduceEqDiff, reduceIte, Nat.reduceAdd, AV.cells, AV.isTuple, setMany, alen, aiaddr, afill, Nat.reduceLeDiff, Nat.reduceMul, Nat.reduceLT, afillE, List.replicate, q0', u2]
          refine call_pure (Apply_ok ls' st[k].1 st[k].2.1 st[k].2.2) (frzL2 (frz_agg1 hb'.frz rfl) (frz_car (d := 4) rfl)) ?_
          unfold pkV
          obtain ⟨r, hr⟩ : ∃ r, r = applyV ls' st[k].1 st[k].2.1 st[k].2.2 := ⟨_, rfl⟩
          rw [← hr] at hrun ⊢
          simp only [walkS, wl, rgets, retv, argsEnv, ev, cst, cst1, cstL, AEnv.get, AEnv.trim, envput, qstep, abin, aun, evs, evo, deref, qload, target, if_true, if_false, Nat.reduceEqDiff, reduceIte, Nat.reduceAdd, AV.cells, AV.isTuple, setMany, alen, aiaddr, afill, Nat.reduceLeDiff, Nat.reduceMul, Nat.reduceLT, afillE, List.replicate]
          refine storeR rfl rfl AHeap.obj_push_eq rfl ⟨rfl, rfl, rfl, by simp⟩ fun H4 v1 v2 v3 => ?_
          simp only [AV.cells, setMany, List.set_cons_zero, List.set_cons_succ] at v2
          simp only [List.length_append, List.length_cons, List.length_nil] at v1
          have q0'' : AHeap.obj H4 0 = some ⟨24, 1, [[b]]⟩ := by rw [v3 0 (by omega), AHeap.obj_push_lt (by omega)]; exact q0'
          have q1'' : AHeap.obj H4 1 = some ⟨24, 1, [[.nilSlice]]⟩ := by rw [v3 1 (by omega), AHeap.obj_push_lt (by omega)]; exact q1'
          have hc'' := hc'.keep (H' := H4) fun i h1 h2 => by rw [v3 i (by omega), AHeap.obj_push_lt h2]
          simp only [walkS, wl, rgets, retv, argsEnv, ev, cst, cst1, cstL, AEnv.get, AEnv.trim, envput, qstep, abin, aun, evs, evo, deref, qload, target, if_true, if_false, Nat.reduceEqDiff, reduceIte, Nat.reduceAdd, AV.cells, AV.isTuple, setMany, alen, aiaddr, afill, Nat.reduceLeDiff, Nat.reduceMul, Nat.reduceLT, afillE, List.replicate]
          refine withBool_intro ?_ ?_ <;> intro h5 <;> simp only [walkS, wl, rgets, retv, argsEnv, ev, cst, cst1, cstL, AEnv.get, AEnv.trim, envput, qstep, abin, aun, evs, evo, deref, qload, target, if_true, if_false, Nat.reduceEqDiff, reduceIte, Nat.reduceAdd, AV.cells, AV.isTuple, setMany, alen, aiaddr, afill, Nat.reduceLeDiff, Nat.reduceMul, Nat.reduceLT, afillE, List.replicate]
          · have h5' : ¬ r.2.2 = 0 := by simpa using h5
            rw [if_neg h5'] at hrun
            rw [hrun]
            refine storeR rfl rfl q1'' rfl ⟨rfl, rfl, rfl, by simp⟩ fun H5 w1 w2 w3 => ?_
            simp only [AV.cells, setMany, List.set_cons_zero, List.set_cons_succ] at w2
            simp only [walkS, wl, rgets, retv, argsEnv, ev, cst, cst1, cstL, AEnv.get, AEnv.trim, envput, qstep, abin, aun, evs, evo, deref, qload, target, if_true, if_false, Nat.reduceEqDiff, reduceIte, Nat.reduceAdd, AV.cells, AV.isTuple, setMany, alen, aiaddr, afill, Nat.reduceLeDiff, Nat.reduceMul, Nat.reduceLT, afillE, List.replicate, w2]
            exact out_run0
          · have h5' : r.2.2 = 0 := by simpa using h5
            rw [if_pos h5'] at hrun
            simp only [walkS, wl, rgets, retv, argsEnv, ev, cst, cst1, cstL, AEnv.get, AEnv.trim, envput, qstep, abin, aun, evs, evo, deref, qload, target, if_true, if_false, Nat.reduceEqDiff, reduceIte, Nat.reduceAdd, AV.cells, AV.isTuple, setMany, alen, aiaddr, afill, Nat.reduceLeDiff, Nat.reduceMul, Nat.reduceLT, afillE, List.replicate, v2]
            refine storeR rfl rfl q0'' rfl ⟨rfl, rfl, rfl, by simp⟩ fun H5 w1 w2 w3 => ?_
            simp only [AV.cells, setMany, List.set_cons_zero, List.set_cons_succ] at w2
            have r1 : AHeap.obj H5 1 = some ⟨24, 1, [[.nilSlice]]⟩ := by rw [w3 1 (by omega)]; exact q1''
            have hc3 := hc''.keep (H' := H5) fun i h1 h2 => w3 i (by omega)
            simp only [walkS, wl, rgets, retv, argsEnv, ev, cst, cst1, cstL, AEnv.get, AEnv.trim, envput, qstep, abin, aun, evs, evo, deref, qload, target, if_true, if_false, Nat.reduceEqDiff, reduceIte, Nat.reduceAdd, AV.cells, AV.isTuple, setMany, alen, aiaddr, afill, Nat.reduceLeDiff, Nat.reduceMul, Nat.reduceLT, afillE, List.replicate]
            refine acc_append (lo := 2) (by simp; omega) (hc3.push _) rfl rfl AHeap.obj_push_eq (by rw [ic_length]; omega) fun a' H6 x1 x2 x3 => ?_
            simp only [List.length_append, List.length_cons, List.length_nil] at x1
            have e5 : IntKind.i64.wrap ((k : Int) + 1) = ((k + 1 : Nat) : Int) := by rw [wrap_id (by omega) (by omega)]; simp
            simp only [walkS, wl, rgets, retv, argsEnv, ev, cst, cst1, cstL, AEnv.get, AEnv.trim, envput, qstep, abin, aun, evs, evo, deref, qload, target, if_true, if_false, Nat.reduceEqDiff, reduceIte, Nat.reduceAdd, AV.cells, AV.isTuple, setMany, alen, aiaddr, afill, Nat.reduceLeDiff, Nat.reduceMul, Nat.reduceLT, afillE, List.replicate, e5]
            refine loop_end (k + 1, r.1, os ++ [r.2.1], .ro true (rows r.1), a') ⟨hlt, by simp only [List.length_append, List.length_cons, List.length_nil]; omega, by simp only [List.length_append, List.length_cons, List.length_nil]; omega, hrun⟩ (by simp only; omega) rfl
              ⟨by omega, by rw [x3 0 (by omega), AHeap.obj_push_lt (by omega)]; exact w2, by rw [x3 1 (by omega), AHeap.obj_push_lt (by omega)]; exact r1, .inr rfl, by rw [ic_snoc]; exact x2⟩
        · have hk' : k = st.length := by simp at hd; omega
          subst hk'
          rw [List.drop_length] at hrun
          simp only [runGo] at hrun
          rw [hrun]
          rcases hb.one with rfl | ⟨q, n, rfl⟩ | ⟨bb, ll, rfl⟩
          all_goals
            simp only [walkS, wl, rgets, retv, argsEnv, ev, cst, cst1, cstL, AEnv.get, AEnv.trim, envput, qstep, abin, aun, evs, evo, deref, qload, target, if_true, if_false, Nat.reduceEqDiff, reduceIte, Nat.reduceAdd, AV.cells, AV.isTuple, setMany, alen, aiaddr, afill, Nat.reduceLeDiff, Nat.reduceMul, Nat.reduceLT, afillE, List.replicate, q0]
            refine storeR rfl rfl q1 rfl ⟨rfl, rfl, rfl, by simp⟩ fun H5 w1 w2 w3 => ?_
            simp only [AV.cells, setMany, List.set_cons_zero, List.set_cons_succ] at w2
            have hb5 := hb.keep (H' := H5) fun i h1 h2 => w3 i (by omega)
            have hc5 := hc.keep (H' := H5) fun i h1 h2 => w3 i (by omega)
            simp only [walkS, wl, rgets, retv, argsEnv, ev, cst, cst1, cstL, AEnv.get, AEnv.trim, envput, qstep, abin, aun, evs, evo, deref, qload, target, if_true, if_false, Nat.reduceEqDiff, reduceIte, Nat.reduceAdd, AV.cells, AV.isTuple, setMany, alen, aiaddr, afill, Nat.reduceLeDiff, Nat.reduceMul, Nat.reduceLT, afillE, List.replicate, w2]
            exact out_three (out_agg1 hb5.out rfl) (hc5.out (ic_simple _)) out_int
end Go.Proofs.YtmcndbldbemebaaDoor
