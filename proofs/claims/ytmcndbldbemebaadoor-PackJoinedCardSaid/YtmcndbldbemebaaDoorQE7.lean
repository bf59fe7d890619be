/- PackJoined holds. -/
import Derived.Test.YtmcndbldbemebaaDoorQT7
import Derived.Test.YtmcndbldbemebaaDoorQE2
import Derived.Test.YtmcndbldbemebaaDoorQG3
set_option linter.unusedVariables false
set_option linter.unusedSimpArgs false
set_option linter.unusedSectionVars false
namespace Go.Proofs.YtmcndbldbemebaaDoor
open Go.Awp Go.Snow
set_option linter.unusedSimpArgs false
set_option linter.unusedVariables false
set_option linter.unusedSectionVars false
set_option maxRecDepth 10000
theorem bal_small {ls : List Lay} (h : ∀ l, l ∈ ls → right l = true) : ∀ k, k ≤ ls.length → -100000 * (k : Int) ≤ bal (ls.take k) ∧ bal (ls.take k) ≤ 100000 * k
  | 0, _ => by simp [bal]
  | k + 1, hk => by
    have := bal_small h k (by omega)
    have := right_iff.1 (h ls[k] (List.getElem_mem _))
    rw [bal_take (by omega)]
    omega
theorem joinedV_fail {p : List Lay} {n : Int} (h : (joinedV p n).2 ≠ 0) : (joinedV p n).1 = [] := by
  unfold joinedV at h ⊢
  by_cases c1 : okP p = true
  · rw [if_pos c1] at h ⊢
    by_cases c2 : 1 ≤ n ∧ n ≤ 64
    · rw [if_pos c2] at h; exact absurd rfl h
    · rw [if_neg c2]
  · rw [if_neg c1]
theorem joinedV_ok {p : List Lay} {n : Int} (h : (joinedV p n).2 = 0) : okP p = true ∧ (1 ≤ n ∧ n ≤ 64) ∧ joinedV p n = (jnF (p.length - n.toNat) p, 0) := by
  unfold joinedV at h ⊢
  by_cases c1 : okP p = true
  · rw [if_pos c1] at h ⊢
    by_cases c2 : 1 ≤ n ∧ n ≤ 64
    · rw [if_pos c2]; exact ⟨c1, c2, rfl⟩
    · rw [if_neg c2] at h; simp at h
  · rw [if_neg c1] at h; simp at h
theorem PackJoined_ok (p : List Lay) (n m : Int) : PCall Tryd.prog 7 [.agg [.ro false (rows p)], I n, I m] (.bool true) := by
  refine PCall.intro text7 (by simp) ?_
  unfold ir7
  simp only [walk, wl, rgets, retv, argsEnv, ev, cst, cst1, cstL, AEnv.get, AEnv.trim, envput, qstep, abin, aun, evs, evo, deref, qload, target, if_true, if_false, Nat.reduceEqDiff, reduceIte, Nat.reduceAdd, AV.cells, AV.isTuple, setMany, alen, aiaddr, afill, Nat.reduceLeDiff, Nat.reduceMul, Nat.reduceLT, afillE, List.replicate]
  refine call_pure sane_ok (frzL_of' (d := 4) rfl) ?_
  simp only [walk, wl, rgets, retv, argsEnv, ev, cst, cst1, cstL, AEnv.get, AEnv.trim, envput, qstep, abin, aun, evs, evo, deref, qload, target, if_true, if_false, Nat.reduceEqDiff, reduceIte, Nat.reduceAdd, AV.cells, AV.isTuple, setMany, alen, aiaddr, afill, Nat.reduceLeDiff, Nat.reduceMul, Nat.reduceLT, afillE, List.replicate]
  refine call_pure (Joined_ok p n) (frzL_of' (d := 4) (carL_cons car_pk rfl)) ?_
  obtain ⟨r, hr⟩ : ∃ r, r = joinedV p n := ⟨_, rfl⟩
  rw [← hr]
  simp only [walk, wl, rgets, retv, argsEnv, ev, cst, cst1, cstL, AEnv.get, AEnv.trim, envput, qstep, abin, aun, evs, evo, deref, qload, target, if_true, if_false, Nat.reduceEqDiff, reduceIte, Nat.reduceAdd, AV.cells, AV.isTuple, setMany, alen, aiaddr, afill, Nat.reduceLeDiff, Nat.reduceMul, Nat.reduceLT, afillE, List.replicate]
  refine withBool_intro ?_ ?_ <;> intro h <;> simp only [walk, wl, rgets, retv, argsEnv, ev, cst, cst1, cstL, AEnv.get, AEnv.trim, envput, qstep, abin, aun, evs, evo, deref, qload, target, if_true, if_false, Nat.reduceEqDiff, reduceIte, Nat.reduceAdd, AV.cells, AV.isTuple, setMany, alen, aiaddr, afill, Nat.reduceLeDiff, Nat.reduceMul, Nat.reduceLT, afillE, List.replicate]
  · have h1 : r.2 ≠ 0 := by simpa using h
    have e1 := joinedV_fail (hr ▸ h1)
    rw [← hr] at e1
    rw [e1]
    simp only [walk, wl, rgets, retv, argsEnv, ev, cst, cst1, cstL, AEnv.get, AEnv.trim, envput, qstep, abin, aun, evs, evo, deref, qload, target, if_true, if_false, Nat.reduceEqDiff, reduceIte, Nat.reduceAdd, AV.cells, AV.isTuple, setMany, alen, aiaddr, afill, Nat.reduceLeDiff, Nat.reduceMul, Nat.reduceLT, afillE, List.replicate, rows, List.map_nil, List.length_nil, beq_self_eq_true, Int.ofNat_zero]
    exact out_bool
  · have h1 : r.2 = 0 := by simpa using h
    obtain ⟨o1, hn, o2⟩ := joinedV_ok (hr ▸ h1)
    rw [← hr] at o2
    obtain ⟨q, hq⟩ : ∃ q, q = jnF (p.length - n.toNat) p := ⟨_, rfl⟩
    rw [← hq] at o2
    obtain ⟨f1, f2, f3, f4⟩ := jnF_full (p.length - n.toNat) (okP_full o1) (by omega)
    rw [← hq] at f1 f2 f3 f4
    have o3 := full_okP f1
    obtain ⟨l1, R1, -, -⟩ := okP_iff.1 o1
    obtain ⟨l2, R2, -, -⟩ := okP_iff.1 o3
    rw [o2]
    simp only [walk, wl, rgets, retv, argsEnv, ev, cst, cst1, cstL, AEnv.get, AEnv.trim, envput, qstep, abin, aun, evs, evo, deref, qload, target, if_true, if_false, Nat.reduceEqDiff, reduceIte, Nat.reduceAdd, AV.cells, AV.isTuple, setMany, alen, aiaddr, afill, Nat.reduceLeDiff, Nat.reduceMul, Nat.reduceLT, afillE, List.replicate]
    refine call_pure (Water_ok p) (frzL_of' (d := 4) car_pkL) ?_
    rw [show waterV p = (water p, 0) by simp [waterV, o1]]
    simp only [walk, wl, rgets, retv, argsEnv, ev, cst, cst1, cstL, AEnv.get, AEnv.trim, envput, qstep, abin, aun, evs, evo, deref, qload, target, if_true, if_false, Nat.reduceEqDiff, reduceIte, Nat.reduceAdd, AV.cells, AV.isTuple, setMany, alen, aiaddr, afill, Nat.reduceLeDiff, Nat.reduceMul, Nat.reduceLT, afillE, List.replicate]
    refine call_pure (Water_ok q) (frzL_of' (d := 4) car_pkL) ?_
    rw [show waterV q = (water p, 0) by simp [waterV, o3, f3]]
    have hmn : min n (p.length : Int) = q.length := by rw [f2]; omega
    simp only [walk, wl, rgets, retv, argsEnv, ev, cst, cst1, cstL, AEnv.get, AEnv.trim, envput, qstep, abin, aun, evs, evo, deref, qload, target, if_true, if_false, Nat.reduceEqDiff, reduceIte, Nat.reduceAdd, AV.cells, AV.isTuple, setMany, alen, aiaddr, afill, Nat.reduceLeDiff, Nat.reduceMul, Nat.reduceLT, afillE, List.replicate, bne_self_eq_false, rows_length, amm, amm.go, amin, hmn]
    refine awp_loop (σ := Nat) (fun k => [(1, I n), (2, I m), (3, .ptr 0 1 0 0), (7, .ptr 1 1 0 0), (13, I (bal (p.take k))), (14, I k)]) (fun _ G => G = [some ⟨24, 1, [[.ro false (rows p)]]⟩, some ⟨24, 1, [[.ro true (rows q)]]⟩])
      (fun k => k ≤ p.length) (fun k => p.length - k) 0 (Nat.zero_le _) rfl rfl ?_
    rintro k H hk rfl
    simp only [walk, wl, rgets, retv, argsEnv, ev, cst, cst1, cstL, AEnv.get, AEnv.trim, envput, qstep, abin, aun, evs, evo, deref, qload, target, if_true, if_false, Nat.reduceEqDiff, reduceIte, Nat.reduceAdd, AV.cells, AV.isTuple, setMany, alen, aiaddr, afill, Nat.reduceLeDiff, Nat.reduceMul, Nat.reduceLT, afillE, List.replicate, rows_length]
    refine withBool_intro ?_ ?_ <;> intro hb <;> simp only [walk, wl, rgets, retv, argsEnv, ev, cst, cst1, cstL, AEnv.get, AEnv.trim, envput, qstep, abin, aun, evs, evo, deref, qload, target, if_true, if_false, Nat.reduceEqDiff, reduceIte, Nat.reduceAdd, AV.cells, AV.isTuple, setMany, alen, aiaddr, afill, Nat.reduceLeDiff, Nat.reduceMul, Nat.reduceLT, afillE, List.replicate]
    · have hlt : k < p.length := by simpa using hb
      have s1 := bal_small R1 k hk
      have g1 := right_iff.1 (R1 p[k] (List.getElem_mem hlt))
      have e5 : IntKind.i64.wrap ((k : Int) + 1) = ((k + 1 : Nat) : Int) := by rw [wrap_id (by omega) (by omega)]; simp
      have x1 : IntKind.i64.wrap (bal (p.take k) + p[k].2.2) = bal (p.take k) + p[k].2.2 := wrap_id (by omega) (by omega)
      have x2 : IntKind.i64.wrap (bal (p.take k) + p[k].2.2 - p[k].2.1) = bal (p.take (k + 1)) := by rw [wrap_id (by omega) (by omega), bal_take hlt]; omega
      simp only [walk, wl, rgets, retv, argsEnv, ev, cst, cst1, cstL, AEnv.get, AEnv.trim, envput, qstep, abin, aun, evs, evo, deref, qload, target, if_true, if_false, Nat.reduceEqDiff, reduceIte, Nat.reduceAdd, AV.cells, AV.isTuple, setMany, alen, aiaddr, afill, Nat.reduceLeDiff, Nat.reduceMul, Nat.reduceLT, afillE, List.replicate, rows_get hlt, x1, x2, e5]
      exact loop_end (k + 1) hlt (by omega) rfl rfl
    · have hk' : k = p.length := by simp at hb; omega
      subst hk'
      rw [List.take_length]
      have s0 := bal_small R1 p.length (Nat.le_refl _)
      rw [List.take_length] at s0
      refine awp_loop (σ := Nat) (fun k => [(1, I n), (2, I m), (3, .ptr 0 1 0 0), (7, .ptr 1 1 0 0), (13, I (bal p - bal (q.take k))), (15, I k)]) (fun _ G => G = [some ⟨24, 1, [[.ro false (rows p)]]⟩, some ⟨24, 1, [[.ro true (rows q)]]⟩])
        (fun k => k ≤ q.length) (fun k => q.length - k) 0 (Nat.zero_le _) (by simp [bal]) rfl ?_
      rintro k H hk rfl
      simp only [walk, wl, rgets, retv, argsEnv, ev, cst, cst1, cstL, AEnv.get, AEnv.trim, envput, qstep, abin, aun, evs, evo, deref, qload, target, if_true, if_false, Nat.reduceEqDiff, reduceIte, Nat.reduceAdd, AV.cells, AV.isTuple, setMany, alen, aiaddr, afill, Nat.reduceLeDiff, Nat.reduceMul, Nat.reduceLT, afillE, List.replicate, rows_length]
      refine withBool_intro ?_ ?_ <;> intro hb <;> simp only [walk, wl, rgets, retv, argsEnv, ev, cst, cst1, cstL, AEnv.get, AEnv.trim, envput, qstep, abin, aun, evs, evo, deref, qload, target, if_true, if_false, Nat.reduceEqDiff, reduceIte, Nat.reduceAdd, AV.cells, AV.isTuple, setMany, alen, aiaddr, afill, Nat.reduceLeDiff, Nat.reduceMul, Nat.reduceLT, afillE, List.replicate]
      · have hlt : k < q.length := by simpa using hb
        have s1 := bal_small R2 k hk
        have g1 := right_iff.1 (R2 q[k] (List.getElem_mem hlt))
        have e5 : IntKind.i64.wrap ((k : Int) + 1) = ((k + 1 : Nat) : Int) := by rw [wrap_id (by omega) (by omega)]; simp
        have x1 : IntKind.i64.wrap (bal p - bal (q.take k) - q[k].2.2) = bal p - bal (q.take k) - q[k].2.2 := wrap_id (by omega) (by omega)
        have x2 : IntKind.i64.wrap (bal p - bal (q.take k) - q[k].2.2 + q[k].2.1) = bal p - bal (q.take (k + 1)) := by rw [wrap_id (by omega) (by omega), bal_take hlt]; omega
        simp only [walk, wl, rgets, retv, argsEnv, ev, cst, cst1, cstL, AEnv.get, AEnv.trim, envput, qstep, abin, aun, evs, evo, deref, qload, target, if_true, if_false, Nat.reduceEqDiff, reduceIte, Nat.reduceAdd, AV.cells, AV.isTuple, setMany, alen, aiaddr, afill, Nat.reduceLeDiff, Nat.reduceMul, Nat.reduceLT, afillE, List.replicate, rows_get hlt, x1, x2, e5]
        exact loop_end (k + 1) hlt (by omega) rfl rfl
      · have hk' : k = q.length := by simp at hb; omega
        subst hk'
        rw [List.take_length, f4]
        have hz : ((bal p - bal p) != 0) = false := by simp
        simp only [walk, wl, rgets, retv, argsEnv, ev, cst, cst1, cstL, AEnv.get, AEnv.trim, envput, qstep, abin, aun, evs, evo, deref, qload, target, if_true, if_false, Nat.reduceEqDiff, reduceIte, Nat.reduceAdd, AV.cells, AV.isTuple, setMany, alen, aiaddr, afill, Nat.reduceLeDiff, Nat.reduceMul, Nat.reduceLT, afillE, List.replicate, hz]
        refine withBool_intro ?_ ?_ <;> intro hmn2 <;> simp only [walk, wl, rgets, retv, argsEnv, ev, cst, cst1, cstL, AEnv.get, AEnv.trim, envput, qstep, abin, aun, evs, evo, deref, qload, target, if_true, if_false, Nat.reduceEqDiff, reduceIte, Nat.reduceAdd, AV.cells, AV.isTuple, setMany, alen, aiaddr, afill, Nat.reduceLeDiff, Nat.reduceMul, Nat.reduceLT, afillE, List.replicate]
        · exact out_bool
        · have hle : m ≤ n := by have := of_decide_eq_false hmn2; omega
          have same : joinedV q m = joinedV p m := by
            unfold joinedV
            rw [o1, o3, if_pos rfl, if_pos rfl]
            by_cases c2 : 1 ≤ m ∧ m ≤ 64
            · rw [if_pos c2, if_pos c2, hq, ← jnF_add, ← hq, f2]
              congr 2
              omega
            · rw [if_neg c2, if_neg c2]
          refine call_pure (Joined_ok q m) (frzL_of' (d := 4) (carL_cons car_pk rfl)) ?_
          rw [same]
          simp only [walk, wl, rgets, retv, argsEnv, ev, cst, cst1, cstL, AEnv.get, AEnv.trim, envput, qstep, abin, aun, evs, evo, deref, qload, target, if_true, if_false, Nat.reduceEqDiff, reduceIte, Nat.reduceAdd, AV.cells, AV.isTuple, setMany, alen, aiaddr, afill, Nat.reduceLeDiff, Nat.reduceMul, Nat.reduceLT, afillE, List.replicate]
          refine call_pure (Joined_ok p m) (frzL_of' (d := 4) (carL_cons car_pk rfl)) ?_
          have l3 := @joinedV_len p m
          simp only [walk, wl, rgets, retv, argsEnv, ev, cst, cst1, cstL, AEnv.get, AEnv.trim, envput, qstep, abin, aun, evs, evo, deref, qload, target, if_true, if_false, Nat.reduceEqDiff, reduceIte, Nat.reduceAdd, AV.cells, AV.isTuple, setMany, alen, aiaddr, afill, Nat.reduceLeDiff, Nat.reduceMul, Nat.reduceLT, afillE, List.replicate, beq_self_eq_true]
          refine call_pure (same_t (a := (joinedV p m).1) (by omega)) (frzL_of' (d := 4) (carL_cons car_pk car_pkL)) ?_
          simp only [walk, wl, rgets, retv, argsEnv, ev, cst, cst1, cstL, AEnv.get, AEnv.trim, envput, qstep, abin, aun, evs, evo, deref, qload, target, if_true, if_false, Nat.reduceEqDiff, reduceIte, Nat.reduceAdd, AV.cells, AV.isTuple, setMany, alen, aiaddr, afill, Nat.reduceLeDiff, Nat.reduceMul, Nat.reduceLT, afillE, List.replicate]
          exact out_bool
end Go.Proofs.YtmcndbldbemebaaDoor
