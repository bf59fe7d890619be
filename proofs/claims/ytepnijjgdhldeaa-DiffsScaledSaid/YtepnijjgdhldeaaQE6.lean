/- The law DiffsScaled, walked. -/
import Derived.Test.YtepnijjgdhldeaaQV6
import Derived.Test.YtepnijjgdhldeaaQT66
namespace Go.Proofs.Ytepnijjgdhldeaa
open Go.Awp
set_option linter.unusedSimpArgs false
set_option linter.unusedVariables false
set_option maxRecDepth 10000
set_option maxHeartbeats 4000000
theorem frz_agg2 {H : AHeap} {x y x' y' : AV} (hx : Frz H x x') (hy : Frz H y y') (h1 : x'.one = true) (h2 : y'.one = true) : Frz H (.agg [x, y]) (.agg [x', y']) := fun w m B v st hv => by
  cases hv with
  | agg _ vs hl ho hh =>
    refine .agg _ _ hl (by simp [h1, h2]) fun i z v' e1 e2 => ?_
    rcases i with _ | _ | i
    · cases e1; exact hx w m B v' st (hh 0 x v' rfl e2)
    · cases e1; exact hy w m B v' st (hh 1 y v' rfl e2)
    · simp at e1
theorem frz_int {H : AHeap} {n : Int} : Frz H (I n) (I n) := frz_car (d := 1) rfl
theorem frz_icF {H : AHeap} {b : Bool} {xs : List Int} : Frz H (.ro b (ic xs)) (.ro false (ic xs)) := frz_car (d := 2) car_icF
theorem acc_frz {lo : Nat} {H : AHeap} {a : AV} {e s : Nat} {els : List (List AV)} (h : Acc lo H a e s els) (hs : Simple els) : Frz H a (.ro false els) := by
  have := h.frz hs []
  rwa [List.append_nil] at this
theorem acc_net {lo : Nat} {H : AHeap} {n : Int} {a : AV} {ds : List Df} (h : Acc lo H a 39 3 (rows ds)) : Frz H (.agg [I n, a]) (.agg [I n, .ro false (rows ds)]) :=
  frz_agg2 frz_int (acc_frz h (rows_simple _)) rfl rfl
theorem scl_take {c : Int} {ds : List Df} {k : Nat} (h : k < ds.length) : rows (scl c (ds.take (k + 1))) = rows (scl c (ds.take k)) ++ [[I ds[k].1, I ds[k].2.1, I (ds[k].2.2 * c)]] := by
  rw [List.take_succ_eq_append_getElem h]
  unfold scl
  rw [List.map_append]
  exact rows_snoc _ _
theorem apart_bound {n : Int} {ds : List Df} (hs : valid n ds = true → n ≤ 16) (i j : Int) : -175921860444160 ≤ (apart n ds i j).1 ∧ (apart n ds i j).1 ≤ 175921860444160 := by
  rcases apart_cases hs i j with ⟨e1, he1, E1⟩ | ⟨m, a, b, rfl, rfl, rfl, ha, hb, hsol, _, hc⟩
  · rw [E1]; simp
  · have := hsol.bound ha b
    rcases hc with ⟨_, e⟩ | ⟨_, e⟩ <;> rw [e]
    · exact this
    · simp
theorem mul_small {a c A : Int} (h1 : -A ≤ a) (h2 : a ≤ A) (h3 : 1 ≤ c) (h4 : c ≤ 1000) : -(1000 * A) ≤ a * c ∧ a * c ≤ 1000 * A := by
  have := mul_bound (a := c) (b := a) (A := 1000) (B := A) (by omega) h4 h1 h2
  rw [Int.mul_comm a c]; exact this
theorem law6_ok {n by' f t : Int} {ds : List Df} {ws : List Int} (hlw : ws.length ≤ big) : PCall Try.prog 6 [.agg [I n, .ro false (rows ds)], I by', I f, I t, .ro false (ic ws)] (.bool true) := by
  refine PCall.intro text6 (by simp) ?_
  unfold ir6
  simp only [walkS, wl, rgets, retv, argsEnv, ev, cst, cst1, cstL, AEnv.get, AEnv.trim, envput, qstep, abin, aun, evs, evo, deref, qload, target, if_true, if_false, Nat.reduceEqDiff, reduceIte, Nat.reduceAdd, AV.cells, AV.isTuple, setMany, alen, aiaddr, afill, Nat.reduceLeDiff, Nat.reduceMul, Nat.reduceLT, afillE, List.replicate]
  refine call_pure sane_ok (frzL_of' (d := 4) rfl) ?_
  simp only [walkS, wl, rgets, retv, argsEnv, ev, cst, cst1, cstL, AEnv.get, AEnv.trim, envput, qstep, abin, aun, evs, evo, deref, qload, target, if_true, if_false, Nat.reduceEqDiff, reduceIte, Nat.reduceAdd, AV.cells, AV.isTuple, setMany, alen, aiaddr, afill, Nat.reduceLeDiff, Nat.reduceMul, Nat.reduceLT, afillE, List.replicate]
  refine call_pure (check_ok n ds) (frzL_of' (d := 4) (carL_cons car_netF rfl)) ?_
  simp only [walkS, wl, rgets, retv, argsEnv, ev, cst, cst1, cstL, AEnv.get, AEnv.trim, envput, qstep, abin, aun, evs, evo, deref, qload, target, if_true, if_false, Nat.reduceEqDiff, reduceIte, Nat.reduceAdd, AV.cells, AV.isTuple, setMany, alen, aiaddr, afill, Nat.reduceLeDiff, Nat.reduceMul, Nat.reduceLT, afillE, List.replicate]
  refine withGuard_intro ?_ ?_ <;> intro h <;> simp only [walkS, wl, rgets, retv, argsEnv, ev, cst, cst1, cstL, AEnv.get, AEnv.trim, envput, qstep, abin, aun, evs, evo, deref, qload, target, if_true, if_false, Nat.reduceEqDiff, reduceIte, Nat.reduceAdd, AV.cells, AV.isTuple, setMany, alen, aiaddr, afill, Nat.reduceLeDiff, Nat.reduceMul, Nat.reduceLT, afillE, List.replicate, h]
  · have hv := check_eq (n := n) (ds := ds) (by simpa using h)
    refine call_pure (small_ok (n := n) (ds := ds)) (frzL_of' (d := 4) (carL_cons car_netF rfl)) ?_
    simp only [walkS, wl, rgets, retv, argsEnv, ev, cst, cst1, cstL, AEnv.get, AEnv.trim, envput, qstep, abin, aun, evs, evo, deref, qload, target, if_true, if_false, Nat.reduceEqDiff, reduceIte, Nat.reduceAdd, AV.cells, AV.isTuple, setMany, alen, aiaddr, afill, Nat.reduceLeDiff, Nat.reduceMul, Nat.reduceLT, afillE, List.replicate]
    generalize hsm : (decide (n ≤ 16) && decide (ds.length ≤ 60)) = sm
    cases sm with
    | false => simp only [walkS, wl, rgets, retv, argsEnv, ev, cst, cst1, cstL, AEnv.get, AEnv.trim, envput, qstep, abin, aun, evs, evo, deref, qload, target, if_true, if_false, Nat.reduceEqDiff, reduceIte, Nat.reduceAdd, AV.cells, AV.isTuple, setMany, alen, aiaddr, afill, Nat.reduceLeDiff, Nat.reduceMul, Nat.reduceLT, afillE, List.replicate, Bool.not_false]; exact out_bool
    | true =>
      simp at hsm
      by_cases i1 : by' < 1
      · simp only [walkS, wl, rgets, retv, argsEnv, ev, cst, cst1, cstL, AEnv.get, AEnv.trim, envput, qstep, abin, aun, evs, evo, deref, qload, target, if_true, if_false, Nat.reduceEqDiff, reduceIte, Nat.reduceAdd, AV.cells, AV.isTuple, setMany, alen, aiaddr, afill, Nat.reduceLeDiff, Nat.reduceMul, Nat.reduceLT, afillE, List.replicate, Bool.not_true, decide_eq_true i1]; exact out_bool
      · by_cases i2 : by' > 1000
        · simp only [walkS, wl, rgets, retv, argsEnv, ev, cst, cst1, cstL, AEnv.get, AEnv.trim, envput, qstep, abin, aun, evs, evo, deref, qload, target, if_true, if_false, Nat.reduceEqDiff, reduceIte, Nat.reduceAdd, AV.cells, AV.isTuple, setMany, alen, aiaddr, afill, Nat.reduceLeDiff, Nat.reduceMul, Nat.reduceLT, afillE, List.replicate, Bool.not_true, decide_eq_false i1, decide_eq_true i2]; exact out_bool
        · simp only [walkS, wl, rgets, retv, argsEnv, ev, cst, cst1, cstL, AEnv.get, AEnv.trim, envput, qstep, abin, aun, evs, evo, deref, qload, target, if_true, if_false, Nat.reduceEqDiff, reduceIte, Nat.reduceAdd, AV.cells, AV.isTuple, setMany, alen, aiaddr, afill, Nat.reduceLeDiff, Nat.reduceMul, Nat.reduceLT, afillE, List.replicate, Bool.not_true, decide_eq_false i1, decide_eq_false i2]
          refine storeR rfl rfl rfl rfl ⟨rfl, rfl, rfl, by simp⟩ fun H0 y1 y2 y3 => ?_
          have a0 : AHeap.obj H0 0 = some ⟨24, 2, [[I n, .ro false (rows ds)]]⟩ := by rw [y3 _ (by simp)]; rfl
          have hl0 : H0.length = 2 := by rw [y1]; rfl
          simp only [AV.cells, setMany, List.set_cons_zero, List.set_cons_succ, Nat.zero_add, Nat.reduceAdd] at y2
          simp only [walkS, wl, rgets, retv, argsEnv, ev, cst, cst1, cstL, AEnv.get, AEnv.trim, envput, qstep, abin, aun, evs, evo, deref, qload, target, if_true, if_false, Nat.reduceEqDiff, reduceIte, Nat.reduceAdd, AV.cells, AV.isTuple, setMany, alen, aiaddr, afill, Nat.reduceLeDiff, Nat.reduceMul, Nat.reduceLT, afillE, List.replicate, a0, rows_length]
          refine awp_loop (σ := Nat × AV) (fun s => [(1, I by'), (2, I f), (3, I t), (4, .ro false (ic ws)), (5, .ptr 0 1 0 0), (11, .ptr 1 1 0 0), (48, .ro false (rows ds)), (49, I ds.length), (50, I s.1)])
            (fun s H => AHeap.obj H 0 = some ⟨24, 2, [[I n, .ro false (rows ds)]]⟩ ∧ AHeap.obj H 1 = some ⟨24, 2, [[I n, s.2]]⟩ ∧ 2 ≤ H.length ∧ Acc 2 H s.2 39 3 (rows (scl by' (ds.take s.1))))
            (fun s => s.1 ≤ ds.length ∧ ∀ d, d ∈ ds.take s.1 → -1073741824 ≤ d.2.2 * by' ∧ d.2.2 * by' ≤ 1073741824) (fun s => ds.length - s.1) (0, .nilSlice) ⟨Nat.zero_le _, by simp⟩ rfl ⟨a0, y2, by omega, .inl ⟨rfl, rfl⟩⟩ ?_
          clear a0 y1 y2 y3 hl0 H0
          rintro ⟨k, a⟩ H ⟨hk, hall⟩ ⟨o0, o1, hlen, hacc⟩
          simp only at hk hall o1 hacc
          simp only [walkS, wl, rgets, retv, argsEnv, ev, cst, cst1, cstL, AEnv.get, AEnv.trim, envput, qstep, abin, aun, evs, evo, deref, qload, target, if_true, if_false, Nat.reduceEqDiff, reduceIte, Nat.reduceAdd, AV.cells, AV.isTuple, setMany, alen, aiaddr, afill, Nat.reduceLeDiff, Nat.reduceMul, Nat.reduceLT, afillE, List.replicate]
          refine withBool_intro ?_ ?_ <;> intro hb <;> simp only [walkS, wl, rgets, retv, argsEnv, ev, cst, cst1, cstL, AEnv.get, AEnv.trim, envput, qstep, abin, aun, evs, evo, deref, qload, target, if_true, if_false, Nat.reduceEqDiff, reduceIte, Nat.reduceAdd, AV.cells, AV.isTuple, setMany, alen, aiaddr, afill, Nat.reduceLeDiff, Nat.reduceMul, Nat.reduceLT, afillE, List.replicate]
          · have hlt : k < ds.length := by simpa using hb
            obtain ⟨_, _, hr⟩ := valid_iff.1 hv
            have hm := right_lt (hr _ (List.getElem_mem hlt))
            have hms := mul_small (a := ds[k].2.2) (c := by') (A := 1073741824) (by omega) (by omega) (by omega) (by omega)
            simp only [walkS, wl, rgets, retv, argsEnv, ev, cst, cst1, cstL, AEnv.get, AEnv.trim, envput, qstep, abin, aun, evs, evo, deref, qload, target, if_true, if_false, Nat.reduceEqDiff, reduceIte, Nat.reduceAdd, AV.cells, AV.isTuple, setMany, alen, aiaddr, afill, Nat.reduceLeDiff, Nat.reduceMul, Nat.reduceLT, afillE, List.replicate, rows_get hlt]
            refine storeR rfl rfl AHeap.obj_push_eq rfl ⟨rfl, rfl, rfl, by simp⟩ fun H1 q1 q2 q3 => ?_
            have hL1 : H1.length = H.length + 1 := by rw [q1]; simp
            have back : ∀ q, q < H.length → AHeap.obj H1 q = AHeap.obj H q := fun q hq => by rw [q3 q (by omega), AHeap.obj_push_lt hq]
            simp only [List.set_cons_zero, List.set_cons_succ, setMany, AV.cells, Nat.zero_add, Nat.reduceAdd] at q2
            have o0' := (back 0 (by omega)).trans o0
            have o1' := (back 1 (by omega)).trans o1
            have hacc1 : Acc 2 H1 a 39 3 (rows (scl by' (ds.take k))) := by
              rcases hacc with h | ⟨q, h1, h2, h3⟩
              · exact .inl h
              · exact .inr ⟨q, h1, h2, by rw [back q (AHeap.obj_lt h3)]; exact h3⟩
            have hw : IntKind.i64.wrap (ds[k].2.2 * by') = ds[k].2.2 * by' := wrap_id (by omega) (by omega)
            by_cases j1 : ds[k].2.2 * by' > 1073741824
            · simp only [walkS, wl, rgets, retv, argsEnv, ev, cst, cst1, cstL, AEnv.get, AEnv.trim, envput, qstep, abin, aun, evs, evo, deref, qload, target, if_true, if_false, Nat.reduceEqDiff, reduceIte, Nat.reduceAdd, AV.cells, AV.isTuple, setMany, alen, aiaddr, afill, Nat.reduceLeDiff, Nat.reduceMul, Nat.reduceLT, afillE, List.replicate, q2, hw, decide_eq_true j1]; exact out_bool
            · by_cases j2 : ds[k].2.2 * by' < -1073741824
              · simp only [walkS, wl, rgets, retv, argsEnv, ev, cst, cst1, cstL, AEnv.get, AEnv.trim, envput, qstep, abin, aun, evs, evo, deref, qload, target, if_true, if_false, Nat.reduceEqDiff, reduceIte, Nat.reduceAdd, AV.cells, AV.isTuple, setMany, alen, aiaddr, afill, Nat.reduceLeDiff, Nat.reduceMul, Nat.reduceLT, afillE, List.replicate, q2, hw, decide_eq_false j1, decide_eq_true j2]; exact out_bool
              · simp only [walkS, wl, rgets, retv, argsEnv, ev, cst, cst1, cstL, AEnv.get, AEnv.trim, envput, qstep, abin, aun, evs, evo, deref, qload, target, if_true, if_false, Nat.reduceEqDiff, reduceIte, Nat.reduceAdd, AV.cells, AV.isTuple, setMany, alen, aiaddr, afill, Nat.reduceLeDiff, Nat.reduceMul, Nat.reduceLT, afillE, List.replicate, q2, hw, decide_eq_false j1, decide_eq_false j2, o1']
                refine acc_append (lo := 2) (by simp; omega) (hacc1.push _) rfl rfl AHeap.obj_push_eq (by simp only [rows_length, scl_length, List.length_take]; omega) fun a' H2 hl' hacc' hkeep => ?_
                simp only [List.length_append, List.length_cons, List.length_nil] at hl'
                have e : ∀ i, i < 2 → AHeap.obj H2 i = AHeap.obj H1 i := fun i hi => by rw [hkeep i hi, AHeap.obj_push_lt (by omega)]
                simp only [walkS, wl, rgets, retv, argsEnv, ev, cst, cst1, cstL, AEnv.get, AEnv.trim, envput, qstep, abin, aun, evs, evo, deref, qload, target, if_true, if_false, Nat.reduceEqDiff, reduceIte, Nat.reduceAdd, AV.cells, AV.isTuple, setMany, alen, aiaddr, afill, Nat.reduceLeDiff, Nat.reduceMul, Nat.reduceLT, afillE, List.replicate]
                have hone : a'.cells.length = 1 ∧ a'.isTuple = false ∧ a'.cells = [a'] := by
                  obtain ⟨q, q1, rfl, q3⟩ := hacc'.resolve_left (by simp)
                  exact ⟨rfl, rfl, rfl⟩
                refine storeR rfl rfl ((e 1 (by omega)).trans o1') rfl ⟨rfl, hone.1, hone.2.1, by simp⟩ fun H3 z1 z2 z3 => ?_
                simp only [hone.2.2, List.set_cons_zero, List.set_cons_succ, setMany, Nat.zero_add, Nat.reduceAdd] at z2
                simp only [walkS, wl, rgets, retv, argsEnv, ev, cst, cst1, cstL, AEnv.get, AEnv.trim, envput, qstep, abin, aun, evs, evo, deref, qload, target, if_true, if_false, Nat.reduceEqDiff, reduceIte, Nat.reduceAdd, AV.cells, AV.isTuple, setMany, alen, aiaddr, afill, Nat.reduceLeDiff, Nat.reduceMul, Nat.reduceLT, afillE, List.replicate]
                rw [wrap_id (by omega) (by omega)]
                refine loop_end (k + 1, a') ⟨hlt, fun d hd => ?_⟩ (by simp only; omega) rfl ⟨by rw [z3 0 (by omega), e 0 (by omega)]; exact o0', z2, by omega, ?_⟩
                · simp only [List.take_succ_eq_append_getElem hlt, List.mem_append, List.mem_singleton] at hd
                  rcases hd with hd | rfl
                  · exact hall d hd
                  · omega
                · simp only [scl_take hlt]
                  obtain ⟨q, q1, h2, h3⟩ := hacc'.resolve_left (by simp)
                  exact .inr ⟨q, q1, h2, by rw [z3 q (by omega)]; exact h3⟩
          · have hk' : k = ds.length := by simp at hb; omega
            subst hk'
            rw [List.take_length] at hacc hall
            have hv' := valid_scl (c := by') hall hv
            have hc : 0 < by' := by omega
            have hs : valid n ds = true → n ≤ 16 := fun _ => hsm.1
            have hs' : valid n (scl by' ds) = true → n ≤ 16 := fun _ => hsm.1
            have hS : valid n ds = true → n ≤ 16 ∧ ds.length ≤ 60 := fun _ => hsm
            have hS' : valid n (scl by' ds) = true → n ≤ 16 ∧ (scl by' ds).length ≤ 60 := fun _ => by rw [scl_length]; exact hsm
            simp only [walkS, wl, rgets, retv, argsEnv, ev, cst, cst1, cstL, AEnv.get, AEnv.trim, envput, qstep, abin, aun, evs, evo, deref, qload, target, if_true, if_false, Nat.reduceEqDiff, reduceIte, Nat.reduceAdd, AV.cells, AV.isTuple, setMany, alen, aiaddr, afill, Nat.reduceLeDiff, Nat.reduceMul, Nat.reduceLT, afillE, List.replicate, o0]
            refine call_pure (Apart_ok hs f t) (frzL_of' (d := 4) (carL_cons car_netF rfl)) ?_
            simp only [walkS, wl, rgets, retv, argsEnv, ev, cst, cst1, cstL, AEnv.get, AEnv.trim, envput, qstep, abin, aun, evs, evo, deref, qload, target, if_true, if_false, Nat.reduceEqDiff, reduceIte, Nat.reduceAdd, AV.cells, AV.isTuple, setMany, alen, aiaddr, afill, Nat.reduceLeDiff, Nat.reduceMul, Nat.reduceLT, afillE, List.replicate, apartV, o1]
            refine call_pure (Apart_ok hs' f t) (.cons (acc_net hacc) (.cons frz_int (.cons frz_int .nil))) ?_
            simp only [walkS, wl, rgets, retv, argsEnv, ev, cst, cst1, cstL, AEnv.get, AEnv.trim, envput, qstep, abin, aun, evs, evo, deref, qload, target, if_true, if_false, Nat.reduceEqDiff, reduceIte, Nat.reduceAdd, AV.cells, AV.isTuple, setMany, alen, aiaddr, afill, Nat.reduceLeDiff, Nat.reduceMul, Nat.reduceLT, afillE, List.replicate, apartV, o0]
            refine call_pure (Most_ok (n := n) (ds := ds) (ws := ws) hlw hS) (frzL_of' (d := 4) (carL_cons car_netF (carL_cons car_icF rfl))) ?_
            simp only [walkS, wl, rgets, retv, argsEnv, ev, cst, cst1, cstL, AEnv.get, AEnv.trim, envput, qstep, abin, aun, evs, evo, deref, qload, target, if_true, if_false, Nat.reduceEqDiff, reduceIte, Nat.reduceAdd, AV.cells, AV.isTuple, setMany, alen, aiaddr, afill, Nat.reduceLeDiff, Nat.reduceMul, Nat.reduceLT, afillE, List.replicate, o1]
            refine call_pure (Most_ok (n := n) (ds := scl by' ds) (ws := ws) hlw hS') (.cons (acc_net hacc) (.cons frz_icF .nil)) ?_
            have b1 := apart_bound hs f t
            have b2 := mul_small (c := by') b1.1 b1.2 (by omega) (by omega)
            have b3 := mostV_bound (ws := ws) hv hsm.1 hsm.2
            have b4 := mul_small (c := by') b3.1 b3.2 (by omega) (by omega)
            rw [apart_scl hc hv hv', mostV_scl hc hv hv' hsm.1 hsm.2]
            simp only [walkS, wl, rgets, retv, argsEnv, ev, cst, cst1, cstL, AEnv.get, AEnv.trim, envput, qstep, abin, aun, evs, evo, deref, qload, target, if_true, if_false, Nat.reduceEqDiff, reduceIte, Nat.reduceAdd, AV.cells, AV.isTuple, setMany, alen, aiaddr, afill, Nat.reduceLeDiff, Nat.reduceMul, Nat.reduceLT, afillE, List.replicate, wrap_id (x := (apart n ds f t).1 * by') (by omega) (by omega), wrap_id (x := (mostV n ds ws).1 * by') (by omega) (by omega), beq_self_eq_true]
            exact out_bool
  · exact out_bool
end Go.Proofs.Ytepnijjgdhldeaa
