/- Top and Bottom of the specification, and the law DiffsTopSpec. -/
import Derived.Test.YtepnijjgdhldeaaQG2
namespace Go.Proofs.Ytepnijjgdhldeaa
open Go.Awp
set_option linter.unusedSimpArgs false
set_option linter.unusedVariables false
set_option maxRecDepth 10000
theorem lb_all {n : Nat} : lb n (fun v => true || ((v : Int) == 0)) = lb n (everyone n) := by
  unfold lb everyone
  refine List.map_congr_left fun i hi => ?_
  simp [List.mem_range.1 hi]
theorem lb_one {n i : Nat} : lb n (fun v => false || ((v : Int) == (i : Int))) = lb n (one i) := by
  unfold lb one
  refine List.map_congr_left fun j _ => ?_
  rw [Bool.eq_iff_iff]; simp; omega
theorem Solvable_ok {n : Nat} {ds : List Df} (hg : Good n ds) : PCall Try.prog 36 [.agg [I n, .ro false (rows ds)]] (.bool (lens n ds (everyone n)).2) := by
  refine PCall.intro text36 (by simp) ?_
  unfold ir36
  simp only [walkS, wl, rgets, retv, argsEnv, ev, cst, cst1, cstL, AEnv.get, AEnv.trim, envput, qstep, abin, aun, evs, evo, deref, qload, target, if_true, if_false, Nat.reduceEqDiff, reduceIte, Nat.reduceAdd, AV.cells, AV.isTuple, setMany, alen, aiaddr, afill, Nat.reduceLeDiff, Nat.reduceMul, Nat.reduceLT, afillE, List.replicate]
  refine dcall_pure (marks_ok (ds := ds) (all := true) (one := 0) (by have := hg.small; omega)) (frzL_of (d := 4) (carL_cons car_netF rfl)) ?_
  rw [lb_all]
  simp only [walkS, wl, rgets, retv, argsEnv, ev, cst, cst1, cstL, AEnv.get, AEnv.trim, envput, qstep, abin, aun, evs, evo, deref, qload, target, if_true, if_false, Nat.reduceEqDiff, reduceIte, Nat.reduceAdd, AV.cells, AV.isTuple, setMany, alen, aiaddr, afill, Nat.reduceLeDiff, Nat.reduceMul, Nat.reduceLT, afillE, List.replicate]
  refine dcall_pure (Lengths_ok hg (S := everyone n) (b := false)) (frzL_of (d := 4) (carL_cons car_netF (carL_cons (car_ro_false (bc_simple _)) rfl))) ?_
  simp only [walkS, wl, rgets, retv, argsEnv, ev, cst, cst1, cstL, AEnv.get, AEnv.trim, envput, qstep, abin, aun, evs, evo, deref, qload, target, if_true, if_false, Nat.reduceEqDiff, reduceIte, Nat.reduceAdd, AV.cells, AV.isTuple, setMany, alen, aiaddr, afill, Nat.reduceLeDiff, Nat.reduceMul, Nat.reduceLT, afillE, List.replicate]
  exact out_bool
theorem refTop_ok {n : Int} {ds : List Df} (hs : valid n ds = true → n ≤ 16) : PCall Try.prog 25 [.agg [I n, .ro false (rows ds)]] (.tuple [.ro true (ic (rtopV n ds).1), I (rtopV n ds).2]) := by
  refine PCall.intro text25 (by simp) ?_
  unfold ir25
  simp only [walkS, wl, rgets, retv, argsEnv, ev, cst, cst1, cstL, AEnv.get, AEnv.trim, envput, qstep, abin, aun, evs, evo, deref, qload, target, if_true, if_false, Nat.reduceEqDiff, reduceIte, Nat.reduceAdd, AV.cells, AV.isTuple, setMany, alen, aiaddr, afill, Nat.reduceLeDiff, Nat.reduceMul, Nat.reduceLT, afillE, List.replicate]
  refine call_pure (refCheck_ok n ds) (frzL_of' (d := 4) (carL_cons car_netF rfl)) ?_
  simp only [walkS, wl, rgets, retv, argsEnv, ev, cst, cst1, cstL, AEnv.get, AEnv.trim, envput, qstep, abin, aun, evs, evo, deref, qload, target, if_true, if_false, Nat.reduceEqDiff, reduceIte, Nat.reduceAdd, AV.cells, AV.isTuple, setMany, alen, aiaddr, afill, Nat.reduceLeDiff, Nat.reduceMul, Nat.reduceLT, afillE, List.replicate]
  refine withBool_intro ?_ ?_ <;> intro h <;> simp only [walkS, wl, rgets, retv, argsEnv, ev, cst, cst1, cstL, AEnv.get, AEnv.trim, envput, qstep, abin, aun, evs, evo, deref, qload, target, if_true, if_false, Nat.reduceEqDiff, reduceIte, Nat.reduceAdd, AV.cells, AV.isTuple, setMany, alen, aiaddr, afill, Nat.reduceLeDiff, Nat.reduceMul, Nat.reduceLT, afillE, List.replicate]
  · have hv := check_ne (by simpa using h)
    have e : rtopV n ds = ([], 40) := by simp [rtopV, hv]
    rw [e]; exact out_noneL
  · have hv := check_eq (by simpa using h)
    obtain ⟨m, rfl, hg, hm⟩ := good_of hv (hs hv)
    have hn1 := hg.pos
    refine call_pure (Solvable_ok hg) (frzL_of' (d := 4) (carL_cons car_netF rfl)) ?_
    simp only [walkS, wl, rgets, retv, argsEnv, ev, cst, cst1, cstL, AEnv.get, AEnv.trim, envput, qstep, abin, aun, evs, evo, deref, qload, target, if_true, if_false, Nat.reduceEqDiff, reduceIte, Nat.reduceAdd, AV.cells, AV.isTuple, setMany, alen, aiaddr, afill, Nat.reduceLeDiff, Nat.reduceMul, Nat.reduceLT, afillE, List.replicate]
    refine withBool_intro ?_ ?_ <;> intro h2 <;> simp only [walkS, wl, rgets, retv, argsEnv, ev, cst, cst1, cstL, AEnv.get, AEnv.trim, envput, qstep, abin, aun, evs, evo, deref, qload, target, if_true, if_false, Nat.reduceEqDiff, reduceIte, Nat.reduceAdd, AV.cells, AV.isTuple, setMany, alen, aiaddr, afill, Nat.reduceLeDiff, Nat.reduceMul, Nat.reduceLT, afillE, List.replicate]
    · have e : rtopV m ds = ([], 41) := by
        have : (lens m ds (everyone m)).2 = false := by simpa using h2
        simp [rtopV, hv, this]
      rw [e]; exact out_noneL
    · have hsol : (lens m ds (everyone m)).2 = true := by simpa using h2
      refine dcall_pure (marks_ok (ds := ds) (all := false) (one := 0) (by omega)) (frzL_of (d := 4) (carL_cons car_netF rfl)) ?_
      rw [show lb m (fun v => false || ((v : Int) == 0)) = lb m (one 0) from lb_one (i := 0)]
      simp only [walkS, wl, rgets, retv, argsEnv, ev, cst, cst1, cstL, AEnv.get, AEnv.trim, envput, qstep, abin, aun, evs, evo, deref, qload, target, if_true, if_false, Nat.reduceEqDiff, reduceIte, Nat.reduceAdd, AV.cells, AV.isTuple, setMany, alen, aiaddr, afill, Nat.reduceLeDiff, Nat.reduceMul, Nat.reduceLT, afillE, List.replicate]
      refine dcall_pure (Lengths_ok hg (S := one 0) (b := false)) (frzL_of (d := 4) (carL_cons car_netF (carL_cons (car_ro_false (bc_simple _)) rfl))) ?_
      have hl : lenR ds (startL (one 0)) (m + 1) 0 = lens m ds (one 0) := rfl
      rw [hl]
      simp only [walkS, wl, rgets, retv, argsEnv, ev, cst, cst1, cstL, AEnv.get, AEnv.trim, envput, qstep, abin, aun, evs, evo, deref, qload, target, if_true, if_false, Nat.reduceEqDiff, reduceIte, Nat.reduceAdd, AV.cells, AV.isTuple, setMany, alen, aiaddr, afill, Nat.reduceLeDiff, Nat.reduceMul, Nat.reduceLT, afillE, List.replicate]
      refine awp_loop (σ := Nat) (fun k => [(1, .ptr 0 1 0 0), (4, .ro true (ic (li m (lens m ds (one 0)).1.long))), (5, .ro true (bc (lb m (lens m ds (one 0)).1.has))), (7, I k)]) (fun _ H => ∃ X, H = some ⟨24, 2, [[I m, .ro false (rows ds)]]⟩ :: X) (fun k => k ≤ m ∧ ((lb m (lens m ds (one 0)).1.has).take k).all id = true) (fun k => m - k) 0 ⟨Nat.zero_le _, rfl⟩ rfl ⟨_, rfl⟩ ?_
      rintro k H ⟨hk, hall⟩ ⟨X, rfl⟩
      simp only [walkS, wl, rgets, retv, argsEnv, ev, cst, cst1, cstL, AEnv.get, AEnv.trim, envput, qstep, abin, aun, evs, evo, deref, qload, target, if_true, if_false, Nat.reduceEqDiff, reduceIte, Nat.reduceAdd, AV.cells, AV.isTuple, setMany, alen, aiaddr, afill, Nat.reduceLeDiff, Nat.reduceMul, Nat.reduceLT, afillE, List.replicate]
      refine withBool_intro ?_ ?_ <;> intro hb <;> simp only [walkS, wl, rgets, retv, argsEnv, ev, cst, cst1, cstL, AEnv.get, AEnv.trim, envput, qstep, abin, aun, evs, evo, deref, qload, target, if_true, if_false, Nat.reduceEqDiff, reduceIte, Nat.reduceAdd, AV.cells, AV.isTuple, setMany, alen, aiaddr, afill, Nat.reduceLeDiff, Nat.reduceMul, Nat.reduceLT, afillE, List.replicate]
      · have hlt : k < m := by simpa using hb
        simp only [walkS, wl, rgets, retv, argsEnv, ev, cst, cst1, cstL, AEnv.get, AEnv.trim, envput, qstep, abin, aun, evs, evo, deref, qload, target, if_true, if_false, Nat.reduceEqDiff, reduceIte, Nat.reduceAdd, AV.cells, AV.isTuple, setMany, alen, aiaddr, afill, Nat.reduceLeDiff, Nat.reduceMul, Nat.reduceLT, afillE, List.replicate, lb_get hlt, bc_length, lb_length, if_pos (show (k : Int) < m by omega)]
        refine withBool_intro ?_ ?_ <;> intro hr <;> simp only [walkS, wl, rgets, retv, argsEnv, ev, cst, cst1, cstL, AEnv.get, AEnv.trim, envput, qstep, abin, aun, evs, evo, deref, qload, target, if_true, if_false, Nat.reduceEqDiff, reduceIte, Nat.reduceAdd, AV.cells, AV.isTuple, setMany, alen, aiaddr, afill, Nat.reduceLeDiff, Nat.reduceMul, Nat.reduceLT, afillE, List.replicate]
        · have e : rtopV m ds = ([], 42) := by
            have h0 : (lens m ds (one 0)).1.has k = false := by simpa using hr
            have : ¬ (lb m (lens m ds (one 0)).1.has).all id = true := fun h => by
              have := List.all_eq_true.1 h _ (List.mem_map.2 ⟨k, List.mem_range.2 hlt, rfl⟩)
              simp [h0] at this
            simp only [rtopV, hv, Int.toNat_natCast, hsol, if_true, if_neg this]
          rw [e]; exact out_noneL
        · rw [wrap_id (by omega) (by omega)]
          have h0 : (lens m ds (one 0)).1.has k = true := by simpa using hr
          refine loop_end (k + 1) ⟨hlt, ?_⟩ (by omega) rfl ⟨_, rfl⟩
          have hlen : k < (lb m (lens m ds (one 0)).1.has).length := by rw [lb_length]; exact hlt
          rw [List.take_succ_eq_append_getElem hlen, List.all_append, hall]
          simp [lb, h0]
      · have hk' : k = m := by simp at hb; omega
        subst hk'
        have hall' : (lb k (lens k ds (one 0)).1.has).all id = true := by
          rw [List.take_of_length_le (by rw [lb_length]; omega)] at hall; exact hall
        have e : rtopV k ds = (li k (lens k ds (one 0)).1.long, 0) := by
          simp only [rtopV, hv, Int.toNat_natCast, hsol, if_true, if_pos hall']
        rw [e]
        exact out_two (out_of (d := 2) (car_ro_true (ic_simple _))) out_int
theorem rtop_bound {n : Int} {ds : List Df} (hs : valid n ds = true → n ≤ 16) : (rtopV n ds).1.length ≤ 16 ∧ ∀ x, x ∈ (rtopV n ds).1 → -175921860444160 ≤ x ∧ x ≤ 175921860444160 := by
  rw [top_same hs]
  unfold topV
  split
  · rename_i hv
    obtain ⟨m, rfl, hg, hm⟩ := good_of hv (hs hv)
    rw [Int.toNat_natCast]
    unfold top
    split
    · simp
    · split
      · refine ⟨by rw [li_length]; exact hm, fun x hx => ?_⟩
        obtain ⟨i, _, rfl⟩ := List.mem_map.1 hx
        exact grown_bound hg (s := startL (one 0)) (fun _ => rfl) i
      · simp
  · simp
def rbotV (n : Int) (ds : List Df) : List Int × Int := if (rtopV n (turn ds)).2 = 0 then ((rtopV n (turn ds)).1.map (- ·), 0) else ([], (rtopV n (turn ds)).2)
theorem bot_same {n : Int} {ds : List Df} (hs : valid n ds = true → n ≤ 16) : rbotV n ds = botV n ds := by
  unfold rbotV botV
  rw [top_same (by rw [valid_turn]; exact hs)]
  split
  · rename_i h; rw [h]
  · rename_i h
    have : (topV n (turn ds)).1 = [] := by
      unfold topV at h ⊢
      split
      · rename_i hv
        rw [if_pos hv] at h
        unfold top at h ⊢
        split
        · rfl
        · rename_i h1
          rw [if_neg h1] at h
          split
          · rename_i h2; rw [if_pos h2] at h; exact absurd rfl h
          · rfl
      · rfl
    rw [this]; rfl
theorem refBottom_ok {n : Int} {ds : List Df} (hb0 : ds.length * 24 ≤ 140737488355328) (hs : valid n ds = true → n ≤ 16) : PCall Try.prog 27 [.agg [I n, .ro false (rows ds)]] (.tuple [.ro true (ic (rbotV n ds).1), I (rbotV n ds).2]) := by
  refine PCall.intro text27 (by simp) ?_
  unfold ir27
  simp only [walkS, wl, rgets, retv, argsEnv, ev, cst, cst1, cstL, AEnv.get, AEnv.trim, envput, qstep, abin, aun, evs, evo, deref, qload, target, if_true, if_false, Nat.reduceEqDiff, reduceIte, Nat.reduceAdd, AV.cells, AV.isTuple, setMany, alen, aiaddr, afill, Nat.reduceLeDiff, Nat.reduceMul, Nat.reduceLT, afillE, List.replicate]
  refine call_pure (Turned_ok (n := n) (ds := ds) (b := false) hb0) (frzL_of' (d := 4) (carL_cons car_netF rfl)) ?_
  simp only [walkS, wl, rgets, retv, argsEnv, ev, cst, cst1, cstL, AEnv.get, AEnv.trim, envput, qstep, abin, aun, evs, evo, deref, qload, target, if_true, if_false, Nat.reduceEqDiff, reduceIte, Nat.reduceAdd, AV.cells, AV.isTuple, setMany, alen, aiaddr, afill, Nat.reduceLeDiff, Nat.reduceMul, Nat.reduceLT, afillE, List.replicate]
  have hs' : valid n (turn ds) = true → n ≤ 16 := by rw [valid_turn]; exact hs
  refine call_pure (refTop_ok (n := n) (ds := turn ds) hs') (frzL_of' (d := 4) (carL_cons car_netF rfl)) ?_
  have hbd := rtop_bound hs'
  generalize hr : rtopV n (turn ds) = r at hbd ⊢
  obtain ⟨l, e⟩ := r
  simp only at hbd
  simp only [walkS, wl, rgets, retv, argsEnv, ev, cst, cst1, cstL, AEnv.get, AEnv.trim, envput, qstep, abin, aun, evs, evo, deref, qload, target, if_true, if_false, Nat.reduceEqDiff, reduceIte, Nat.reduceAdd, AV.cells, AV.isTuple, setMany, alen, aiaddr, afill, Nat.reduceLeDiff, Nat.reduceMul, Nat.reduceLT, afillE, List.replicate]
  refine withBool_intro ?_ ?_ <;> intro h <;> simp only [walkS, wl, rgets, retv, argsEnv, ev, cst, cst1, cstL, AEnv.get, AEnv.trim, envput, qstep, abin, aun, evs, evo, deref, qload, target, if_true, if_false, Nat.reduceEqDiff, reduceIte, Nat.reduceAdd, AV.cells, AV.isTuple, setMany, alen, aiaddr, afill, Nat.reduceLeDiff, Nat.reduceMul, Nat.reduceLT, afillE, List.replicate]
  · have e2 : rbotV n ds = ([], e) := by
      have : e ≠ 0 := by simpa using h
      simp [rbotV, hr, this]
    rw [e2]; exact out_noneL
  · have e2 : rbotV n ds = (l.map (- ·), 0) := by
      have : e = 0 := by simpa using h
      simp [rbotV, hr, this]
    rw [e2]
    refine awp_loop (σ := Nat × AV) (fun s => [(4, .ro true (ic l)), (6, s.2), (7, I s.1)]) (fun s H => Acc 0 H s.2 3 1 (ic ((l.take s.1).map (- ·)))) (fun s => s.1 ≤ l.length) (fun s => l.length - s.1) (0, .nilSlice) (Nat.zero_le _) rfl (.inl ⟨rfl, rfl⟩) ?_
    rintro ⟨k, a⟩ H hk hacc
    simp only at hk hacc
    simp only [walkS, wl, rgets, retv, argsEnv, ev, cst, cst1, cstL, AEnv.get, AEnv.trim, envput, qstep, abin, aun, evs, evo, deref, qload, target, if_true, if_false, Nat.reduceEqDiff, reduceIte, Nat.reduceAdd, AV.cells, AV.isTuple, setMany, alen, aiaddr, afill, Nat.reduceLeDiff, Nat.reduceMul, Nat.reduceLT, afillE, List.replicate, ic_length]
    refine withBool_intro ?_ ?_ <;> intro hb <;> simp only [walkS, wl, rgets, retv, argsEnv, ev, cst, cst1, cstL, AEnv.get, AEnv.trim, envput, qstep, abin, aun, evs, evo, deref, qload, target, if_true, if_false, Nat.reduceEqDiff, reduceIte, Nat.reduceAdd, AV.cells, AV.isTuple, setMany, alen, aiaddr, afill, Nat.reduceLeDiff, Nat.reduceMul, Nat.reduceLT, afillE, List.replicate]
    · have hlt : k < l.length := by simpa using hb
      have b := hbd.2 _ (List.getElem_mem hlt)
      simp only [walkS, wl, rgets, retv, argsEnv, ev, cst, cst1, cstL, AEnv.get, AEnv.trim, envput, qstep, abin, aun, evs, evo, deref, qload, target, if_true, if_false, Nat.reduceEqDiff, reduceIte, Nat.reduceAdd, AV.cells, AV.isTuple, setMany, alen, aiaddr, afill, Nat.reduceLeDiff, Nat.reduceMul, Nat.reduceLT, afillE, List.replicate, ic_get hlt, ic_length, if_pos (show (k : Int) < l.length by omega)]
      rw [wrap_id (by omega) (by omega)]
      refine acc_append (lo := 0) (by simp) (hacc.push _) rfl rfl AHeap.obj_push_eq (by simp [ic_length]; omega) fun a' H' hl' hacc' hkeep => ?_
      simp only [walkS, wl, rgets, retv, argsEnv, ev, cst, cst1, cstL, AEnv.get, AEnv.trim, envput, qstep, abin, aun, evs, evo, deref, qload, target, if_true, if_false, Nat.reduceEqDiff, reduceIte, Nat.reduceAdd, AV.cells, AV.isTuple, setMany, alen, aiaddr, afill, Nat.reduceLeDiff, Nat.reduceMul, Nat.reduceLT, afillE, List.replicate]
      rw [wrap_id (by omega) (by omega)]
      refine loop_end (k + 1, a') hlt (by simp only; omega) rfl ?_
      simp only
      rw [List.take_succ_eq_append_getElem hlt, List.map_append, List.map_cons, List.map_nil, ic_snoc]
      rw [show (0 : Int) - l[k] = - l[k] by omega] at hacc'
      exact hacc'
    · have hk' : k = l.length := by simp at hb; omega
      subst hk'
      rw [List.take_length] at hacc
      exact out_two (hacc.out (ic_simple _)) out_int
end Go.Proofs.Ytepnijjgdhldeaa
