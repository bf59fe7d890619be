/- The law DiffsStepwise, walked. -/
import Derived.Test.YtepnijjgdhldeaaQG9
import Derived.Test.YtepnijjgdhldeaaQD28
import Derived.Test.YtepnijjgdhldeaaQD11
import Derived.Test.YtepnijjgdhldeaaQE6
namespace Go.Proofs.Ytepnijjgdhldeaa
open Go.Awp
set_option linter.unusedSimpArgs false
set_option linter.unusedVariables false
set_option linter.unusedSectionVars false
set_option maxRecDepth 10000
set_option maxHeartbeats 8000000
/-- The table of a net. -/
def tabL (m : Nat) (es : List Df) : List Int := li (m * m) (cellOf m es)
def tabH (m : Nat) (es : List Df) : List Bool := lb (m * m) (hasOf m es)
theorem mg_li {K x : Nat} {f : Nat → Int} (h : x < K) : mg (li K f) x = f x := by simp [mg, li, h]
theorem hq_lb {K x : Nat} {f : Nat → Bool} (h : x < K) : hq (lb K f) x = f x := by simp [hq, lb, h]
theorem mg_tab {m : Nat} {es : List Df} {i j : Nat} (hi : i < m) (hj : j < m) : mg (tabL m es) (i * m + j) = ds' m es i j := by
  rw [tabL, mg_li (cell_lt hi hj)]; simp only [cellOf, (divmod hj).1, (divmod hj).2]
theorem hq_tab {m : Nat} {es : List Df} {i j : Nat} (hi : i < m) (hj : j < m) : hq (tabH m es) (i * m + j) = hs' m es i j := by
  rw [tabH, hq_lb (cell_lt hi hj)]; simp only [hasOf, (divmod hj).1, (divmod hj).2]
theorem tab_of {m : Nat} {es : List Df} (h : Sol m es) : Tab m (tabL m es) (tabH m es) := by
  have hp := h.good.pos
  refine ⟨hp, by have := h.good.small; omega, by simp [tabL, li_length], by simp [tabH, lb_length], fun i j hi hj => ?_, fun i j k hi hj hk h1 h2 => ?_⟩
  · unfold Cell
    rw [mg_tab hi hj, hq_tab hi hj]
    refine ⟨?_, ?_, fun e => ?_⟩
    · cases hx : hs' m es i j with
      | true => exact .inl rfl
      | false => exact .inr (unset hx)
    · obtain ⟨r, e1⟩ := lens_iter (n := m) (ds := es) (S := one i)
      have hc := h.calm1 hi
      rw [e1] at hc
      have := label_bound h.good hc hj
      unfold ds'
      rw [e1]
      omega
    · subst e; exact h.self hi
  · rw [hq_tab hi hj] at h1
    rw [hq_tab hj hk] at h2
    rw [hq_tab hi hk, mg_tab hi hk, mg_tab hi hj, mg_tab hj hk]
    exact h.tri hi h1 h2
theorem narrow_bad {m : Nat} {es : List Df} {d : Df} (h : Sol m es) (hg : Good m (es ++ [d])) (hr : right d m = true) (hn : ¬ Sol m (es ++ [d])) : narrowV m (tabL m es) (tabH m es) d = (0, [], [], 41) := by
  have hu := hg.fit.fr d (by simp)
  have hv := hg.fit.to d (by simp)
  have hc : hs' m es (to d) (fr d) = true ∧ ds' m es (to d) (fr d) + d.2.2 < 0 := by
    by_cases c : hs' m es (to d) (fr d) = true ∧ ds' m es (to d) (fr d) + d.2.2 < 0
    · exact c
    · exact absurd (more_sol h hg c) hn
  simp only [narrowV, tabB_t (tab_of h), hr, if_true, Int.toNat_natCast, hq_tab hv hu, mg_tab hv hu, hc.1, decide_eq_true hc.2, Bool.and_self]
theorem narrow_good {m : Nat} {es : List Df} {d : Df} (h : Sol m es) (hr : right d m = true) (h' : Sol m (es ++ [d])) : narrowV m (tabL m es) (tabH m es) d = ((m : Int), tabL m (es ++ [d]), tabH m (es ++ [d]), 0) := by
  have hg := h'.good
  have hu := hg.fit.fr d (by simp)
  have hv := hg.fit.to d (by simp)
  have hc : (hs' m es (to d) (fr d) && decide (ds' m es (to d) (fr d) + d.2.2 < 0)) = false := by
    cases c1 : hs' m es (to d) (fr d) with
    | false => rfl
    | true =>
      simp only [Bool.true_and, decide_eq_false_iff_not]
      exact fun c2 => more_bad h hg c1 c2 h'
  simp only [narrowV, tabB_t (tab_of h), hr, if_true, Int.toNat_natCast, hq_tab hv hu, mg_tab hv hu, hc, Bool.false_eq_true, if_false]
  have cells : ∀ x, x < m * m → nM m (tabL m es) (tabH m es) (fr d) (to d) d.2.2 x = cellOf m (es ++ [d]) x ∧ nH m (tabL m es) (tabH m es) (fr d) (to d) d.2.2 x = hasOf m (es ++ [d]) x := fun x hx => by
    have hm : 0 < m := hg.pos
    have hi : x / m < m := Nat.div_lt_of_lt_mul hx
    have hj : x % m < m := Nat.mod_lt _ hm
    have ex : x = x / m * m + x % m := by rw [Nat.mul_comm]; exact (Nat.div_add_mod x m).symm
    have at1 := more_at h hg h' hi (x % m)
    have eC : nC m (tabL m es) (tabH m es) (fr d) (to d) d.2.2 x = (hs' m es (x / m) (fr d) && (hs' m es (to d) (x % m) && (!(hs' m es (x / m) (x % m)) || decide (ds' m es (x / m) (fr d) + d.2.2 + ds' m es (to d) (x % m) < ds' m es (x / m) (x % m))))) := by
      unfold nC
      have q1 := hq_tab (es := es) hi hj
      have q2 := mg_tab (es := es) hi hj
      rw [← ex] at q1 q2
      rw [hq_tab hi hu, hq_tab hv hj, q1, mg_tab hi hu, mg_tab hv hj, q2]
    have q1 := hq_tab (es := es) hi hj
    have q2 := mg_tab (es := es) hi hj
    rw [← ex] at q1 q2
    have eh : nH m (tabL m es) (tabH m es) (fr d) (to d) d.2.2 x = hasOf m (es ++ [d]) x := by
      unfold nH
      rw [eC, q1]
      show _ = hs' m (es ++ [d]) (x / m) (x % m)
      rw [at1.1]
      cases hs' m es (x / m) (fr d) <;> cases hs' m es (to d) (x % m) <;> cases hs' m es (x / m) (x % m) <;> simp
    refine ⟨?_, eh⟩
    show _ = ds' m (es ++ [d]) (x / m) (x % m)
    unfold nM
    rw [eC, mg_tab hi hu, mg_tab hv hj, q2]
    cases hx' : hs' m (es ++ [d]) (x / m) (x % m) with
    | true => rw [at1.2 hx']
    | false =>
      rw [unset hx']
      rw [at1.1] at hx'
      simp only [Bool.or_eq_false_iff] at hx'
      rw [unset hx'.1]
      split
      · rename_i c
        simp only [Bool.and_eq_true] at c
        rw [c.1, c.2.1] at hx'
        simp at hx'
      · rfl
  have e1 : li (m * m) (nM m (tabL m es) (tabH m es) (fr d) (to d) d.2.2) = tabL m (es ++ [d]) := by
    unfold tabL
    exact List.map_congr_left fun x hx => (cells x (List.mem_range.1 hx)).1
  have e2 : lb (m * m) (nH m (tabL m es) (tabH m es) (fr d) (to d) d.2.2) = tabH m (es ++ [d]) := by
    unfold tabH
    exact List.map_congr_left fun x hx => (cells x (List.mem_range.1 hx)).2
  rw [e1, e2]
theorem tab_same {m : Nat} {es es' : List Df} (h : Sol m es) (h' : Sol m es') (hs : ∀ d, d ∈ es ↔ d ∈ es') : tabL m es = tabL m es' ∧ tabH m es = tabH m es' := by
  have hm : 0 < m := h.good.pos
  constructor
  · exact List.map_congr_left fun x hx => (set_same h h' hs (Nat.div_lt_of_lt_mul (List.mem_range.1 hx)) (x % m)).2
  · exact List.map_congr_left fun x hx => (set_same h h' hs (Nat.div_lt_of_lt_mul (List.mem_range.1 hx)) (x % m)).1
/-- The differences that the first steps take, from a turn on. -/
def took (ds : List Df) (T : Nat) (i : Nat) : List Df := (List.range i).map fun t => ds.getD ((t + T) % ds.length) (0, 0, 0)
theorem took_snoc {ds : List Df} {T i : Nat} (h : 0 < ds.length) : took ds T (i + 1) = took ds T i ++ [ds[(i + T) % ds.length]'(Nat.mod_lt _ h)] := by
  unfold took
  rw [List.range_succ, List.map_append]
  simp [Nat.mod_lt _ h]
theorem took_mem {ds : List Df} {T i : Nat} (h : 0 < ds.length) : ∀ d, d ∈ took ds T i → d ∈ ds := fun d hd => by
  obtain ⟨t, _, rfl⟩ := List.mem_map.1 hd
  have : (t + T) % ds.length < ds.length := Nat.mod_lt _ h
  simp [this]
theorem took_all {ds : List Df} {T : Nat} (h : 0 < ds.length) : ∀ d, d ∈ ds → d ∈ took ds T ds.length := fun d hd => by
  obtain ⟨j, hj, rfl⟩ := List.getElem_of_mem hd
  refine List.mem_map.2 ⟨(j + (ds.length - T % ds.length)) % ds.length, List.mem_range.2 (Nat.mod_lt _ h), ?_⟩
  have hT := Nat.mod_lt T h
  have e : ((j + (ds.length - T % ds.length)) % ds.length + T) % ds.length = j := by
    rw [Nat.mod_add_mod]
    have h3 : j + (ds.length - T % ds.length) + T = j + ds.length + (T - T % ds.length) := by have := Nat.mod_le T ds.length; omega
    have h4 : T - T % ds.length = ds.length * (T / ds.length) := by have := Nat.div_add_mod T ds.length; omega
    rw [h3, h4, Nat.add_assoc, Nat.add_mod, Nat.add_mul_mod_self_left, Nat.mod_self]
    simp [Nat.mod_eq_of_lt hj]
  rw [e]; simp [hj]
theorem took_len {ds : List Df} {T i : Nat} : (took ds T i).length = i := by simp [took]
theorem sol_nil {m : Nat} (h0 : 0 < m) (h1 : m ≤ 20) : Sol m [] := by
  have hg : Good m [] := ⟨h0, h1, by simp, ⟨by simp, by simp, by simp, by simp⟩, by simp⟩
  exact ⟨hg, lens_calm hg (R := fun _ => True) (φ := fun _ => 0) (fun d hd => by cases hd) (fun _ _ => trivial)⟩
theorem close_tab {m : Nat} {es : List Df} (hv : valid m es = true) (hm : m ≤ 20) (h : Sol m es) : closeV m es = ((m : Int), tabL m es, tabH m es, 0) := by
  have h64 : ¬ ((m : Int) > 64) := by omega
  simp only [closeV, hv, if_true, if_neg h64, Int.toNat_natCast, h.sol, tabL, tabH]
theorem close_bad {m : Nat} {es : List Df} (hv : valid m es = true) (hm : m ≤ 20) (hg : Good m es) (h : ¬ Sol m es) : closeV m es = (0, [], [], 41) := by
  have h64 : ¬ ((m : Int) > 64) := by omega
  have hl : (lens m es (everyone m)).2 = false := by
    cases hl : (lens m es (everyone m)).2 with
    | false => rfl
    | true => exact absurd ⟨hg, hl⟩ h
  simp only [closeV, hv, if_true, if_neg h64, Int.toNat_natCast, hl, Bool.false_eq_true, if_false]
theorem law20_ok {n : Int} {ds : List Df} {k : Int} (hb0 : ds.length ≤ big) : PCall Try.prog 20 [.agg [I n, .ro false (rows ds)], I k] (.bool true) := by
  refine PCall.intro text20 (by simp) ?_
  unfold ir20
  simp only [walkS, wl, rgets, retv, argsEnv, ev, cst, cst1, cstL, AEnv.get, AEnv.trim, envput, qstep, abin, aun, evs, evo, deref, qload, target, if_true, if_false, Nat.reduceEqDiff, reduceIte, Nat.reduceAdd, AV.cells, AV.isTuple, setMany, alen, aiaddr, afill, Nat.reduceLeDiff, Nat.reduceMul, Nat.reduceLT, afillE, List.replicate]
  refine call_pure sane_ok (frzL_of' (d := 4) rfl) ?_
  simp only [walkS, wl, rgets, retv, argsEnv, ev, cst, cst1, cstL, AEnv.get, AEnv.trim, envput, qstep, abin, aun, evs, evo, deref, qload, target, if_true, if_false, Nat.reduceEqDiff, reduceIte, Nat.reduceAdd, AV.cells, AV.isTuple, setMany, alen, aiaddr, afill, Nat.reduceLeDiff, Nat.reduceMul, Nat.reduceLT, afillE, List.replicate]
  refine call_pure (check_ok n ds) (frzL_of' (d := 4) (carL_cons car_netF rfl)) ?_
  simp only [walkS, wl, rgets, retv, argsEnv, ev, cst, cst1, cstL, AEnv.get, AEnv.trim, envput, qstep, abin, aun, evs, evo, deref, qload, target, if_true, if_false, Nat.reduceEqDiff, reduceIte, Nat.reduceAdd, AV.cells, AV.isTuple, setMany, alen, aiaddr, afill, Nat.reduceLeDiff, Nat.reduceMul, Nat.reduceLT, afillE, List.replicate]
  cases hv : valid n ds with
  | false =>
    have e1 : check n ds = 40 := by simp [check, hv]
    rw [e1]
    simp only [walkS, wl, rgets, retv, argsEnv, ev, cst, cst1, cstL, AEnv.get, AEnv.trim, envput, qstep, abin, aun, evs, evo, deref, qload, target, if_true, if_false, Nat.reduceEqDiff, reduceIte, Nat.reduceAdd, AV.cells, AV.isTuple, setMany, alen, aiaddr, afill, Nat.reduceLeDiff, Nat.reduceMul, Nat.reduceLT, afillE, List.replicate, Int.reduceBNe]
    exact out_bool
  | true =>
    have e1 : check n ds = 0 := by simp [check, hv]
    rw [e1]
    simp only [walkS, wl, rgets, retv, argsEnv, ev, cst, cst1, cstL, AEnv.get, AEnv.trim, envput, qstep, abin, aun, evs, evo, deref, qload, target, if_true, if_false, Nat.reduceEqDiff, reduceIte, Nat.reduceAdd, AV.cells, AV.isTuple, setMany, alen, aiaddr, afill, Nat.reduceLeDiff, Nat.reduceMul, Nat.reduceLT, afillE, List.replicate, Int.reduceBNe]
    refine withGuard_intro ?_ ?_ <;> intro h2 <;> simp only [walkS, wl, rgets, retv, argsEnv, ev, cst, cst1, cstL, AEnv.get, AEnv.trim, envput, qstep, abin, aun, evs, evo, deref, qload, target, if_true, if_false, Nat.reduceEqDiff, reduceIte, Nat.reduceAdd, AV.cells, AV.isTuple, setMany, alen, aiaddr, afill, Nat.reduceLeDiff, Nat.reduceMul, Nat.reduceLT, afillE, List.replicate, h2, rows_length]
    · refine withBool_intro ?_ ?_ <;> intro h3 <;> simp only [walkS, wl, rgets, retv, argsEnv, ev, cst, cst1, cstL, AEnv.get, AEnv.trim, envput, qstep, abin, aun, evs, evo, deref, qload, target, if_true, if_false, Nat.reduceEqDiff, reduceIte, Nat.reduceAdd, AV.cells, AV.isTuple, setMany, alen, aiaddr, afill, Nat.reduceLeDiff, Nat.reduceMul, Nat.reduceLT, afillE, List.replicate, h3]
      · exact out_bool
      · have hn8 : n ≤ 8 := by simp at h2; exact h2
        have hK : ds.length ≤ 24 := by simp at h3; omega
        obtain ⟨m, rfl, hg, hm⟩ := good_of hv (by omega)
        refine call_pure (Close_ok (fun _ => .inl (by omega))) (frzL_of' (d := 4) (carL_cons car_netF rfl)) ?_
        have hf : (closeV m ds).2.2.2 = 0 ∧ Sol m ds ∧ (closeV m ds).1 = m ∧ (closeV m ds).2.1 = tabL m ds ∧ (closeV m ds).2.2.1 = tabH m ds ∨ (closeV m ds).2.2.2 = 41 ∧ ¬ Sol m ds := by
          by_cases hS : Sol m ds
          · left; rw [close_tab hv (by omega) hS]; exact ⟨rfl, hS, rfl, rfl, rfl⟩
          · right; rw [close_bad hv (by omega) hg hS]; exact ⟨rfl, hS⟩
        generalize closeV m ds = cv at hf ⊢
        obtain ⟨wn, vl, vm, f⟩ := cv
        simp only at hf
        unfold tabV
        simp only [walkS, wl, rgets, retv, argsEnv, ev, cst, cst1, cstL, AEnv.get, AEnv.trim, envput, qstep, abin, aun, evs, evo, deref, qload, target, if_true, if_false, Nat.reduceEqDiff, reduceIte, Nat.reduceAdd, AV.cells, AV.isTuple, setMany, alen, aiaddr, afill, Nat.reduceLeDiff, Nat.reduceMul, Nat.reduceLT, afillE, List.replicate, sstep_store]
        have hm0 : 0 < m := hg.pos
        have hv0 : valid m [] = true := by rw [valid_iff]; exact ⟨by omega, by simp, by simp⟩
        refine call_pure (Close_ok (ds := []) (fun _ => .inl (by omega))) (.cons (frz_agg2 frz_int frz_nil rfl rfl) .nil) ?_
        rw [close_tab hv0 (by omega) (sol_nil hm0 (by omega))]
        unfold tabV
        simp only [walkS, wl, rgets, retv, argsEnv, ev, cst, cst1, cstL, AEnv.get, AEnv.trim, envput, qstep, abin, aun, evs, evo, deref, qload, target, if_true, if_false, Nat.reduceEqDiff, reduceIte, Nat.reduceAdd, AV.cells, AV.isTuple, setMany, alen, aiaddr, afill, Nat.reduceLeDiff, Nat.reduceMul, Nat.reduceLT, afillE, List.replicate, sstep_store, Int.reduceBNe, rows_length]
        unfold ir20r
        simp only [walkS, wl, rgets, retv, argsEnv, ev, cst, cst1, cstL, AEnv.get, AEnv.trim, envput, qstep, abin, aun, evs, evo, deref, qload, target, if_true, if_false, Nat.reduceEqDiff, reduceIte, Nat.reduceAdd, AV.cells, AV.isTuple, setMany, alen, aiaddr, afill, Nat.reduceLeDiff, Nat.reduceMul, Nat.reduceLT, afillE, List.replicate]
        have took0 : took ds (min (max k 0) 1048576).toNat 0 = [] := rfl
        refine awp_loop (σ := Nat) (fun i => [(1, I k), (2, .ptr 0 1 0 0), (5, .ptr 1 1 0 0), (6, I f), (7, .ptr 2 1 0 0), (9, I ds.length), (45, I ds.length), (46, I i)])
          (fun i H => H = [some ⟨24, 2, [[I m, .ro false (rows ds)]]⟩, some ⟨73, 3, [[I wn, .ro true (ic vl), .ro true (bc vm)]]⟩, some ⟨73, 3, [[I m, .ro true (ic (tabL m (took ds (min (max k 0) 1048576).toNat i))), .ro true (bc (tabH m (took ds (min (max k 0) 1048576).toNat i)))]]⟩])
          (fun i => i ≤ ds.length ∧ Sol m (took ds (min (max k 0) 1048576).toNat i)) (fun i => ds.length - i) 0 ⟨Nat.zero_le _, sol_nil hm0 (by omega)⟩ rfl rfl ?_
        rintro i H ⟨hi, hS⟩ rfl
        generalize hT : (min (max k 0) 1048576).toNat = T at hS ⊢
        have hTk : min (max k 0) 1048576 = (T : Int) := by omega
        have hTb : T ≤ 1048576 := by omega
        simp only [walkS, wl, rgets, retv, argsEnv, ev, cst, cst1, cstL, AEnv.get, AEnv.trim, envput, qstep, abin, aun, evs, evo, deref, qload, target, if_true, if_false, Nat.reduceEqDiff, reduceIte, Nat.reduceAdd, AV.cells, AV.isTuple, setMany, alen, aiaddr, afill, Nat.reduceLeDiff, Nat.reduceMul, Nat.reduceLT, afillE, List.replicate]
        refine withBool_intro ?_ ?_ <;> intro hb <;> simp only [walkS, wl, rgets, retv, argsEnv, ev, cst, cst1, cstL, AEnv.get, AEnv.trim, envput, qstep, abin, aun, evs, evo, deref, qload, target, if_true, if_false, Nat.reduceEqDiff, reduceIte, Nat.reduceAdd, AV.cells, AV.isTuple, setMany, alen, aiaddr, afill, Nat.reduceLeDiff, Nat.reduceMul, Nat.reduceLT, afillE, List.replicate, rows_length]
        · have hlt : i < ds.length := by simpa using hb
          have hK0 : 0 < ds.length := by omega
          have hw1 : IntKind.i64.wrap ((i : Int) + (T : Int)) = ((i + T : Nat) : Int) := by rw [wrap_id (by omega) (by omega)]; simp
          have hr : (i + T) % ds.length < ds.length := Nat.mod_lt _ hK0
          have hne : ((ds.length : Int) = 0) = False := by simp only [eq_iff_iff, iff_false]; omega
          have hrem : ((i + T : Nat) : Int).tmod (ds.length : Int) = (((i + T) % ds.length : Nat) : Int) := by
            rw [Int.tmod_eq_emod_of_nonneg (by omega)]; rfl
          have hwi : IntKind.i64.wrap ((i : Int) + 1) = ((i + 1 : Nat) : Int) := by rw [wrap_id (by omega) (by omega)]; simp
          simp only [walkS, wl, rgets, retv, argsEnv, ev, cst, cst1, cstL, AEnv.get, AEnv.trim, envput, qstep, abin, aun, evs, evo, deref, qload, target, if_true, if_false, Nat.reduceEqDiff, reduceIte, Nat.reduceAdd, AV.cells, AV.isTuple, setMany, alen, aiaddr, afill, Nat.reduceLeDiff, Nat.reduceMul, Nat.reduceLT, afillE, List.replicate, amm_max, amm_min, hTk, hw1, hne, hrem, rows_get hr, rows_length]
          have hd : ds[(i + T) % ds.length] ∈ ds := List.getElem_mem hr
          have hright := (valid_iff.1 hv).2.2 _ hd
          have hmem : ∀ d, d ∈ took ds T i ++ [ds[(i + T) % ds.length]] → d ∈ ds := fun d hx => by
            rw [← took_snoc hK0] at hx; exact took_mem hK0 d hx
          have htl : (took ds T i ++ [ds[(i + T) % ds.length]]).length ≤ 8192 := by rw [← took_snoc hK0, took_len]; omega
          have hg' := good_sub hg hmem htl
          have hlens : (tabL m (took ds T i)).length ≤ big ∧ (tabH m (took ds T i)).length ≤ big := by
            have : m * m ≤ 16 * 16 := Nat.mul_le_mul hm hm
            simp only [tabL, tabH, li_length, lb_length]; unfold big; omega
          refine dcall_pure (Narrow_ok (n := m) (d := ds[(i + T) % ds.length]) hlens.1 hlens.2) (frzL_of (d := 4) (carL_cons (car_agg (carL_cons rfl (carL_cons (car_ro_false (ic_simple _)) (carL_cons (car_ro_false (bc_simple _)) rfl)))) rfl)) ?_
          by_cases hS' : Sol m (took ds T i ++ [ds[(i + T) % ds.length]])
          · rw [narrow_good hS hright hS']
            unfold narrowA tabV
            simp only [walkS, wl, rgets, retv, argsEnv, ev, cst, cst1, cstL, AEnv.get, AEnv.trim, envput, qstep, abin, aun, evs, evo, deref, qload, target, if_true, if_false, Nat.reduceEqDiff, reduceIte, Nat.reduceAdd, AV.cells, AV.isTuple, setMany, alen, aiaddr, afill, Nat.reduceLeDiff, Nat.reduceMul, Nat.reduceLT, afillE, List.replicate, sstep_store, Int.reduceBNe, hwi]
            refine loop_end (i + 1) ⟨hlt, by rw [took_snoc hK0]; exact hS'⟩ (by omega) rfl ?_
            rw [took_snoc hK0]
          · rw [narrow_bad hS hg' hright hS']
            have hf2 : f = 41 := by
              rcases hf with ⟨_, hS2, _⟩ | ⟨h, _⟩
              · exact absurd (hS2.sub hmem htl) hS'
              · exact h
            subst hf2
            unfold narrowA tabV
            simp only [walkS, wl, rgets, retv, argsEnv, ev, cst, cst1, cstL, AEnv.get, AEnv.trim, envput, qstep, abin, aun, evs, evo, deref, qload, target, if_true, if_false, Nat.reduceEqDiff, reduceIte, Nat.reduceAdd, AV.cells, AV.isTuple, setMany, alen, aiaddr, afill, Nat.reduceLeDiff, Nat.reduceMul, Nat.reduceLT, afillE, List.replicate, sstep_store, Int.reduceBNe, Int.reduceBEq]
            exact out_bool
        · have hi' : i = ds.length := by simp at hb; omega
          subst hi'
          have hmem : ∀ d, d ∈ ds ↔ d ∈ took ds T ds.length := fun d => by
            rcases Nat.eq_zero_or_pos ds.length with h0 | h0
            · have : ds = [] := List.eq_nil_of_length_eq_zero h0
              subst this; simp [took]
            · exact ⟨took_all h0 d, took_mem h0 d⟩
          rcases hf with ⟨rfl, hS2, rfl, rfl, rfl⟩ | ⟨_, h⟩
          · have hsame := tab_same hS hS2 fun d => (hmem d).symm
            rw [hsame.1, hsame.2]
            have hlens : (tabL m ds).length ≤ big ∧ (tabH m ds).length ≤ big := by
              have : m * m ≤ 16 * 16 := Nat.mul_le_mul hm hm
              simp only [tabL, tabH, li_length, lb_length]; unfold big; omega
            simp only [walkS, wl, rgets, retv, argsEnv, ev, cst, cst1, cstL, AEnv.get, AEnv.trim, envput, qstep, abin, aun, evs, evo, deref, qload, target, if_true, if_false, Nat.reduceEqDiff, reduceIte, Nat.reduceAdd, AV.cells, AV.isTuple, setMany, alen, aiaddr, afill, Nat.reduceLeDiff, Nat.reduceMul, Nat.reduceLT, afillE, List.replicate, Int.reduceBEq]
            refine call_pure (sameTables_ok (n := m) hlens.1 hlens.2) (frzL_of' (d := 4) (carL_cons (car_agg (carL_cons rfl (carL_cons (car_ro_false (ic_simple _)) (carL_cons (car_ro_false (bc_simple _)) rfl)))) (carL_cons (car_agg (carL_cons rfl (carL_cons (car_ro_false (ic_simple _)) (carL_cons (car_ro_false (bc_simple _)) rfl)))) rfl))) ?_
            simp only [walkS, wl, rgets, retv, argsEnv, ev, cst, cst1, cstL, AEnv.get, AEnv.trim, envput, qstep, abin, aun, evs, evo, deref, qload, target, if_true, if_false, Nat.reduceEqDiff, reduceIte, Nat.reduceAdd, AV.cells, AV.isTuple, setMany, alen, aiaddr, afill, Nat.reduceLeDiff, Nat.reduceMul, Nat.reduceLT, afillE, List.replicate]
            exact out_bool
          · exact absurd (hS.sub (fun d hd => (hmem d).1 hd) (by omega)) h
    · exact out_bool
end Go.Proofs.Ytepnijjgdhldeaa
