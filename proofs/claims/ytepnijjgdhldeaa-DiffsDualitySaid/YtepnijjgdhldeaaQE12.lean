/- The law DiffsDuality, walked. -/
import Derived.Test.YtepnijjgdhldeaaQX2
import Derived.Test.YtepnijjgdhldeaaQT612
namespace Go.Proofs.Ytepnijjgdhldeaa
open Go.Awp
set_option linter.unusedSimpArgs false
set_option linter.unusedVariables false
set_option maxRecDepth 10000
set_option maxHeartbeats 8000000
theorem ck_zero {m : Nat} {ds : List Df} {ws fl : List Int} {most : Int} (h : ckFlow m ds ws most fl = 0) : weightyB m ws = true ∧ flowOk ds fl = true ∧ Brings m ds (wg ws) (wg fl) ∧ costN ds (wg fl) ≤ most := by
  unfold ckFlow at h
  split at h
  · split at h
    · rename_i hw
      rw [Bool.and_eq_true] at hw
      split at h
      · rename_i hp
        rw [Int.toNat_natCast] at hp
        exact ⟨hw.1, hw.2, ⟨fun k hk => ((flowOk_get hw.2).2 k hk).1, hp.1⟩, hp.2⟩
      · cases h
    · cases h
  · cases h
theorem inn_congr {ds : List Df} {F G : Nat → Int} (h : ∀ k, k < ds.length → F k = G k) (v : Nat) : inn ds F v = inn ds G v :=
  sumN_congr _ fun k hk => by rw [h k hk]
theorem cost_congr {ds : List Df} {F G : Nat → Int} (h : ∀ k, k < ds.length → F k = G k) : costN ds F = costN ds G :=
  sumN_congr _ fun k hk => by rw [h k hk]
theorem wg_li2 {m : Nat} {f : Nat → Int} {v : Nat} (h : v < m) : wg (li m f) v = f v := by simp [wg, li, h]
theorem ck_flow {m : Nat} {ds : List Df} {ws : List Int} {F : Nat → Int} (hv : valid m ds = true) (hw : weightyB m ws = true) (ho : Opt m ds (wg ws) F) (hF : ∀ k, k < ds.length → 0 ≤ F k ∧ F k ≤ 1048576) : ckFlow m ds ws (costN ds F) (li ds.length F) = 0 := by
  have hok : flowOk ds (li ds.length F) = true := by
    simp only [flowOk, li_length, decide_true, Bool.true_and, Bool.not_eq_true']
    rw [List.any_eq_false]
    intro x hx
    obtain ⟨k, hk, rfl⟩ := List.mem_map.1 hx
    have := hF k (List.mem_range.1 hk)
    simp [ffar]; omega
  have hp : Proves m ds ws (costN ds F) (li ds.length F) := by
    refine ⟨fun v h0 hv' => ?_, ?_⟩
    · rw [inn_congr (G := F) fun k hk => wg_li2 hk]; exact ho.brings.bal v h0 hv'
    · rw [cost_congr (G := F) fun k hk => wg_li2 hk]; exact Int.le_refl _
  unfold ckFlow
  rw [hv, hw, hok, Int.toNat_natCast]
  simp [hp]
theorem fulf_feas {m : Nat} {ds : List Df} {xs : List Int} (hv : valid m ds = true) (h : fulf m ds xs = true) : xs.length = m ∧ wg xs 0 = 0 ∧ Feas ds (wg xs) ∧ ∀ v, -1099511627776 ≤ wg xs v ∧ wg xs v ≤ 1099511627776 := by
  obtain ⟨⟨a, a'⟩, b, c, d⟩ := fulf_iff.1 h
  have hw : ∀ i : Nat, wg xs i = at0 xs i := fun i => by simp [wg, at0]
  refine ⟨by omega, by rw [hw]; exact b, fun k hk => ?_, fun v => ?_⟩
  · obtain ⟨⟨⟨h1, h2⟩, h3, h4⟩, h5⟩ := d _ (ed_mem hk)
    rw [hw, hw]
    have e1 : ((fr (ed ds k) : Nat) : Int) = (ed ds k).1 := by unfold fr; omega
    have e2 : ((to (ed ds k) : Nat) : Int) = (ed ds k).2.1 := by unfold to; omega
    rw [e1, e2]; omega
  · rw [hw]; exact at_far c
structure D12 (m : Nat) (ds : List Df) (ws xs fl : List Int) (most : Int) : Prop where
  valid : valid m ds = true
  good : Good m ds
  size : (m : Int) ≤ 16 ∧ ds.length ≤ 60
  lw : ws.length = m
  lx : xs.length ≤ big
  lf : fl.length ≤ big
theorem D12.hf {m : Nat} {ds : List Df} {ws xs fl : List Int} {most : Int} (h : D12 m ds ws xs fl most) : ∀ d, d ∈ ds → fr d < m ∧ to d < m := fun d hd => ⟨h.good.fit.fr d hd, h.good.fit.to d hd⟩
/-- The sum at an assignment. -/
theorem D12.sum {m : Nat} {ds : List Df} {ws xs fl ys : List Int} {most : Int} (h : D12 m ds ws xs fl most) {H : AHeap} {b : Bool} (hw : weightyB m ws = true) (hx : fulf m ds ys = true) {K : AV → AHeap → Prop} (hK : K (I (dot m (wg ws) (wg ys))) H) : ACall Try.prog 49 [.ro false (ic ws), .ro b (ic ys)] H K := by
  obtain ⟨f1, f2, f3, f4⟩ := fulf_feas h.valid hx
  have := h.lw
  have := h.size
  refine call_pure (Sum_ok (b := false) (c := false) (by omega) (by omega) (weighty_get hw).2 f4) (frzL_of' (d := 4) (carL_cons car_icF (carL_cons car_icF rfl))) ?_
  rw [h.lw, dotc_dot f2]; exact hK
theorem law12_rest {m : Nat} {most : Int} {ds : List Df} {ws xs fl : List Int} (D : D12 m ds ws xs fl most) {acc : Bool} (hacc : acc = (ckFlow m ds ws most fl == 0)) {H : AHeap} (o0 : AHeap.obj H 0 = some ⟨24, 2, [[I m, .ro false (rows ds)]]⟩) :
    awp Try.prog ir12r (fnPost [.tmp 10] fun x H' => Out H' x (.bool true)) [(1, .ro false (ic ws)), (2, .ro false (ic xs)), (3, I most), (5, .ptr 0 1 0 0), (11, .bool acc), (56, .bool false)] H := by
  unfold ir12r
  have hs : valid m ds = true → (m : Int) ≤ 16 ∧ ds.length ≤ 60 := fun _ => D.size
  have hsz := D.size
  have hlb : ws.length ≤ big := by have := D.lw; unfold big; omega
  have hv := D.valid
  simp only [walkS, wl, rgets, retv, argsEnv, ev, cst, cst1, cstL, AEnv.get, AEnv.trim, envput, qstep, abin, aun, evs, evo, deref, qload, target, if_true, if_false, Nat.reduceEqDiff, reduceIte, Nat.reduceAdd, AV.cells, AV.isTuple, setMany, alen, aiaddr, afill, Nat.reduceLeDiff, Nat.reduceMul, Nat.reduceLT, afillE, List.replicate, o0]
  refine call_pure (Most_ok (n := m) (ds := ds) (ws := ws) hlb hs) (frzL_of' (d := 4) (carL_cons car_netF (carL_cons car_icF rfl))) ?_
  by_cases he : bestE m ds ws = 0
  · obtain ⟨_, hw, hsol⟩ := bestE_iff he
    rw [Int.toNat_natCast] at hsol
    have sol : Sol m ds := ⟨D.good, hsol⟩
    have hmv : mostV m ds ws = ((mostN m ds (wg ws)).1, (mostN m ds (wg ws)).2, 0) := by unfold mostV; rw [if_pos he]; rfl
    rw [hmv]
    simp only [walkS, wl, rgets, retv, argsEnv, ev, cst, cst1, cstL, AEnv.get, AEnv.trim, envput, qstep, abin, aun, evs, evo, deref, qload, target, if_true, if_false, Nat.reduceEqDiff, reduceIte, Nat.reduceAdd, AV.cells, AV.isTuple, setMany, alen, aiaddr, afill, Nat.reduceLeDiff, Nat.reduceMul, Nat.reduceLT, afillE, List.replicate, Int.reduceBNe, o0]
    refine (Best_at hlb hs H).mono fun x H1 hx => ?_
    obtain ⟨b1, b2, b3⟩ := hx
    have o1 : AHeap.obj H1 0 = _ := (b2 0 (AHeap.obj_lt o0)).trans o0
    rcases b3 with ⟨h, _⟩ | ⟨_, m', hm', _, b3⟩
    · exact absurd he h
    obtain rfl : m = m' := by omega
    have rayf : (∃ y, Ray m ds (wg ws) y) → mostN m ds (wg ws) = (0, false) := fun ⟨y, hy⟩ => mostN_f D.hf hy
    rcases b3 with ⟨rfl, hray⟩ | ⟨f, rfl, bf, bf0, bt, bs⟩
    · have hmn := rayf hray
      rw [hmn]
      simp only [walkS, wl, rgets, retv, argsEnv, ev, cst, cst1, cstL, AEnv.get, AEnv.trim, envput, qstep, abin, aun, evs, evo, deref, qload, target, if_true, if_false, Nat.reduceEqDiff, reduceIte, Nat.reduceAdd, AV.cells, AV.isTuple, setMany, alen, aiaddr, afill, Nat.reduceLeDiff, Nat.reduceMul, Nat.reduceLT, afillE, List.replicate, o1]
      refine (Flow_at hlb hs H1).mono fun x H2 hx => ?_
      obtain ⟨c1, c2, c3⟩ := hx
      rcases c3 with ⟨h, _⟩ | ⟨_, m', hm', _, c3⟩
      · exact absurd he h
      obtain rfl : m = m' := by omega
      rcases c3 with ⟨rfl, _⟩ | ⟨h', F, rfl, _, _, cO, _⟩
      · simp only [walkS, wl, rgets, retv, argsEnv, ev, cst, cst1, cstL, AEnv.get, AEnv.trim, envput, qstep, abin, aun, evs, evo, deref, qload, target, if_true, if_false, Nat.reduceEqDiff, reduceIte, Nat.reduceAdd, AV.cells, AV.isTuple, setMany, alen, aiaddr, afill, Nat.reduceLeDiff, Nat.reduceMul, Nat.reduceLT, afillE, List.replicate, bne_self_eq_false, Bool.not_false]
        cases acc with
        | false => simp only [walkS, wl, rgets, retv, argsEnv, ev, cst, cst1, cstL, AEnv.get, AEnv.trim, envput, qstep, abin, aun, evs, evo, deref, qload, target, if_true, if_false, Nat.reduceEqDiff, reduceIte, Nat.reduceAdd, AV.cells, AV.isTuple, setMany, alen, aiaddr, afill, Nat.reduceLeDiff, Nat.reduceMul, Nat.reduceLT, afillE, List.replicate, Bool.not_false, beq_self_eq_true]; exact out_bool
        | true =>
          obtain ⟨_, _, hb, _⟩ := ck_zero (by simpa using hacc.symm)
          obtain ⟨y, hy⟩ := hray
          exact (hy.none D.hf hb).elim
      · obtain ⟨y, hy⟩ := hray
        exact (hy.none D.hf cO.brings).elim
    · rw [bt]
      simp only [walkS, wl, rgets, retv, argsEnv, ev, cst, cst1, cstL, AEnv.get, AEnv.trim, envput, qstep, abin, aun, evs, evo, deref, qload, target, if_true, if_false, Nat.reduceEqDiff, reduceIte, Nat.reduceAdd, AV.cells, AV.isTuple, setMany, alen, aiaddr, afill, Nat.reduceLeDiff, Nat.reduceMul, Nat.reduceLT, afillE, List.replicate, o1]
      refine (Flow_at hlb hs H1).mono fun x H2 hx => ?_
      obtain ⟨c1, c2, c3⟩ := hx
      have o2 : AHeap.obj H2 0 = _ := (c2 0 (AHeap.obj_lt o1)).trans o1
      rcases c3 with ⟨h, _⟩ | ⟨_, m', hm', _, c3⟩
      · exact absurd he h
      obtain rfl : m = m' := by omega
      rcases c3 with ⟨rfl, hray⟩ | ⟨h', F, rfl, _, oF, cO, cB⟩
      · rw [rayf hray] at bt; cases bt
      · have hmn := mostN_t D.hf cO
        have hlm : (li m f).length ≤ big := by rw [li_length]; unfold big; omega
        have hld : ds.length ≤ big := by unfold big; omega
        simp only [walkS, wl, rgets, retv, argsEnv, ev, cst, cst1, cstL, AEnv.get, AEnv.trim, envput, qstep, abin, aun, evs, evo, deref, qload, target, if_true, if_false, Nat.reduceEqDiff, reduceIte, Nat.reduceAdd, AV.cells, AV.isTuple, setMany, alen, aiaddr, afill, Nat.reduceLeDiff, Nat.reduceMul, Nat.reduceLT, afillE, List.replicate, bne_self_eq_false, beq_self_eq_true, Bool.not_true, o2, Int.reduceBNe]
        refine call_pure (fulfils_ok (n := m) (ds := ds) (xs := li m f) (b := false) hlm hld) (frzL_of' (d := 4) (carL_cons car_netF (carL_cons car_icF rfl))) ?_
        rw [bf]
        simp only [walkS, wl, rgets, retv, argsEnv, ev, cst, cst1, cstL, AEnv.get, AEnv.trim, envput, qstep, abin, aun, evs, evo, deref, qload, target, if_true, if_false, Nat.reduceEqDiff, reduceIte, Nat.reduceAdd, AV.cells, AV.isTuple, setMany, alen, aiaddr, afill, Nat.reduceLeDiff, Nat.reduceMul, Nat.reduceLT, afillE, List.replicate, Bool.not_true, o2]
        refine D.sum hw bf ?_
        have hdot : dot m (wg ws) (wg (li m f)) = (mostN m ds (wg ws)).1 := by
          rw [← bs]
          exact sumN_congr m fun v hv' => by rw [wg_li2 hv']
        rw [hdot]
        simp only [walkS, wl, rgets, retv, argsEnv, ev, cst, cst1, cstL, AEnv.get, AEnv.trim, envput, qstep, abin, aun, evs, evo, deref, qload, target, if_true, if_false, Nat.reduceEqDiff, reduceIte, Nat.reduceAdd, AV.cells, AV.isTuple, setMany, alen, aiaddr, afill, Nat.reduceLeDiff, Nat.reduceMul, Nat.reduceLT, afillE, List.replicate, bne_self_eq_false, o2]
        refine call_pure (CheckFlow_ok (n := m) (most := (mostN m ds (wg ws)).1) (ds := ds) (ws := ws) (fl := li ds.length F) hlb (by rw [li_length]; exact hld)) (frzL_of' (d := 4) (carL_cons car_netF (carL_cons car_icF (carL_cons rfl (carL_cons (car_ownN oF (by rw [ic_length, li_length]) (ic_simple _)) rfl))))) ?_
        have hck : ckFlow m ds ws (mostN m ds (wg ws)).1 (li ds.length F) = 0 := by
          rw [hmn]
          exact ck_flow hv hw cO fun k hk => ⟨(cB k hk).1, by have := (cB k hk).2; omega⟩
        rw [hck]
        simp only [walkS, wl, rgets, retv, argsEnv, ev, cst, cst1, cstL, AEnv.get, AEnv.trim, envput, qstep, abin, aun, evs, evo, deref, qload, target, if_true, if_false, Nat.reduceEqDiff, reduceIte, Nat.reduceAdd, AV.cells, AV.isTuple, setMany, alen, aiaddr, afill, Nat.reduceLeDiff, Nat.reduceMul, Nat.reduceLT, afillE, List.replicate, bne_self_eq_false]
        -- the last test
        have last : ∀ {H : AHeap} {z : Bool}, z = decide (dot m (wg ws) (wg xs) ≤ (mostN m ds (wg ws)).1) → fulf m ds xs = true → z = true := by
          intro H z hz hx
          obtain ⟨_, f2, f3, _⟩ := fulf_feas hv hx
          have := cO.brings.weak D.hf f2 f3
          rw [hz, hmn]; simpa using this
        cases acc with
        | false =>
          simp only [walkS, wl, rgets, retv, argsEnv, ev, cst, cst1, cstL, AEnv.get, AEnv.trim, envput, qstep, abin, aun, evs, evo, deref, qload, target, if_true, if_false, Nat.reduceEqDiff, reduceIte, Nat.reduceAdd, AV.cells, AV.isTuple, setMany, alen, aiaddr, afill, Nat.reduceLeDiff, Nat.reduceMul, Nat.reduceLT, afillE, List.replicate, Bool.not_false, o2]
          refine call_pure (fulfils_ok (n := m) (ds := ds) (xs := xs) (b := false) D.lx hld) (frzL_of' (d := 4) (carL_cons car_netF (carL_cons car_icF rfl))) ?_
          cases hx : fulf m ds xs with
          | false => simp only [walkS, wl, rgets, retv, argsEnv, ev, cst, cst1, cstL, AEnv.get, AEnv.trim, envput, qstep, abin, aun, evs, evo, deref, qload, target, if_true, if_false, Nat.reduceEqDiff, reduceIte, Nat.reduceAdd, AV.cells, AV.isTuple, setMany, alen, aiaddr, afill, Nat.reduceLeDiff, Nat.reduceMul, Nat.reduceLT, afillE, List.replicate, Bool.not_false]; exact out_bool
          | true =>
            simp only [walkS, wl, rgets, retv, argsEnv, ev, cst, cst1, cstL, AEnv.get, AEnv.trim, envput, qstep, abin, aun, evs, evo, deref, qload, target, if_true, if_false, Nat.reduceEqDiff, reduceIte, Nat.reduceAdd, AV.cells, AV.isTuple, setMany, alen, aiaddr, afill, Nat.reduceLeDiff, Nat.reduceMul, Nat.reduceLT, afillE, List.replicate, Bool.not_true]
            refine D.sum hw hx ?_
            simp only [walkS, wl, rgets, retv, argsEnv, ev, cst, cst1, cstL, AEnv.get, AEnv.trim, envput, qstep, abin, aun, evs, evo, deref, qload, target, if_true, if_false, Nat.reduceEqDiff, reduceIte, Nat.reduceAdd, AV.cells, AV.isTuple, setMany, alen, aiaddr, afill, Nat.reduceLeDiff, Nat.reduceMul, Nat.reduceLT, afillE, List.replicate]
            rw [last (H := H2) rfl hx]; exact out_bool
        | true =>
          have hge : decide (most ≥ (mostN m ds (wg ws)).1) = true := by
            obtain ⟨_, _, hb, hc⟩ := ck_zero (by simpa using hacc.symm)
            have := cO.le D.hf hb
            rw [hmn]; simp; omega
          simp only [walkS, wl, rgets, retv, argsEnv, ev, cst, cst1, cstL, AEnv.get, AEnv.trim, envput, qstep, abin, aun, evs, evo, deref, qload, target, if_true, if_false, Nat.reduceEqDiff, reduceIte, Nat.reduceAdd, AV.cells, AV.isTuple, setMany, alen, aiaddr, afill, Nat.reduceLeDiff, Nat.reduceMul, Nat.reduceLT, afillE, List.replicate, Bool.not_true, hge, o2]
          refine call_pure (fulfils_ok (n := m) (ds := ds) (xs := xs) (b := false) D.lx hld) (frzL_of' (d := 4) (carL_cons car_netF (carL_cons car_icF rfl))) ?_
          cases hx : fulf m ds xs with
          | false => simp only [walkS, wl, rgets, retv, argsEnv, ev, cst, cst1, cstL, AEnv.get, AEnv.trim, envput, qstep, abin, aun, evs, evo, deref, qload, target, if_true, if_false, Nat.reduceEqDiff, reduceIte, Nat.reduceAdd, AV.cells, AV.isTuple, setMany, alen, aiaddr, afill, Nat.reduceLeDiff, Nat.reduceMul, Nat.reduceLT, afillE, List.replicate, Bool.not_false]; exact out_bool
          | true =>
            simp only [walkS, wl, rgets, retv, argsEnv, ev, cst, cst1, cstL, AEnv.get, AEnv.trim, envput, qstep, abin, aun, evs, evo, deref, qload, target, if_true, if_false, Nat.reduceEqDiff, reduceIte, Nat.reduceAdd, AV.cells, AV.isTuple, setMany, alen, aiaddr, afill, Nat.reduceLeDiff, Nat.reduceMul, Nat.reduceLT, afillE, List.replicate, Bool.not_true]
            refine D.sum hw hx ?_
            simp only [walkS, wl, rgets, retv, argsEnv, ev, cst, cst1, cstL, AEnv.get, AEnv.trim, envput, qstep, abin, aun, evs, evo, deref, qload, target, if_true, if_false, Nat.reduceEqDiff, reduceIte, Nat.reduceAdd, AV.cells, AV.isTuple, setMany, alen, aiaddr, afill, Nat.reduceLeDiff, Nat.reduceMul, Nat.reduceLT, afillE, List.replicate]
            rw [last (H := H2) rfl hx]; exact out_bool
  · have hmv : mostV m ds ws = (0, false, bestE m ds ws) := by unfold mostV; rw [if_neg he]
    rw [hmv]
    have e1 : (bestE m ds ws != 0) = true := by simp [he]
    simp only [walkS, wl, rgets, retv, argsEnv, ev, cst, cst1, cstL, AEnv.get, AEnv.trim, envput, qstep, abin, aun, evs, evo, deref, qload, target, if_true, if_false, Nat.reduceEqDiff, reduceIte, Nat.reduceAdd, AV.cells, AV.isTuple, setMany, alen, aiaddr, afill, Nat.reduceLeDiff, Nat.reduceMul, Nat.reduceLT, afillE, List.replicate, e1, beq_self_eq_true, Bool.not_false]
    exact out_bool
theorem law12_ok {n most : Int} {ds : List Df} {ws xs fl : List Int} (hlw : ws.length ≤ big) (hlx : xs.length ≤ big) (hlf : fl.length ≤ big) : PCall Try.prog 12 [.agg [I n, .ro false (rows ds)], .ro false (ic ws), .ro false (ic xs), I most, .ro false (ic fl)] (.bool true) := by
  refine PCall.intro text12 (by simp) ?_
  unfold ir12
  simp only [walkS, wl, rgets, retv, argsEnv, ev, cst, cst1, cstL, AEnv.get, AEnv.trim, envput, qstep, abin, aun, evs, evo, deref, qload, target, if_true, if_false, Nat.reduceEqDiff, reduceIte, Nat.reduceAdd, AV.cells, AV.isTuple, setMany, alen, aiaddr, afill, Nat.reduceLeDiff, Nat.reduceMul, Nat.reduceLT, afillE, List.replicate]
  refine call_pure sane_ok (frzL_of' (d := 4) rfl) ?_
  simp only [walkS, wl, rgets, retv, argsEnv, ev, cst, cst1, cstL, AEnv.get, AEnv.trim, envput, qstep, abin, aun, evs, evo, deref, qload, target, if_true, if_false, Nat.reduceEqDiff, reduceIte, Nat.reduceAdd, AV.cells, AV.isTuple, setMany, alen, aiaddr, afill, Nat.reduceLeDiff, Nat.reduceMul, Nat.reduceLT, afillE, List.replicate]
  refine call_pure (check_ok n ds) (frzL_of' (d := 4) (carL_cons car_netF rfl)) ?_
  simp only [walkS, wl, rgets, retv, argsEnv, ev, cst, cst1, cstL, AEnv.get, AEnv.trim, envput, qstep, abin, aun, evs, evo, deref, qload, target, if_true, if_false, Nat.reduceEqDiff, reduceIte, Nat.reduceAdd, AV.cells, AV.isTuple, setMany, alen, aiaddr, afill, Nat.reduceLeDiff, Nat.reduceMul, Nat.reduceLT, afillE, List.replicate]
  refine withGuard_intro ?_ ?_ <;> intro h <;> simp only [walkS, wl, rgets, retv, argsEnv, ev, cst, cst1, cstL, AEnv.get, AEnv.trim, envput, qstep, abin, aun, evs, evo, deref, qload, target, if_true, if_false, Nat.reduceEqDiff, reduceIte, Nat.reduceAdd, AV.cells, AV.isTuple, setMany, alen, aiaddr, afill, Nat.reduceLeDiff, Nat.reduceMul, Nat.reduceLT, afillE, List.replicate, h]
  · have hv := check_eq (n := n) (ds := ds) (by simpa using h)
    refine call_pure (small_ok (n := n) (ds := ds)) (frzL_of' (d := 4) (carL_cons car_netF rfl)) ?_
    simp only [walkS, wl, rgets, retv, argsEnv, ev, cst, cst1, cstL, AEnv.get, AEnv.trim, envput, qstep, abin, aun, evs, evo, deref, qload, target, if_true, if_false, Nat.reduceEqDiff, reduceIte, Nat.reduceAdd, AV.cells, AV.isTuple, setMany, alen, aiaddr, afill, Nat.reduceLeDiff, Nat.reduceMul, Nat.reduceLT, afillE, List.replicate]
    generalize hsm : (decide (n ≤ 16) && decide (ds.length ≤ 60)) = sm
    cases sm with
    | false => simp only [walkS, wl, rgets, retv, argsEnv, ev, cst, cst1, cstL, AEnv.get, AEnv.trim, envput, qstep, abin, aun, evs, evo, deref, qload, target, if_true, if_false, Nat.reduceEqDiff, reduceIte, Nat.reduceAdd, AV.cells, AV.isTuple, setMany, alen, aiaddr, afill, Nat.reduceLeDiff, Nat.reduceMul, Nat.reduceLT, afillE, List.replicate, Bool.not_false]; exact out_bool
    | true =>
      simp at hsm
      obtain ⟨m, rfl, hg, hm⟩ := good_of hv hsm.1
      have hld : ds.length ≤ big := by unfold big; omega
      by_cases l1 : ws.length = m
      · have e1 : ((ws.length : Int) != (m : Int)) = false := by simp [l1]
        simp only [walkS, wl, rgets, retv, argsEnv, ev, cst, cst1, cstL, AEnv.get, AEnv.trim, envput, qstep, abin, aun, evs, evo, deref, qload, target, if_true, if_false, Nat.reduceEqDiff, reduceIte, Nat.reduceAdd, AV.cells, AV.isTuple, setMany, alen, aiaddr, afill, Nat.reduceLeDiff, Nat.reduceMul, Nat.reduceLT, afillE, List.replicate, Bool.not_true, ic_length, e1]
        refine call_pure (CheckFlow_ok (n := m) (most := most) (ds := ds) (ws := ws) (fl := fl) hlw hlf) (frzL_of' (d := 4) (carL_cons car_netF (carL_cons car_icF (carL_cons rfl (carL_cons car_icF rfl))))) ?_
        have D : D12 m ds ws xs fl most := ⟨hv, hg, hsm, l1, hlx, hlf⟩
        by_cases hck : ckFlow m ds ws most fl = 0
        · have hb : (ckFlow m ds ws most fl == 0) = true := by simp [hck]
          obtain ⟨hw, _, hbr, hc⟩ := ck_zero hck
          simp only [walkS, wl, rgets, retv, argsEnv, ev, cst, cst1, cstL, AEnv.get, AEnv.trim, envput, qstep, abin, aun, evs, evo, deref, qload, target, if_true, if_false, Nat.reduceEqDiff, reduceIte, Nat.reduceAdd, AV.cells, AV.isTuple, setMany, alen, aiaddr, afill, Nat.reduceLeDiff, Nat.reduceMul, Nat.reduceLT, afillE, List.replicate, hb]
          refine call_pure (fulfils_ok (n := m) (ds := ds) (xs := xs) (b := false) hlx hld) (frzL_of' (d := 4) (carL_cons car_netF (carL_cons car_icF rfl))) ?_
          cases hx : fulf m ds xs with
          | false => simp only [walkS, wl, rgets, retv, argsEnv, ev, cst, cst1, cstL, AEnv.get, AEnv.trim, envput, qstep, abin, aun, evs, evo, deref, qload, target, if_true, if_false, Nat.reduceEqDiff, reduceIte, Nat.reduceAdd, AV.cells, AV.isTuple, setMany, alen, aiaddr, afill, Nat.reduceLeDiff, Nat.reduceMul, Nat.reduceLT, afillE, List.replicate]; (refine law12_rest D hb.symm ?_; rfl)
          | true =>
            simp only [walkS, wl, rgets, retv, argsEnv, ev, cst, cst1, cstL, AEnv.get, AEnv.trim, envput, qstep, abin, aun, evs, evo, deref, qload, target, if_true, if_false, Nat.reduceEqDiff, reduceIte, Nat.reduceAdd, AV.cells, AV.isTuple, setMany, alen, aiaddr, afill, Nat.reduceLeDiff, Nat.reduceMul, Nat.reduceLT, afillE, List.replicate]
            refine D.sum hw hx ?_
            obtain ⟨_, f2, f3, _⟩ := fulf_feas hv hx
            have := hbr.weak D.hf f2 f3
            have hd : decide (dot m (wg ws) (wg xs) > most) = false := by simp; omega
            simp only [walkS, wl, rgets, retv, argsEnv, ev, cst, cst1, cstL, AEnv.get, AEnv.trim, envput, qstep, abin, aun, evs, evo, deref, qload, target, if_true, if_false, Nat.reduceEqDiff, reduceIte, Nat.reduceAdd, AV.cells, AV.isTuple, setMany, alen, aiaddr, afill, Nat.reduceLeDiff, Nat.reduceMul, Nat.reduceLT, afillE, List.replicate, hd]
            (refine law12_rest D hb.symm ?_; rfl)
        · have hb : (ckFlow m ds ws most fl == 0) = false := by simp [hck]
          simp only [walkS, wl, rgets, retv, argsEnv, ev, cst, cst1, cstL, AEnv.get, AEnv.trim, envput, qstep, abin, aun, evs, evo, deref, qload, target, if_true, if_false, Nat.reduceEqDiff, reduceIte, Nat.reduceAdd, AV.cells, AV.isTuple, setMany, alen, aiaddr, afill, Nat.reduceLeDiff, Nat.reduceMul, Nat.reduceLT, afillE, List.replicate, hb]
          (refine law12_rest D hb.symm ?_; rfl)
      · have e1 : ((ws.length : Int) != (m : Int)) = true := by simp; omega
        simp only [walkS, wl, rgets, retv, argsEnv, ev, cst, cst1, cstL, AEnv.get, AEnv.trim, envput, qstep, abin, aun, evs, evo, deref, qload, target, if_true, if_false, Nat.reduceEqDiff, reduceIte, Nat.reduceAdd, AV.cells, AV.isTuple, setMany, alen, aiaddr, afill, Nat.reduceLeDiff, Nat.reduceMul, Nat.reduceLT, afillE, List.replicate, Bool.not_true, ic_length, e1]
        exact out_bool
  · exact out_bool
end Go.Proofs.Ytepnijjgdhldeaa
