/- Contracts: the specification's histories. -/
import Derived.Test.YtgadlckkmhhmbaaDoorQC13
import Derived.Test.YtgadlckkmhhmbaaDoorQTR
set_option linter.unusedVariables false
set_option linter.unusedSimpArgs false
set_option linter.unusedSectionVars false
namespace Go.Proofs.YtgadlckkmhhmbaaDoor
open Go.Awp Go.Grams
set_option linter.unusedSimpArgs false
set_option linter.unusedVariables false
set_option linter.unusedSectionVars false
set_option maxRecDepth 10000
theorem hist_of_pairs {rate known : Int} {ts : List Tst} {l : List (Int × Int)} (h1 : ∀ p, p ∈ l → (driftV rate ts p.1 known).1 ≤ p.2 ∧ p.2 ≤ (driftV rate ts p.1 known).2) (h2 : ∀ i j (hi : i < j) (hj : j < l.length), near rate (l[i]'(by omega)) l[j]) : hist rate ts known l := by
  refine ⟨h1, fun i j hi hj => ?_⟩
  rcases Nat.lt_trichotomy i j with h | h | h
  · exact h2 i j h hj
  · subst h; exact near_self _
  · exact near_symm (h2 j i h hi)
theorem car_ic {b : Bool} {H : AHeap} {d : Nat} {l : List Int} : carry false H (d + 2) (.ro b (ic l)) = some (.ro false (ic l)) := car_ro (ic_simple _) (.inl rfl)
theorem rhistory_ok {no rate known : Int} {ts : List Tst} {days grams : List Int} (hw : well no rate ts = true) (hc : calm rate ts) (hl : days.length = grams.length) (hr : risingV days = true) : PCall Tryd.prog 92 [sc no rate ts, I known, .ro false (ic days), .ro false (ic grams)] (.bool (histB rate ts known (days.zip grams))) := by
  refine PCall.intro text92 (by simp) ?_
  unfold ir92
  obtain ⟨-, hrate, hlen, hok, -⟩ := well_iff.1 hw
  obtain ⟨hd, hup, hd64⟩ := risingV_iff.1 hr
  obtain ⟨L, hL⟩ : ∃ L, L = days.zip grams := ⟨_, rfl⟩
  have hLl : L.length = days.length := by rw [hL]; simp; omega
  have hLg : ∀ k (h : k < days.length), L[k]'(by omega) = (days[k], grams[k]'(by omega)) := fun k h => by simp [hL]
  rw [← hL]
  simp only [walk, wl, rgets, retv, argsEnv, ev, cst, cst1, cstL, AEnv.get, AEnv.trim, envput, qstep, abin, aun, evs, evo, deref, qload, target, if_true, if_false, Nat.reduceEqDiff, reduceIte, Nat.reduceAdd, AV.cells, AV.isTuple, setMany, alen, aiaddr, afill, Nat.reduceLeDiff, Nat.reduceMul, Nat.reduceLT, afillE, List.replicate]
  refine awp_loop (σ := Nat) (fun k => [(1, I known), (2, .ro false (ic days)), (3, .ro false (ic grams)), (4, .ptr 0 1 0 0), (9, I k)]) (fun _ H => AHeap.obj H 0 = some ⟨24, 3, [[I no, I rate, .ro false (trows ts)]]⟩) (fun k => k ≤ days.length ∧ (∀ j (h : j < days.length), j < k → (driftV rate ts days[j] known).1 ≤ grams[j]'(by omega) ∧ grams[j]'(by omega) ≤ (driftV rate ts days[j] known).2) ∧ ∀ i j (hij : i < j) (h : j < days.length), j < k → near rate (L[i]'(by omega)) (L[j]'(by omega))) (fun k => days.length - k) 0 ⟨Nat.zero_le _, fun j _ hj => absurd hj (Nat.not_lt_zero _), fun i j _ _ hj => absurd hj (Nat.not_lt_zero _)⟩ rfl rfl ?_
  rintro k H ⟨hk, hin, hst⟩ hH
  simp only [walk, wl, rgets, retv, argsEnv, ev, cst, cst1, cstL, AEnv.get, AEnv.trim, envput, qstep, abin, aun, evs, evo, deref, qload, target, if_true, if_false, Nat.reduceEqDiff, reduceIte, Nat.reduceAdd, AV.cells, AV.isTuple, setMany, alen, aiaddr, afill, Nat.reduceLeDiff, Nat.reduceMul, Nat.reduceLT, afillE, List.replicate, ic_length]
  refine withBool_intro ?_ ?_ <;> intro hb <;> simp only [walk, wl, rgets, retv, argsEnv, ev, cst, cst1, cstL, AEnv.get, AEnv.trim, envput, qstep, abin, aun, evs, evo, deref, qload, target, if_true, if_false, Nat.reduceEqDiff, reduceIte, Nat.reduceAdd, AV.cells, AV.isTuple, setMany, alen, aiaddr, afill, Nat.reduceLeDiff, Nat.reduceMul, Nat.reduceLT, afillE, List.replicate]
  · have hlt : k < days.length := by simpa using hb
    have hlg : k < grams.length := by omega
    have w1 := w_succ (k := k) (by omega)
    have hdk := okDay_iff.1 (hd _ (List.getElem_mem hlt))
    have box := drift_box (on := days[k]) (known := known) hrate.1 hok hc
    simp only [walkS, wl, rgets, retv, argsEnv, ev, cst, cst1, cstL, AEnv.get, AEnv.trim, envput, qstep, abin, aun, evs, evo, deref, qload, target, if_true, if_false, Nat.reduceEqDiff, reduceIte, Nat.reduceAdd, AV.cells, AV.isTuple, setMany, alen, aiaddr, afill, Nat.reduceLeDiff, Nat.reduceMul, Nat.reduceLT, afillE, List.replicate, ic_get hlt, hH]
    refine dcall_pure (rdrift_ok (known := known) hw (by omega)) (fun X => frzL_of (d := 4) (carL_cons car_sc rfl) X) ?_
    simp only [walkS, wl, rgets, retv, argsEnv, ev, cst, cst1, cstL, AEnv.get, AEnv.trim, envput, qstep, abin, aun, evs, evo, deref, qload, target, if_true, if_false, Nat.reduceEqDiff, reduceIte, Nat.reduceAdd, AV.cells, AV.isTuple, setMany, alen, aiaddr, afill, Nat.reduceLeDiff, Nat.reduceMul, Nat.reduceLT, afillE, List.replicate]
    refine storeR rfl rfl AHeap.obj_push_eq rfl ⟨rfl, rfl, rfl, by simp⟩ fun H1 y1 y2 y3 => ?_
    simp only [AV.cells, setMany, List.set_cons_zero, List.set_cons_succ] at y2
    have hH1 := (y3 0 (by have := AHeap.obj_lt hH; omega)).trans (obj_keep hH)
    simp only [walkS, wl, rgets, retv, argsEnv, ev, cst, cst1, cstL, AEnv.get, AEnv.trim, envput, qstep, abin, aun, evs, evo, deref, qload, target, if_true, if_false, Nat.reduceEqDiff, reduceIte, Nat.reduceAdd, AV.cells, AV.isTuple, setMany, alen, aiaddr, afill, Nat.reduceLeDiff, Nat.reduceMul, Nat.reduceLT, afillE, List.replicate, y2, ic_get hlg]
    have bad1 : ¬ ((driftV rate ts days[k] known).1 ≤ grams[k] ∧ grams[k] ≤ (driftV rate ts days[k] known).2) → histB rate ts known L = false := fun h => histB_f fun hh => h (by
      have := hh.1 L[k] (List.getElem_mem _)
      rw [hLg k hlt] at this; exact this)
    refine withGuard_intro ?_ ?_ <;> intro g1 <;> simp only [walkS, wl, rgets, retv, argsEnv, ev, cst, cst1, cstL, AEnv.get, AEnv.trim, envput, qstep, abin, aun, evs, evo, deref, qload, target, if_true, if_false, Nat.reduceEqDiff, reduceIte, Nat.reduceAdd, AV.cells, AV.isTuple, setMany, alen, aiaddr, afill, Nat.reduceLeDiff, Nat.reduceMul, Nat.reduceLT, afillE, List.replicate, g1, y2, ic_get hlg]
    · refine withBool_intro ?_ ?_ <;> intro g2 <;> simp only [walkS, wl, rgets, retv, argsEnv, ev, cst, cst1, cstL, AEnv.get, AEnv.trim, envput, qstep, abin, aun, evs, evo, deref, qload, target, if_true, if_false, Nat.reduceEqDiff, reduceIte, Nat.reduceAdd, AV.cells, AV.isTuple, setMany, alen, aiaddr, afill, Nat.reduceLeDiff, Nat.reduceMul, Nat.reduceLT, afillE, List.replicate]
      · rw [bad1 (by simp at g1 g2; omega)]; exact out_bool
      · have hink : (driftV rate ts days[k] known).1 ≤ grams[k] ∧ grams[k] ≤ (driftV rate ts days[k] known).2 := by simp at g1 g2; omega
        have hin' : ∀ j (h : j < days.length), j < k + 1 → (driftV rate ts days[j] known).1 ≤ grams[j]'(by omega) ∧ grams[j]'(by omega) ≤ (driftV rate ts days[j] known).2 := fun j h hj => by
          rcases Nat.lt_or_ge j k with h2 | h2
          · exact hin j h h2
          · obtain rfl : j = k := by omega
            exact hink
        refine awp_loop (σ := Nat) (fun m => [(1, I known), (2, .ro false (ic days)), (3, .ro false (ic grams)), (4, .ptr 0 1 0 0), (9, I k), (11, I m)]) (fun _ H => AHeap.obj H 0 = some ⟨24, 3, [[I no, I rate, .ro false (trows ts)]]⟩) (fun m => m ≤ k ∧ ∀ j (h : j < k), j < m → near rate (L[j]'(by omega)) (L[k]'(by omega))) (fun m => k - m) 0 ⟨Nat.zero_le _, fun j _ hj => absurd hj (Nat.not_lt_zero _)⟩ rfl hH1 ?_
        rintro m H2 ⟨hm, hnear⟩ hH2
        simp only [walkS, wl, rgets, retv, argsEnv, ev, cst, cst1, cstL, AEnv.get, AEnv.trim, envput, qstep, abin, aun, evs, evo, deref, qload, target, if_true, if_false, Nat.reduceEqDiff, reduceIte, Nat.reduceAdd, AV.cells, AV.isTuple, setMany, alen, aiaddr, afill, Nat.reduceLeDiff, Nat.reduceMul, Nat.reduceLT, afillE, List.replicate]
        refine withBool_intro ?_ ?_ <;> intro hb2 <;> simp only [walkS, wl, rgets, retv, argsEnv, ev, cst, cst1, cstL, AEnv.get, AEnv.trim, envput, qstep, abin, aun, evs, evo, deref, qload, target, if_true, if_false, Nat.reduceEqDiff, reduceIte, Nat.reduceAdd, AV.cells, AV.isTuple, setMany, alen, aiaddr, afill, Nat.reduceLeDiff, Nat.reduceMul, Nat.reduceLT, afillE, List.replicate]
        · have hmk : m < k := by simpa using hb2
          have hmd : m < days.length := by omega
          have hmg : m < grams.length := by omega
          have w2 := w_succ (k := m) (by omega)
          have hdm := okDay_iff.1 (hd _ (List.getElem_mem hmd))
          have hinm := hin m hmd hmk
          have boxm := drift_box (on := days[m]) (known := known) hrate.1 hok hc
          have hbd := rf_bd (a := days[k]) (b := days[m]) hrate (by omega) (by omega)
          have e2 : IntKind.i64.wrap (rate * far days[k] days[m]) = rate * far days[k] days[m] := wrap_id (by omega) (by omega)
          have e3 : IntKind.i64.wrap (grams[k] - grams[m]) = grams[k] - grams[m] := wrap_id (by omega) (by omega)
          have e4 : IntKind.i64.wrap (grams[m] - grams[k]) = grams[m] - grams[k] := wrap_id (by omega) (by omega)
          have hnr : near rate (L[m]'(by omega)) (L[k]'(by omega)) ↔ far grams[m] grams[k] ≤ rate * far days[k] days[m] := by
            rw [hLg k hlt, hLg m hmd]; unfold near; rw [far_comm days[m]]
          simp only [walkS, wl, rgets, retv, argsEnv, ev, cst, cst1, cstL, AEnv.get, AEnv.trim, envput, qstep, abin, aun, evs, evo, deref, qload, target, if_true, if_false, Nat.reduceEqDiff, reduceIte, Nat.reduceAdd, AV.cells, AV.isTuple, setMany, alen, aiaddr, afill, Nat.reduceLeDiff, Nat.reduceMul, Nat.reduceLT, afillE, List.replicate, hH2, ic_get hlt, ic_get hmd]
          refine dcall_pure (rfar_ok (by omega) (by omega)) (frzL_of (d := 1) rfl) ?_
          have f1 : grams[k] - grams[m] ≤ far grams[m] grams[k] := by unfold far; omega
          have f2 : grams[m] - grams[k] ≤ far grams[m] grams[k] := by unfold far; omega
          have f3 : far grams[m] grams[k] = grams[k] - grams[m] ∨ far grams[m] grams[k] = grams[m] - grams[k] := by unfold far; omega
          have bad2 : ¬ far grams[m] grams[k] ≤ rate * far days[k] days[m] → histB rate ts known L = false := fun h => histB_f fun hh => h (hnr.1 (hh.2 m k (by omega) (by omega)))
          simp only [walkS, wl, rgets, retv, argsEnv, ev, cst, cst1, cstL, AEnv.get, AEnv.trim, envput, qstep, abin, aun, evs, evo, deref, qload, target, if_true, if_false, Nat.reduceEqDiff, reduceIte, Nat.reduceAdd, AV.cells, AV.isTuple, setMany, alen, aiaddr, afill, Nat.reduceLeDiff, Nat.reduceMul, Nat.reduceLT, afillE, List.replicate, e2, ic_get hlg, ic_get hmg, e3]
          refine withGuard_intro ?_ ?_ <;> intro g3 <;> simp only [walkS, wl, rgets, retv, argsEnv, ev, cst, cst1, cstL, AEnv.get, AEnv.trim, envput, qstep, abin, aun, evs, evo, deref, qload, target, if_true, if_false, Nat.reduceEqDiff, reduceIte, Nat.reduceAdd, AV.cells, AV.isTuple, setMany, alen, aiaddr, afill, Nat.reduceLeDiff, Nat.reduceMul, Nat.reduceLT, afillE, List.replicate, g3, ic_get hlg, ic_get hmg, e4]
          · refine withBool_intro ?_ ?_ <;> intro g4 <;> simp only [walkS, wl, rgets, retv, argsEnv, ev, cst, cst1, cstL, AEnv.get, AEnv.trim, envput, qstep, abin, aun, evs, evo, deref, qload, target, if_true, if_false, Nat.reduceEqDiff, reduceIte, Nat.reduceAdd, AV.cells, AV.isTuple, setMany, alen, aiaddr, afill, Nat.reduceLeDiff, Nat.reduceMul, Nat.reduceLT, afillE, List.replicate, w2]
            · rw [bad2 (by simp at g4; omega)]; exact out_bool
            · refine loop_end (m + 1) ⟨hmk, fun j hj hjm => ?_⟩ (by omega) rfl hH2
              rcases Nat.lt_or_ge j m with h2 | h2
              · exact hnear j hj h2
              · obtain rfl : j = m := by omega
                exact hnr.2 (by simp at g3 g4; omega)
          · rw [bad2 (by simp at g3; omega)]; exact out_bool
        · have hmk : m = k := by simp at hb2; omega
          subst hmk
          rw [w1]
          refine loop_end (m + 1) ⟨hlt, hin', fun i j hij h hj => ?_⟩ (by omega) rfl hH2
          rcases Nat.lt_or_ge j m with h2 | h2
          · exact hst i j hij h h2
          · obtain rfl : j = m := by omega
            exact hnear i hij hij
    · rw [bad1 (by simp at g1; omega)]; exact out_bool
  · have hk' : k = days.length := by simp at hb; omega
    subst hk'
    have : histB rate ts known L = true := histB_t (hist_of_pairs (fun p hp => by
      obtain ⟨j, hj, rfl⟩ := List.getElem_of_mem hp
      rw [hLg j (by omega)]; exact hin j (by omega) (by omega)) (fun i j hij hj => hst i j hij (by omega) (by omega)))
    rw [this]; exact out_bool
theorem rgiven_ok (no rate known : Int) (ts : List Tst) (days grams : List Int) : PCall Tryd.prog 91 [sc no rate ts, I known, .ro false (ic days), .ro false (ic grams)] (I (hisE no rate ts known days grams)) := by
  refine PCall.intro text91 (by simp) ?_
  unfold ir91
  simp only [walk, wl, rgets, retv, argsEnv, ev, cst, cst1, cstL, AEnv.get, AEnv.trim, envput, qstep, abin, aun, evs, evo, deref, qload, target, if_true, if_false, Nat.reduceEqDiff, reduceIte, Nat.reduceAdd, AV.cells, AV.isTuple, setMany, alen, aiaddr, afill, Nat.reduceLeDiff, Nat.reduceMul, Nat.reduceLT, afillE, List.replicate]
  refine call_pure (rCheckScale_ok no rate ts) (frzL_of' (d := 4) (carL_cons car_sc rfl)) ?_
  simp only [walk, wl, rgets, retv, argsEnv, ev, cst, cst1, cstL, AEnv.get, AEnv.trim, envput, qstep, abin, aun, evs, evo, deref, qload, target, if_true, if_false, Nat.reduceEqDiff, reduceIte, Nat.reduceAdd, AV.cells, AV.isTuple, setMany, alen, aiaddr, afill, Nat.reduceLeDiff, Nat.reduceMul, Nat.reduceLT, afillE, List.replicate]
  refine withBool_intro ?_ ?_ <;> intro h1 <;> simp only [walk, wl, rgets, retv, argsEnv, ev, cst, cst1, cstL, AEnv.get, AEnv.trim, envput, qstep, abin, aun, evs, evo, deref, qload, target, if_true, if_false, Nat.reduceEqDiff, reduceIte, Nat.reduceAdd, AV.cells, AV.isTuple, setMany, alen, aiaddr, afill, Nat.reduceLeDiff, Nat.reduceMul, Nat.reduceLT, afillE, List.replicate]
  · have : hisE no rate ts known days grams = chkS no rate ts := by simp at h1; simp [hisE, h1]
    rw [this]; exact out_int
  · have h1' : chkS no rate ts = 0 := by simpa using h1
    have bad : ¬ (okDay known = true ∧ days.length = grams.length ∧ risingV days = true) → hisE no rate ts known days grams = 1 := fun h => by
      unfold hisE; rw [if_neg (by simp [h1']), if_neg h]
    refine call_pure (rDay_ok known) (frzL_of' (d := 1) rfl) ?_
    simp only [walk, wl, rgets, retv, argsEnv, ev, cst, cst1, cstL, AEnv.get, AEnv.trim, envput, qstep, abin, aun, evs, evo, deref, qload, target, if_true, if_false, Nat.reduceEqDiff, reduceIte, Nat.reduceAdd, AV.cells, AV.isTuple, setMany, alen, aiaddr, afill, Nat.reduceLeDiff, Nat.reduceMul, Nat.reduceLT, afillE, List.replicate]
    refine call_pure (rRising_ok days) (frzL_of' (d := 4) (carL_cons car_ic rfl)) ?_
    simp only [walk, wl, rgets, retv, argsEnv, ev, cst, cst1, cstL, AEnv.get, AEnv.trim, envput, qstep, abin, aun, evs, evo, deref, qload, target, if_true, if_false, Nat.reduceEqDiff, reduceIte, Nat.reduceAdd, AV.cells, AV.isTuple, setMany, alen, aiaddr, afill, Nat.reduceLeDiff, Nat.reduceMul, Nat.reduceLT, afillE, List.replicate]
    refine withGuard_intro ?_ ?_ <;> intro h2 <;> simp only [walk, wl, rgets, retv, argsEnv, ev, cst, cst1, cstL, AEnv.get, AEnv.trim, envput, qstep, abin, aun, evs, evo, deref, qload, target, if_true, if_false, Nat.reduceEqDiff, reduceIte, Nat.reduceAdd, AV.cells, AV.isTuple, setMany, alen, aiaddr, afill, Nat.reduceLeDiff, Nat.reduceMul, Nat.reduceLT, afillE, List.replicate, h2]
    · refine withGuard_intro ?_ ?_ <;> intro h3 <;> simp only [walk, wl, rgets, retv, argsEnv, ev, cst, cst1, cstL, AEnv.get, AEnv.trim, envput, qstep, abin, aun, evs, evo, deref, qload, target, if_true, if_false, Nat.reduceEqDiff, reduceIte, Nat.reduceAdd, AV.cells, AV.isTuple, setMany, alen, aiaddr, afill, Nat.reduceLeDiff, Nat.reduceMul, Nat.reduceLT, afillE, List.replicate, h3, ic_length]
      · refine withBool_intro ?_ ?_ <;> intro h4 <;> simp only [walk, wl, rgets, retv, argsEnv, ev, cst, cst1, cstL, AEnv.get, AEnv.trim, envput, qstep, abin, aun, evs, evo, deref, qload, target, if_true, if_false, Nat.reduceEqDiff, reduceIte, Nat.reduceAdd, AV.cells, AV.isTuple, setMany, alen, aiaddr, afill, Nat.reduceLeDiff, Nat.reduceMul, Nat.reduceLT, afillE, List.replicate]
        · rw [bad (by simp at h4; omega)]; exact out_int
        · have : hisE no rate ts known days grams = 0 := by
            unfold hisE; rw [if_neg (by simp [h1']), if_pos]
            simp at h2 h3 h4
            exact ⟨h2, by omega, h3⟩
          rw [this]; exact out_int
      · rw [bad (by simp at h3; simp [h3])]; exact out_int
    · rw [bad (by simp at h2; simp [h2])]; exact out_int
noncomputable def hisV (no rate : Int) (ts : List Tst) (known : Int) (days grams : List Int) : AV := .tuple [.bool (hisB no rate ts known days grams), I (hisE no rate ts known days grams)]
theorem his_bad {no rate known e : Int} {ts : List Tst} {days grams : List Int} (he : hisE no rate ts known days grams = e) (h0 : e ≠ 0) (H : AHeap) : Out H (.tuple [.bool false, I e]) (hisV no rate ts known days grams) := by
  have : hisB no rate ts known days grams = false := by simp [hisB, he, h0]
  unfold hisV; rw [this, he]; exact out_two out_bool out_int
theorem his_good {no rate known : Int} {ts : List Tst} {days grams : List Int} (he : hisE no rate ts known days grams = 0) (H : AHeap) : Out H (.tuple [.bool (histB rate ts known (days.zip grams)), I 0]) (hisV no rate ts known days grams) := by
  have : hisB no rate ts known days grams = histB rate ts known (days.zip grams) := by simp [hisB, he]
  unfold hisV; rw [this, he]; exact out_two out_bool out_int
theorem rHistory_ok (no rate known : Int) (ts : List Tst) (days grams : List Int) : PCall Tryd.prog 33 [sc no rate ts, I known, .ro false (ic days), .ro false (ic grams)] (hisV no rate ts known days grams) := by
  refine PCall.intro text33 (by simp) ?_
  unfold ir33
  simp only [walk, wl, rgets, retv, argsEnv, ev, cst, cst1, cstL, AEnv.get, AEnv.trim, envput, qstep, abin, aun, evs, evo, deref, qload, target, if_true, if_false, Nat.reduceEqDiff, reduceIte, Nat.reduceAdd, AV.cells, AV.isTuple, setMany, alen, aiaddr, afill, Nat.reduceLeDiff, Nat.reduceMul, Nat.reduceLT, afillE, List.replicate]
  refine call_pure (rgiven_ok no rate known ts days grams) (frzL_of' (d := 4) (carL_cons car_sc (carL_cons car_int (carL_cons car_ic (carL_cons car_ic rfl))))) ?_
  simp only [walk, wl, rgets, retv, argsEnv, ev, cst, cst1, cstL, AEnv.get, AEnv.trim, envput, qstep, abin, aun, evs, evo, deref, qload, target, if_true, if_false, Nat.reduceEqDiff, reduceIte, Nat.reduceAdd, AV.cells, AV.isTuple, setMany, alen, aiaddr, afill, Nat.reduceLeDiff, Nat.reduceMul, Nat.reduceLT, afillE, List.replicate]
  refine withBool_intro ?_ ?_ <;> intro h1 <;> simp only [walk, wl, rgets, retv, argsEnv, ev, cst, cst1, cstL, AEnv.get, AEnv.trim, envput, qstep, abin, aun, evs, evo, deref, qload, target, if_true, if_false, Nat.reduceEqDiff, reduceIte, Nat.reduceAdd, AV.cells, AV.isTuple, setMany, alen, aiaddr, afill, Nat.reduceLeDiff, Nat.reduceMul, Nat.reduceLT, afillE, List.replicate]
  · exact his_bad rfl (by simpa using h1) _
  · have h0 : hisE no rate ts known days grams = 0 := by simpa using h1
    obtain ⟨hw, hc, -, hl, hr⟩ := hisE_zero h0
    refine call_pure (rhistory_ok (known := known) hw hc hl hr) (frzL_of' (d := 4) (carL_cons car_sc (carL_cons car_int (carL_cons car_ic (carL_cons car_ic rfl))))) ?_
    simp only [walk, wl, rgets, retv, argsEnv, ev, cst, cst1, cstL, AEnv.get, AEnv.trim, envput, qstep, abin, aun, evs, evo, deref, qload, target, if_true, if_false, Nat.reduceEqDiff, reduceIte, Nat.reduceAdd, AV.cells, AV.isTuple, setMany, alen, aiaddr, afill, Nat.reduceLeDiff, Nat.reduceMul, Nat.reduceLT, afillE, List.replicate]
    exact his_good h0 _
theorem ask1 {no rate known : Int} {ts : List Tst} : askV no rate ts [known] = if chkS no rate ts ≠ 0 then chkS no rate ts else if okDay known = true then 0 else 1 := by simp [askV]
theorem History_ok (no rate known : Int) (ts : List Tst) (days grams : List Int) (hd : days.length ≤ 1000) : PCall Tryd.prog 32 [sc no rate ts, I known, .ro false (ic days), .ro false (ic grams)] (hisV no rate ts known days grams) := by
  refine PCall.intro text32 (by simp) ?_
  unfold ir32
  simp only [walk, wl, rgets, retv, argsEnv, ev, cst, cst1, cstL, AEnv.get, AEnv.trim, envput, qstep, abin, aun, evs, evo, deref, qload, target, if_true, if_false, Nat.reduceEqDiff, reduceIte, Nat.reduceAdd, AV.cells, AV.isTuple, setMany, alen, aiaddr, afill, Nat.reduceLeDiff, Nat.reduceMul, Nat.reduceLT, afillE, List.replicate]
  refine call_pure (ask_ok no rate ts [known] (by simp)) (frzL_of' (d := 4) (carL_cons car_sc (carL_cons (car_own1 rfl) rfl))) ?_
  simp only [walk, wl, rgets, retv, argsEnv, ev, cst, cst1, cstL, AEnv.get, AEnv.trim, envput, qstep, abin, aun, evs, evo, deref, qload, target, if_true, if_false, Nat.reduceEqDiff, reduceIte, Nat.reduceAdd, AV.cells, AV.isTuple, setMany, alen, aiaddr, afill, Nat.reduceLeDiff, Nat.reduceMul, Nat.reduceLT, afillE, List.replicate]
  refine withBool_intro ?_ ?_ <;> intro h1 <;> simp only [walk, wl, rgets, retv, argsEnv, ev, cst, cst1, cstL, AEnv.get, AEnv.trim, envput, qstep, abin, aun, evs, evo, deref, qload, target, if_true, if_false, Nat.reduceEqDiff, reduceIte, Nat.reduceAdd, AV.cells, AV.isTuple, setMany, alen, aiaddr, afill, Nat.reduceLeDiff, Nat.reduceMul, Nat.reduceLT, afillE, List.replicate]
  · refine his_bad ?_ (by simpa using h1) _
    simp only [I, decide_eq_true_eq, ne_eq, bne_iff_ne] at h1
    unfold hisE; unfold askV at h1 ⊢
    by_cases h2 : chkS no rate ts = 0
    · by_cases h3 : okDay known = true
      · simp [h2, h3] at h1
      · simp [h2, h3]
    · simp [h2]
  · have h0 : askV no rate ts [known] = 0 := by simpa using h1
    obtain ⟨hw, hc, hdy⟩ := askV_zero h0
    have hk := hdy known (by simp)
    have h1' : chkS no rate ts = 0 := by
      rw [ask1] at h0; split at h0
      · omega
      · rename_i h; simpa using h
    have bad : ¬ (days.length = grams.length ∧ risingV days = true) → hisE no rate ts known days grams = 1 := fun h => by
      unfold hisE; rw [if_neg (by simp [h1']), if_neg (fun hh => h hh.2)]
    simp only [walk, wl, rgets, retv, argsEnv, ev, cst, cst1, cstL, AEnv.get, AEnv.trim, envput, qstep, abin, aun, evs, evo, deref, qload, target, if_true, if_false, Nat.reduceEqDiff, reduceIte, Nat.reduceAdd, AV.cells, AV.isTuple, setMany, alen, aiaddr, afill, Nat.reduceLeDiff, Nat.reduceMul, Nat.reduceLT, afillE, List.replicate, ic_length]
    refine withGuard_intro ?_ ?_ <;> intro h2 <;> simp only [walk, wl, rgets, retv, argsEnv, ev, cst, cst1, cstL, AEnv.get, AEnv.trim, envput, qstep, abin, aun, evs, evo, deref, qload, target, if_true, if_false, Nat.reduceEqDiff, reduceIte, Nat.reduceAdd, AV.cells, AV.isTuple, setMany, alen, aiaddr, afill, Nat.reduceLeDiff, Nat.reduceMul, Nat.reduceLT, afillE, List.replicate, h2]
    · have hl : days.length = grams.length := by simp at h2; omega
      refine call_pure (rising_ok days hd) (frzL_of' (d := 4) (carL_cons car_ic rfl)) ?_
      simp only [walk, wl, rgets, retv, argsEnv, ev, cst, cst1, cstL, AEnv.get, AEnv.trim, envput, qstep, abin, aun, evs, evo, deref, qload, target, if_true, if_false, Nat.reduceEqDiff, reduceIte, Nat.reduceAdd, AV.cells, AV.isTuple, setMany, alen, aiaddr, afill, Nat.reduceLeDiff, Nat.reduceMul, Nat.reduceLT, afillE, List.replicate]
      refine withBool_intro ?_ ?_ <;> intro h3 <;> simp only [walk, wl, rgets, retv, argsEnv, ev, cst, cst1, cstL, AEnv.get, AEnv.trim, envput, qstep, abin, aun, evs, evo, deref, qload, target, if_true, if_false, Nat.reduceEqDiff, reduceIte, Nat.reduceAdd, AV.cells, AV.isTuple, setMany, alen, aiaddr, afill, Nat.reduceLeDiff, Nat.reduceMul, Nat.reduceLT, afillE, List.replicate]
      · exact his_bad (bad (by simp at h3; simp [h3])) (by decide) _
      · have hr : risingV days = true := by simpa using h3
        refine call_pure (possible_ok (known := known) hw hc hl hr) (frzL_of' (d := 4) (carL_cons car_sc (carL_cons car_int (carL_cons car_ic (carL_cons car_ic rfl))))) ?_
        simp only [walk, wl, rgets, retv, argsEnv, ev, cst, cst1, cstL, AEnv.get, AEnv.trim, envput, qstep, abin, aun, evs, evo, deref, qload, target, if_true, if_false, Nat.reduceEqDiff, reduceIte, Nat.reduceAdd, AV.cells, AV.isTuple, setMany, alen, aiaddr, afill, Nat.reduceLeDiff, Nat.reduceMul, Nat.reduceLT, afillE, List.replicate]
        refine his_good ?_ _
        unfold hisE; rw [if_neg (by simp [h1']), if_pos ⟨hk, hl, hr⟩]
    · exact his_bad (bad (by simp at h2; omega)) (by decide) _
end Go.Proofs.YtgadlckkmhhmbaaDoor
