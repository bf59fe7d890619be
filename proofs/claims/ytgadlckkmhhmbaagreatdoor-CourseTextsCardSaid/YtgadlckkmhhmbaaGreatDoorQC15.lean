/- Contracts: histories on further days. -/
import Derived.Test.YtgadlckkmhhmbaaGreatDoorQC14
import Derived.Test.YtgadlckkmhhmbaaGreatDoorQC6
set_option linter.unusedVariables false
set_option linter.unusedSimpArgs false
set_option linter.unusedSectionVars false
namespace Go.Proofs.YtgadlckkmhhmbaaGreatDoor
open Go.Awp Go.Grams
set_option linter.unusedSimpArgs false
set_option linter.unusedVariables false
set_option linter.unusedSectionVars false
set_option maxRecDepth 10000
noncomputable def extV (no rate : Int) (ts : List Tst) (known : Int) (days grams more : List Int) : AV := .tuple [.ro true (ic (extL no rate ts known days grams more)), .bool (extB no rate ts known days grams more), I (extE no rate ts known days grams more)]
theorem ext_bad {no rate known e : Int} {ts : List Tst} {days grams more : List Int} (he : extE no rate ts known days grams more = e) (h0 : e ≠ 0) (H : AHeap) : Out H (.tuple [.nilSlice, .bool false, I e]) (extV no rate ts known days grams more) := by
  have h1 : extB no rate ts known days grams more = false := by simp [extB, he, h0]
  have h2 : extL no rate ts known days grams more = [] := by simp [extL, h1]
  unfold extV; rw [h2, h1, he]; exact out_three' out_nil out_bool out_int
theorem ext_none {no rate known : Int} {ts : List Tst} {days grams more : List Int} (he : extE no rate ts known days grams more = 0) (hb : histB rate ts known (days.zip grams) = false) (H : AHeap) : Out H (.tuple [.nilSlice, .bool false, I 0]) (extV no rate ts known days grams more) := by
  have h1 : extB no rate ts known days grams more = false := by simp [extB, hb]
  have h2 : extL no rate ts known days grams more = [] := by simp [extL, h1]
  unfold extV; rw [h2, h1, he]; exact out_three' out_nil out_bool out_int
theorem ext_good {no rate known : Int} {ts : List Tst} {days grams more : List Int} (he : extE no rate ts known days grams more = 0) (hb : histB rate ts known (days.zip grams) = true) {H : AHeap} {a : AV} {lo : Nat} (ha : Acc lo H a 3 1 (ic (more.map (topV rate ts known (days.zip grams))))) : Out H (.tuple [a, .bool true, I 0]) (extV no rate ts known days grams more) := by
  have h1 : extB no rate ts known days grams more = true := by simp [extB, hb, he]
  have h2 : extL no rate ts known days grams more = more.map (topV rate ts known (days.zip grams)) := by simp [extL, h1]
  unfold extV; rw [h2, h1, he]; exact out_three' (ha.out (ic_simple _)) out_bool out_int
theorem ext_E0 {no rate known : Int} {ts : List Tst} {days grams more : List Int} (h1 : chkS no rate ts = 0) (h2 : okDay known = true) (h3 : days.length = grams.length) (h4 : risingV days = true) (h5 : risingV more = true) : extE no rate ts known days grams more = 0 := by
  unfold extE hisE; simp [h1, h2, h3, h4, h5]
theorem ext_E1 {no rate known : Int} {ts : List Tst} {days grams more : List Int} (h1 : chkS no rate ts = 0) (h : ¬ (okDay known = true ∧ days.length = grams.length ∧ risingV days = true ∧ risingV more = true)) : extE no rate ts known days grams more = 1 := by
  by_cases h2 : okDay known = true ∧ days.length = grams.length ∧ risingV days = true
  · have : hisE no rate ts known days grams = 0 := by unfold hisE; rw [if_neg (by simp [h1]), if_pos h2]
    unfold extE; rw [if_neg (by simp [this]), if_neg (fun hh => h ⟨h2.1, h2.2.1, h2.2.2, hh⟩)]
  · have : hisE no rate ts known days grams = 1 := by unfold hisE; rw [if_neg (by simp [h1]), if_neg h2]
    unfold extE; rw [if_pos (by simp [this]), this]
theorem ext_Ec {no rate known : Int} {ts : List Tst} {days grams more : List Int} (h1 : chkS no rate ts ≠ 0) : extE no rate ts known days grams more = chkS no rate ts := by
  have : hisE no rate ts known days grams = chkS no rate ts := by unfold hisE; rw [if_pos h1]
  unfold extE; rw [if_pos (by rw [this]; exact h1), this]
theorem map_take_snoc {f : Int → Int} {l : List Int} {k : Nat} (h : k < l.length) : ic ((l.take k).map f) ++ [[I (f l[k])]] = ic ((l.take (k + 1)).map f) := by
  rw [List.take_succ_eq_append_getElem h, List.map_append, List.map_singleton, ic_snoc]
theorem Extend_ok (no rate known : Int) (ts : List Tst) (days grams more : List Int) (hd : days.length ≤ 1000) (hm : more.length ≤ 1000) : PCall Tryz.prog 17 [sc no rate ts, I known, .ro false (ic days), .ro false (ic grams), .ro false (ic more)] (extV no rate ts known days grams more) := by
  refine PCall.intro text17 (by simp) ?_
  unfold ir17
  simp only [walk, wl, rgets, retv, argsEnv, ev, cst, cst1, cstL, AEnv.get, AEnv.trim, envput, qstep, abin, aun, evs, evo, deref, qload, target, if_true, if_false, Nat.reduceEqDiff, reduceIte, Nat.reduceAdd, AV.cells, AV.isTuple, setMany, alen, aiaddr, afill, Nat.reduceLeDiff, Nat.reduceMul, Nat.reduceLT, afillE, List.replicate]
  refine call_pure (ask_ok no rate ts [known] (by simp)) (frzL_of' (d := 4) (carL_cons car_sc (carL_cons (car_own1 rfl) rfl))) ?_
  simp only [walk, wl, rgets, retv, argsEnv, ev, cst, cst1, cstL, AEnv.get, AEnv.trim, envput, qstep, abin, aun, evs, evo, deref, qload, target, if_true, if_false, Nat.reduceEqDiff, reduceIte, Nat.reduceAdd, AV.cells, AV.isTuple, setMany, alen, aiaddr, afill, Nat.reduceLeDiff, Nat.reduceMul, Nat.reduceLT, afillE, List.replicate]
  refine withBool_intro ?_ ?_ <;> intro h1 <;> simp only [walk, wl, rgets, retv, argsEnv, ev, cst, cst1, cstL, AEnv.get, AEnv.trim, envput, qstep, abin, aun, evs, evo, deref, qload, target, if_true, if_false, Nat.reduceEqDiff, reduceIte, Nat.reduceAdd, AV.cells, AV.isTuple, setMany, alen, aiaddr, afill, Nat.reduceLeDiff, Nat.reduceMul, Nat.reduceLT, afillE, List.replicate]
  · refine ext_bad ?_ (by simpa using h1) _
    have h1' : askV no rate ts [known] ≠ 0 := by simpa using h1
    rw [ask1] at h1' ⊢
    by_cases h2 : chkS no rate ts = 0
    · by_cases h3 : okDay known = true
      · simp [h2, h3] at h1'
      · rw [ext_E1 h2 (fun hh => h3 hh.1)]; simp [h2, h3]
    · rw [ext_Ec h2]; simp [h2]
  · have h0 : askV no rate ts [known] = 0 := by simpa using h1
    obtain ⟨hw, hc, hdy⟩ := askV_zero h0
    obtain ⟨-, hrate, hlen, hok, -⟩ := well_iff.1 hw
    have hk := hdy known (by simp)
    have h1' : chkS no rate ts = 0 := by
      rw [ask1] at h0; split at h0
      · omega
      · rename_i h; simpa using h
    have bad : ¬ (days.length = grams.length ∧ risingV days = true ∧ risingV more = true) → extE no rate ts known days grams more = 1 := fun h => ext_E1 h1' fun hh => h hh.2
    simp only [walk, wl, rgets, retv, argsEnv, ev, cst, cst1, cstL, AEnv.get, AEnv.trim, envput, qstep, abin, aun, evs, evo, deref, qload, target, if_true, if_false, Nat.reduceEqDiff, reduceIte, Nat.reduceAdd, AV.cells, AV.isTuple, setMany, alen, aiaddr, afill, Nat.reduceLeDiff, Nat.reduceMul, Nat.reduceLT, afillE, List.replicate, ic_length]
    refine withGuard_intro ?_ ?_ <;> intro h2 <;> simp only [walk, wl, rgets, retv, argsEnv, ev, cst, cst1, cstL, AEnv.get, AEnv.trim, envput, qstep, abin, aun, evs, evo, deref, qload, target, if_true, if_false, Nat.reduceEqDiff, reduceIte, Nat.reduceAdd, AV.cells, AV.isTuple, setMany, alen, aiaddr, afill, Nat.reduceLeDiff, Nat.reduceMul, Nat.reduceLT, afillE, List.replicate, h2]
    · have hl : days.length = grams.length := by simp at h2; omega
      refine call_pure (rising_ok days hd) (frzL_of' (d := 4) (carL_cons car_ic rfl)) ?_
      simp only [walk, wl, rgets, retv, argsEnv, ev, cst, cst1, cstL, AEnv.get, AEnv.trim, envput, qstep, abin, aun, evs, evo, deref, qload, target, if_true, if_false, Nat.reduceEqDiff, reduceIte, Nat.reduceAdd, AV.cells, AV.isTuple, setMany, alen, aiaddr, afill, Nat.reduceLeDiff, Nat.reduceMul, Nat.reduceLT, afillE, List.replicate]
      refine withGuard_intro ?_ ?_ <;> intro h3 <;> simp only [walk, wl, rgets, retv, argsEnv, ev, cst, cst1, cstL, AEnv.get, AEnv.trim, envput, qstep, abin, aun, evs, evo, deref, qload, target, if_true, if_false, Nat.reduceEqDiff, reduceIte, Nat.reduceAdd, AV.cells, AV.isTuple, setMany, alen, aiaddr, afill, Nat.reduceLeDiff, Nat.reduceMul, Nat.reduceLT, afillE, List.replicate, h3]
      · have hr : risingV days = true := by simpa using h3
        refine call_pure (rising_ok more hm) (frzL_of' (d := 4) (carL_cons car_ic rfl)) ?_
        simp only [walk, wl, rgets, retv, argsEnv, ev, cst, cst1, cstL, AEnv.get, AEnv.trim, envput, qstep, abin, aun, evs, evo, deref, qload, target, if_true, if_false, Nat.reduceEqDiff, reduceIte, Nat.reduceAdd, AV.cells, AV.isTuple, setMany, alen, aiaddr, afill, Nat.reduceLeDiff, Nat.reduceMul, Nat.reduceLT, afillE, List.replicate]
        refine withBool_intro ?_ ?_ <;> intro h4 <;> simp only [walk, wl, rgets, retv, argsEnv, ev, cst, cst1, cstL, AEnv.get, AEnv.trim, envput, qstep, abin, aun, evs, evo, deref, qload, target, if_true, if_false, Nat.reduceEqDiff, reduceIte, Nat.reduceAdd, AV.cells, AV.isTuple, setMany, alen, aiaddr, afill, Nat.reduceLeDiff, Nat.reduceMul, Nat.reduceLT, afillE, List.replicate]
        · exact ext_bad (bad (by simp at h4; simp [h4])) (by decide) _
        · have hrm : risingV more = true := by simpa using h4
          have hE := ext_E0 h1' hk hl hr hrm
          obtain ⟨hdd, hup, hd64⟩ := risingV_iff.1 hr
          obtain ⟨hmd, -, hm64⟩ := risingV_iff.1 hrm
          refine call_pure (possible_ok (known := known) hw hc hl hr) (frzL_of' (d := 4) (carL_cons car_sc (carL_cons car_int (carL_cons car_ic (carL_cons car_ic rfl))))) ?_
          simp only [walk, wl, rgets, retv, argsEnv, ev, cst, cst1, cstL, AEnv.get, AEnv.trim, envput, qstep, abin, aun, evs, evo, deref, qload, target, if_true, if_false, Nat.reduceEqDiff, reduceIte, Nat.reduceAdd, AV.cells, AV.isTuple, setMany, alen, aiaddr, afill, Nat.reduceLeDiff, Nat.reduceMul, Nat.reduceLT, afillE, List.replicate]
          refine withBool_intro ?_ ?_ <;> intro h5 <;> simp only [walk, wl, rgets, retv, argsEnv, ev, cst, cst1, cstL, AEnv.get, AEnv.trim, envput, qstep, abin, aun, evs, evo, deref, qload, target, if_true, if_false, Nat.reduceEqDiff, reduceIte, Nat.reduceAdd, AV.cells, AV.isTuple, setMany, alen, aiaddr, afill, Nat.reduceLeDiff, Nat.reduceMul, Nat.reduceLT, afillE, List.replicate, ic_length]
          · exact ext_none hE (by simpa using h5) _
          · have hB : histB rate ts known (days.zip grams) = true := by simpa using h5
            have hh := histB_iff.1 hB
            refine awp_loop (σ := Nat × AV) (fun s => [(1, I known), (2, .ro false (ic days)), (3, .ro false (ic grams)), (5, .ptr 0 1 0 0), (14, s.2), (48, .ro false (ic more)), (49, I more.length), (50, I s.1)]) (fun s H => 1 ≤ H.length ∧ AHeap.obj H 0 = some ⟨40, 3, [[I no, I rate, .ro false (trows ts)]]⟩ ∧ Acc 1 H s.2 3 1 (ic ((more.take s.1).map (topV rate ts known (days.zip grams))))) (fun s => s.1 ≤ more.length) (fun s => more.length - s.1) (0, .nilSlice) (Nat.zero_le _) rfl ⟨by simp, rfl, .inl ⟨rfl, rfl⟩⟩ ?_
            rintro ⟨k, a⟩ H hkl ⟨hH1, hH, hacc⟩
            simp only at hkl hacc
            simp only [walkS, wl, rgets, retv, argsEnv, ev, cst, cst1, cstL, AEnv.get, AEnv.trim, envput, qstep, abin, aun, evs, evo, deref, qload, target, if_true, if_false, Nat.reduceEqDiff, reduceIte, Nat.reduceAdd, AV.cells, AV.isTuple, setMany, alen, aiaddr, afill, Nat.reduceLeDiff, Nat.reduceMul, Nat.reduceLT, afillE, List.replicate]
            refine withBool_intro ?_ ?_ <;> intro hb <;> simp only [walkS, wl, rgets, retv, argsEnv, ev, cst, cst1, cstL, AEnv.get, AEnv.trim, envput, qstep, abin, aun, evs, evo, deref, qload, target, if_true, if_false, Nat.reduceEqDiff, reduceIte, Nat.reduceAdd, AV.cells, AV.isTuple, setMany, alen, aiaddr, afill, Nat.reduceLeDiff, Nat.reduceMul, Nat.reduceLT, afillE, List.replicate]
            · have hlt : k < more.length := by simpa using hb
              have w1 := w_succ (k := k) (by omega)
              have hdk := okDay_iff.1 (hmd _ (List.getElem_mem hlt))
              have box := drift_box (on := more[k]) (known := known) hrate.1 hok hc
              simp only [walkS, wl, rgets, retv, argsEnv, ev, cst, cst1, cstL, AEnv.get, AEnv.trim, envput, qstep, abin, aun, evs, evo, deref, qload, target, if_true, if_false, Nat.reduceEqDiff, reduceIte, Nat.reduceAdd, AV.cells, AV.isTuple, setMany, alen, aiaddr, afill, Nat.reduceLeDiff, Nat.reduceMul, Nat.reduceLT, afillE, List.replicate, ic_get hlt, hH]
              refine call_pure (drift_ok (known := known) hw (by omega)) (frzL_of' (d := 4) (carL_cons car_sc rfl)) ?_
              simp only [walkS, wl, rgets, retv, argsEnv, ev, cst, cst1, cstL, AEnv.get, AEnv.trim, envput, qstep, abin, aun, evs, evo, deref, qload, target, if_true, if_false, Nat.reduceEqDiff, reduceIte, Nat.reduceAdd, AV.cells, AV.isTuple, setMany, alen, aiaddr, afill, Nat.reduceLeDiff, Nat.reduceMul, Nat.reduceLT, afillE, List.replicate, ic_length, Int.reduceLE, p02, p12, Int.toNat_zero, Int.reduceToNat, Nat.add_zero, Nat.zero_mul]
              refine awp_loop (σ := Nat) (fun m => [(1, I known), (2, .ro false (ic days)), (3, .ro false (ic grams)), (5, .ptr 0 1 0 0), (14, a), (16, I more[k]), (17, I (topG rate more[k] ((days.zip grams).take m) (driftV rate ts more[k] known).2)), (48, .ro false (ic more)), (49, I more.length), (50, I k), (59, .ro false (ic days)), (60, I days.length), (61, I m)]) (fun _ H => 1 ≤ H.length ∧ AHeap.obj H 0 = some ⟨40, 3, [[I no, I rate, .ro false (trows ts)]]⟩ ∧ Acc 1 H a 3 1 (ic ((more.take k).map (topV rate ts known (days.zip grams))))) (fun m => m ≤ days.length) (fun m => days.length - m) 0 (Nat.zero_le _) rfl ⟨hH1, hH, hacc⟩ ?_
              rintro m H2 hml ⟨hH2, hHb, hacc2⟩
              simp only [walkS, wl, rgets, retv, argsEnv, ev, cst, cst1, cstL, AEnv.get, AEnv.trim, envput, qstep, abin, aun, evs, evo, deref, qload, target, if_true, if_false, Nat.reduceEqDiff, reduceIte, Nat.reduceAdd, AV.cells, AV.isTuple, setMany, alen, aiaddr, afill, Nat.reduceLeDiff, Nat.reduceMul, Nat.reduceLT, afillE, List.replicate]
              refine withBool_intro ?_ ?_ <;> intro hb2 <;> simp only [walkS, wl, rgets, retv, argsEnv, ev, cst, cst1, cstL, AEnv.get, AEnv.trim, envput, qstep, abin, aun, evs, evo, deref, qload, target, if_true, if_false, Nat.reduceEqDiff, reduceIte, Nat.reduceAdd, AV.cells, AV.isTuple, setMany, alen, aiaddr, afill, Nat.reduceLeDiff, Nat.reduceMul, Nat.reduceLT, afillE, List.replicate]
              · have hmk : m < days.length := by simpa using hb2
                have hmg : m < grams.length := by omega
                have w2 := w_succ (k := m) (by omega)
                have hdm := okDay_iff.1 (hdd _ (List.getElem_mem hmk))
                have hgm := hh.1 (days[m], grams[m]) (by rw [← List.getElem_zip (h := by simp; omega)]; exact List.getElem_mem _)
                have boxm := drift_box (on := days[m]) (known := known) hrate.1 hok hc
                have hbd := rf_bd (a := days[m]) (b := more[k]) hrate (by omega) (by omega)
                simp only at hgm
                have e2 : IntKind.i64.wrap (rate * far days[m] more[k]) = rate * far days[m] more[k] := wrap_id (by omega) (by omega)
                have e3 : IntKind.i64.wrap (grams[m] + rate * far days[m] more[k]) = grams[m] + rate * far days[m] more[k] := wrap_id (by omega) (by omega)
                simp only [walkS, wl, rgets, retv, argsEnv, ev, cst, cst1, cstL, AEnv.get, AEnv.trim, envput, qstep, abin, aun, evs, evo, deref, qload, target, if_true, if_false, Nat.reduceEqDiff, reduceIte, Nat.reduceAdd, AV.cells, AV.isTuple, setMany, alen, aiaddr, afill, Nat.reduceLeDiff, Nat.reduceMul, Nat.reduceLT, afillE, List.replicate, hHb, ic_get hmk, ic_get hmg]
                refine dcall_pure (apart_ok (by omega) (by omega)) (frzL_of (d := 1) rfl) ?_
                simp only [walkS, wl, rgets, retv, argsEnv, ev, cst, cst1, cstL, AEnv.get, AEnv.trim, envput, qstep, abin, aun, evs, evo, deref, qload, target, if_true, if_false, Nat.reduceEqDiff, reduceIte, Nat.reduceAdd, AV.cells, AV.isTuple, setMany, alen, aiaddr, afill, Nat.reduceLeDiff, Nat.reduceMul, Nat.reduceLT, afillE, List.replicate, e2, e3, amm, amm.go, amin, w2]
                refine loop_end (m + 1) hmk (by omega) (by rw [topG_take hmk hl]) ⟨hH2, hHb, hacc2⟩
              · have hmk : m = days.length := by simp at hb2; omega
                subst hmk
                refine acc_append (lo := 1) (by simp) (hacc2.push _) rfl rfl AHeap.obj_push_eq (by rw [ic_length, List.length_map, List.length_take]; omega) fun a' H3 x1 x2 x3 => ?_
                simp only [List.length_append, List.length_cons, List.length_nil] at x1
                simp only [walkS, wl, rgets, retv, argsEnv, ev, cst, cst1, cstL, AEnv.get, AEnv.trim, envput, qstep, abin, aun, evs, evo, deref, qload, target, if_true, if_false, Nat.reduceEqDiff, reduceIte, Nat.reduceAdd, AV.cells, AV.isTuple, setMany, alen, aiaddr, afill, Nat.reduceLeDiff, Nat.reduceMul, Nat.reduceLT, afillE, List.replicate, w1]
                refine loop_end (k + 1, a') hlt (by simp only; omega) rfl ⟨by omega, by rw [x3 0 (by omega), AHeap.obj_push_lt (by omega)]; exact hHb, ?_⟩
                rw [← map_take_snoc hlt]
                have : topV rate ts known (days.zip grams) more[k] = topG rate more[k] ((days.zip grams).take days.length) (driftV rate ts more[k] known).2 := by
                  rw [List.take_of_length_le (by simp; omega)]; rfl
                rw [this]; exact x2
            · have hk' : k = more.length := by simp at hb; omega
              subst hk'
              rw [List.take_length] at hacc
              exact ext_good hE hB hacc
      · exact ext_bad (bad (by simp at h3; simp [h3])) (by decide) _
    · exact ext_bad (bad (by simp at h2; omega)) (by decide) _
end Go.Proofs.YtgadlckkmhhmbaaGreatDoor
