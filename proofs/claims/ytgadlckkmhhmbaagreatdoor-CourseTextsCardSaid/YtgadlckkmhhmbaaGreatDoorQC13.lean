/- Contracts: lists of days; histories. -/
import Derived.Test.YtgadlckkmhhmbaaGreatDoorQC5
import Derived.Test.YtgadlckkmhhmbaaGreatDoorQG7
import Derived.Test.YtgadlckkmhhmbaaGreatDoorQTL
set_option linter.unusedVariables false
set_option linter.unusedSimpArgs false
set_option linter.unusedSectionVars false
namespace Go.Proofs.YtgadlckkmhhmbaaGreatDoor
open Go.Awp Go.Grams
set_option linter.unusedSimpArgs false
set_option linter.unusedVariables false
set_option linter.unusedSectionVars false
set_option maxRecDepth 10000
theorem risingV_f {l : List Int} (h : ¬ ((∀ d, d ∈ l → okDay d = true) ∧ upI l = true ∧ l.length ≤ 64)) : risingV l = false := by
  rw [← Bool.not_eq_true, risingV_iff]; exact h
theorem upI_f {l : List Int} {k : Nat} (hk : k < l.length) (h0 : 0 < k) (h : l[k] ≤ l[k - 1]) : ¬ upI l = true := fun hl => by
  have := upI_get hl hk h0; omega
theorem rising_ok (l : List Int) (hl : l.length ≤ 1000) : PCall Tryz.prog 42 [.ro false (ic l)] (.bool (risingV l)) := by
  refine PCall.intro text42 (by simp) ?_
  unfold ir42
  simp only [walk, wl, rgets, retv, argsEnv, ev, cst, cst1, cstL, AEnv.get, AEnv.trim, envput, qstep, abin, aun, evs, evo, deref, qload, target, if_true, if_false, Nat.reduceEqDiff, reduceIte, Nat.reduceAdd, AV.cells, AV.isTuple, setMany, alen, aiaddr, afill, Nat.reduceLeDiff, Nat.reduceMul, Nat.reduceLT, afillE, List.replicate, ic_length]
  refine awp_loop (σ := Nat) (fun k => [(0, .ro false (ic l)), (5, .ro false (ic l)), (6, I l.length), (7, I k)]) (fun _ _ => True) (fun k => k ≤ l.length ∧ (l.take k).all okDay = true ∧ upI (l.take k) = true) (fun k => l.length - k) 0 ⟨Nat.zero_le _, rfl, rfl⟩ rfl trivial ?_
  rintro k H ⟨hk, hall, hup⟩ -
  simp only [walk, wl, rgets, retv, argsEnv, ev, cst, cst1, cstL, AEnv.get, AEnv.trim, envput, qstep, abin, aun, evs, evo, deref, qload, target, if_true, if_false, Nat.reduceEqDiff, reduceIte, Nat.reduceAdd, AV.cells, AV.isTuple, setMany, alen, aiaddr, afill, Nat.reduceLeDiff, Nat.reduceMul, Nat.reduceLT, afillE, List.replicate]
  refine withBool_intro ?_ ?_ <;> intro hb <;> simp only [walk, wl, rgets, retv, argsEnv, ev, cst, cst1, cstL, AEnv.get, AEnv.trim, envput, qstep, abin, aun, evs, evo, deref, qload, target, if_true, if_false, Nat.reduceEqDiff, reduceIte, Nat.reduceAdd, AV.cells, AV.isTuple, setMany, alen, aiaddr, afill, Nat.reduceLeDiff, Nat.reduceMul, Nat.reduceLT, afillE, List.replicate]
  · have hlt : k < l.length := by simpa using hb
    have w1 := w_succ (k := k) (by omega)
    simp only [walk, wl, rgets, retv, argsEnv, ev, cst, cst1, cstL, AEnv.get, AEnv.trim, envput, qstep, abin, aun, evs, evo, deref, qload, target, if_true, if_false, Nat.reduceEqDiff, reduceIte, Nat.reduceAdd, AV.cells, AV.isTuple, setMany, alen, aiaddr, afill, Nat.reduceLeDiff, Nat.reduceMul, Nat.reduceLT, afillE, List.replicate, ic_get hlt]
    refine call_pure (day_ok _) (frzL_of' (d := 1) rfl) ?_
    simp only [walk, wl, rgets, retv, argsEnv, ev, cst, cst1, cstL, AEnv.get, AEnv.trim, envput, qstep, abin, aun, evs, evo, deref, qload, target, if_true, if_false, Nat.reduceEqDiff, reduceIte, Nat.reduceAdd, AV.cells, AV.isTuple, setMany, alen, aiaddr, afill, Nat.reduceLeDiff, Nat.reduceMul, Nat.reduceLT, afillE, List.replicate]
    refine withGuard_intro ?_ ?_ <;> intro g1 <;> simp only [walk, wl, rgets, retv, argsEnv, ev, cst, cst1, cstL, AEnv.get, AEnv.trim, envput, qstep, abin, aun, evs, evo, deref, qload, target, if_true, if_false, Nat.reduceEqDiff, reduceIte, Nat.reduceAdd, AV.cells, AV.isTuple, setMany, alen, aiaddr, afill, Nat.reduceLeDiff, Nat.reduceMul, Nat.reduceLT, afillE, List.replicate, g1]
    · have hok : okDay l[k] = true := by simpa using g1
      refine withGuard_intro ?_ ?_ <;> intro g2 <;> simp only [walk, wl, rgets, retv, argsEnv, ev, cst, cst1, cstL, AEnv.get, AEnv.trim, envput, qstep, abin, aun, evs, evo, deref, qload, target, if_true, if_false, Nat.reduceEqDiff, reduceIte, Nat.reduceAdd, AV.cells, AV.isTuple, setMany, alen, aiaddr, afill, Nat.reduceLeDiff, Nat.reduceMul, Nat.reduceLT, afillE, List.replicate, g2]
      · have h0 : 0 < k := by simp at g2; omega
        have hlt1 : k - 1 < l.length := by omega
        simp only [walk, wl, rgets, retv, argsEnv, ev, cst, cst1, cstL, AEnv.get, AEnv.trim, envput, qstep, abin, aun, evs, evo, deref, qload, target, if_true, if_false, Nat.reduceEqDiff, reduceIte, Nat.reduceAdd, AV.cells, AV.isTuple, setMany, alen, aiaddr, afill, Nat.reduceLeDiff, Nat.reduceMul, Nat.reduceLT, afillE, List.replicate, w_pred h0 (by omega), ic_get hlt1]
        refine withBool_intro ?_ ?_ <;> intro g3 <;> simp only [walk, wl, rgets, retv, argsEnv, ev, cst, cst1, cstL, AEnv.get, AEnv.trim, envput, qstep, abin, aun, evs, evo, deref, qload, target, if_true, if_false, Nat.reduceEqDiff, reduceIte, Nat.reduceAdd, AV.cells, AV.isTuple, setMany, alen, aiaddr, afill, Nat.reduceLeDiff, Nat.reduceMul, Nat.reduceLT, afillE, List.replicate, w1]
        · rw [risingV_f (fun h => upI_f hlt h0 (by simp at g3; omega) h.2.1)]; exact out_bool
        · refine loop_end (k + 1) ⟨hlt, all_take hall hlt hok, upI_take hlt hup (.inr fun _ => by simp at g3; omega)⟩ (by omega) rfl trivial
      · have h0 : k = 0 := by simp at g2; omega
        rw [w1]
        refine loop_end (k + 1) ⟨hlt, all_take hall hlt hok, upI_take hlt hup (.inl h0)⟩ (by omega) rfl trivial
    · rw [risingV_f (fun h => by have := h.1 l[k] (List.getElem_mem hlt); simp [this] at g1)]; exact out_bool
  · have hk' : k = l.length := by simp at hb; omega
    subst hk'
    rw [List.take_length] at hall hup
    simp only [walk, wl, rgets, retv, argsEnv, ev, cst, cst1, cstL, AEnv.get, AEnv.trim, envput, qstep, abin, aun, evs, evo, deref, qload, target, if_true, if_false, Nat.reduceEqDiff, reduceIte, Nat.reduceAdd, AV.cells, AV.isTuple, setMany, alen, aiaddr, afill, Nat.reduceLeDiff, Nat.reduceMul, Nat.reduceLT, afillE, List.replicate, ic_length]
    have : decide ((l.length : Int) ≤ 64) = risingV l := by
      rw [Bool.eq_iff_iff, risingV_iff]; simp [hup]
      constructor
      · intro h; exact ⟨by simpa using hall, by omega⟩
      · intro h; omega
    rw [this]; exact out_bool
theorem within_ok {a b m : Int} (ha : Mid a) (hb : Mid b) : PCall Tryz.prog 67 [I a, I b, I m] (.bool (decide (far a b ≤ m))) := by
  refine PCall.intro text67 (by simp) ?_
  unfold ir67
  simp only [walk, wl, rgets, retv, argsEnv, ev, cst, cst1, cstL, AEnv.get, AEnv.trim, envput, qstep, abin, aun, evs, evo, deref, qload, target, if_true, if_false, Nat.reduceEqDiff, reduceIte, Nat.reduceAdd, AV.cells, AV.isTuple, setMany, alen, aiaddr, afill, Nat.reduceLeDiff, Nat.reduceMul, Nat.reduceLT, afillE, List.replicate]
  refine call_pure (apart_ok ha hb) (frzL_of' (d := 1) rfl) ?_
  simp only [walk, wl, rgets, retv, argsEnv, ev, cst, cst1, cstL, AEnv.get, AEnv.trim, envput, qstep, abin, aun, evs, evo, deref, qload, target, if_true, if_false, Nat.reduceEqDiff, reduceIte, Nat.reduceAdd, AV.cells, AV.isTuple, setMany, alen, aiaddr, afill, Nat.reduceLeDiff, Nat.reduceMul, Nat.reduceLT, afillE, List.replicate]
  exact out_bool
/-- slices.Equal. -/
theorem Equal_ok (a b : List Int) (ha : a.length ≤ 1000000) : PCall Tryz.prog 23 [.ro false (ic a), .ro false (ic b)] (.bool (decide (a = b))) := by
  refine PCall.intro text23 (by simp) ?_
  unfold ir23
  simp only [walk, wl, rgets, retv, argsEnv, ev, cst, cst1, cstL, AEnv.get, AEnv.trim, envput, qstep, abin, aun, evs, evo, deref, qload, target, if_true, if_false, Nat.reduceEqDiff, reduceIte, Nat.reduceAdd, AV.cells, AV.isTuple, setMany, alen, aiaddr, afill, Nat.reduceLeDiff, Nat.reduceMul, Nat.reduceLT, afillE, List.replicate, ic_length]
  refine withBool_intro ?_ ?_ <;> intro h1 <;> simp only [walk, wl, rgets, retv, argsEnv, ev, cst, cst1, cstL, AEnv.get, AEnv.trim, envput, qstep, abin, aun, evs, evo, deref, qload, target, if_true, if_false, Nat.reduceEqDiff, reduceIte, Nat.reduceAdd, AV.cells, AV.isTuple, setMany, alen, aiaddr, afill, Nat.reduceLeDiff, Nat.reduceMul, Nat.reduceLT, afillE, List.replicate]
  · have : ¬ a = b := fun h => by subst h; simp at h1
    rw [decide_eq_false this]; exact out_bool
  · have hab : a.length = b.length := by simp at h1; omega
    simp only [walk, wl, rgets, retv, argsEnv, ev, cst, cst1, cstL, AEnv.get, AEnv.trim, envput, qstep, abin, aun, evs, evo, deref, qload, target, if_true, if_false, Nat.reduceEqDiff, reduceIte, Nat.reduceAdd, AV.cells, AV.isTuple, setMany, alen, aiaddr, afill, Nat.reduceLeDiff, Nat.reduceMul, Nat.reduceLT, afillE, List.replicate, ic_length]
    refine awp_loop (σ := Nat) (fun k => [(0, .ro false (ic a)), (1, .ro false (ic b)), (12, I a.length), (13, I k)]) (fun _ _ => True) (fun k => k ≤ a.length ∧ ∀ j (h : j < a.length), j < k → a[j] = b[j]'(by omega)) (fun k => a.length - k) 0 ⟨Nat.zero_le _, fun j _ hj => absurd hj (Nat.not_lt_zero _)⟩ rfl trivial ?_
    rintro k H ⟨hk, hall⟩ -
    simp only [walk, wl, rgets, retv, argsEnv, ev, cst, cst1, cstL, AEnv.get, AEnv.trim, envput, qstep, abin, aun, evs, evo, deref, qload, target, if_true, if_false, Nat.reduceEqDiff, reduceIte, Nat.reduceAdd, AV.cells, AV.isTuple, setMany, alen, aiaddr, afill, Nat.reduceLeDiff, Nat.reduceMul, Nat.reduceLT, afillE, List.replicate]
    refine withBool_intro ?_ ?_ <;> intro hb <;> simp only [walk, wl, rgets, retv, argsEnv, ev, cst, cst1, cstL, AEnv.get, AEnv.trim, envput, qstep, abin, aun, evs, evo, deref, qload, target, if_true, if_false, Nat.reduceEqDiff, reduceIte, Nat.reduceAdd, AV.cells, AV.isTuple, setMany, alen, aiaddr, afill, Nat.reduceLeDiff, Nat.reduceMul, Nat.reduceLT, afillE, List.replicate]
    · have hlt : k < a.length := by simpa using hb
      have hlt2 : k < b.length := by omega
      have w1 := w_succ (k := k) (by omega)
      simp only [walk, wl, rgets, retv, argsEnv, ev, cst, cst1, cstL, AEnv.get, AEnv.trim, envput, qstep, abin, aun, evs, evo, deref, qload, target, if_true, if_false, Nat.reduceEqDiff, reduceIte, Nat.reduceAdd, AV.cells, AV.isTuple, setMany, alen, aiaddr, afill, Nat.reduceLeDiff, Nat.reduceMul, Nat.reduceLT, afillE, List.replicate, ic_get hlt, ic_get hlt2]
      refine withBool_intro ?_ ?_ <;> intro h4 <;> simp only [walk, wl, rgets, retv, argsEnv, ev, cst, cst1, cstL, AEnv.get, AEnv.trim, envput, qstep, abin, aun, evs, evo, deref, qload, target, if_true, if_false, Nat.reduceEqDiff, reduceIte, Nat.reduceAdd, AV.cells, AV.isTuple, setMany, alen, aiaddr, afill, Nat.reduceLeDiff, Nat.reduceMul, Nat.reduceLT, afillE, List.replicate, w1]
      · have : ¬ a = b := fun h => by subst h; simp at h4
        rw [decide_eq_false this]; exact out_bool
      · refine loop_end (k + 1) ⟨hlt, fun j hj hjk => ?_⟩ (by omega) rfl trivial
        rcases Nat.lt_or_ge j k with h | h
        · exact hall j hj h
        · obtain rfl : j = k := by omega
          simpa using h4
    · have hk' : k = a.length := by simp at hb; omega
      subst hk'
      rw [decide_eq_true (List.ext_getElem hab fun j h1 h2 => hall j h1 h1)]; exact out_bool
theorem possible_ok {no rate known : Int} {ts : List Tst} {days grams : List Int} (hw : well no rate ts = true) (hc : calm rate ts) (hl : days.length = grams.length) (hr : risingV days = true) : PCall Tryz.prog 43 [sc no rate ts, I known, .ro false (ic days), .ro false (ic grams)] (.bool (histB rate ts known (days.zip grams))) := by
  refine PCall.intro text43 (by simp) ?_
  unfold ir43
  obtain ⟨-, hrate, hlen, hok, -⟩ := well_iff.1 hw
  obtain ⟨hd, hup, hd64⟩ := risingV_iff.1 hr
  obtain ⟨L, hL⟩ : ∃ L, L = days.zip grams := ⟨_, rfl⟩
  have hLl : L.length = days.length := by rw [hL]; simp; omega
  have hLg : ∀ k (h : k < days.length), L[k]'(by omega) = (days[k], grams[k]'(by omega)) := fun k h => by simp [hL]
  rw [← hL]
  simp only [walk, wl, rgets, retv, argsEnv, ev, cst, cst1, cstL, AEnv.get, AEnv.trim, envput, qstep, abin, aun, evs, evo, deref, qload, target, if_true, if_false, Nat.reduceEqDiff, reduceIte, Nat.reduceAdd, AV.cells, AV.isTuple, setMany, alen, aiaddr, afill, Nat.reduceLeDiff, Nat.reduceMul, Nat.reduceLT, afillE, List.replicate, ic_length]
  refine awp_loop (σ := Nat) (fun k => [(1, I known), (2, .ro false (ic days)), (3, .ro false (ic grams)), (4, .ptr 0 1 0 0), (12, .ro false (ic days)), (13, I days.length), (14, I k)]) (fun _ H => ∃ X, H = some ⟨40, 3, [[I no, I rate, .ro false (trows ts)]]⟩ :: X) (fun k => k ≤ days.length ∧ (∀ j (h : j < days.length), j < k → (driftV rate ts days[j] known).1 ≤ grams[j]'(by omega) ∧ grams[j]'(by omega) ≤ (driftV rate ts days[j] known).2) ∧ ∀ j (h : j + 1 < days.length), j + 1 < k → near rate (L[j]'(by omega)) (L[j + 1]'(by omega))) (fun k => days.length - k) 0 ⟨Nat.zero_le _, fun j _ hj => absurd hj (Nat.not_lt_zero _), fun j _ hj => absurd hj (Nat.not_lt_zero _)⟩ rfl ⟨[], rfl⟩ ?_
  rintro k H ⟨hk, hin, hst⟩ ⟨X, rfl⟩
  simp only [walk, wl, rgets, retv, argsEnv, ev, cst, cst1, cstL, AEnv.get, AEnv.trim, envput, qstep, abin, aun, evs, evo, deref, qload, target, if_true, if_false, Nat.reduceEqDiff, reduceIte, Nat.reduceAdd, AV.cells, AV.isTuple, setMany, alen, aiaddr, afill, Nat.reduceLeDiff, Nat.reduceMul, Nat.reduceLT, afillE, List.replicate]
  refine withBool_intro ?_ ?_ <;> intro hb <;> simp only [walk, wl, rgets, retv, argsEnv, ev, cst, cst1, cstL, AEnv.get, AEnv.trim, envput, qstep, abin, aun, evs, evo, deref, qload, target, if_true, if_false, Nat.reduceEqDiff, reduceIte, Nat.reduceAdd, AV.cells, AV.isTuple, setMany, alen, aiaddr, afill, Nat.reduceLeDiff, Nat.reduceMul, Nat.reduceLT, afillE, List.replicate]
  · have hlt : k < days.length := by simpa using hb
    have hlg : k < grams.length := by omega
    have w1 := w_succ (k := k) (by omega)
    have hdk := okDay_iff.1 (hd _ (List.getElem_mem hlt))
    have box := drift_box (on := days[k]) (known := known) hrate.1 hok hc
    simp only [walk, wl, rgets, retv, argsEnv, ev, cst, cst1, cstL, AEnv.get, AEnv.trim, envput, qstep, abin, aun, evs, evo, deref, qload, target, if_true, if_false, Nat.reduceEqDiff, reduceIte, Nat.reduceAdd, AV.cells, AV.isTuple, setMany, alen, aiaddr, afill, Nat.reduceLeDiff, Nat.reduceMul, Nat.reduceLT, afillE, List.replicate, ic_get hlt]
    refine call_pure (drift_ok (known := known) hw (by omega)) (frzL_of' (d := 4) (carL_cons car_sc rfl)) ?_
    simp only [walk, wl, rgets, retv, argsEnv, ev, cst, cst1, cstL, AEnv.get, AEnv.trim, envput, qstep, abin, aun, evs, evo, deref, qload, target, if_true, if_false, Nat.reduceEqDiff, reduceIte, Nat.reduceAdd, AV.cells, AV.isTuple, setMany, alen, aiaddr, afill, Nat.reduceLeDiff, Nat.reduceMul, Nat.reduceLT, afillE, List.replicate, ic_get hlg, Int.reduceLE, p02, p12, Int.toNat_zero, Int.reduceToNat, Nat.add_zero, Nat.zero_mul]
    have bad1 : ¬ ((driftV rate ts days[k] known).1 ≤ grams[k] ∧ grams[k] ≤ (driftV rate ts days[k] known).2) → histB rate ts known L = false := fun h => histB_f fun hh => h (by
      have := hh.1 L[k] (List.getElem_mem _)
      rw [hLg k hlt] at this; exact this)
    refine withGuard_intro ?_ ?_ <;> intro g1 <;> simp only [walk, wl, rgets, retv, argsEnv, ev, cst, cst1, cstL, AEnv.get, AEnv.trim, envput, qstep, abin, aun, evs, evo, deref, qload, target, if_true, if_false, Nat.reduceEqDiff, reduceIte, Nat.reduceAdd, AV.cells, AV.isTuple, setMany, alen, aiaddr, afill, Nat.reduceLeDiff, Nat.reduceMul, Nat.reduceLT, afillE, List.replicate, g1, ic_get hlg, Int.reduceLE, p02, p12, Int.toNat_zero, Int.reduceToNat, Nat.add_zero, Nat.zero_mul]
    · refine withBool_intro ?_ ?_ <;> intro g2 <;> simp only [walk, wl, rgets, retv, argsEnv, ev, cst, cst1, cstL, AEnv.get, AEnv.trim, envput, qstep, abin, aun, evs, evo, deref, qload, target, if_true, if_false, Nat.reduceEqDiff, reduceIte, Nat.reduceAdd, AV.cells, AV.isTuple, setMany, alen, aiaddr, afill, Nat.reduceLeDiff, Nat.reduceMul, Nat.reduceLT, afillE, List.replicate]
      · rw [bad1 (by simp at g2; omega)]; exact out_bool
      · have hink : (driftV rate ts days[k] known).1 ≤ grams[k] ∧ grams[k] ≤ (driftV rate ts days[k] known).2 := by simp at g1 g2; omega
        have hin' : ∀ j (h : j < days.length), j < k + 1 → (driftV rate ts days[j] known).1 ≤ grams[j]'(by omega) ∧ grams[j]'(by omega) ≤ (driftV rate ts days[j] known).2 := fun j h hj => by
          rcases Nat.lt_or_ge j k with h2 | h2
          · exact hin j h h2
          · obtain rfl : j = k := by omega
            exact hink
        refine withGuard_intro ?_ ?_ <;> intro g3 <;> simp only [walk, wl, rgets, retv, argsEnv, ev, cst, cst1, cstL, AEnv.get, AEnv.trim, envput, qstep, abin, aun, evs, evo, deref, qload, target, if_true, if_false, Nat.reduceEqDiff, reduceIte, Nat.reduceAdd, AV.cells, AV.isTuple, setMany, alen, aiaddr, afill, Nat.reduceLeDiff, Nat.reduceMul, Nat.reduceLT, afillE, List.replicate, g3]
        · have h0 : 0 < k := by simp at g3; omega
          have hlt1 : k - 1 < days.length := by omega
          have hlg1 : k - 1 < grams.length := by omega
          have hdk1 := okDay_iff.1 (hd _ (List.getElem_mem hlt1))
          have hin1 := hin (k - 1) hlt1 (by omega)
          have box1 := drift_box (on := days[k - 1]) (known := known) hrate.1 hok hc
          have hgt := upI_get hup hlt h0
          have e1 : IntKind.i64.wrap (days[k] - days[k - 1]) = days[k] - days[k - 1] := wrap_id (by omega) (by omega)
          have hfar : far days[k - 1] days[k] = days[k] - days[k - 1] := by unfold far; omega
          have hbd := mul_bd (r := rate) (f := days[k] - days[k - 1]) hrate (by omega)
          have e2 : IntKind.i64.wrap (rate * (days[k] - days[k - 1])) = rate * (days[k] - days[k - 1]) := wrap_id (by omega) (by omega)
          simp only [walk, wl, rgets, retv, argsEnv, ev, cst, cst1, cstL, AEnv.get, AEnv.trim, envput, qstep, abin, aun, evs, evo, deref, qload, target, if_true, if_false, Nat.reduceEqDiff, reduceIte, Nat.reduceAdd, AV.cells, AV.isTuple, setMany, alen, aiaddr, afill, Nat.reduceLeDiff, Nat.reduceMul, Nat.reduceLT, afillE, List.replicate, w_pred h0 (by omega), ic_get hlt1, ic_get hlg1, ic_get hlg, e1, e2]
          refine call_pure (within_ok (a := grams[k - 1]) (b := grams[k]) (m := rate * (days[k] - days[k - 1])) (by omega) (by omega)) (frzL_of' (d := 1) rfl) ?_
          have hnear : near rate (L[k - 1]'(by omega)) (L[k]'(by omega)) ↔ far grams[k - 1] grams[k] ≤ rate * (days[k] - days[k - 1]) := by
            rw [hLg k hlt, hLg (k - 1) hlt1]; unfold near; rw [hfar]
          simp only [walk, wl, rgets, retv, argsEnv, ev, cst, cst1, cstL, AEnv.get, AEnv.trim, envput, qstep, abin, aun, evs, evo, deref, qload, target, if_true, if_false, Nat.reduceEqDiff, reduceIte, Nat.reduceAdd, AV.cells, AV.isTuple, setMany, alen, aiaddr, afill, Nat.reduceLeDiff, Nat.reduceMul, Nat.reduceLT, afillE, List.replicate]
          refine withBool_intro ?_ ?_ <;> intro g4 <;> simp only [walk, wl, rgets, retv, argsEnv, ev, cst, cst1, cstL, AEnv.get, AEnv.trim, envput, qstep, abin, aun, evs, evo, deref, qload, target, if_true, if_false, Nat.reduceEqDiff, reduceIte, Nat.reduceAdd, AV.cells, AV.isTuple, setMany, alen, aiaddr, afill, Nat.reduceLeDiff, Nat.reduceMul, Nat.reduceLT, afillE, List.replicate, w1]
          · have : histB rate ts known L = false := histB_f fun hh => by
              have := hnear.1 (hh.2 (k - 1) k (by omega) (by omega))
              simp at g4; omega
            rw [this]; exact out_bool
          · refine loop_end (k + 1) ⟨hlt, hin', fun j h hj => ?_⟩ (by omega) rfl ⟨_, rfl⟩
            rcases Nat.lt_or_ge (j + 1) k with h2 | h2
            · exact hst j h h2
            · obtain rfl : j = k - 1 := by omega
              have e : k - 1 + 1 = k := by omega
              simp only [e]
              exact hnear.2 (by simpa using g4)
        · have h0 : k = 0 := by simp at g3; omega
          rw [w1]
          exact loop_end (k + 1) ⟨hlt, hin', fun j h hj => by omega⟩ (by omega) rfl ⟨_, rfl⟩
    · rw [bad1 (by simp at g1; omega)]; exact out_bool
  · have hk' : k = days.length := by simp at hb; omega
    subst hk'
    have : histB rate ts known L = true := histB_t (hist_of_steps (by rw [hL]; exact up_zip hup) (fun p hp => by
      obtain ⟨j, hj, rfl⟩ := List.getElem_of_mem hp
      rw [hLg j (by omega)]; exact hin j (by omega) (by omega)) (fun j hj => hst j (by omega) (by omega)))
    rw [this]; exact out_bool
end Go.Proofs.YtgadlckkmhhmbaaGreatDoor
