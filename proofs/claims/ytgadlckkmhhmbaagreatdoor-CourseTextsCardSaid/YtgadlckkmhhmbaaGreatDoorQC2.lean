/- Rows of tests, stakes and sheets; contracts of the smallest functions. -/
import Derived.Test.YtgadlckkmhhmbaaGreatDoorQTC
import Derived.Test.YtgadlckkmhhmbaaGreatDoorQTR
import Derived.Test.YtgadlckkmhhmbaaGreatDoorQG7
set_option linter.unusedVariables false
set_option linter.unusedSimpArgs false
set_option linter.unusedSectionVars false
namespace Go.Proofs.YtgadlckkmhhmbaaGreatDoor
open Go.Awp Go.Grams
set_option linter.unusedSimpArgs false
set_option linter.unusedVariables false
set_option linter.unusedSectionVars false
set_option maxRecDepth 10000
theorem amin {n y : Int} : (if y < n then y else n) = min n y := by split <;> omega
theorem amax' {n y : Int} : (if n < y then y else n) = max n y := by split <;> omega
abbrev td (t : Tst) : List AV := [I t.1, I t.2.1, I t.2.2.1, I t.2.2.2]
abbrev kd (k : Stk) : List AV := [I k.1, I k.2.1, I k.2.2.1, I k.2.2.2.1, I k.2.2.2.2]
def trows (ts : List Tst) : List (List AV) := ts.map td
def krows (ks : List Stk) : List (List AV) := ks.map kd
theorem trows_simple (ts : List Tst) : Simple (trows ts) := by
  intro el hel x hx
  obtain ⟨d, _, rfl⟩ := List.mem_map.1 hel
  simp [td] at hx
  rcases hx with rfl | rfl | rfl | rfl <;> rfl
theorem krows_simple (ts : List Stk) : Simple (krows ts) := by
  intro el hel x hx
  obtain ⟨d, _, rfl⟩ := List.mem_map.1 hel
  simp [kd] at hx
  rcases hx with rfl | rfl | rfl | rfl | rfl <;> rfl
theorem trows_length (ts : List Tst) : (trows ts).length = ts.length := List.length_map ..
theorem krows_length (ts : List Stk) : (krows ts).length = ts.length := List.length_map ..
theorem trows_get {ts : List Tst} {k : Nat} (h : k < ts.length) : (trows ts)[k]? = some [I (ts[k]).1, I (ts[k]).2.1, I (ts[k]).2.2.1, I (ts[k]).2.2.2] := by simp [trows, h, td]
theorem krows_get {ts : List Stk} {k : Nat} (h : k < ts.length) : (krows ts)[k]? = some [I (ts[k]).1, I (ts[k]).2.1, I (ts[k]).2.2.1, I (ts[k]).2.2.2.1, I (ts[k]).2.2.2.2] := by simp [krows, h, kd]
theorem trows_all (ts : List Tst) : ((trows ts).all fun e => e.length == 4) = true := by
  rw [List.all_eq_true]; intro e he; obtain ⟨d, _, rfl⟩ := List.mem_map.1 he; rfl
theorem trows_snoc (ts : List Tst) (t : Tst) : trows (ts ++ [t]) = trows ts ++ [td t] := by simp [trows]
/-- A scale, as a call is handed it. -/
abbrev sc (no rate : Int) (ts : List Tst) : AV := .agg [I no, I rate, .ro false (trows ts)]
abbrev scR (b : Bool) (no rate : Int) (ts : List Tst) : AV := .agg [I no, I rate, .ro b (trows ts)]
theorem car_sc {b : Bool} {H : AHeap} {d : Nat} {no rate : Int} {ts : List Tst} : carry false H (d + 3) (.agg [I no, I rate, .ro b (trows ts)]) = some (sc no rate ts) :=
  car_agg (carL_cons car_int (carL_cons car_int (carL_cons (car_ro (trows_simple ts) (.inl rfl)) rfl)))
/-- A sheet, as a call is handed it. -/
abbrev shR (b : Bool) (s : Sht) : List AV := [I s.no, I s.cell, I s.day, I s.known, I s.scale, I s.mouth, I s.empty, I s.emptyDay, .ro b (krows s.st)]
abbrev sh (s : Sht) : AV := .agg (shR false s)
theorem car_sh {b : Bool} {H : AHeap} {d : Nat} {s : Sht} : carry false H (d + 3) (.agg [I s.no, I s.cell, I s.day, I s.known, I s.scale, I s.mouth, I s.empty, I s.emptyDay, .ro b (krows s.st)]) = some (sh s) :=
  car_agg (carL_cons car_int (carL_cons car_int (carL_cons car_int (carL_cons car_int (carL_cons car_int (carL_cons car_int (carL_cons car_int (carL_cons car_int (carL_cons (car_ro (krows_simple _) (.inl rfl)) rfl)))))))))
theorem car_td {out : Bool} {H : AHeap} {d : Nat} {t : Tst} : carry out H (d + 2) (.agg [I t.1, I t.2.1, I t.2.2.1, I t.2.2.2]) = some (.agg (td t)) := rfl
theorem car_kd {out : Bool} {H : AHeap} {d : Nat} {t : Stk} : carry out H (d + 2) (.agg [I t.1, I t.2.1, I t.2.2.1, I t.2.2.2.1, I t.2.2.2.2]) = some (.agg (kd t)) := rfl
theorem number_ok (n : Int) : PCall Tryz.prog 53 [I n] (.bool (okNo n)) := by
  refine PCall.intro text53 (by simp) ?_
  unfold ir53
  simp only [walk, wl, rgets, retv, argsEnv, ev, cst, cst1, cstL, AEnv.get, AEnv.trim, envput, qstep, abin, aun, evs, evo, deref, qload, target, if_true, if_false, Nat.reduceEqDiff, reduceIte, Nat.reduceAdd, AV.cells, AV.isTuple, setMany, alen, aiaddr, afill, Nat.reduceLeDiff, Nat.reduceMul, Nat.reduceLT, afillE, List.replicate]
  refine withGuard_intro ?_ ?_ <;> intro h <;> simp only [walk, wl, rgets, retv, argsEnv, ev, cst, cst1, cstL, AEnv.get, AEnv.trim, envput, qstep, abin, aun, evs, evo, deref, qload, target, if_true, if_false, Nat.reduceEqDiff, reduceIte, Nat.reduceAdd, AV.cells, AV.isTuple, setMany, alen, aiaddr, afill, Nat.reduceLeDiff, Nat.reduceMul, Nat.reduceLT, afillE, List.replicate, h] <;> simp at h <;> simp [out_bool, h, okNo, Int.not_le.2]
theorem day_ok (n : Int) : PCall Tryz.prog 49 [I n] (.bool (okDay n)) := by
  refine PCall.intro text49 (by simp) ?_
  unfold ir49
  simp only [walk, wl, rgets, retv, argsEnv, ev, cst, cst1, cstL, AEnv.get, AEnv.trim, envput, qstep, abin, aun, evs, evo, deref, qload, target, if_true, if_false, Nat.reduceEqDiff, reduceIte, Nat.reduceAdd, AV.cells, AV.isTuple, setMany, alen, aiaddr, afill, Nat.reduceLeDiff, Nat.reduceMul, Nat.reduceLT, afillE, List.replicate]
  refine withGuard_intro ?_ ?_ <;> intro h <;> simp only [walk, wl, rgets, retv, argsEnv, ev, cst, cst1, cstL, AEnv.get, AEnv.trim, envput, qstep, abin, aun, evs, evo, deref, qload, target, if_true, if_false, Nat.reduceEqDiff, reduceIte, Nat.reduceAdd, AV.cells, AV.isTuple, setMany, alen, aiaddr, afill, Nat.reduceLeDiff, Nat.reduceMul, Nat.reduceLT, afillE, List.replicate, h] <;> simp at h <;> simp [out_bool, h, okDay, Int.not_le.2]
theorem gram_ok (n : Int) : PCall Tryz.prog 54 [I n] (.bool (okGram n)) := by
  refine PCall.intro text54 (by simp) ?_
  unfold ir54
  simp only [walk, wl, rgets, retv, argsEnv, ev, cst, cst1, cstL, AEnv.get, AEnv.trim, envput, qstep, abin, aun, evs, evo, deref, qload, target, if_true, if_false, Nat.reduceEqDiff, reduceIte, Nat.reduceAdd, AV.cells, AV.isTuple, setMany, alen, aiaddr, afill, Nat.reduceLeDiff, Nat.reduceMul, Nat.reduceLT, afillE, List.replicate]
  refine withGuard_intro ?_ ?_ <;> intro h <;> simp only [walk, wl, rgets, retv, argsEnv, ev, cst, cst1, cstL, AEnv.get, AEnv.trim, envput, qstep, abin, aun, evs, evo, deref, qload, target, if_true, if_false, Nat.reduceEqDiff, reduceIte, Nat.reduceAdd, AV.cells, AV.isTuple, setMany, alen, aiaddr, afill, Nat.reduceLeDiff, Nat.reduceMul, Nat.reduceLT, afillE, List.replicate, h] <;> simp at h <;> simp [out_bool, h, okGram, Int.not_le.2]
theorem length_ok (n : Int) : PCall Tryz.prog 55 [I n] (.bool (okLen n)) := by
  refine PCall.intro text55 (by simp) ?_
  unfold ir55
  simp only [walk, wl, rgets, retv, argsEnv, ev, cst, cst1, cstL, AEnv.get, AEnv.trim, envput, qstep, abin, aun, evs, evo, deref, qload, target, if_true, if_false, Nat.reduceEqDiff, reduceIte, Nat.reduceAdd, AV.cells, AV.isTuple, setMany, alen, aiaddr, afill, Nat.reduceLeDiff, Nat.reduceMul, Nat.reduceLT, afillE, List.replicate]
  refine withGuard_intro ?_ ?_ <;> intro h <;> simp only [walk, wl, rgets, retv, argsEnv, ev, cst, cst1, cstL, AEnv.get, AEnv.trim, envput, qstep, abin, aun, evs, evo, deref, qload, target, if_true, if_false, Nat.reduceEqDiff, reduceIte, Nat.reduceAdd, AV.cells, AV.isTuple, setMany, alen, aiaddr, afill, Nat.reduceLeDiff, Nat.reduceMul, Nat.reduceLT, afillE, List.replicate, h] <;> simp at h <;> simp [out_bool, h, okLen, Int.not_le.2]
theorem rNumber_ok (n : Int) : PCall Tryz.prog 56 [I n] (.bool (okNo n)) := by
  refine PCall.intro text56 (by simp) ?_
  unfold ir56
  simp only [walk, wl, rgets, retv, argsEnv, ev, cst, cst1, cstL, AEnv.get, AEnv.trim, envput, qstep, abin, aun, evs, evo, deref, qload, target, if_true, if_false, Nat.reduceEqDiff, reduceIte, Nat.reduceAdd, AV.cells, AV.isTuple, setMany, alen, aiaddr, afill, Nat.reduceLeDiff, Nat.reduceMul, Nat.reduceLT, afillE, List.replicate]
  refine withGuard_intro ?_ ?_ <;> intro h <;> simp only [walk, wl, rgets, retv, argsEnv, ev, cst, cst1, cstL, AEnv.get, AEnv.trim, envput, qstep, abin, aun, evs, evo, deref, qload, target, if_true, if_false, Nat.reduceEqDiff, reduceIte, Nat.reduceAdd, AV.cells, AV.isTuple, setMany, alen, aiaddr, afill, Nat.reduceLeDiff, Nat.reduceMul, Nat.reduceLT, afillE, List.replicate, h] <;> simp at h <;> simp [out_bool, h, okNo, Int.not_le.2]
theorem rDay_ok (n : Int) : PCall Tryz.prog 51 [I n] (.bool (okDay n)) := by
  refine PCall.intro text51 (by simp) ?_
  unfold ir51
  simp only [walk, wl, rgets, retv, argsEnv, ev, cst, cst1, cstL, AEnv.get, AEnv.trim, envput, qstep, abin, aun, evs, evo, deref, qload, target, if_true, if_false, Nat.reduceEqDiff, reduceIte, Nat.reduceAdd, AV.cells, AV.isTuple, setMany, alen, aiaddr, afill, Nat.reduceLeDiff, Nat.reduceMul, Nat.reduceLT, afillE, List.replicate]
  refine withGuard_intro ?_ ?_ <;> intro h <;> simp only [walk, wl, rgets, retv, argsEnv, ev, cst, cst1, cstL, AEnv.get, AEnv.trim, envput, qstep, abin, aun, evs, evo, deref, qload, target, if_true, if_false, Nat.reduceEqDiff, reduceIte, Nat.reduceAdd, AV.cells, AV.isTuple, setMany, alen, aiaddr, afill, Nat.reduceLeDiff, Nat.reduceMul, Nat.reduceLT, afillE, List.replicate, h] <;> simp at h <;> simp [out_bool, h, okDay, Int.not_le.2]
theorem rgram_ok (n : Int) : PCall Tryz.prog 57 [I n] (.bool (okGram n)) := by
  refine PCall.intro text57 (by simp) ?_
  unfold ir57
  simp only [walk, wl, rgets, retv, argsEnv, ev, cst, cst1, cstL, AEnv.get, AEnv.trim, envput, qstep, abin, aun, evs, evo, deref, qload, target, if_true, if_false, Nat.reduceEqDiff, reduceIte, Nat.reduceAdd, AV.cells, AV.isTuple, setMany, alen, aiaddr, afill, Nat.reduceLeDiff, Nat.reduceMul, Nat.reduceLT, afillE, List.replicate]
  refine withGuard_intro ?_ ?_ <;> intro h <;> simp only [walk, wl, rgets, retv, argsEnv, ev, cst, cst1, cstL, AEnv.get, AEnv.trim, envput, qstep, abin, aun, evs, evo, deref, qload, target, if_true, if_false, Nat.reduceEqDiff, reduceIte, Nat.reduceAdd, AV.cells, AV.isTuple, setMany, alen, aiaddr, afill, Nat.reduceLeDiff, Nat.reduceMul, Nat.reduceLT, afillE, List.replicate, h] <;> simp at h <;> simp [out_bool, h, okGram, Int.not_le.2]
theorem w_succ {k : Nat} (h : k ≤ 1000000000000000000) : IntKind.i64.wrap ((k : Int) + 1) = ((k + 1 : Nat) : Int) := by rw [wrap_id (by omega) (by omega)]; simp
theorem w_pred {k : Nat} (h0 : 0 < k) (h : k ≤ 1000000000000000000) : IntKind.i64.wrap ((k : Int) - 1) = ((k - 1 : Nat) : Int) := by rw [wrap_id (by omega) (by omega)]; omega
/-- Numbers whose differences are far from the ends of the integers. -/
abbrev Mid (a : Int) : Prop := -1000000000000 ≤ a ∧ a ≤ 1000000000000
theorem apart_ok {a b : Int} (ha : Mid a) (hb : Mid b) : PCall Tryz.prog 44 [I a, I b] (I (far a b)) := by
  refine PCall.intro text44 (by simp) ?_
  unfold ir44
  have e1 : IntKind.i64.wrap (a - b) = a - b := wrap_id (by omega) (by omega)
  have e2 : IntKind.i64.wrap (b - a) = b - a := wrap_id (by omega) (by omega)
  simp only [walk, wl, rgets, retv, argsEnv, ev, cst, cst1, cstL, AEnv.get, AEnv.trim, envput, qstep, abin, aun, evs, evo, deref, qload, target, if_true, if_false, Nat.reduceEqDiff, reduceIte, Nat.reduceAdd, AV.cells, AV.isTuple, setMany, alen, aiaddr, afill, Nat.reduceLeDiff, Nat.reduceMul, Nat.reduceLT, afillE, List.replicate, e1, e2, amm, amm.go, amax']
  exact out_int
end Go.Proofs.YtgadlckkmhhmbaaGreatDoor
/- Contracts: tests and scales, whether they are valid. -/
namespace Go.Proofs.YtgadlckkmhhmbaaGreatDoor
open Go.Awp Go.Grams
set_option linter.unusedSimpArgs false
set_option linter.unusedVariables false
set_option linter.unusedSectionVars false
set_option maxRecDepth 10000
def chkT (t : Tst) : Int := if okT t = true then 0 else 10
theorem okT_eq (t : Tst) : okT t = (okDay t.1 && okDay t.2.1 && decide (t.2.2.1 ≤ t.2.2.2 ∧ -1048576 ≤ t.2.2.1 ∧ t.2.2.2 ≤ 1048576)) := rfl
theorem chkT_f {t : Tst} (h : okT t = false) : chkT t = 10 := by simp [chkT, h]
theorem chkT_t {t : Tst} (h : okT t = true) : chkT t = 0 := by simp [chkT, h]
theorem CheckTest_ok (t : Tst) : PCall Tryz.prog 24 [.agg (td t)] (I (chkT t)) := by
  refine PCall.intro text24 (by simp) ?_
  unfold ir24
  simp only [walk, wl, rgets, retv, argsEnv, ev, cst, cst1, cstL, AEnv.get, AEnv.trim, envput, qstep, abin, aun, evs, evo, deref, qload, target, if_true, if_false, Nat.reduceEqDiff, reduceIte, Nat.reduceAdd, AV.cells, AV.isTuple, setMany, alen, aiaddr, afill, Nat.reduceLeDiff, Nat.reduceMul, Nat.reduceLT, afillE, List.replicate]
  refine call_pure (day_ok _) (frzL_of' (d := 1) rfl) ?_
  simp only [walk, wl, rgets, retv, argsEnv, ev, cst, cst1, cstL, AEnv.get, AEnv.trim, envput, qstep, abin, aun, evs, evo, deref, qload, target, if_true, if_false, Nat.reduceEqDiff, reduceIte, Nat.reduceAdd, AV.cells, AV.isTuple, setMany, alen, aiaddr, afill, Nat.reduceLeDiff, Nat.reduceMul, Nat.reduceLT, afillE, List.replicate]
  refine withGuard_intro ?_ ?_ <;> intro h1 <;> simp only [walk, wl, rgets, retv, argsEnv, ev, cst, cst1, cstL, AEnv.get, AEnv.trim, envput, qstep, abin, aun, evs, evo, deref, qload, target, if_true, if_false, Nat.reduceEqDiff, reduceIte, Nat.reduceAdd, AV.cells, AV.isTuple, setMany, alen, aiaddr, afill, Nat.reduceLeDiff, Nat.reduceMul, Nat.reduceLT, afillE, List.replicate, h1]
  · refine call_pure (day_ok _) (frzL_of' (d := 1) rfl) ?_
    simp only [walk, wl, rgets, retv, argsEnv, ev, cst, cst1, cstL, AEnv.get, AEnv.trim, envput, qstep, abin, aun, evs, evo, deref, qload, target, if_true, if_false, Nat.reduceEqDiff, reduceIte, Nat.reduceAdd, AV.cells, AV.isTuple, setMany, alen, aiaddr, afill, Nat.reduceLeDiff, Nat.reduceMul, Nat.reduceLT, afillE, List.replicate]
    refine withGuard_intro ?_ ?_ <;> intro h2 <;> simp only [walk, wl, rgets, retv, argsEnv, ev, cst, cst1, cstL, AEnv.get, AEnv.trim, envput, qstep, abin, aun, evs, evo, deref, qload, target, if_true, if_false, Nat.reduceEqDiff, reduceIte, Nat.reduceAdd, AV.cells, AV.isTuple, setMany, alen, aiaddr, afill, Nat.reduceLeDiff, Nat.reduceMul, Nat.reduceLT, afillE, List.replicate, h2]
    · refine withGuard_intro ?_ ?_ <;> intro h3 <;> simp only [walk, wl, rgets, retv, argsEnv, ev, cst, cst1, cstL, AEnv.get, AEnv.trim, envput, qstep, abin, aun, evs, evo, deref, qload, target, if_true, if_false, Nat.reduceEqDiff, reduceIte, Nat.reduceAdd, AV.cells, AV.isTuple, setMany, alen, aiaddr, afill, Nat.reduceLeDiff, Nat.reduceMul, Nat.reduceLT, afillE, List.replicate, h3]
      · refine withGuard_intro ?_ ?_ <;> intro h4 <;> simp only [walk, wl, rgets, retv, argsEnv, ev, cst, cst1, cstL, AEnv.get, AEnv.trim, envput, qstep, abin, aun, evs, evo, deref, qload, target, if_true, if_false, Nat.reduceEqDiff, reduceIte, Nat.reduceAdd, AV.cells, AV.isTuple, setMany, alen, aiaddr, afill, Nat.reduceLeDiff, Nat.reduceMul, Nat.reduceLT, afillE, List.replicate, h4]
        · refine withBool_intro ?_ ?_ <;> intro h5 <;> simp only [walk, wl, rgets, retv, argsEnv, ev, cst, cst1, cstL, AEnv.get, AEnv.trim, envput, qstep, abin, aun, evs, evo, deref, qload, target, if_true, if_false, Nat.reduceEqDiff, reduceIte, Nat.reduceAdd, AV.cells, AV.isTuple, setMany, alen, aiaddr, afill, Nat.reduceLeDiff, Nat.reduceMul, Nat.reduceLT, afillE, List.replicate]
          · rw [chkT_f (by rw [okT_eq]; simp at h5; simp; intros; omega)]; exact out_int
          · rw [chkT_t (by rw [okT_eq]; simp at h1 h2 h3 h4 h5; simp [h1, h2]; omega)]; exact out_int
        · rw [chkT_f (by rw [okT_eq]; simp at h4; simp; intros; omega)]; exact out_int
      · rw [chkT_f (by rw [okT_eq]; simp at h3; simp; intros; omega)]; exact out_int
    · rw [chkT_f (by rw [okT_eq]; simp at h2; simp [h2])]; exact out_int
  · rw [chkT_f (by rw [okT_eq]; simp at h1; simp [h1])]; exact out_int
theorem rCheckTest_ok (t : Tst) : PCall Tryz.prog 28 [.agg (td t)] (I (chkT t)) := by
  refine PCall.intro text28 (by simp) ?_
  unfold ir28
  simp only [walk, wl, rgets, retv, argsEnv, ev, cst, cst1, cstL, AEnv.get, AEnv.trim, envput, qstep, abin, aun, evs, evo, deref, qload, target, if_true, if_false, Nat.reduceEqDiff, reduceIte, Nat.reduceAdd, AV.cells, AV.isTuple, setMany, alen, aiaddr, afill, Nat.reduceLeDiff, Nat.reduceMul, Nat.reduceLT, afillE, List.replicate]
  refine call_pure (rDay_ok _) (frzL_of' (d := 1) rfl) ?_
  simp only [walk, wl, rgets, retv, argsEnv, ev, cst, cst1, cstL, AEnv.get, AEnv.trim, envput, qstep, abin, aun, evs, evo, deref, qload, target, if_true, if_false, Nat.reduceEqDiff, reduceIte, Nat.reduceAdd, AV.cells, AV.isTuple, setMany, alen, aiaddr, afill, Nat.reduceLeDiff, Nat.reduceMul, Nat.reduceLT, afillE, List.replicate]
  refine call_pure (rDay_ok _) (frzL_of' (d := 1) rfl) ?_
  simp only [walk, wl, rgets, retv, argsEnv, ev, cst, cst1, cstL, AEnv.get, AEnv.trim, envput, qstep, abin, aun, evs, evo, deref, qload, target, if_true, if_false, Nat.reduceEqDiff, reduceIte, Nat.reduceAdd, AV.cells, AV.isTuple, setMany, alen, aiaddr, afill, Nat.reduceLeDiff, Nat.reduceMul, Nat.reduceLT, afillE, List.replicate]
  refine withGuard_intro ?_ ?_ <;> intro h1 <;> simp only [walk, wl, rgets, retv, argsEnv, ev, cst, cst1, cstL, AEnv.get, AEnv.trim, envput, qstep, abin, aun, evs, evo, deref, qload, target, if_true, if_false, Nat.reduceEqDiff, reduceIte, Nat.reduceAdd, AV.cells, AV.isTuple, setMany, alen, aiaddr, afill, Nat.reduceLeDiff, Nat.reduceMul, Nat.reduceLT, afillE, List.replicate, h1]
  · refine withGuard_intro ?_ ?_ <;> intro h2 <;> simp only [walk, wl, rgets, retv, argsEnv, ev, cst, cst1, cstL, AEnv.get, AEnv.trim, envput, qstep, abin, aun, evs, evo, deref, qload, target, if_true, if_false, Nat.reduceEqDiff, reduceIte, Nat.reduceAdd, AV.cells, AV.isTuple, setMany, alen, aiaddr, afill, Nat.reduceLeDiff, Nat.reduceMul, Nat.reduceLT, afillE, List.replicate, h2]
    · refine withGuard_intro ?_ ?_ <;> intro h3 <;> simp only [walk, wl, rgets, retv, argsEnv, ev, cst, cst1, cstL, AEnv.get, AEnv.trim, envput, qstep, abin, aun, evs, evo, deref, qload, target, if_true, if_false, Nat.reduceEqDiff, reduceIte, Nat.reduceAdd, AV.cells, AV.isTuple, setMany, alen, aiaddr, afill, Nat.reduceLeDiff, Nat.reduceMul, Nat.reduceLT, afillE, List.replicate, h3]
      · refine withGuard_intro ?_ ?_ <;> intro h4 <;> simp only [walk, wl, rgets, retv, argsEnv, ev, cst, cst1, cstL, AEnv.get, AEnv.trim, envput, qstep, abin, aun, evs, evo, deref, qload, target, if_true, if_false, Nat.reduceEqDiff, reduceIte, Nat.reduceAdd, AV.cells, AV.isTuple, setMany, alen, aiaddr, afill, Nat.reduceLeDiff, Nat.reduceMul, Nat.reduceLT, afillE, List.replicate, h4]
        · refine withBool_intro ?_ ?_ <;> intro h5 <;> simp only [walk, wl, rgets, retv, argsEnv, ev, cst, cst1, cstL, AEnv.get, AEnv.trim, envput, qstep, abin, aun, evs, evo, deref, qload, target, if_true, if_false, Nat.reduceEqDiff, reduceIte, Nat.reduceAdd, AV.cells, AV.isTuple, setMany, alen, aiaddr, afill, Nat.reduceLeDiff, Nat.reduceMul, Nat.reduceLT, afillE, List.replicate]
          · rw [chkT_t (by rw [okT_eq]; simp at h1 h2 h3 h4 h5; simp [h1, h2]; omega)]; exact out_int
          · rw [chkT_f (by rw [okT_eq]; simp at h5; simp; intros; omega)]; exact out_int
        · rw [chkT_f (by rw [okT_eq]; simp at h4; simp; intros; omega)]; exact out_int
      · rw [chkT_f (by rw [okT_eq]; simp at h3; simp; intros; omega)]; exact out_int
    · rw [chkT_f (by rw [okT_eq]; simp at h2; simp [h2])]; exact out_int
  · rw [chkT_f (by rw [okT_eq]; simp at h1; simp [h1])]; exact out_int
end Go.Proofs.YtgadlckkmhhmbaaGreatDoor
/- Contracts: scales; the first tests that contradict each other. -/
namespace Go.Proofs.YtgadlckkmhhmbaaGreatDoor
open Go.Awp Go.Grams
set_option linter.unusedSimpArgs false
set_option linter.unusedVariables false
set_option linter.unusedSectionVars false
set_option maxRecDepth 10000
theorem far_le {a b : Int} (ha : Mid a) (hb : Mid b) : far a b ≤ 2000000000000 := by unfold far; omega
theorem mul_bd {r f : Int} (hr : 0 ≤ r ∧ r ≤ 1000) (hf : 0 ≤ f ∧ f ≤ 2000000000000) : 0 ≤ r * f ∧ r * f ≤ 2000000000000000 := by
  refine ⟨Int.mul_nonneg hr.1 hf.1, ?_⟩
  have := Int.mul_le_mul hr.2 hf.2 hf.1 (by omega : (0 : Int) ≤ 1000)
  omega
theorem rf_bd {r a b : Int} (hr : 0 ≤ r ∧ r ≤ 1000) (ha : Mid a) (hb : Mid b) : 0 ≤ r * far a b ∧ r * far a b ≤ 2000000000000000 := mul_bd hr ⟨far_nonneg a b, far_le ha hb⟩
theorem okT_mid {t : Tst} (h : okT t = true) : (0 ≤ t.1 ∧ t.1 ≤ 1048576) ∧ (0 ≤ t.2.1 ∧ t.2.1 ≤ 1048576) ∧ t.2.2.1 ≤ t.2.2.2 ∧ -1048576 ≤ t.2.2.1 ∧ t.2.2.2 ≤ 1048576 := okT_iff.1 h
theorem contradict_ok {rate : Int} {t u : Tst} (hr : 0 ≤ rate ∧ rate ≤ 1000) (ht : okT t = true) (hu : okT u = true) : PCall Tryz.prog 41 [I rate, .agg (td t), .agg (td u)] (.bool (clash rate t u)) := by
  refine PCall.intro text41 (by simp) ?_
  unfold ir41
  have ht' := okT_mid ht
  have hu' := okT_mid hu
  have hb := rf_bd (a := t.1) (b := u.1) hr (by omega) (by omega)
  have e1 : IntKind.i64.wrap (t.2.2.1 - u.2.2.2) = t.2.2.1 - u.2.2.2 := wrap_id (by omega) (by omega)
  have e2 : IntKind.i64.wrap (u.2.2.1 - t.2.2.2) = u.2.2.1 - t.2.2.2 := wrap_id (by omega) (by omega)
  have e3 : IntKind.i64.wrap (rate * far t.1 u.1) = rate * far t.1 u.1 := wrap_id (by omega) (by omega)
  simp only [walk, wl, rgets, retv, argsEnv, ev, cst, cst1, cstL, AEnv.get, AEnv.trim, envput, qstep, abin, aun, evs, evo, deref, qload, target, if_true, if_false, Nat.reduceEqDiff, reduceIte, Nat.reduceAdd, AV.cells, AV.isTuple, setMany, alen, aiaddr, afill, Nat.reduceLeDiff, Nat.reduceMul, Nat.reduceLT, afillE, List.replicate, e1, e2, amm, amm.go, amax']
  refine dcall_pure (apart_ok (by omega) (by omega)) (frzL_of (d := 1) rfl) ?_
  simp only [walk, wl, rgets, retv, argsEnv, ev, cst, cst1, cstL, AEnv.get, AEnv.trim, envput, qstep, abin, aun, evs, evo, deref, qload, target, if_true, if_false, Nat.reduceEqDiff, reduceIte, Nat.reduceAdd, AV.cells, AV.isTuple, setMany, alen, aiaddr, afill, Nat.reduceLeDiff, Nat.reduceMul, Nat.reduceLT, afillE, List.replicate, e3, e1, e2, amm, amm.go, amax']
  exact out_bool
theorem well_f {no rate : Int} {ts : List Tst} (h : ¬ (okNo no = true ∧ (0 ≤ rate ∧ rate ≤ 1000) ∧ ts.length ≤ 64 ∧ (∀ t, t ∈ ts → okT t = true) ∧ later ts = true)) : well no rate ts = false := by
  rw [← Bool.not_eq_true, well_iff]; exact h
theorem later_f {ts : List Tst} {k : Nat} (hk : k < ts.length) (h0 : 0 < k) (h : ts[k].2.1 < ts[k - 1].2.1) : ¬ later ts = true := fun hl => by
  have := later_get hl hk h0; omega
def chkW (no rate : Int) (ts : List Tst) : Int := if well no rate ts = true then 0 else 11
theorem well_ok (no rate : Int) (ts : List Tst) : PCall Tryz.prog 76 [sc no rate ts] (I (chkW no rate ts)) := by
  refine PCall.intro text76 (by simp) ?_
  unfold ir76
  have wf : ∀ h : ¬ (okNo no = true ∧ (0 ≤ rate ∧ rate ≤ 1000) ∧ ts.length ≤ 64 ∧ (∀ t, t ∈ ts → okT t = true) ∧ later ts = true), chkW no rate ts = 11 := fun h => by simp [chkW, well_f h]
  simp only [walk, wl, rgets, retv, argsEnv, ev, cst, cst1, cstL, AEnv.get, AEnv.trim, envput, qstep, abin, aun, evs, evo, deref, qload, target, if_true, if_false, Nat.reduceEqDiff, reduceIte, Nat.reduceAdd, AV.cells, AV.isTuple, setMany, alen, aiaddr, afill, Nat.reduceLeDiff, Nat.reduceMul, Nat.reduceLT, afillE, List.replicate]
  refine call_pure (number_ok _) (frzL_of' (d := 1) rfl) ?_
  simp only [walk, wl, rgets, retv, argsEnv, ev, cst, cst1, cstL, AEnv.get, AEnv.trim, envput, qstep, abin, aun, evs, evo, deref, qload, target, if_true, if_false, Nat.reduceEqDiff, reduceIte, Nat.reduceAdd, AV.cells, AV.isTuple, setMany, alen, aiaddr, afill, Nat.reduceLeDiff, Nat.reduceMul, Nat.reduceLT, afillE, List.replicate]
  refine withGuard_intro ?_ ?_ <;> intro h1 <;> simp only [walk, wl, rgets, retv, argsEnv, ev, cst, cst1, cstL, AEnv.get, AEnv.trim, envput, qstep, abin, aun, evs, evo, deref, qload, target, if_true, if_false, Nat.reduceEqDiff, reduceIte, Nat.reduceAdd, AV.cells, AV.isTuple, setMany, alen, aiaddr, afill, Nat.reduceLeDiff, Nat.reduceMul, Nat.reduceLT, afillE, List.replicate, h1]
  · refine withGuard_intro ?_ ?_ <;> intro h2 <;> simp only [walk, wl, rgets, retv, argsEnv, ev, cst, cst1, cstL, AEnv.get, AEnv.trim, envput, qstep, abin, aun, evs, evo, deref, qload, target, if_true, if_false, Nat.reduceEqDiff, reduceIte, Nat.reduceAdd, AV.cells, AV.isTuple, setMany, alen, aiaddr, afill, Nat.reduceLeDiff, Nat.reduceMul, Nat.reduceLT, afillE, List.replicate, h2]
    · refine withGuard_intro ?_ ?_ <;> intro h3 <;> simp only [walk, wl, rgets, retv, argsEnv, ev, cst, cst1, cstL, AEnv.get, AEnv.trim, envput, qstep, abin, aun, evs, evo, deref, qload, target, if_true, if_false, Nat.reduceEqDiff, reduceIte, Nat.reduceAdd, AV.cells, AV.isTuple, setMany, alen, aiaddr, afill, Nat.reduceLeDiff, Nat.reduceMul, Nat.reduceLT, afillE, List.replicate, h3, trows_length]
      · refine withBool_intro ?_ ?_ <;> intro h4 <;> simp only [walk, wl, rgets, retv, argsEnv, ev, cst, cst1, cstL, AEnv.get, AEnv.trim, envput, qstep, abin, aun, evs, evo, deref, qload, target, if_true, if_false, Nat.reduceEqDiff, reduceIte, Nat.reduceAdd, AV.cells, AV.isTuple, setMany, alen, aiaddr, afill, Nat.reduceLeDiff, Nat.reduceMul, Nat.reduceLT, afillE, List.replicate]
        · rw [wf (by simp at h4; intro h; omega)]; exact out_int
        · have hno : okNo no = true := by simpa using h1
          have hr : 0 ≤ rate ∧ rate ≤ 1000 := by simp at h2 h3; omega
          have hlen : ts.length ≤ 64 := by simp at h4; omega
          simp only [walk, wl, rgets, retv, argsEnv, ev, cst, cst1, cstL, AEnv.get, AEnv.trim, envput, qstep, abin, aun, evs, evo, deref, qload, target, if_true, if_false, Nat.reduceEqDiff, reduceIte, Nat.reduceAdd, AV.cells, AV.isTuple, setMany, alen, aiaddr, afill, Nat.reduceLeDiff, Nat.reduceMul, Nat.reduceLT, afillE, List.replicate, trows_length]
          refine awp_loop (σ := Nat) (fun k => [(1, .ptr 0 1 0 0), (26, .ro false (trows ts)), (27, I ts.length), (28, I k)]) (fun _ H => ∃ X, H = some ⟨40, 3, [[I no, I rate, .ro false (trows ts)]]⟩ :: X) (fun k => k ≤ ts.length ∧ (ts.take k).all okT = true ∧ later (ts.take k) = true) (fun k => ts.length - k) 0 ⟨Nat.zero_le _, rfl, rfl⟩ rfl ⟨[], rfl⟩ ?_
          rintro k H ⟨hk, hall, hlat⟩ ⟨X, rfl⟩
          simp only [walk, wl, rgets, retv, argsEnv, ev, cst, cst1, cstL, AEnv.get, AEnv.trim, envput, qstep, abin, aun, evs, evo, deref, qload, target, if_true, if_false, Nat.reduceEqDiff, reduceIte, Nat.reduceAdd, AV.cells, AV.isTuple, setMany, alen, aiaddr, afill, Nat.reduceLeDiff, Nat.reduceMul, Nat.reduceLT, afillE, List.replicate]
          refine withBool_intro ?_ ?_ <;> intro hb <;> simp only [walk, wl, rgets, retv, argsEnv, ev, cst, cst1, cstL, AEnv.get, AEnv.trim, envput, qstep, abin, aun, evs, evo, deref, qload, target, if_true, if_false, Nat.reduceEqDiff, reduceIte, Nat.reduceAdd, AV.cells, AV.isTuple, setMany, alen, aiaddr, afill, Nat.reduceLeDiff, Nat.reduceMul, Nat.reduceLT, afillE, List.replicate]
          · have hlt : k < ts.length := by simpa using hb
            simp only [walk, wl, rgets, retv, argsEnv, ev, cst, cst1, cstL, AEnv.get, AEnv.trim, envput, qstep, abin, aun, evs, evo, deref, qload, target, if_true, if_false, Nat.reduceEqDiff, reduceIte, Nat.reduceAdd, AV.cells, AV.isTuple, setMany, alen, aiaddr, afill, Nat.reduceLeDiff, Nat.reduceMul, Nat.reduceLT, afillE, List.replicate, trows_get hlt, List.length_cons]
            refine dcall_pure (CheckTest_ok ts[k]) (frzL_of (d := 2) rfl) ?_
            have w1 := w_succ (k := k) (by omega)
            simp only [walk, wl, rgets, retv, argsEnv, ev, cst, cst1, cstL, AEnv.get, AEnv.trim, envput, qstep, abin, aun, evs, evo, deref, qload, target, if_true, if_false, Nat.reduceEqDiff, reduceIte, Nat.reduceAdd, AV.cells, AV.isTuple, setMany, alen, aiaddr, afill, Nat.reduceLeDiff, Nat.reduceMul, Nat.reduceLT, afillE, List.replicate]
            refine withGuard_intro ?_ ?_ <;> intro g1 <;> simp only [walk, wl, rgets, retv, argsEnv, ev, cst, cst1, cstL, AEnv.get, AEnv.trim, envput, qstep, abin, aun, evs, evo, deref, qload, target, if_true, if_false, Nat.reduceEqDiff, reduceIte, Nat.reduceAdd, AV.cells, AV.isTuple, setMany, alen, aiaddr, afill, Nat.reduceLeDiff, Nat.reduceMul, Nat.reduceLT, afillE, List.replicate, g1]
            · have hok : okT ts[k] = true := by
                unfold chkT at g1
                split at g1
                · assumption
                · simp at g1
              refine withGuard_intro ?_ ?_ <;> intro g2 <;> simp only [walk, wl, rgets, retv, argsEnv, ev, cst, cst1, cstL, AEnv.get, AEnv.trim, envput, qstep, abin, aun, evs, evo, deref, qload, target, if_true, if_false, Nat.reduceEqDiff, reduceIte, Nat.reduceAdd, AV.cells, AV.isTuple, setMany, alen, aiaddr, afill, Nat.reduceLeDiff, Nat.reduceMul, Nat.reduceLT, afillE, List.replicate, g2]
              · have h0 : 0 < k := by simp at g2; omega
                have hlt1 : k - 1 < ts.length := by omega
                simp only [walk, wl, rgets, retv, argsEnv, ev, cst, cst1, cstL, AEnv.get, AEnv.trim, envput, qstep, abin, aun, evs, evo, deref, qload, target, if_true, if_false, Nat.reduceEqDiff, reduceIte, Nat.reduceAdd, AV.cells, AV.isTuple, setMany, alen, aiaddr, afill, Nat.reduceLeDiff, Nat.reduceMul, Nat.reduceLT, afillE, List.replicate, w_pred h0 (by omega), trows_get hlt1]
                refine withBool_intro ?_ ?_ <;> intro g3 <;> simp only [walk, wl, rgets, retv, argsEnv, ev, cst, cst1, cstL, AEnv.get, AEnv.trim, envput, qstep, abin, aun, evs, evo, deref, qload, target, if_true, if_false, Nat.reduceEqDiff, reduceIte, Nat.reduceAdd, AV.cells, AV.isTuple, setMany, alen, aiaddr, afill, Nat.reduceLeDiff, Nat.reduceMul, Nat.reduceLT, afillE, List.replicate, w1]
                · rw [wf (fun h => later_f hlt h0 (by simp at g3; omega) h.2.2.2.2)]; exact out_int
                · refine loop_end (k + 1) ⟨hlt, all_take hall hlt hok, later_take hlt hlat (.inr fun _ => by simp at g3; omega)⟩ (by omega) rfl ⟨_, rfl⟩
              · have h0 : k = 0 := by simp at g2; omega
                rw [w1]
                refine loop_end (k + 1) ⟨hlt, all_take hall hlt hok, later_take hlt hlat (.inl h0)⟩ (by omega) rfl ⟨_, rfl⟩
            · have hok : okT ts[k] = false := by
                unfold chkT at g1
                split at g1
                · simp at g1
                · simpa using ‹¬ okT ts[k] = true›
              rw [wf (fun h => by
                have := h.2.2.2.1 ts[k] (List.getElem_mem hlt)
                rw [hok] at this; cases this)]
              exact out_int
          · have hk' : k = ts.length := by simp at hb; omega
            subst hk'
            rw [List.take_length] at hall hlat
            have : chkW no rate ts = 0 := by
              unfold chkW; rw [if_pos (well_iff.2 ⟨hno, hr, hlen, by simpa using hall, hlat⟩)]
            rw [this]; exact out_int
      · rw [wf (by simp at h3; intro h; omega)]; exact out_int
    · rw [wf (by simp at h2; intro h; omega)]; exact out_int
  · rw [wf (by simp at h1; intro h; rw [h.1] at h1; cases h1)]; exact out_int
end Go.Proofs.YtgadlckkmhhmbaaGreatDoor
