/- Contracts: Ready, Yield, Enough, Less. -/
import Derived.Test.YtmcndbldbemebaaDoorQC9
set_option linter.unusedVariables false
set_option linter.unusedSimpArgs false
set_option linter.unusedSectionVars false
namespace Go.Proofs.YtmcndbldbemebaaDoor
open Go.Awp Go.Snow
set_option linter.unusedSimpArgs false
set_option linter.unusedVariables false
set_option linter.unusedSectionVars false
set_option maxRecDepth 10000
theorem roomL_app (a b : List Lay) : roomL (a ++ b) = roomL a + roomL b := by
  induction a with
  | nil => simp [roomL]
  | cons x r ih => simp only [List.cons_append, roomL, ih]; omega
theorem roomL_take {ls : List Lay} {k : Nat} (h : k < ls.length) : roomL (ls.take (k + 1)) = roomL (ls.take k) + room ls[k] := by
  rw [List.take_succ_eq_append_getElem h, roomL_app]; simp [roomL]
theorem room_small {l : Lay} (h : right l = true) : 0 ≤ room l ∧ room l ≤ 1000000 := by
  have := right_iff.1 h
  unfold room; omega
theorem roomL_small {ls : List Lay} (h : ∀ l, l ∈ ls → right l = true) : ∀ k, k ≤ ls.length → 0 ≤ roomL (ls.take k) ∧ roomL (ls.take k) ≤ 1000000 * k
  | 0, _ => by simp [roomL]
  | k + 1, hk => by
    have := roomL_small h k (by omega)
    have := room_small (h ls[k] (List.getElem_mem _))
    rw [roomL_take (by omega)]
    omega
def readyV (ls : List Lay) : Int × Int := if okP ls then (roomL ls, 0) else (0, 20)
theorem Ready_ok (ls : List Lay) : PCall Tryd.prog 26 [.agg [.ro false (rows ls)]] (.tuple [I (readyV ls).1, I (readyV ls).2]) := by
  refine PCall.intro text26 (by simp) ?_
  unfold ir26
  simp only [walk, wl, rgets, retv, argsEnv, ev, cst, cst1, cstL, AEnv.get, AEnv.trim, envput, qstep, abin, aun, evs, evo, deref, qload, target, if_true, if_false, Nat.reduceEqDiff, reduceIte, Nat.reduceAdd, AV.cells, AV.isTuple, setMany, alen, aiaddr, afill, Nat.reduceLeDiff, Nat.reduceMul, Nat.reduceLT, afillE, List.replicate]
  refine call_pure (Check_ok ls) (frzL_of' (d := 4) car_pkL) ?_
  simp only [walk, wl, rgets, retv, argsEnv, ev, cst, cst1, cstL, AEnv.get, AEnv.trim, envput, qstep, abin, aun, evs, evo, deref, qload, target, if_true, if_false, Nat.reduceEqDiff, reduceIte, Nat.reduceAdd, AV.cells, AV.isTuple, setMany, alen, aiaddr, afill, Nat.reduceLeDiff, Nat.reduceMul, Nat.reduceLT, afillE, List.replicate]
  refine withBool_intro ?_ ?_ <;> intro h <;> simp only [walk, wl, rgets, retv, argsEnv, ev, cst, cst1, cstL, AEnv.get, AEnv.trim, envput, qstep, abin, aun, evs, evo, deref, qload, target, if_true, if_false, Nat.reduceEqDiff, reduceIte, Nat.reduceAdd, AV.cells, AV.isTuple, setMany, alen, aiaddr, afill, Nat.reduceLeDiff, Nat.reduceMul, Nat.reduceLT, afillE, List.replicate]
  · obtain ⟨h1, h2⟩ := chk_ne (ls := ls) (by simpa using h)
    simp only [h2, readyV, h1, Bool.false_eq_true, if_false]; exact out_two out_int out_int
  · have h1 := chk_zero (ls := ls) (by simpa using h)
    obtain ⟨hlen, hR, -, -⟩ := okP_iff.1 h1
    simp only [walk, wl, rgets, retv, argsEnv, ev, cst, cst1, cstL, AEnv.get, AEnv.trim, envput, qstep, abin, aun, evs, evo, deref, qload, target, if_true, if_false, Nat.reduceEqDiff, reduceIte, Nat.reduceAdd, AV.cells, AV.isTuple, setMany, alen, aiaddr, afill, Nat.reduceLeDiff, Nat.reduceMul, Nat.reduceLT, afillE, List.replicate, rows_length]
    refine awp_loop (σ := Nat) (fun k => [(5, I (roomL (ls.take k))), (14, .ro false (rows ls)), (15, I ls.length), (16, I k)]) (fun _ H => True) (fun k => k ≤ ls.length) (fun k => ls.length - k) 0 (Nat.zero_le _) rfl trivial ?_
    rintro k H hk -
    simp only [walk, wl, rgets, retv, argsEnv, ev, cst, cst1, cstL, AEnv.get, AEnv.trim, envput, qstep, abin, aun, evs, evo, deref, qload, target, if_true, if_false, Nat.reduceEqDiff, reduceIte, Nat.reduceAdd, AV.cells, AV.isTuple, setMany, alen, aiaddr, afill, Nat.reduceLeDiff, Nat.reduceMul, Nat.reduceLT, afillE, List.replicate]
    refine withBool_intro ?_ ?_ <;> intro hb <;> simp only [walk, wl, rgets, retv, argsEnv, ev, cst, cst1, cstL, AEnv.get, AEnv.trim, envput, qstep, abin, aun, evs, evo, deref, qload, target, if_true, if_false, Nat.reduceEqDiff, reduceIte, Nat.reduceAdd, AV.cells, AV.isTuple, setMany, alen, aiaddr, afill, Nat.reduceLeDiff, Nat.reduceMul, Nat.reduceLT, afillE, List.replicate]
    · have hlt : k < ls.length := by simpa using hb
      have h2 := roomL_small hR k hk
      have h3 := right_iff.1 (hR ls[k] (List.getElem_mem hlt))
      have h4 := room_small (hR ls[k] (List.getElem_mem hlt))
      have e1 : IntKind.i64.wrap (ls[k].2.2 - ls[k].2.1) = ls[k].2.2 - ls[k].2.1 := wrap_id (by omega) (by omega)
      have e2 : IntKind.i64.wrap (roomL (ls.take k) + (ls[k].2.2 - ls[k].2.1)) = roomL (ls.take k) + (ls[k].2.2 - ls[k].2.1) := wrap_id (by omega) (by omega)
      have e3 : IntKind.i64.wrap (ls[k].1 + ls[k].2.2) = ls[k].1 + ls[k].2.2 := wrap_id (by omega) (by omega)
      have e5 : IntKind.i64.wrap ((k : Int) + 1) = ((k + 1 : Nat) : Int) := by rw [wrap_id (by omega) (by omega)]; simp
      simp only [walk, wl, rgets, retv, argsEnv, ev, cst, cst1, cstL, AEnv.get, AEnv.trim, envput, qstep, abin, aun, evs, evo, deref, qload, target, if_true, if_false, Nat.reduceEqDiff, reduceIte, Nat.reduceAdd, AV.cells, AV.isTuple, setMany, alen, aiaddr, afill, Nat.reduceLeDiff, Nat.reduceMul, Nat.reduceLT, afillE, List.replicate, rows_get hlt, e1, e2, e3]
      refine call_pure (hold_ok (l := (ls[k].1 + ls[k].2.2, ls[k].2.1, ls[k].2.2)) (by simp only; omega) (by simp only; omega)) (frzL_of' (d := 4) rfl) ?_
      have e4 : IntKind.i64.wrap (roomL (ls.take k) + (ls[k].2.2 - ls[k].2.1) + (ls[k].1 + ls[k].2.2) / 20) = roomL (ls.take (k + 1)) := by
        rw [wrap_id (by omega) (by omega), roomL_take hlt]; unfold room; omega
      simp only [walk, wl, rgets, retv, argsEnv, ev, cst, cst1, cstL, AEnv.get, AEnv.trim, envput, qstep, abin, aun, evs, evo, deref, qload, target, if_true, if_false, Nat.reduceEqDiff, reduceIte, Nat.reduceAdd, AV.cells, AV.isTuple, setMany, alen, aiaddr, afill, Nat.reduceLeDiff, Nat.reduceMul, Nat.reduceLT, afillE, List.replicate, e4, e5]
      refine loop_end (k + 1) hlt (by omega) rfl trivial
    · have hk' : k = ls.length := by simp at hb; omega
      subst hk'
      rw [List.take_length]
      simp only [readyV, h1, if_true]; exact out_two out_int out_int
def yieldV (ls : List Lay) (m : Int) : Int × Int := if okP ls then (if 0 ≤ m ∧ m ≤ 65536 then ((times melt1 m.toNat ls).2, 0) else (0, 1)) else (0, 20)
theorem Yield_ok (ls : List Lay) (m : Int) : PCall Tryd.prog 49 [.agg [.ro false (rows ls)], I m] (.tuple [I (yieldV ls m).1, I (yieldV ls m).2]) := by
  refine PCall.intro text49 (by simp) ?_
  unfold ir49
  simp only [walk, wl, rgets, retv, argsEnv, ev, cst, cst1, cstL, AEnv.get, AEnv.trim, envput, qstep, abin, aun, evs, evo, deref, qload, target, if_true, if_false, Nat.reduceEqDiff, reduceIte, Nat.reduceAdd, AV.cells, AV.isTuple, setMany, alen, aiaddr, afill, Nat.reduceLeDiff, Nat.reduceMul, Nat.reduceLT, afillE, List.replicate]
  refine call_pure (Check_ok ls) (frzL_of' (d := 4) car_pkL) ?_
  simp only [walk, wl, rgets, retv, argsEnv, ev, cst, cst1, cstL, AEnv.get, AEnv.trim, envput, qstep, abin, aun, evs, evo, deref, qload, target, if_true, if_false, Nat.reduceEqDiff, reduceIte, Nat.reduceAdd, AV.cells, AV.isTuple, setMany, alen, aiaddr, afill, Nat.reduceLeDiff, Nat.reduceMul, Nat.reduceLT, afillE, List.replicate]
  refine withBool_intro ?_ ?_ <;> intro h <;> simp only [walk, wl, rgets, retv, argsEnv, ev, cst, cst1, cstL, AEnv.get, AEnv.trim, envput, qstep, abin, aun, evs, evo, deref, qload, target, if_true, if_false, Nat.reduceEqDiff, reduceIte, Nat.reduceAdd, AV.cells, AV.isTuple, setMany, alen, aiaddr, afill, Nat.reduceLeDiff, Nat.reduceMul, Nat.reduceLT, afillE, List.replicate]
  · obtain ⟨h1, h2⟩ := chk_ne (ls := ls) (by simpa using h)
    simp only [h2, yieldV, h1, Bool.false_eq_true, if_false]; exact out_two out_int out_int
  · have h1 := chk_zero (ls := ls) (by simpa using h)
    by_cases hm : 0 ≤ m ∧ m ≤ 65536
    · refine call_pure (from_t hm) (frzL_of' (d := 4) rfl) ?_
      simp only [walk, wl, rgets, retv, argsEnv, ev, cst, cst1, cstL, AEnv.get, AEnv.trim, envput, qstep, abin, aun, evs, evo, deref, qload, target, if_true, if_false, Nat.reduceEqDiff, reduceIte, Nat.reduceAdd, AV.cells, AV.isTuple, setMany, alen, aiaddr, afill, Nat.reduceLeDiff, Nat.reduceMul, Nat.reduceLT, afillE, List.replicate]
      refine (columnOf_ok (okP_iff.1 h1).1).mono fun x H ⟨hh, e, q1, q2, q3, q4⟩ => ?_
      subst e
      simp only [walkS, wl, rgets, retv, argsEnv, ev, cst, cst1, cstL, AEnv.get, AEnv.trim, envput, qstep, abin, aun, evs, evo, deref, qload, target, if_true, if_false, Nat.reduceEqDiff, reduceIte, Nat.reduceAdd, AV.cells, AV.isTuple, setMany, alen, aiaddr, afill, Nat.reduceLeDiff, Nat.reduceMul, Nat.reduceLT, afillE, List.replicate]
      have hf := times_ok meltDeed (n := m.toNat) (by omega) q4.less (firm_mono (okP_good h1) (by omega)) (by omega) (by omega)
      rw [Int.toNat_of_nonneg hm.1] at hf
      refine hf.mono fun x H1 ⟨v1, v2, A, post, _, hlen, c0⟩ => ?_
      subst v1
      unfold ColAt at c0
      obtain ⟨L, hLe⟩ : ∃ L, L = A ++ (times melt1 m.toNat ls).1 ++ post := ⟨_, rfl⟩
      rw [← hLe] at hlen c0
      simp only [walkS, wl, rgets, retv, argsEnv, ev, cst, cst1, cstL, AEnv.get, AEnv.trim, envput, qstep, abin, aun, evs, evo, deref, qload, target, if_true, if_false, Nat.reduceEqDiff, reduceIte, Nat.reduceAdd, AV.cells, AV.isTuple, setMany, alen, aiaddr, afill, Nat.reduceLeDiff, Nat.reduceMul, Nat.reduceLT, afillE, List.replicate, c0, colC_197 hlen]
      simp only [yieldV, h1, hm, if_true, Int.zero_add, and_self]; exact out_two out_int out_int
    · refine call_pure (from_f hm) (frzL_of' (d := 4) rfl) ?_
      simp only [walk, wl, rgets, retv, argsEnv, ev, cst, cst1, cstL, AEnv.get, AEnv.trim, envput, qstep, abin, aun, evs, evo, deref, qload, target, if_true, if_false, Nat.reduceEqDiff, reduceIte, Nat.reduceAdd, AV.cells, AV.isTuple, setMany, alen, aiaddr, afill, Nat.reduceLeDiff, Nat.reduceMul, Nat.reduceLT, afillE, List.replicate]
      simp only [yieldV, h1, hm, if_true, if_false]; exact out_two out_int out_int
def search (ls : List Lay) (out : Int) : Nat → Nat → Int × Bool
  | 0, _ => (0, false)
  | f + 1, n => if out ≤ (times melt1 n ls).2 then (n, true) else search ls out f (n + 1)
def enoughV (ls : List Lay) (out : Int) : Int × Bool × Int := if okP ls then (if 0 ≤ out ∧ out ≤ 65536 then ((search ls out 65537 0).1, (search ls out 65537 0).2, 0) else (0, false, 1)) else (0, false, 20)
theorem Enough_ok (ls : List Lay) (out : Int) : PCall Tryd.prog 51 [.agg [.ro false (rows ls)], I out] (.tuple [I (enoughV ls out).1, .bool (enoughV ls out).2.1, I (enoughV ls out).2.2]) := by
  refine PCall.intro text51 (by simp) ?_
  unfold ir51
  simp only [walk, wl, rgets, retv, argsEnv, ev, cst, cst1, cstL, AEnv.get, AEnv.trim, envput, qstep, abin, aun, evs, evo, deref, qload, target, if_true, if_false, Nat.reduceEqDiff, reduceIte, Nat.reduceAdd, AV.cells, AV.isTuple, setMany, alen, aiaddr, afill, Nat.reduceLeDiff, Nat.reduceMul, Nat.reduceLT, afillE, List.replicate]
  refine call_pure (Check_ok ls) (frzL_of' (d := 4) car_pkL) ?_
  simp only [walk, wl, rgets, retv, argsEnv, ev, cst, cst1, cstL, AEnv.get, AEnv.trim, envput, qstep, abin, aun, evs, evo, deref, qload, target, if_true, if_false, Nat.reduceEqDiff, reduceIte, Nat.reduceAdd, AV.cells, AV.isTuple, setMany, alen, aiaddr, afill, Nat.reduceLeDiff, Nat.reduceMul, Nat.reduceLT, afillE, List.replicate]
  refine withBool_intro ?_ ?_ <;> intro h <;> simp only [walk, wl, rgets, retv, argsEnv, ev, cst, cst1, cstL, AEnv.get, AEnv.trim, envput, qstep, abin, aun, evs, evo, deref, qload, target, if_true, if_false, Nat.reduceEqDiff, reduceIte, Nat.reduceAdd, AV.cells, AV.isTuple, setMany, alen, aiaddr, afill, Nat.reduceLeDiff, Nat.reduceMul, Nat.reduceLT, afillE, List.replicate]
  · obtain ⟨h1, h2⟩ := chk_ne (ls := ls) (by simpa using h)
    simp only [h2, enoughV, h1, Bool.false_eq_true, if_false]; exact out_three out_int out_bool out_int
  · have h1 := chk_zero (ls := ls) (by simpa using h)
    have hg : Firm 1000000 ls := firm_mono (okP_good h1) (by omega)
    by_cases hm : 0 ≤ out ∧ out ≤ 65536
    · refine call_pure (from_t hm) (frzL_of' (d := 4) rfl) ?_
      simp only [walk, wl, rgets, retv, argsEnv, ev, cst, cst1, cstL, AEnv.get, AEnv.trim, envput, qstep, abin, aun, evs, evo, deref, qload, target, if_true, if_false, Nat.reduceEqDiff, reduceIte, Nat.reduceAdd, AV.cells, AV.isTuple, setMany, alen, aiaddr, afill, Nat.reduceLeDiff, Nat.reduceMul, Nat.reduceLT, afillE, List.replicate]
      refine (columnOf_ok (okP_iff.1 h1).1).mono fun x H ⟨hh, e, q1, q2, q3, q4⟩ => ?_
      subst e
      simp only [walkS, wl, rgets, retv, argsEnv, ev, cst, cst1, cstL, AEnv.get, AEnv.trim, envput, qstep, abin, aun, evs, evo, deref, qload, target, if_true, if_false, Nat.reduceEqDiff, reduceIte, Nat.reduceAdd, AV.cells, AV.isTuple, setMany, alen, aiaddr, afill, Nat.reduceLeDiff, Nat.reduceMul, Nat.reduceLT, afillE, List.replicate]
      obtain ⟨F, hF⟩ : ∃ F : Nat, F = 65537 := ⟨_, rfl⟩
      have hv : ∀ r, r = search ls out F 0 → enoughV ls out = (r.1, r.2, 0) := fun r hr => by
        subst hr hF; simp only [enoughV, h1, hm, if_true, and_self]
      refine awp_loop (σ := Nat) (fun n => [(1, I out), (8, .ptr hh 1 0 0), (20, I n)]) (fun n H => Column 0 H hh (times melt1 n ls).1 (times melt1 n ls).2 0) (fun n => n ≤ F ∧ search ls out F 0 = search ls out (F - n) n) (fun n => F - n) 0 ⟨by omega, rfl⟩ rfl q4.less ?_
      rintro n H ⟨hn, hs⟩ hc
      simp only [walkS, wl, rgets, retv, argsEnv, ev, cst, cst1, cstL, AEnv.get, AEnv.trim, envput, qstep, abin, aun, evs, evo, deref, qload, target, if_true, if_false, Nat.reduceEqDiff, reduceIte, Nat.reduceAdd, AV.cells, AV.isTuple, setMany, alen, aiaddr, afill, Nat.reduceLeDiff, Nat.reduceMul, Nat.reduceLT, afillE, List.replicate]
      refine withBool_intro ?_ ?_ <;> intro hb <;> simp only [walkS, wl, rgets, retv, argsEnv, ev, cst, cst1, cstL, AEnv.get, AEnv.trim, envput, qstep, abin, aun, evs, evo, deref, qload, target, if_true, if_false, Nat.reduceEqDiff, reduceIte, Nat.reduceAdd, AV.cells, AV.isTuple, setMany, alen, aiaddr, afill, Nat.reduceLeDiff, Nat.reduceMul, Nat.reduceLT, afillE, List.replicate]
      · have hlt : n < F := by have := of_decide_eq_true hb; omega
        have hc2 := hc
        obtain ⟨A, post, -, hlen, c0⟩ := hc
        unfold ColAt at c0
        obtain ⟨L, hLe⟩ : ∃ L, L = A ++ (times melt1 n ls).1 ++ post := ⟨_, rfl⟩
        rw [← hLe] at hlen c0
        have hout := times_out meltDeed n hg
        have e6 : F - n = (F - (n + 1)) + 1 := by omega
        rw [e6] at hs
        simp only [search] at hs
        simp only [walkS, wl, rgets, retv, argsEnv, ev, cst, cst1, cstL, AEnv.get, AEnv.trim, envput, qstep, abin, aun, evs, evo, deref, qload, target, if_true, if_false, Nat.reduceEqDiff, reduceIte, Nat.reduceAdd, AV.cells, AV.isTuple, setMany, alen, aiaddr, afill, Nat.reduceLeDiff, Nat.reduceMul, Nat.reduceLT, afillE, List.replicate, c0, colC_197 hlen]
        refine withBool_intro ?_ ?_ <;> intro h3 <;> simp only [walkS, wl, rgets, retv, argsEnv, ev, cst, cst1, cstL, AEnv.get, AEnv.trim, envput, qstep, abin, aun, evs, evo, deref, qload, target, if_true, if_false, Nat.reduceEqDiff, reduceIte, Nat.reduceAdd, AV.cells, AV.isTuple, setMany, alen, aiaddr, afill, Nat.reduceLeDiff, Nat.reduceMul, Nat.reduceLT, afillE, List.replicate]
        · have h3' : out ≤ (times melt1 n ls).2 := by simpa using h3
          rw [if_pos h3'] at hs
          rw [hv _ hs.symm]; exact out_three out_int out_bool out_int
        · have h3' : ¬ out ≤ (times melt1 n ls).2 := by simpa using h3
          rw [if_neg h3'] at hs
          have hf := times_ok meltDeed (n := 1) (by omega) hc2 (times_good (fun ls h => melt1_good h) hg n) (by omega) (by omega)
          refine hf.mono fun x H1 ⟨v1, v2, v3⟩ => ?_
          subst v1
          have e5 : IntKind.i64.wrap ((n : Int) + 1) = ((n + 1 : Nat) : Int) := by rw [wrap_id (by omega) (by omega)]; simp
          simp only [walkS, wl, rgets, retv, argsEnv, ev, cst, cst1, cstL, AEnv.get, AEnv.trim, envput, qstep, abin, aun, evs, evo, deref, qload, target, if_true, if_false, Nat.reduceEqDiff, reduceIte, Nat.reduceAdd, AV.cells, AV.isTuple, setMany, alen, aiaddr, afill, Nat.reduceLeDiff, Nat.reduceMul, Nat.reduceLT, afillE, List.replicate, e5]
          refine loop_end (n + 1) ⟨hlt, hs⟩ (by omega) rfl ?_
          have e7 : times melt1 (n + 1) ls = ((times melt1 1 (times melt1 n ls).1).1, (times melt1 n ls).2 + (times melt1 1 (times melt1 n ls).1).2) := times_add melt1 n 1 ls
          rw [e7]
          simpa using v3
      · have hn' : n = F := by have := of_decide_eq_false hb; omega
        subst hn'
        rw [Nat.sub_self, show search ls out 0 n = (0, false) from rfl] at hs
        rw [hv _ hs.symm]; exact out_three out_int out_bool out_int
    · refine call_pure (from_f hm) (frzL_of' (d := 4) rfl) ?_
      simp only [walk, wl, rgets, retv, argsEnv, ev, cst, cst1, cstL, AEnv.get, AEnv.trim, envput, qstep, abin, aun, evs, evo, deref, qload, target, if_true, if_false, Nat.reduceEqDiff, reduceIte, Nat.reduceAdd, AV.cells, AV.isTuple, setMany, alen, aiaddr, afill, Nat.reduceLeDiff, Nat.reduceMul, Nat.reduceLT, afillE, List.replicate]
      simp only [enoughV, h1, hm, if_true, if_false]; exact out_three out_int out_bool out_int
def bothV (p q : List Lay) : Int := if okP p then chk q else 20
theorem both_ok (p q : List Lay) : PCall Tryd.prog 81 [.agg [.ro false (rows p)], .agg [.ro false (rows q)]] (I (bothV p q)) := by
  refine PCall.intro text81 (by simp) ?_
  unfold ir81
  simp only [walk, wl, rgets, retv, argsEnv, ev, cst, cst1, cstL, AEnv.get, AEnv.trim, envput, qstep, abin, aun, evs, evo, deref, qload, target, if_true, if_false, Nat.reduceEqDiff, reduceIte, Nat.reduceAdd, AV.cells, AV.isTuple, setMany, alen, aiaddr, afill, Nat.reduceLeDiff, Nat.reduceMul, Nat.reduceLT, afillE, List.replicate]
  refine call_pure (Check_ok p) (frzL_of' (d := 4) car_pkL) ?_
  simp only [walk, wl, rgets, retv, argsEnv, ev, cst, cst1, cstL, AEnv.get, AEnv.trim, envput, qstep, abin, aun, evs, evo, deref, qload, target, if_true, if_false, Nat.reduceEqDiff, reduceIte, Nat.reduceAdd, AV.cells, AV.isTuple, setMany, alen, aiaddr, afill, Nat.reduceLeDiff, Nat.reduceMul, Nat.reduceLT, afillE, List.replicate]
  refine withBool_intro ?_ ?_ <;> intro h <;> simp only [walk, wl, rgets, retv, argsEnv, ev, cst, cst1, cstL, AEnv.get, AEnv.trim, envput, qstep, abin, aun, evs, evo, deref, qload, target, if_true, if_false, Nat.reduceEqDiff, reduceIte, Nat.reduceAdd, AV.cells, AV.isTuple, setMany, alen, aiaddr, afill, Nat.reduceLeDiff, Nat.reduceMul, Nat.reduceLT, afillE, List.replicate]
  · obtain ⟨h1, h2⟩ := chk_ne (ls := p) (by simpa using h)
    simp only [h2, bothV, h1, Bool.false_eq_true, if_false]; exact out_int
  · have h1 := chk_zero (ls := p) (by simpa using h)
    refine call_pure (Check_ok q) (frzL_of' (d := 4) car_pkL) ?_
    simp only [walk, wl, rgets, retv, argsEnv, ev, cst, cst1, cstL, AEnv.get, AEnv.trim, envput, qstep, abin, aun, evs, evo, deref, qload, target, if_true, if_false, Nat.reduceEqDiff, reduceIte, Nat.reduceAdd, AV.cells, AV.isTuple, setMany, alen, aiaddr, afill, Nat.reduceLeDiff, Nat.reduceMul, Nat.reduceLT, afillE, List.replicate]
    simp only [bothV, h1, if_true]; exact out_int
theorem bothV_zero {p q : List Lay} (h : bothV p q = 0) : okP p = true ∧ okP q = true := by
  unfold bothV at h
  split at h
  · exact ⟨by assumption, chk_zero h⟩
  · cases h
theorem bothV_ne {p q : List Lay} (h : ¬ bothV p q = 0) : (okP p && okP q) = false ∧ bothV p q = 20 := by
  unfold bothV at h ⊢
  cases hp : okP p with
  | false => simp
  | true =>
    simp only [hp, if_true] at h ⊢
    obtain ⟨h1, h2⟩ := chk_ne h
    exact ⟨by simp [h1], h2⟩
/-- Layers within others, from the top. -/
def leL (a b : Lay) : Bool := decide (a.1 ≤ b.1 ∧ a.2.1 ≤ b.2.1 ∧ a.2.2 ≤ b.2.2)
def within : List Lay → List Lay → Bool
  | [], _ => true
  | _ :: _, [] => false
  | a :: p, b :: q => leL a b && within p q
def lessB (p q : List Lay) : Bool := decide (p.length ≤ q.length) && within p (q.drop (q.length - p.length))
def lessV (p q : List Lay) : Bool × Int := if okP p && okP q then (lessB p q, 0) else (false, 20)
theorem within_take {p q : List Lay} (hl : p.length = q.length) : within p q = true ↔ ∀ k (h : k < p.length), leL p[k] (q[k]'(by omega)) = true := by
  induction p generalizing q with
  | nil => simp [within]
  | cons a p ih =>
    cases q with
    | nil => simp at hl
    | cons b q =>
      simp only [within, Bool.and_eq_true]
      rw [ih (by simpa using hl)]
      constructor
      · rintro ⟨h1, h2⟩ k hk
        cases k with
        | zero => exact h1
        | succ k => exact h2 k (by simpa using hk)
      · intro h
        exact ⟨h 0 (by simp), fun k hk => h (k + 1) (by simpa using hk)⟩
theorem Less_ok (p q : List Lay) : PCall Tryd.prog 53 [.agg [.ro false (rows p)], .agg [.ro false (rows q)]] (.tuple [.bool (lessV p q).1, I (lessV p q).2]) := by
  refine PCall.intro text53 (by simp) ?_
  unfold ir53
  simp only [walk, wl, rgets, retv, argsEnv, ev, cst, cst1, cstL, AEnv.get, AEnv.trim, envput, qstep, abin, aun, evs, evo, deref, qload, target, if_true, if_false, Nat.reduceEqDiff, reduceIte, Nat.reduceAdd, AV.cells, AV.isTuple, setMany, alen, aiaddr, afill, Nat.reduceLeDiff, Nat.reduceMul, Nat.reduceLT, afillE, List.replicate]
  refine call_pure (both_ok p q) (frzL_of' (d := 4) (carL_cons car_pk car_pkL)) ?_
  simp only [walk, wl, rgets, retv, argsEnv, ev, cst, cst1, cstL, AEnv.get, AEnv.trim, envput, qstep, abin, aun, evs, evo, deref, qload, target, if_true, if_false, Nat.reduceEqDiff, reduceIte, Nat.reduceAdd, AV.cells, AV.isTuple, setMany, alen, aiaddr, afill, Nat.reduceLeDiff, Nat.reduceMul, Nat.reduceLT, afillE, List.replicate]
  refine withBool_intro ?_ ?_ <;> intro h <;> simp only [walk, wl, rgets, retv, argsEnv, ev, cst, cst1, cstL, AEnv.get, AEnv.trim, envput, qstep, abin, aun, evs, evo, deref, qload, target, if_true, if_false, Nat.reduceEqDiff, reduceIte, Nat.reduceAdd, AV.cells, AV.isTuple, setMany, alen, aiaddr, afill, Nat.reduceLeDiff, Nat.reduceMul, Nat.reduceLT, afillE, List.replicate, rows_length]
  · obtain ⟨h1, h2⟩ := bothV_ne (p := p) (q := q) (by simpa using h)
    simp only [h2, lessV, h1, Bool.false_eq_true, if_false]; exact out_two out_bool out_int
  · obtain ⟨h1, h2⟩ := bothV_zero (p := p) (q := q) (by simpa using h)
    have hp := (okP_iff.1 h1).1
    have hq := (okP_iff.1 h2).1
    have e1 : IntKind.i64.wrap ((q.length : Int) - p.length) = (q.length : Int) - p.length := wrap_id (by omega) (by omega)
    simp only [walk, wl, rgets, retv, argsEnv, ev, cst, cst1, cstL, AEnv.get, AEnv.trim, envput, qstep, abin, aun, evs, evo, deref, qload, target, if_true, if_false, Nat.reduceEqDiff, reduceIte, Nat.reduceAdd, AV.cells, AV.isTuple, setMany, alen, aiaddr, afill, Nat.reduceLeDiff, Nat.reduceMul, Nat.reduceLT, afillE, List.replicate, e1]
    refine withBool_intro ?_ ?_ <;> intro h3 <;> simp only [walk, wl, rgets, retv, argsEnv, ev, cst, cst1, cstL, AEnv.get, AEnv.trim, envput, qstep, abin, aun, evs, evo, deref, qload, target, if_true, if_false, Nat.reduceEqDiff, reduceIte, Nat.reduceAdd, AV.cells, AV.isTuple, setMany, alen, aiaddr, afill, Nat.reduceLeDiff, Nat.reduceMul, Nat.reduceLT, afillE, List.replicate, rows_length]
    · have : ¬ p.length ≤ q.length := by simp at h3; omega
      simp only [lessV, lessB, h1, h2, this, decide_false, Bool.false_and, Bool.and_self, if_true]; exact out_two out_bool out_int
    · have hle : p.length ≤ q.length := by simp at h3; omega
      have hd : (q.drop (q.length - p.length)).length = p.length := by simp; omega
      have hv : lessV p q = (within p (q.drop (q.length - p.length)), 0) := by simp only [lessV, lessB, h1, h2, hle, decide_true, Bool.true_and, Bool.and_self, if_true]
      rw [hv]
      refine awp_loop (σ := Nat) (fun k => [(3, .ptr 1 1 0 0), (7, I ((q.length : Int) - p.length)), (27, .ro false (rows p)), (28, I p.length), (29, I k)]) (fun _ H => AHeap.obj H 1 = some ⟨24, 1, [[.ro false (rows q)]]⟩) (fun k => k ≤ p.length ∧ ∀ j (h : j < p.length), j < k → leL p[j] ((q.drop (q.length - p.length))[j]'(by omega)) = true) (fun k => p.length - k) 0 ⟨Nat.zero_le _, fun j _ h => absurd h (Nat.not_lt_zero _)⟩ rfl rfl ?_
      rintro k H ⟨hk, hall⟩ o1
      have hH := AHeap.obj_lt o1
      simp only [walk, wl, rgets, retv, argsEnv, ev, cst, cst1, cstL, AEnv.get, AEnv.trim, envput, qstep, abin, aun, evs, evo, deref, qload, target, if_true, if_false, Nat.reduceEqDiff, reduceIte, Nat.reduceAdd, AV.cells, AV.isTuple, setMany, alen, aiaddr, afill, Nat.reduceLeDiff, Nat.reduceMul, Nat.reduceLT, afillE, List.replicate]
      refine withBool_intro ?_ ?_ <;> intro hb <;> simp only [walk, wl, rgets, retv, argsEnv, ev, cst, cst1, cstL, AEnv.get, AEnv.trim, envput, qstep, abin, aun, evs, evo, deref, qload, target, if_true, if_false, Nat.reduceEqDiff, reduceIte, Nat.reduceAdd, AV.cells, AV.isTuple, setMany, alen, aiaddr, afill, Nat.reduceLeDiff, Nat.reduceMul, Nat.reduceLT, afillE, List.replicate]
      · have hlt : k < p.length := by simpa using hb
        have e2 : IntKind.i64.wrap ((k : Int) + ((q.length : Int) - p.length)) = ((k + (q.length - p.length) : Nat) : Int) := by rw [wrap_id (by omega) (by omega)]; omega
        have hlt2 : k + (q.length - p.length) < q.length := by omega
        have o1' : ∀ X, AHeap.obj (H ++ X) 1 = some ⟨24, 1, [[.ro false (rows q)]]⟩ := fun X => obj_keep o1
        have e5 : IntKind.i64.wrap ((k : Int) + 1) = ((k + 1 : Nat) : Int) := by rw [wrap_id (by omega) (by omega)]; simp
        have hget : (q.drop (q.length - p.length))[k]'(by omega) = q[k + (q.length - p.length)] := by
          rw [List.getElem_drop]; congr 1; omega
        simp only [walk, wl, rgets, retv, argsEnv, ev, cst, cst1, cstL, AEnv.get, AEnv.trim, envput, qstep, abin, aun, evs, evo, deref, qload, target, if_true, if_false, Nat.reduceEqDiff, reduceIte, Nat.reduceAdd, AV.cells, AV.isTuple, setMany, alen, aiaddr, afill, Nat.reduceLeDiff, Nat.reduceMul, Nat.reduceLT, afillE, List.replicate, rows_get hlt, e2, rows_get hlt2, o1', AHeap.obj_push_eq]
        have bad : ¬ (p[k].1 ≤ q[k + (q.length - p.length)].1 ∧ p[k].2.1 ≤ q[k + (q.length - p.length)].2.1 ∧ p[k].2.2 ≤ q[k + (q.length - p.length)].2.2) → within p (q.drop (q.length - p.length)) = false := fun hb => by
          cases hw : within p (q.drop (q.length - p.length)) with
          | false => rfl
          | true =>
            have := (within_take hd.symm).1 hw k hlt
            rw [hget] at this
            exact absurd (of_decide_eq_true this) hb
        refine withGuard_intro ?_ ?_ <;> intro g1 <;> simp only [walk, wl, rgets, retv, argsEnv, ev, cst, cst1, cstL, AEnv.get, AEnv.trim, envput, qstep, abin, aun, evs, evo, deref, qload, target, if_true, if_false, Nat.reduceEqDiff, reduceIte, Nat.reduceAdd, AV.cells, AV.isTuple, setMany, alen, aiaddr, afill, Nat.reduceLeDiff, Nat.reduceMul, Nat.reduceLT, afillE, List.replicate, g1, AHeap.obj_push_eq]
        · refine withGuard_intro ?_ ?_ <;> intro g2 <;> simp only [walk, wl, rgets, retv, argsEnv, ev, cst, cst1, cstL, AEnv.get, AEnv.trim, envput, qstep, abin, aun, evs, evo, deref, qload, target, if_true, if_false, Nat.reduceEqDiff, reduceIte, Nat.reduceAdd, AV.cells, AV.isTuple, setMany, alen, aiaddr, afill, Nat.reduceLeDiff, Nat.reduceMul, Nat.reduceLT, afillE, List.replicate, g2, AHeap.obj_push_eq]
          · refine withBool_intro ?_ ?_ <;> intro g3 <;> simp only [walk, wl, rgets, retv, argsEnv, ev, cst, cst1, cstL, AEnv.get, AEnv.trim, envput, qstep, abin, aun, evs, evo, deref, qload, target, if_true, if_false, Nat.reduceEqDiff, reduceIte, Nat.reduceAdd, AV.cells, AV.isTuple, setMany, alen, aiaddr, afill, Nat.reduceLeDiff, Nat.reduceMul, Nat.reduceLT, afillE, List.replicate]
            · rw [bad fun h => by simp at g3; omega]; exact out_two out_bool out_int
            · rw [e5]
              refine loop_end (k + 1) ⟨hlt, fun j hj hjk => ?_⟩ (by omega) rfl (obj_keep o1)
              rcases Nat.lt_or_ge j k with hj2 | hj2
              · exact hall j hj hj2
              · obtain rfl : j = k := by omega
                rw [hget]
                simp at g1 g2 g3
                exact decide_eq_true ⟨g1, g2, g3⟩
          · rw [bad fun h => by simp at g2; omega]; exact out_two out_bool out_int
        · rw [bad fun h => by simp at g1; omega]; exact out_two out_bool out_int
      · have hk' : k = p.length := by simp at hb; omega
        subst hk'
        rw [(within_take hd.symm).2 fun j hj => hall j hj hj]
        exact out_two out_bool out_int
end Go.Proofs.YtmcndbldbemebaaDoor
