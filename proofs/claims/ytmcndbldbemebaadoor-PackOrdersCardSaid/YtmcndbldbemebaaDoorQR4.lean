/- Contracts of the specification: what a step makes of layers. -/
import Derived.Test.YtmcndbldbemebaaDoorQR2
import Derived.Test.YtmcndbldbemebaaDoorQC8
set_option linter.unusedVariables false
set_option linter.unusedSimpArgs false
set_option linter.unusedSectionVars false
namespace Go.Proofs.YtmcndbldbemebaaDoor
open Go.Awp Go.Snow
set_option linter.unusedSimpArgs false
set_option linter.unusedVariables false
set_option linter.unusedSectionVars false
set_option maxRecDepth 10000
theorem lose_length {more : Int} {ls : List Lay} : (lose more ls).1.length ≤ ls.length := by
  cases ls with
  | nil => simp [lose]
  | cons l r =>
    simp only [lose]
    split
    · simp only [pour_length, List.length_cons]; omega
    · simp only [pour_length, List.length_cons]; omega
theorem melt1_length {ls : List Lay} : (melt1 ls).1.length ≤ ls.length := by
  cases ls with
  | nil => simp [melt1]
  | cons l r =>
    simp only [melt1]
    split
    · simp
    · exact lose_length
theorem out_doS {H : AHeap} {lo : Nat} {a : AV} {ls : List Lay} {o k : Int} (h : Acc lo H a 43 3 (rows ls)) : Out H (.tuple [a, I o, I k]) (.tuple [.ro true (rows ls), I o, I k]) := out_three (h.out (rows_simple _)) out_int out_int
/-- What a melt or a loss makes of layers. -/
def deed (k : Int) : List Lay → List Lay × Int := if k = 3 then melt1 else loss1
theorem deed_nil (k : Int) : deed k [] = ([], 0) := by unfold deed; split <;> rfl
theorem deed_firm {k K : Int} {ls : List Lay} (h : Firm K ls) : Firm K (deed k ls).1 := by
  unfold deed
  split
  · exact melt1_good h
  · exact loss1_good h
theorem deed_out {k : Int} {ls : List Lay} (h : Firm 1000000 ls) : 0 ≤ (deed k ls).2 ∧ (deed k ls).2 ≤ 1000000 := by
  unfold deed
  split
  · exact meltDeed.out h
  · exact vanishDeed.out h
theorem deed_length {k : Int} {ls : List Lay} : (deed k ls).1.length ≤ ls.length := by
  unfold deed
  split
  · exact melt1_length
  · exact lose_length
def dk (k : Int) : Int := if k = 3 then 0 else 1
theorem doS_deed {k m c : Int} {ls : List Lay} (h : k = 3 ∨ k = 5 ∨ k = 6) : doS k m c ls = ((times (deed k) m.toNat ls).1, (times (deed k) m.toNat ls).2, dk k * taken (deed k) m.toNat ls) := by
  rcases h with rfl | rfl | rfl
  · simp [doS, deed, dk]
  · simp [doS, deed, dk]
  · simp [doS, deed, dk]
theorem rloop_ok {ls : List Lay} {k m c : Int} {a : AV} {H0 : AHeap} (hk : k = 1 ∧ m = 0 ∨ k = 3 ∨ k = 5 ∨ k = 6) (hm : 0 ≤ m ∧ m ≤ 65536) (hg : Firm 1000000 ls) (hl : ls.length ≤ 64) (h0 : AHeap.obj H0 0 = some ⟨26, 3, [[I k, I m, I c]]⟩) (ha : Acc 1 H0 a 43 3 (rows ls)) :
    awp Tryd.prog ir62c (fnPost [(.tmp 4), (.tmp 5), (.tmp 6)] fun x H' => Out H' x (.tuple [.ro true (rows (doS k m c ls).1), I (doS k m c ls).2.1, I (doS k m c ls).2.2])) [(3, .ptr 0 1 0 0), (7, I 0), (8, I 0), (11, a)] H0 := by
  unfold ir62c
  simp only [walkS, wl, rgets, retv, argsEnv, ev, cst, cst1, cstL, AEnv.get, AEnv.trim, envput, qstep, abin, aun, evs, evo, deref, qload, target, if_true, if_false, Nat.reduceEqDiff, reduceIte, Nat.reduceAdd, AV.cells, AV.isTuple, setMany, alen, aiaddr, afill, Nat.reduceLeDiff, Nat.reduceMul, Nat.reduceLT, afillE, List.replicate]
  have hH0 := AHeap.obj_lt h0
  refine awp_loop (σ := Nat × List Lay × Int × Int × AV) (fun s => [(3, .ptr 0 1 0 0), (7, I s.2.2.1), (8, I s.2.2.2.1), (11, s.2.2.2.2), (15, I s.1)])
    (fun s H => 1 ≤ H.length ∧ AHeap.obj H 0 = some ⟨26, 3, [[I k, I m, I c]]⟩ ∧ Acc 1 H s.2.2.2.2 43 3 (rows s.2.1))
    (fun s => (s.1 : Int) ≤ m ∧ Firm 1000000 s.2.1 ∧ s.2.1.length ≤ 64 ∧ (k = 1 → s.1 = 0 ∧ s.2.1 = ls ∧ s.2.2.1 = 0 ∧ s.2.2.2.1 = 0) ∧
      (times (deed k) m.toNat ls).1 = (times (deed k) (m.toNat - s.1) s.2.1).1 ∧ (times (deed k) m.toNat ls).2 = s.2.2.1 + (times (deed k) (m.toNat - s.1) s.2.1).2 ∧ dk k * taken (deed k) m.toNat ls = s.2.2.2.1 + dk k * taken (deed k) (m.toNat - s.1) s.2.1 ∧
      (0 ≤ s.2.2.1 ∧ s.2.2.1 ≤ 1000000 * s.1) ∧ (0 ≤ s.2.2.2.1 ∧ s.2.2.2.1 ≤ s.1))
    (fun s => m.toNat - s.1) (0, ls, 0, 0, a) ⟨hm.1, hg, hl, fun _ => ⟨rfl, rfl, rfl, rfl⟩, rfl, by simp, by simp, by simp, by simp⟩ rfl ⟨hH0, h0, ha⟩ ?_
  rintro ⟨i, cur, ran, tk, b⟩ H ⟨hi, hg', hl', hk1, e1, e2, e3, hr, ht⟩ ⟨hH, o0, hb⟩
  simp only at hi hg' hl' hk1 e1 e2 e3 hr ht hb
  have hmt : ((m.toNat : Nat) : Int) = m := Int.toNat_of_nonneg hm.1
  have fin : (k = 1 ∨ m.toNat - i = 0 ∨ cur = []) → cur = (doS k m c ls).1 ∧ ran = (doS k m c ls).2.1 ∧ tk = (doS k m c ls).2.2 := by
    intro hf
    by_cases h1 : k = 1
    · obtain ⟨q1, q2, q3, q4⟩ := hk1 h1
      have hm0 : m = 0 := by rcases hk with ⟨_, h⟩ | h | h | h <;> omega
      subst h1
      have : doS 1 m c ls = (ls, 0, 0) := by simp [doS, hm0]
      rw [this]
      exact ⟨q2, q3, q4⟩
    · rw [doS_deed (by rcases hk with ⟨h, _⟩ | h | h | h <;> omega)]
      rcases hf with h | h | h
      · exact absurd h h1
      · rw [h] at e1 e2 e3
        simp only [times, taken, Int.mul_zero, Int.add_zero] at e1 e2 e3
        exact ⟨e1.symm, e2.symm, e3.symm⟩
      · subst h
        rw [times_nil (deed_nil k)] at e1 e2
        rw [taken_nil] at e3
        simp only [Int.mul_zero, Int.add_zero] at e2 e3
        exact ⟨e1.symm, e2.symm, e3.symm⟩
  simp only [walkS, wl, rgets, retv, argsEnv, ev, cst, cst1, cstL, AEnv.get, AEnv.trim, envput, qstep, abin, aun, evs, evo, deref, qload, target, if_true, if_false, Nat.reduceEqDiff, reduceIte, Nat.reduceAdd, AV.cells, AV.isTuple, setMany, alen, aiaddr, afill, Nat.reduceLeDiff, Nat.reduceMul, Nat.reduceLT, afillE, List.replicate, o0]
  have hbl := hb.len
  unfold alen at hbl
  refine withGuard_intro ?_ ?_ <;> intro hb1 <;> simp only [walkS, wl, rgets, retv, argsEnv, ev, cst, cst1, cstL, AEnv.get, AEnv.trim, envput, qstep, abin, aun, evs, evo, deref, qload, target, if_true, if_false, Nat.reduceEqDiff, reduceIte, Nat.reduceAdd, AV.cells, AV.isTuple, setMany, alen, aiaddr, afill, Nat.reduceLeDiff, Nat.reduceMul, Nat.reduceLT, afillE, List.replicate, hb1, hbl]
  · have hlt : (i : Int) < m := of_decide_eq_true hb1
    cases cur with
    | nil =>
      obtain ⟨q1, q2, q3⟩ := fin (.inr (.inr rfl))
      have hd : decide (((rows ([] : List Lay)).length : Int) > 0) = false := rfl
      simp only [walkS, wl, rgets, retv, argsEnv, ev, cst, cst1, cstL, AEnv.get, AEnv.trim, envput, qstep, abin, aun, evs, evo, deref, qload, target, if_true, if_false, Nat.reduceEqDiff, reduceIte, Nat.reduceAdd, AV.cells, AV.isTuple, setMany, alen, aiaddr, afill, Nat.reduceLeDiff, Nat.reduceMul, Nat.reduceLT, afillE, List.replicate, hd]
      rw [← q1, ← q2, ← q3]
      exact out_doS hb
    | cons l r =>
      obtain ⟨h, hh, rfl, ho⟩ := hb.resolve_left (by simp [rows])
      have hh1 := AHeap.obj_lt ho
      have hL : (rows (l :: r)).length = r.length + 1 := by rw [rows_length, List.length_cons]
      have hd : decide (((rows (l :: r)).length : Int) > 0) = true := by rw [hL]; simp
      simp only [walkS, wl, rgets, retv, argsEnv, ev, cst, cst1, cstL, AEnv.get, AEnv.trim, envput, qstep, abin, aun, evs, evo, deref, qload, target, if_true, if_false, Nat.reduceEqDiff, reduceIte, Nat.reduceAdd, AV.cells, AV.isTuple, setMany, alen, aiaddr, afill, Nat.reduceLeDiff, Nat.reduceMul, Nat.reduceLT, afillE, List.replicate, hd, o0]
      by_cases h1 : k = 1
      · obtain ⟨q1, q2, q3⟩ := fin (.inl h1)
        have hd1 : (k != 1) = false := by simp [h1]
        simp only [walkS, wl, rgets, retv, argsEnv, ev, cst, cst1, cstL, AEnv.get, AEnv.trim, envput, qstep, abin, aun, evs, evo, deref, qload, target, if_true, if_false, Nat.reduceEqDiff, reduceIte, Nat.reduceAdd, AV.cells, AV.isTuple, setMany, alen, aiaddr, afill, Nat.reduceLeDiff, Nat.reduceMul, Nat.reduceLT, afillE, List.replicate, hd1]
        rw [← q1, ← q2, ← q3]
        exact out_doS (.inr ⟨h, hh, rfl, ho⟩)
      · have hd1 : (k != 1) = true := by simpa using h1
        simp only [walkS, wl, rgets, retv, argsEnv, ev, cst, cst1, cstL, AEnv.get, AEnv.trim, envput, qstep, abin, aun, evs, evo, deref, qload, target, if_true, if_false, Nat.reduceEqDiff, reduceIte, Nat.reduceAdd, AV.cells, AV.isTuple, setMany, alen, aiaddr, afill, Nat.reduceLeDiff, Nat.reduceMul, Nat.reduceLT, afillE, List.replicate, hd1, o0]
        have hk3 : k = 3 ∨ k = 5 ∨ k = 6 := by rcases hk with ⟨h, _⟩ | h | h | h <;> omega
        have e5 : IntKind.i64.wrap ((i : Int) + 1) = ((i + 1 : Nat) : Int) := by rw [wrap_id (by omega) (by omega)]; simp
        have e6 : m.toNat - i = (m.toNat - (i + 1)) + 1 := by omega
        have hout := deed_out (k := k) hg'
        have hlen := deed_length (k := k) (ls := l :: r)
        have e8 : IntKind.i64.wrap (ran + (deed k (l :: r)).2) = ran + (deed k (l :: r)).2 := wrap_id (by omega) (by omega)
        have next : ∀ {H2 : AHeap} {b2 : AV} {tk2 : Int}, 1 ≤ H2.length → AHeap.obj H2 0 = some ⟨26, 3, [[I k, I m, I c]]⟩ → Acc 1 H2 b2 43 3 (rows (deed k (l :: r)).1) → tk2 = tk + dk k →
            Again (fun s : Nat × List Lay × Int × Int × AV => [(3, .ptr 0 1 0 0), (7, I s.2.2.1), (8, I s.2.2.2.1), (11, s.2.2.2.2), (15, I s.1)])
              (fun s H => 1 ≤ H.length ∧ AHeap.obj H 0 = some ⟨26, 3, [[I k, I m, I c]]⟩ ∧ Acc 1 H s.2.2.2.2 43 3 (rows s.2.1))
              (fun s => (s.1 : Int) ≤ m ∧ Firm 1000000 s.2.1 ∧ s.2.1.length ≤ 64 ∧ (k = 1 → s.1 = 0 ∧ s.2.1 = ls ∧ s.2.2.1 = 0 ∧ s.2.2.2.1 = 0) ∧
                (times (deed k) m.toNat ls).1 = (times (deed k) (m.toNat - s.1) s.2.1).1 ∧ (times (deed k) m.toNat ls).2 = s.2.2.1 + (times (deed k) (m.toNat - s.1) s.2.1).2 ∧ dk k * taken (deed k) m.toNat ls = s.2.2.2.1 + dk k * taken (deed k) (m.toNat - s.1) s.2.1 ∧
                (0 ≤ s.2.2.1 ∧ s.2.2.1 ≤ 1000000 * s.1) ∧ (0 ≤ s.2.2.2.1 ∧ s.2.2.2.1 ≤ s.1))
              (fun s => m.toNat - s.1) (m.toNat - i) [(15, I ((i + 1 : Nat) : Int)), (7, I (ran + (deed k (l :: r)).2)), (8, I tk2), (11, b2)] H2 → True := fun _ _ _ _ _ => trivial
        have hdk : dk k = 0 ∨ dk k = 1 := by unfold dk; split <;> simp
        have inv : ∀ tk2, tk2 = tk + dk k → ((i + 1 : Nat) : Int) ≤ m ∧ Firm 1000000 (deed k (l :: r)).1 ∧ (deed k (l :: r)).1.length ≤ 64 ∧ (k = 1 → i + 1 = 0 ∧ (deed k (l :: r)).1 = ls ∧ ran + (deed k (l :: r)).2 = 0 ∧ tk2 = 0) ∧
            (times (deed k) m.toNat ls).1 = (times (deed k) (m.toNat - (i + 1)) (deed k (l :: r)).1).1 ∧ (times (deed k) m.toNat ls).2 = ran + (deed k (l :: r)).2 + (times (deed k) (m.toNat - (i + 1)) (deed k (l :: r)).1).2 ∧ dk k * taken (deed k) m.toNat ls = tk2 + dk k * taken (deed k) (m.toNat - (i + 1)) (deed k (l :: r)).1 ∧
            (0 ≤ ran + (deed k (l :: r)).2 ∧ ran + (deed k (l :: r)).2 ≤ 1000000 * ((i + 1 : Nat) : Int)) ∧ (0 ≤ tk2 ∧ tk2 ≤ ((i + 1 : Nat) : Int)) := by
          intro tk2 h2
          refine ⟨by omega, deed_firm hg', by omega, fun h => absurd h h1, ?_, ?_, ?_, by omega, by omega⟩
          · rw [e1, e6]; simp only [times]
          · rw [e2, e6]; simp only [times]; omega
          · rw [e3, e6, h2]; simp only [taken]; rw [Int.mul_add, Int.mul_one]; omega
        clear next
        by_cases k3 : k = 3
        · have hd3 : (k != 3) = false := by simp [k3]
          have ede : deed k (l :: r) = melt1 (l :: r) := by unfold deed; rw [if_pos k3]
          have edk : dk k = 0 := by unfold dk; rw [if_pos k3]
          have hpos : (0 : Int) < ((r.length + 1 : Nat) : Int) := by omega
          have g0 : (rows (l :: r))[0]? = some [I l.1, I l.2.1, I l.2.2] := rfl
          obtain ⟨⟨⟨f1, f2, f3, f4, f5⟩, hlK⟩, f6⟩ := And.intro hg'.1.head (hg'.2 l (by simp))
          rw [hL]
          simp only [walkS, wl, rgets, retv, argsEnv, ev, cst, cst1, cstL, AEnv.get, AEnv.trim, envput, qstep, abin, aun, evs, evo, deref, qload, target, if_true, if_false, Nat.reduceEqDiff, reduceIte, Nat.reduceAdd, AV.cells, AV.isTuple, setMany, alen, aiaddr, afill, Nat.reduceLeDiff, Nat.reduceMul, Nat.reduceLT, afillE, List.replicate, hd3, ho, hL, hpos, Int.le_refl, Int.toNat_zero, g0]
          refine withBool_intro ?_ ?_ <;> intro hb3 <;> simp only [walkS, wl, rgets, retv, argsEnv, ev, cst, cst1, cstL, AEnv.get, AEnv.trim, envput, qstep, abin, aun, evs, evo, deref, qload, target, if_true, if_false, Nat.reduceEqDiff, reduceIte, Nat.reduceAdd, AV.cells, AV.isTuple, setMany, alen, aiaddr, afill, Nat.reduceLeDiff, Nat.reduceMul, Nat.reduceLT, afillE, List.replicate]
          · have hcp : 0 < l.2.2 := by simpa using hb3
            have em : melt1 (l :: r) = ((l.1, l.2.1, l.2.2 - 1) :: r, 0) := by simp only [melt1, hcp, if_true]
            rw [ede, em] at e8 inv
            simp only [walkS, wl, rgets, retv, argsEnv, ev, cst, cst1, cstL, AEnv.get, AEnv.trim, envput, qstep, abin, aun, evs, evo, deref, qload, target, if_true, if_false, Nat.reduceEqDiff, reduceIte, Nat.reduceAdd, AV.cells, AV.isTuple, setMany, alen, aiaddr, afill, Nat.reduceLeDiff, Nat.reduceMul, Nat.reduceLT, afillE, List.replicate, ho, hL, hpos, Int.le_refl, Int.toNat_zero, g0]
            refine storeR rfl rfl ho g0 ⟨by rw [hL], rfl, rfl, by simp⟩ fun H2 y1 y2 y3 => ?_
            simp only [AV.cells, setMany, List.set_cons_zero, List.set_cons_succ, Nat.zero_add] at y2
            rw [wrap_id (by omega) (by omega)] at y2
            simp only [Int.add_zero] at e8 inv
            simp only [walkS, wl, rgets, retv, argsEnv, ev, cst, cst1, cstL, AEnv.get, AEnv.trim, envput, qstep, abin, aun, evs, evo, deref, qload, target, if_true, if_false, Nat.reduceEqDiff, reduceIte, Nat.reduceAdd, AV.cells, AV.isTuple, setMany, alen, aiaddr, afill, Nat.reduceLeDiff, Nat.reduceMul, Nat.reduceLT, afillE, List.replicate, e5, e8, Int.add_zero]
            refine loop_end (i + 1, (l.1, l.2.1, l.2.2 - 1) :: r, ran, tk, .own h (r.length + 1) 0 (r.length + 1)) (inv tk (by omega)) (by simp only; omega) rfl ⟨by omega, by rw [y3 0 (by omega)]; exact o0, .inr ⟨h, hh, by simp [rows], ?_⟩⟩
            rw [y2]; rfl
          · have hcp : ¬ 0 < l.2.2 := by simpa using hb3
            have em : melt1 (l :: r) = lose 1 (l :: r) := by simp only [melt1, hcp, if_false]
            rw [ede, em] at e8 inv
            refine (rlose_ok (more := 1) ho hg' (by omega) (by simp only [List.length_cons] at hl'; omega)).mono fun x H2 ⟨v1, v2, b2, e, v3⟩ => ?_
            subst e
            simp only [walkS, wl, rgets, retv, argsEnv, ev, cst, cst1, cstL, AEnv.get, AEnv.trim, envput, qstep, abin, aun, evs, evo, deref, qload, target, if_true, if_false, Nat.reduceEqDiff, reduceIte, Nat.reduceAdd, AV.cells, AV.isTuple, setMany, alen, aiaddr, afill, Nat.reduceLeDiff, Nat.reduceMul, Nat.reduceLT, afillE, List.replicate, e5, e8]
            exact loop_end (i + 1, (lose 1 (l :: r)).1, ran + (lose 1 (l :: r)).2, tk, b2) (inv tk (by omega)) (by simp only; omega) rfl ⟨by omega, by rw [v2 0 (by omega)]; exact o0, v3.weaken (by omega)⟩
        · have hd3 : (k != 3) = true := by simpa using k3
          have ede : deed k (l :: r) = lose 0 (l :: r) := by unfold deed; rw [if_neg k3]; rfl
          have edk : dk k = 1 := by unfold dk; rw [if_neg k3]
          rw [ede] at e8 inv
          have e9 : IntKind.i64.wrap (tk + 1) = tk + 1 := wrap_id (by omega) (by omega)
          rw [hL]
          simp only [walkS, wl, rgets, retv, argsEnv, ev, cst, cst1, cstL, AEnv.get, AEnv.trim, envput, qstep, abin, aun, evs, evo, deref, qload, target, if_true, if_false, Nat.reduceEqDiff, reduceIte, Nat.reduceAdd, AV.cells, AV.isTuple, setMany, alen, aiaddr, afill, Nat.reduceLeDiff, Nat.reduceMul, Nat.reduceLT, afillE, List.replicate, hd3]
          refine (rlose_ok (more := 0) ho hg' (by omega) (by simp only [List.length_cons] at hl'; omega)).mono fun x H2 ⟨v1, v2, b2, e, v3⟩ => ?_
          subst e
          simp only [walkS, wl, rgets, retv, argsEnv, ev, cst, cst1, cstL, AEnv.get, AEnv.trim, envput, qstep, abin, aun, evs, evo, deref, qload, target, if_true, if_false, Nat.reduceEqDiff, reduceIte, Nat.reduceAdd, AV.cells, AV.isTuple, setMany, alen, aiaddr, afill, Nat.reduceLeDiff, Nat.reduceMul, Nat.reduceLT, afillE, List.replicate, e5, e8, e9]
          exact loop_end (i + 1, (lose 0 (l :: r)).1, ran + (lose 0 (l :: r)).2, tk + 1, b2) (inv (tk + 1) (by omega)) (by simp only; omega) rfl ⟨by omega, by rw [v2 0 (by omega)]; exact o0, v3.weaken (by omega)⟩
  · obtain ⟨q1, q2, q3⟩ := fin (.inr (.inl (by have := of_decide_eq_false hb1; omega)))
    rw [← q1, ← q2, ← q3]
    exact out_doS hb
end Go.Proofs.YtmcndbldbemebaaDoor
/- Contracts of the specification: a step. -/
namespace Go.Proofs.YtmcndbldbemebaaDoor
open Go.Awp Go.Snow
set_option linter.unusedSimpArgs false
set_option linter.unusedVariables false
set_option linter.unusedSectionVars false
set_option maxRecDepth 10000
theorem rows_mid (d r : List Lay) (l : Lay) : (rows (d ++ l :: r))[d.length]? = some [I l.1, I l.2.1, I l.2.2] := by simp [rows, dc]
theorem rows_set_mid (d r : List Lay) (l x : Lay) : (rows (d ++ l :: r)).set d.length [I x.1, I x.2.1, I x.2.2] = rows (d ++ x :: r) := by simp [rows, dc]
theorem out_doS' {H : AHeap} {lo : Nat} {a : AV} {ls : List Lay} {o k : Int} (h : Acc lo H a 43 3 (rows ls)) : Out H (.tuple [a, I o, I k]) (.tuple [.ro true (rows ls), I o, I k]) := out_three (h.out (rows_simple _)) out_int out_int
theorem r62b_ok {ls : List Lay} {k m c : Int} {H0 : AHeap} (hk : k = 1 ∧ m = 0 ∨ k = 3 ∨ k = 4 ∨ k = 5 ∨ k = 6) (hm : 0 ≤ m ∧ m ≤ 65536) (hg : Firm 1000000 ls) (hl : ls.length ≤ 64) (h0 : AHeap.obj H0 0 = some ⟨26, 3, [[I k, I m, I c]]⟩) :
    awp Tryd.prog ir62b (fnPost [(.tmp 4), (.tmp 5), (.tmp 6)] fun x H' => Out H' x (.tuple [.ro true (rows (doS k m c ls).1), I (doS k m c ls).2.1, I (doS k m c ls).2.2])) [(0, .ro false (rows ls)), (3, .ptr 0 1 0 0), (7, I 0), (8, I 0)] H0 := by
  unfold ir62b
  have hH0 := AHeap.obj_lt h0
  simp only [walkS, wl, rgets, retv, argsEnv, ev, cst, cst1, cstL, AEnv.get, AEnv.trim, envput, qstep, abin, aun, evs, evo, deref, qload, target, if_true, if_false, Nat.reduceEqDiff, reduceIte, Nat.reduceAdd, AV.cells, AV.isTuple, setMany, alen, aiaddr, afill, Nat.reduceLeDiff, Nat.reduceMul, Nat.reduceLT, afillE, List.replicate]
  refine acc_appendL (lo := 1) (els := []) hH0 (.inl ⟨rfl, rfl⟩) rfl rfl (asrc_ro (rows_all ls)) (by simp only [rows_length, List.length_nil]; omega) fun a H1 y1 y2 y3 => ?_
  rw [List.nil_append] at y2
  have o0 : AHeap.obj H1 0 = some ⟨26, 3, [[I k, I m, I c]]⟩ := by rw [y3 0 (by omega)]; exact h0
  simp only [walkS, wl, rgets, retv, argsEnv, ev, cst, cst1, cstL, AEnv.get, AEnv.trim, envput, qstep, abin, aun, evs, evo, deref, qload, target, if_true, if_false, Nat.reduceEqDiff, reduceIte, Nat.reduceAdd, AV.cells, AV.isTuple, setMany, alen, aiaddr, afill, Nat.reduceLeDiff, Nat.reduceMul, Nat.reduceLT, afillE, List.replicate, o0]
  by_cases k4 : k = 4
  · subst k4
    have hd4 : ((4 : Int) == 4) = true := rfl
    simp only [walkS, wl, rgets, retv, argsEnv, ev, cst, cst1, cstL, AEnv.get, AEnv.trim, envput, qstep, abin, aun, evs, evo, deref, qload, target, if_true, if_false, Nat.reduceEqDiff, reduceIte, Nat.reduceAdd, AV.cells, AV.isTuple, setMany, alen, aiaddr, afill, Nat.reduceLeDiff, Nat.reduceMul, Nat.reduceLT, afillE, List.replicate, hd4, o0]
    refine awp_loop (σ := List Lay × List Lay × Int) (fun s => [(11, a), (12, I s.2.2), (13, I s.1.length)])
      (fun s H => Acc 1 H a 43 3 (rows (s.1 ++ s.2.1)))
      (fun s => s.1.length + s.2.1.length ≤ 64 ∧ frz m ls = (s.1 ++ (frz s.2.2 s.2.1).1, (frz s.2.2 s.2.1).2) ∧ Nice 1000000 s.2.1 ∧ (0 ≤ s.2.2 ∧ s.2.2 ≤ m) ∧ ∀ l, l ∈ s.1 → 0 ≤ l.2.2 ∧ l.2.2 ≤ 1000000)
      (fun s => s.2.1.length) ([], ls, m) ⟨by simpa using hl, by simp, hg.1, ⟨hm.1, by simp⟩, by simp⟩ rfl y2 ?_
    rintro ⟨d, r, c1⟩ H ⟨q1, q2, q3, q4, q5⟩ hb
    simp only at q1 q2 q3 q4 q5 hb
    have hbl := hb.len
    unfold alen at hbl
    rw [rows_length, List.length_append] at hbl
    simp only [walkS, wl, rgets, retv, argsEnv, ev, cst, cst1, cstL, AEnv.get, AEnv.trim, envput, qstep, abin, aun, evs, evo, deref, qload, target, if_true, if_false, Nat.reduceEqDiff, reduceIte, Nat.reduceAdd, AV.cells, AV.isTuple, setMany, alen, aiaddr, afill, Nat.reduceLeDiff, Nat.reduceMul, Nat.reduceLT, afillE, List.replicate, hbl]
    refine withBool_intro ?_ ?_ <;> intro hb1 <;> simp only [walkS, wl, rgets, retv, argsEnv, ev, cst, cst1, cstL, AEnv.get, AEnv.trim, envput, qstep, abin, aun, evs, evo, deref, qload, target, if_true, if_false, Nat.reduceEqDiff, reduceIte, Nat.reduceAdd, AV.cells, AV.isTuple, setMany, alen, aiaddr, afill, Nat.reduceLeDiff, Nat.reduceMul, Nat.reduceLT, afillE, List.replicate]
    · cases r with
      | nil => simp at hb1
      | cons l r =>
        obtain ⟨h, hh, rfl, ho⟩ := hb.resolve_left (by simp [rows])
        obtain ⟨⟨f1, f2, f3, f4, f5⟩, hlK⟩ := q3.head
        obtain ⟨N, hN⟩ : ∃ N, N = (rows (d ++ l :: r)).length := ⟨_, rfl⟩
        have hNd : N = d.length + (r.length + 1) := by rw [hN, rows_length, List.length_append, List.length_cons]
        rw [← hN]
        have hi0 : (0 : Int) ≤ (d.length : Int) ∧ (d.length : Int) < (N : Int) := ⟨by omega, by omega⟩
        simp only [walkS, wl, rgets, retv, argsEnv, ev, cst, cst1, cstL, AEnv.get, AEnv.trim, envput, qstep, abin, aun, evs, evo, deref, qload, target, if_true, if_false, Nat.reduceEqDiff, reduceIte, Nat.reduceAdd, AV.cells, AV.isTuple, setMany, alen, aiaddr, afill, Nat.reduceLeDiff, Nat.reduceMul, Nat.reduceLT, afillE, List.replicate, ho, hN.symm, hi0, rows_mid d r l, amm, amm.go, amin]
        obtain ⟨fz, hfz⟩ : ∃ fz, fz = min c1 l.2.1 := ⟨_, rfl⟩
        rw [← hfz]
        refine storeR rfl rfl ho (rows_mid d r l) ⟨by rw [hN], rfl, rfl, by simp⟩ fun H2 y1 y2 y3 => ?_
        simp only [AV.cells, setMany, List.set_cons_zero, List.set_cons_succ, Nat.zero_add] at y2
        rw [wrap_id (by omega) (by omega)] at y2
        rw [show (rows (d ++ l :: r)).set d.length [I l.1, I (l.2.1 - fz), I l.2.2] = rows (d ++ (l.1, l.2.1 - fz, l.2.2) :: r) from rows_set_mid d r l (l.1, l.2.1 - fz, l.2.2)] at y2
        have hN2 : (rows (d ++ (l.1, l.2.1 - fz, l.2.2) :: r)).length = N := by rw [hNd, rows_length, List.length_append, List.length_cons]
        have g2 := rows_mid d r (l.1, l.2.1 - fz, l.2.2)
        simp only [walkS, wl, rgets, retv, argsEnv, ev, cst, cst1, cstL, AEnv.get, AEnv.trim, envput, qstep, abin, aun, evs, evo, deref, qload, target, if_true, if_false, Nat.reduceEqDiff, reduceIte, Nat.reduceAdd, AV.cells, AV.isTuple, setMany, alen, aiaddr, afill, Nat.reduceLeDiff, Nat.reduceMul, Nat.reduceLT, afillE, List.replicate, y2, hN2, hi0, g2]
        refine storeR rfl rfl y2 g2 ⟨by rw [hN2], rfl, rfl, by simp⟩ fun H3 z1 z2 z3 => ?_
        simp only [AV.cells, setMany, List.set_cons_zero, List.set_cons_succ, Nat.zero_add] at z2
        rw [wrap_id (by omega) (by omega)] at z2
        rw [show (rows (d ++ (l.1, l.2.1 - fz, l.2.2) :: r)).set d.length [I (l.1 + fz), I (l.2.1 - fz), I l.2.2] = rows (d ++ (l.1 + fz, l.2.1 - fz, l.2.2) :: r) from rows_set_mid d r _ (l.1 + fz, l.2.1 - fz, l.2.2)] at z2
        have hN3 : (rows (d ++ (l.1 + fz, l.2.1 - fz, l.2.2) :: r)).length = N := by rw [hNd, rows_length, List.length_append, List.length_cons]
        have hx3 : IntKind.i64.wrap (c1 - fz) = c1 - fz := wrap_id (by omega) (by omega)
        have hx4 : IntKind.i64.wrap ((d.length : Int) + 1) = ((d.length + 1 : Nat) : Int) := by rw [wrap_id (by omega) (by omega)]; simp
        simp only [walkS, wl, rgets, retv, argsEnv, ev, cst, cst1, cstL, AEnv.get, AEnv.trim, envput, qstep, abin, aun, evs, evo, deref, qload, target, if_true, if_false, Nat.reduceEqDiff, reduceIte, Nat.reduceAdd, AV.cells, AV.isTuple, setMany, alen, aiaddr, afill, Nat.reduceLeDiff, Nat.reduceMul, Nat.reduceLT, afillE, List.replicate, hx3, hx4]
        refine loop_end (d ++ [(l.1 + fz, l.2.1 - fz, l.2.2)], r, c1 - fz) ⟨?_, ?_, q3.tail, by simp only; omega, ?_⟩ (by simp) (by simp) ?_
        · simp only [List.length_append, List.length_cons, List.length_nil] at q1 ⊢; omega
        · rw [q2]; simp only [frz, ← hfz, List.append_assoc, List.cons_append, List.nil_append]
        · intro x hx
          rcases List.mem_append.1 hx with hx | hx
          · exact q5 x hx
          · simp at hx; subst hx; simp only; omega
        · simp only [List.append_assoc, List.cons_append, List.nil_append]
          exact .inr ⟨h, hh, by rw [hN3], z2⟩
    · have hr : r = [] := List.eq_nil_of_length_eq_zero (by simp at hb1; omega)
      subst hr
      simp only [frz, List.append_nil] at q2 hb
      rw [List.length_nil, Nat.add_zero] at hbl
      have ed : doS 4 m c ls = (chill c1 d, 0, 0) := by simp [doS, frost, q2]
      rw [ed]
      simp only [walkS, wl, rgets, retv, argsEnv, ev, cst, cst1, cstL, AEnv.get, AEnv.trim, envput, qstep, abin, aun, evs, evo, deref, qload, target, if_true, if_false, Nat.reduceEqDiff, reduceIte, Nat.reduceAdd, AV.cells, AV.isTuple, setMany, alen, aiaddr, afill, Nat.reduceLeDiff, Nat.reduceMul, Nat.reduceLT, afillE, List.replicate, hbl]
      refine withBool_intro ?_ ?_ <;> intro hb2 <;> simp only [walkS, wl, rgets, retv, argsEnv, ev, cst, cst1, cstL, AEnv.get, AEnv.trim, envput, qstep, abin, aun, evs, evo, deref, qload, target, if_true, if_false, Nat.reduceEqDiff, reduceIte, Nat.reduceAdd, AV.cells, AV.isTuple, setMany, alen, aiaddr, afill, Nat.reduceLeDiff, Nat.reduceMul, Nat.reduceLT, afillE, List.replicate]
      · cases d with
        | nil => simp at hb2
        | cons l r =>
          obtain ⟨h, hh, rfl, ho⟩ := hb.resolve_left (by simp [rows])
          obtain ⟨N, hN⟩ : ∃ N, N = (rows (l :: r)).length := ⟨_, rfl⟩
          have hNd : N = r.length + 1 := by rw [hN, rows_length, List.length_cons]
          have hl5 := q5 l (by simp)
          rw [← hN]
          have hpos : (0 : Int) < (N : Int) := by omega
          have g0 : (rows (l :: r))[0]? = some [I l.1, I l.2.1, I l.2.2] := rfl
          simp only [walkS, wl, rgets, retv, argsEnv, ev, cst, cst1, cstL, AEnv.get, AEnv.trim, envput, qstep, abin, aun, evs, evo, deref, qload, target, if_true, if_false, Nat.reduceEqDiff, reduceIte, Nat.reduceAdd, AV.cells, AV.isTuple, setMany, alen, aiaddr, afill, Nat.reduceLeDiff, Nat.reduceMul, Nat.reduceLT, afillE, List.replicate, ho, hN.symm, hpos, Int.le_refl, Int.toNat_zero, g0]
          refine storeR rfl rfl ho g0 ⟨by rw [hN], rfl, rfl, by simp⟩ fun H2 y1 y2 y3 => ?_
          simp only [AV.cells, setMany, List.set_cons_zero, List.set_cons_succ, Nat.zero_add] at y2
          rw [wrap_id (by omega) (by omega)] at y2
          simp only [walkS, wl, rgets, retv, argsEnv, ev, cst, cst1, cstL, AEnv.get, AEnv.trim, envput, qstep, abin, aun, evs, evo, deref, qload, target, if_true, if_false, Nat.reduceEqDiff, reduceIte, Nat.reduceAdd, AV.cells, AV.isTuple, setMany, alen, aiaddr, afill, Nat.reduceLeDiff, Nat.reduceMul, Nat.reduceLT, afillE, List.replicate]
          rw [show chill c1 (l :: r) = (l.1, l.2.1, l.2.2 + c1) :: r from rfl]
          exact out_doS' (.inr ⟨h, hh, by rw [show (rows ((l.1, l.2.1, l.2.2 + c1) :: r)).length = N from by rw [hNd, rows_length, List.length_cons]], y2⟩)
      · have hd : d = [] := List.eq_nil_of_length_eq_zero (by have := of_decide_eq_false hb2; omega)
        subst hd
        exact out_doS' hb
  · have hd4 : (k == 4) = false := by simpa using k4
    simp only [walkS, wl, rgets, retv, argsEnv, ev, cst, cst1, cstL, AEnv.get, AEnv.trim, envput, qstep, abin, aun, evs, evo, deref, qload, target, if_true, if_false, Nat.reduceEqDiff, reduceIte, Nat.reduceAdd, AV.cells, AV.isTuple, setMany, alen, aiaddr, afill, Nat.reduceLeDiff, Nat.reduceMul, Nat.reduceLT, afillE, List.replicate, hd4]
    exact rloop_ok (by omega) hm hg hl o0 y2
theorem rDo_ok {ls : List Lay} {k m c : Int} (hs : okS k m c = true) (hg : Firm 1000000 ls) (hl : ls.length ≤ 64) :
    PCall Tryd.prog 62 [.ro false (rows ls), .agg (dc (k, m, c))] (.tuple [.ro true (rows (doS k m c ls).1), I (doS k m c ls).2.1, I (doS k m c ls).2.2]) := by
  obtain ⟨s1, s2, s3⟩ := okS_iff.1 hs
  refine PCall.intro text62 (by simp) ?_
  unfold ir62
  simp only [walkS, wl, rgets, retv, argsEnv, ev, cst, cst1, cstL, AEnv.get, AEnv.trim, envput, qstep, abin, aun, evs, evo, deref, qload, target, if_true, if_false, Nat.reduceEqDiff, reduceIte, Nat.reduceAdd, AV.cells, AV.isTuple, setMany, alen, aiaddr, afill, Nat.reduceLeDiff, Nat.reduceMul, Nat.reduceLT, afillE, List.replicate, dc]
  have h0 : AHeap.obj [some ⟨26, 3, [[I k, I m, I c]]⟩] 0 = some ⟨26, 3, [[I k, I m, I c]]⟩ := rfl
  by_cases k1 : k = 1
  · have hd1 : (k == 1) = true := by simpa using k1
    simp only [walkS, wl, rgets, retv, argsEnv, ev, cst, cst1, cstL, AEnv.get, AEnv.trim, envput, qstep, abin, aun, evs, evo, deref, qload, target, if_true, if_false, Nat.reduceEqDiff, reduceIte, Nat.reduceAdd, AV.cells, AV.isTuple, setMany, alen, aiaddr, afill, Nat.reduceLeDiff, Nat.reduceMul, Nat.reduceLT, afillE, List.replicate, hd1]
    refine withBool_intro ?_ ?_ <;> intro hb1 <;> simp only [walkS, wl, rgets, retv, argsEnv, ev, cst, cst1, cstL, AEnv.get, AEnv.trim, envput, qstep, abin, aun, evs, evo, deref, qload, target, if_true, if_false, Nat.reduceEqDiff, reduceIte, Nat.reduceAdd, AV.cells, AV.isTuple, setMany, alen, aiaddr, afill, Nat.reduceLeDiff, Nat.reduceMul, Nat.reduceLT, afillE, List.replicate]
    · have hmp : 0 < m := by simpa using hb1
      refine acc_appendL (lo := 1) (els := rows [(m, 0, c)]) (by simp) (.inr ⟨1, by omega, rfl, rfl⟩) rfl rfl (asrc_ro (rows_all ls)) (by simp only [rows_length, List.length_cons, List.length_nil]; omega) fun a H1 y1 y2 y3 => ?_
      have e : doS k m c ls = ((m, 0, c) :: ls, 0, 0) := by simp [doS, k1, hmp]
      rw [e]
      exact out_doS' (ls := (m, 0, c) :: ls) y2
    · have hd2 : (k == 2) = false := by simp [k1]
      simp only [walkS, wl, rgets, retv, argsEnv, ev, cst, cst1, cstL, AEnv.get, AEnv.trim, envput, qstep, abin, aun, evs, evo, deref, qload, target, if_true, if_false, Nat.reduceEqDiff, reduceIte, Nat.reduceAdd, AV.cells, AV.isTuple, setMany, alen, aiaddr, afill, Nat.reduceLeDiff, Nat.reduceMul, Nat.reduceLT, afillE, List.replicate, hd2]
      exact r62b_ok (.inl ⟨k1, by have := of_decide_eq_false hb1; omega⟩) s2 hg hl h0
  · have hd1 : (k == 1) = false := by simpa using k1
    simp only [walkS, wl, rgets, retv, argsEnv, ev, cst, cst1, cstL, AEnv.get, AEnv.trim, envput, qstep, abin, aun, evs, evo, deref, qload, target, if_true, if_false, Nat.reduceEqDiff, reduceIte, Nat.reduceAdd, AV.cells, AV.isTuple, setMany, alen, aiaddr, afill, Nat.reduceLeDiff, Nat.reduceMul, Nat.reduceLT, afillE, List.replicate, hd1]
    by_cases k2 : k = 2
    · have hd2 : (k == 2) = true := by simpa using k2
      simp only [walkS, wl, rgets, retv, argsEnv, ev, cst, cst1, cstL, AEnv.get, AEnv.trim, envput, qstep, abin, aun, evs, evo, deref, qload, target, if_true, if_false, Nat.reduceEqDiff, reduceIte, Nat.reduceAdd, AV.cells, AV.isTuple, setMany, alen, aiaddr, afill, Nat.reduceLeDiff, Nat.reduceMul, Nat.reduceLT, afillE, List.replicate, hd2]
      have hm : ((m.toNat : Nat) : Int) = m := Int.toNat_of_nonneg s2.1
      have hf := rflow_ok (H0 := [some ⟨26, 3, [[I k, I m, I c]]⟩]) (x := .ro false (rows ls)) (n := m.toNat) (asrc_ro (rows_all ls)) (hg.1.mono (by omega)) (by omega) (by omega)
      rw [hm] at hf
      refine hf.mono fun x H2 ⟨v1, v2, a, e, v3⟩ => ?_
      subst e
      simp only [walkS, wl, rgets, retv, argsEnv, ev, cst, cst1, cstL, AEnv.get, AEnv.trim, envput, qstep, abin, aun, evs, evo, deref, qload, target, if_true, if_false, Nat.reduceEqDiff, reduceIte, Nat.reduceAdd, AV.cells, AV.isTuple, setMany, alen, aiaddr, afill, Nat.reduceLeDiff, Nat.reduceMul, Nat.reduceLT, afillE, List.replicate]
      have e : doS k m c ls = ((pour m.toNat ls).1, (pour m.toNat ls).2, 0) := by simp [doS, k2]
      rw [e]
      exact out_doS' v3
    · have hd2 : (k == 2) = false := by simpa using k2
      simp only [walkS, wl, rgets, retv, argsEnv, ev, cst, cst1, cstL, AEnv.get, AEnv.trim, envput, qstep, abin, aun, evs, evo, deref, qload, target, if_true, if_false, Nat.reduceEqDiff, reduceIte, Nat.reduceAdd, AV.cells, AV.isTuple, setMany, alen, aiaddr, afill, Nat.reduceLeDiff, Nat.reduceMul, Nat.reduceLT, afillE, List.replicate, hd2]
      exact r62b_ok (by omega) s2 hg hl h0
end Go.Proofs.YtmcndbldbemebaaDoor
