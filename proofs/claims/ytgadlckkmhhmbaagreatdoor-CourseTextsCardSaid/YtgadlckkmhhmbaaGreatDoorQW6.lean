/- Contracts: ParseTest of both sides. -/
import Derived.Test.YtgadlckkmhhmbaaGreatDoorQW5
import Derived.Test.YtgadlckkmhhmbaaGreatDoorQC2
set_option linter.unusedVariables false
set_option linter.unusedSimpArgs false
set_option linter.unusedSectionVars false
namespace Go.Proofs.YtgadlckkmhhmbaaGreatDoor
open Go.Awp Go.Grams
set_option linter.unusedSimpArgs false
set_option linter.unusedVariables false
set_option linter.unusedSectionVars false
set_option maxRecDepth 10000
theorem consH_len {x : UInt8} {L : List (List UInt8)} : (consH x L).length ≤ L.length + 1 ∧ (L ≠ [] → (consH x L).length = L.length) := by
  cases L <;> simp [consH]
theorem splR_len (c : UInt8) : ∀ l : List UInt8, (splR c l).length ≤ l.length + 1 ∧ ∀ h, h ∈ splR c l → h.length ≤ l.length
  | [] => by simp [splR]
  | x :: r => by
    obtain ⟨h1, h2⟩ := splR_len c r
    unfold splR
    split
    · refine ⟨by simp; omega, fun h hh => ?_⟩
      rcases List.mem_cons.1 hh with rfl | hh
      · simp
      · have := h2 h hh; simp; omega
    · have hne := splR_ne c r
      refine ⟨by rw [consH_len.2 hne]; simp; omega, fun h hh => ?_⟩
      cases hL : splR c r with
      | nil => exact absurd hL hne
      | cons a t =>
        rw [hL] at hh h2
        simp only [consH] at hh
        rcases List.mem_cons.1 hh with rfl | hh
        · have := h2 a (by simp); simp; omega
        · have := h2 h (by simp [hh]); simp; omega
theorem wordsB_len (s : ByteArray) (c : UInt8) : (wordsB s c).length ≤ s.size + 1 := by
  have := (splR_len c s.data.toList).1
  rw [size_list]; simpa [wordsB] using this
theorem wordsB_size {s : ByteArray} {c : UInt8} {x : ByteArray} (h : x ∈ wordsB s c) : x.size ≤ s.size := by
  obtain ⟨l, hl, rfl⟩ := List.mem_map.1 h
  have := (splR_len c s.data.toList).2 l hl
  rw [size_list, size_list, data_ofL]; exact this
theorem aslice_from {H : AHeap} {b : Bool} {ws : List ByteArray} {k : Nat} (h : k ≤ ws.length) : aslice H 1 (.ro b (Go.Awp.sc ws)) (some (I (k : Int))) none = some (.ro b (Go.Awp.sc (ws.drop k))) := by
  have h1 : ((Go.Awp.sc ws).all fun e => e.length == 1) = true := by simp [Go.Awp.sc]
  unfold aslice
  simp only [h1, if_true, sc_length, abnds_lo h]
  congr 2
  simp only [Go.Awp.sc, ← List.map_take, ← List.map_drop]
  rw [List.take_length]
def bTest : ByteArray := ByteArray.mk (Array.mk [116, 101, 115, 116])
def ptT (f : ByteArray → Option Int) (s : ByteArray) : Option Tst := match nums f ((wordsB s 32).drop 1) 4 with
  | some [a, b, c, d] => if (wordsB s 32).head? = some bTest ∧ okT (a, b, c, d) = true then some (a, b, c, d) else none
  | _ => none
def ptAV : Option Tst → AV
  | some t => .tuple [.agg (td t), I 0]
  | none => .tuple [.agg (td (0, 0, 0, 0)), I 3]
theorem nums_four {f : ByteArray → Option Int} {ws : List ByteArray} {l : List Int} (h : nums f ws 4 = some l) : ∃ a b c d, l = [a, b, c, d] := by
  unfold nums at h
  split at h
  · rename_i hn
    have := mapO_len h
    rw [hn] at this
    match l, this with
    | [a, b, c, d], _ => exact ⟨a, b, c, d, rfl⟩
  · cases h
theorem ParseTest_ok (s : ByteArray) (hs : s.size ≤ 100000) : PCall Tryz.prog 9 [.str s] (ptAV (ptT intO s)) := by
  refine PCall.intro text9 (by simp) ?_
  unfold ir9
  simp only [walkS, wl, rgets, retv, argsEnv, ev, cst, cst1, cstL, AEnv.get, AEnv.trim, envput, qstep, abin, aun, evs, evo, deref, qload, target, if_true, if_false, Nat.reduceEqDiff, reduceIte, Nat.reduceAdd, AV.cells, AV.isTuple, setMany, alen, aiaddr, afill, Nat.reduceLeDiff, Nat.reduceMul, Nat.reduceLT, afillE, List.replicate]
  refine call_pure (Split_ok s 32 (by omega)) (frzL_of' (d := 1) rfl) ?_
  have wlen := wordsB_len s 32
  have wz := fun x => wordsB_size (s := s) (c := 32) (x := x)
  obtain ⟨w0, ws, hw⟩ : ∃ w0 ws, wordsB s 32 = w0 :: ws := by
    cases h : wordsB s 32 with
    | nil => exact absurd h (wordsB_ne s 32)
    | cons a t => exact ⟨a, t, rfl⟩
  rw [hw] at wlen wz ⊢
  have a1 : ∀ H, aslice H 1 (.ro true (Go.Awp.sc (w0 :: ws))) (some (.int .i64 1)) none = some (.ro true (Go.Awp.sc ws)) := fun H => aslice_from (k := 1) (by simp)
  simp only [List.length_cons] at wlen
  simp only [walkS, wl, rgets, retv, argsEnv, ev, cst, cst1, cstL, AEnv.get, AEnv.trim, envput, qstep, abin, aun, evs, evo, deref, qload, target, if_true, if_false, Nat.reduceEqDiff, reduceIte, Nat.reduceAdd, AV.cells, AV.isTuple, setMany, alen, aiaddr, afill, Nat.reduceLeDiff, Nat.reduceMul, Nat.reduceLT, afillE, List.replicate, a1]
  refine call_pure (numbers_ok ws 4 (by omega) (by omega) (fun x hx => by have := wz x (by simp [hx]); omega)) (frzL_of' (d := 3) (carL_cons (car_ro (sc_simple _) (.inl rfl)) rfl)) ?_
  have e0 : ptT intO s = match nums intO ws 4 with
    | some [a, b, c, d] => if w0 = bTest ∧ okT (a, b, c, d) = true then some (a, b, c, d) else none
    | _ => none := by unfold ptT; rw [hw]; simp only [List.drop_succ_cons, List.drop_zero, List.head?_cons, Option.some.injEq]
  rw [e0]
  cases hn : nums intO ws 4 with
  | none =>
    unfold numsAV
    simp only [walkS, wl, rgets, retv, argsEnv, ev, cst, cst1, cstL, AEnv.get, AEnv.trim, envput, qstep, abin, aun, evs, evo, deref, qload, target, if_true, if_false, Nat.reduceEqDiff, reduceIte, Nat.reduceAdd, AV.cells, AV.isTuple, setMany, alen, aiaddr, afill, Nat.reduceLeDiff, Nat.reduceMul, Nat.reduceLT, afillE, List.replicate]
    simp only [walk, wl, rgets, retv, argsEnv, ev, cst, cst1, cstL, AEnv.get, AEnv.trim, envput, qstep, abin, aun, evs, evo, deref, qload, target, if_true, if_false, Nat.reduceEqDiff, reduceIte, Nat.reduceAdd, AV.cells, AV.isTuple, setMany, alen, aiaddr, afill, Nat.reduceLeDiff, Nat.reduceMul, Nat.reduceLT, afillE, List.replicate]
    exact out_of (d := 3) rfl
  | some l =>
    obtain ⟨a, b, c, d, rfl⟩ := nums_four hn
    unfold numsAV
    have h0 : (Go.Awp.sc (w0 :: ws))[0]? = some [.str w0] := rfl
    have z0 : Int.toNat 0 = 0 := rfl
    have z1 : Int.toNat 1 = 1 := rfl
    have z2 : Int.toNat 2 = 2 := rfl
    have z3 : Int.toNat 3 = 3 := rfl
    have c0 : (0 : Int) ≤ 0 := by omega
    have c1 : (0 : Int) ≤ 1 := by omega
    have c2 : (0 : Int) ≤ 2 := by omega
    have c3 : (0 : Int) ≤ 3 := by omega
    have i0 : (ic [a, b, c, d])[0]? = some [I a] := rfl
    have i1 : (ic [a, b, c, d])[1]? = some [I b] := rfl
    have i2 : (ic [a, b, c, d])[2]? = some [I c] := rfl
    have i3 : (ic [a, b, c, d])[3]? = some [I d] := rfl
    simp only [walkS, wl, rgets, retv, argsEnv, ev, cst, cst1, cstL, AEnv.get, AEnv.trim, envput, qstep, abin, aun, evs, evo, deref, qload, target, if_true, if_false, Nat.reduceEqDiff, reduceIte, Nat.reduceAdd, AV.cells, AV.isTuple, setMany, alen, aiaddr, afill, Nat.reduceLeDiff, Nat.reduceMul, Nat.reduceLT, afillE, List.replicate, h0, z0, c0]
    refine withBool_intro ?_ ?_ <;> intro h1 <;> simp only [walk, wl, rgets, retv, argsEnv, ev, cst, cst1, cstL, AEnv.get, AEnv.trim, envput, qstep, abin, aun, evs, evo, deref, qload, target, if_true, if_false, Nat.reduceEqDiff, reduceIte, Nat.reduceAdd, AV.cells, AV.isTuple, setMany, alen, aiaddr, afill, Nat.reduceLeDiff, Nat.reduceMul, Nat.reduceLT, afillE, List.replicate, z0, z1, z2, z3, c0, c1, c2, c3, i0, i1, i2, i3]
    · have : ¬ w0 = bTest := fun e => by rw [e] at h1; exact absurd h1 (by decide)
      simp only [this, false_and, if_false]
      exact out_of (d := 3) rfl
    · have hw0 : w0 = bTest := by
        by_cases e : w0 = bTest
        · exact e
        · exfalso
          have h1' : (w0 != bTest) = false := h1
          rw [bneB, decide_eq_false e] at h1'; cases h1'
      refine call_pure (CheckTest_ok (a, b, c, d)) (frzL_of' (d := 4) (carL_cons (car_td (t := (a, b, c, d))) rfl)) ?_
      by_cases hk : okT (a, b, c, d) = true
      · rw [chkT_t hk]
        simp only [hw0, hk, true_and, if_true]
        simp only [walk, wl, rgets, retv, argsEnv, ev, cst, cst1, cstL, AEnv.get, AEnv.trim, envput, qstep, abin, aun, evs, evo, deref, qload, target, if_true, if_false, Nat.reduceEqDiff, reduceIte, Nat.reduceAdd, AV.cells, AV.isTuple, setMany, alen, aiaddr, afill, Nat.reduceLeDiff, Nat.reduceMul, Nat.reduceLT, afillE, List.replicate, bne_self_eq_false]
        exact out_of (d := 3) rfl
      · have hk' : okT (a, b, c, d) = false := by simpa using hk
        rw [chkT_f hk']
        simp only [hw0, hk', true_and, Bool.false_eq_true, if_false]
        have t10 : ((10 : Int) != 0) = true := rfl
        simp only [walk, wl, rgets, retv, argsEnv, ev, cst, cst1, cstL, AEnv.get, AEnv.trim, envput, qstep, abin, aun, evs, evo, deref, qload, target, if_true, if_false, Nat.reduceEqDiff, reduceIte, Nat.reduceAdd, AV.cells, AV.isTuple, setMany, alen, aiaddr, afill, Nat.reduceLeDiff, Nat.reduceMul, Nat.reduceLT, afillE, List.replicate, t10]
        exact out_of (d := 3) rfl
theorem rParseTest_ok (s : ByteArray) (hs : s.size ≤ 100000) : PCall Tryz.prog 10 [.str s] (ptAV (ptT rintO s)) := by
  refine PCall.intro text10 (by simp) ?_
  unfold ir10
  simp only [walkS, wl, rgets, retv, argsEnv, ev, cst, cst1, cstL, AEnv.get, AEnv.trim, envput, qstep, abin, aun, evs, evo, deref, qload, target, if_true, if_false, Nat.reduceEqDiff, reduceIte, Nat.reduceAdd, AV.cells, AV.isTuple, setMany, alen, aiaddr, afill, Nat.reduceLeDiff, Nat.reduceMul, Nat.reduceLT, afillE, List.replicate]
  refine call_pure (rWords_ok s 32 (by omega)) (frzL_of' (d := 1) rfl) ?_
  have wlen := wordsB_len s 32
  have wz := fun x => wordsB_size (s := s) (c := 32) (x := x)
  obtain ⟨w0, ws, hw⟩ : ∃ w0 ws, wordsB s 32 = w0 :: ws := by
    cases h : wordsB s 32 with
    | nil => exact absurd h (wordsB_ne s 32)
    | cons a t => exact ⟨a, t, rfl⟩
  rw [hw] at wlen wz ⊢
  have a1 : ∀ H, aslice H 1 (.ro true (Go.Awp.sc (w0 :: ws))) (some (.int .i64 1)) none = some (.ro true (Go.Awp.sc ws)) := fun H => aslice_from (k := 1) (by simp)
  simp only [List.length_cons] at wlen
  simp only [walkS, wl, rgets, retv, argsEnv, ev, cst, cst1, cstL, AEnv.get, AEnv.trim, envput, qstep, abin, aun, evs, evo, deref, qload, target, if_true, if_false, Nat.reduceEqDiff, reduceIte, Nat.reduceAdd, AV.cells, AV.isTuple, setMany, alen, aiaddr, afill, Nat.reduceLeDiff, Nat.reduceMul, Nat.reduceLT, afillE, List.replicate, a1]
  refine call_pure (rIntegers_ok ws 4 (by omega) (by omega) (fun x hx => by have := wz x (by simp [hx]); omega)) (frzL_of' (d := 3) (carL_cons (car_ro (sc_simple _) (.inl rfl)) rfl)) ?_
  have e0 : ptT rintO s = match nums rintO ws 4 with
    | some [a, b, c, d] => if w0 = bTest ∧ okT (a, b, c, d) = true then some (a, b, c, d) else none
    | _ => none := by unfold ptT; rw [hw]; simp only [List.drop_succ_cons, List.drop_zero, List.head?_cons, Option.some.injEq]
  rw [e0]
  cases hn : nums rintO ws 4 with
  | none =>
    unfold numsAV
    simp only [walkS, wl, rgets, retv, argsEnv, ev, cst, cst1, cstL, AEnv.get, AEnv.trim, envput, qstep, abin, aun, evs, evo, deref, qload, target, if_true, if_false, Nat.reduceEqDiff, reduceIte, Nat.reduceAdd, AV.cells, AV.isTuple, setMany, alen, aiaddr, afill, Nat.reduceLeDiff, Nat.reduceMul, Nat.reduceLT, afillE, List.replicate]
    simp only [walk, wl, rgets, retv, argsEnv, ev, cst, cst1, cstL, AEnv.get, AEnv.trim, envput, qstep, abin, aun, evs, evo, deref, qload, target, if_true, if_false, Nat.reduceEqDiff, reduceIte, Nat.reduceAdd, AV.cells, AV.isTuple, setMany, alen, aiaddr, afill, Nat.reduceLeDiff, Nat.reduceMul, Nat.reduceLT, afillE, List.replicate]
    exact out_of (d := 3) rfl
  | some l =>
    obtain ⟨a, b, c, d, rfl⟩ := nums_four hn
    unfold numsAV
    have h0 : (Go.Awp.sc (w0 :: ws))[0]? = some [.str w0] := rfl
    have z0 : Int.toNat 0 = 0 := rfl
    have z1 : Int.toNat 1 = 1 := rfl
    have z2 : Int.toNat 2 = 2 := rfl
    have z3 : Int.toNat 3 = 3 := rfl
    have c0 : (0 : Int) ≤ 0 := by omega
    have c1 : (0 : Int) ≤ 1 := by omega
    have c2 : (0 : Int) ≤ 2 := by omega
    have c3 : (0 : Int) ≤ 3 := by omega
    have i0 : (ic [a, b, c, d])[0]? = some [I a] := rfl
    have i1 : (ic [a, b, c, d])[1]? = some [I b] := rfl
    have i2 : (ic [a, b, c, d])[2]? = some [I c] := rfl
    have i3 : (ic [a, b, c, d])[3]? = some [I d] := rfl
    simp only [walkS, wl, rgets, retv, argsEnv, ev, cst, cst1, cstL, AEnv.get, AEnv.trim, envput, qstep, abin, aun, evs, evo, deref, qload, target, if_true, if_false, Nat.reduceEqDiff, reduceIte, Nat.reduceAdd, AV.cells, AV.isTuple, setMany, alen, aiaddr, afill, Nat.reduceLeDiff, Nat.reduceMul, Nat.reduceLT, afillE, List.replicate, h0, z0, c0]
    refine withBool_intro ?_ ?_ <;> intro h1 <;> simp only [walk, wl, rgets, retv, argsEnv, ev, cst, cst1, cstL, AEnv.get, AEnv.trim, envput, qstep, abin, aun, evs, evo, deref, qload, target, if_true, if_false, Nat.reduceEqDiff, reduceIte, Nat.reduceAdd, AV.cells, AV.isTuple, setMany, alen, aiaddr, afill, Nat.reduceLeDiff, Nat.reduceMul, Nat.reduceLT, afillE, List.replicate, z0, z1, z2, z3, c0, c1, c2, c3, i0, i1, i2, i3]
    · have : ¬ w0 = bTest := fun e => by rw [e] at h1; exact absurd h1 (by decide)
      simp only [this, false_and, if_false]
      exact out_of (d := 3) rfl
    · have hw0 : w0 = bTest := by
        by_cases e : w0 = bTest
        · exact e
        · exfalso
          have h1' : (w0 != bTest) = false := h1
          rw [bneB, decide_eq_false e] at h1'; cases h1'
      refine call_pure (rCheckTest_ok (a, b, c, d)) (frzL_of' (d := 4) (carL_cons (car_td (t := (a, b, c, d))) rfl)) ?_
      by_cases hk : okT (a, b, c, d) = true
      · rw [chkT_t hk]
        simp only [hw0, hk, true_and, if_true]
        simp only [walk, wl, rgets, retv, argsEnv, ev, cst, cst1, cstL, AEnv.get, AEnv.trim, envput, qstep, abin, aun, evs, evo, deref, qload, target, if_true, if_false, Nat.reduceEqDiff, reduceIte, Nat.reduceAdd, AV.cells, AV.isTuple, setMany, alen, aiaddr, afill, Nat.reduceLeDiff, Nat.reduceMul, Nat.reduceLT, afillE, List.replicate, bne_self_eq_false]
        exact out_of (d := 3) rfl
      · have hk' : okT (a, b, c, d) = false := by simpa using hk
        rw [chkT_f hk']
        simp only [hw0, hk', true_and, Bool.false_eq_true, if_false]
        have t10 : ((10 : Int) != 0) = true := rfl
        simp only [walk, wl, rgets, retv, argsEnv, ev, cst, cst1, cstL, AEnv.get, AEnv.trim, envput, qstep, abin, aun, evs, evo, deref, qload, target, if_true, if_false, Nat.reduceEqDiff, reduceIte, Nat.reduceAdd, AV.cells, AV.isTuple, setMany, alen, aiaddr, afill, Nat.reduceLeDiff, Nat.reduceMul, Nat.reduceLT, afillE, List.replicate, t10]
        exact out_of (d := 3) rfl
end Go.Proofs.YtgadlckkmhhmbaaGreatDoor
