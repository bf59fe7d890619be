/- Contracts: Parse of the specification. -/
import Derived.Test.YtomejgikdelgkaaGreatDoorQP5
set_option linter.unusedVariables false
set_option linter.unusedSimpArgs false
set_option linter.unusedSectionVars false
namespace Go.Proofs.YtomejgikdelgkaaGreatDoor
open Go.Awp Go.Snow
set_option linter.unusedSimpArgs false
set_option linter.unusedVariables false
set_option linter.unusedSectionVars false
set_option maxRecDepth 10000
def trip : List Int → List Lay
  | a :: b :: c :: r => (a, b, c) :: trip r
  | _ => []
def rpk (t : ByteArray) : Option (List Lay) := if 2000 < t.size then none else if okP (trip (numl t)) = true ∧ textV (trip (numl t)) = t then some (trip (numl t)) else none
/-- The first triples. -/
def trN (l : List Int) : Nat → List Lay
  | 0 => []
  | k + 1 => trN l k ++ [(gd l (3 * k), gd l (3 * k + 1), gd l (3 * k + 2))]
theorem trN_length (l : List Int) : ∀ k, (trN l k).length = k
  | 0 => rfl
  | k + 1 => by simp [trN, trN_length l k]
theorem trN_cons {a b c : Int} {r : List Int} : ∀ k, trN (a :: b :: c :: r) (k + 1) = (a, b, c) :: trN r k
  | 0 => rfl
  | k + 1 => by
    have ih := trN_cons (a := a) (b := b) (c := c) (r := r) k
    conv => lhs; unfold trN
    rw [ih]
    conv => rhs; unfold trN
    rw [List.cons_append]
    congr 3
theorem trip_trN : ∀ (l : List Int), trip l = trN l (l.length / 3)
  | [] => rfl
  | [_] => by simp [trip, trN]
  | [_, _] => by simp [trip, trN]
  | a :: b :: c :: r => by
    have : (a :: b :: c :: r).length / 3 = r.length / 3 + 1 := by simp only [List.length_cons]; omega
    rw [this, trN_cons, ← trip_trN r]; rfl
theorem rParse_ok (s : ByteArray) (hs : s.size ≤ 1048576) : PCall Tryz.prog 13 [.str s] (pkAV (rpk s)) := by
  refine PCall.intro text13 (by simp) ?_
  unfold ir13
  simp only [walkS, wl, rgets, retv, argsEnv, ev, cst, cst1, cstL, AEnv.get, AEnv.trim, envput, qstep, abin, aun, evs, evo, deref, qload, target, if_true, if_false, Nat.reduceEqDiff, reduceIte, Nat.reduceAdd, AV.cells, AV.isTuple, setMany, alen, aiaddr, afill, Nat.reduceLeDiff, Nat.reduceMul, Nat.reduceLT, afillE, List.replicate]
  by_cases hz : 2000 < s.size
  · have g : decide ((s.size : Int) > 2000) = true := by simp only [decide_eq_true_eq]; omega
    have e : rpk s = none := by unfold rpk; rw [if_pos hz]
    rw [e]
    simp only [walk, wl, rgets, retv, argsEnv, ev, cst, cst1, cstL, AEnv.get, AEnv.trim, envput, qstep, abin, aun, evs, evo, deref, qload, target, if_true, if_false, Nat.reduceEqDiff, reduceIte, Nat.reduceAdd, AV.cells, AV.isTuple, setMany, alen, aiaddr, afill, Nat.reduceLeDiff, Nat.reduceMul, Nat.reduceLT, afillE, List.replicate, g]
    exact out_pkN
  · have g : decide ((s.size : Int) > 2000) = false := by simp only [decide_eq_false_iff_not]; omega
    have e : rpk s = if okP (trip (numl s)) = true ∧ textV (trip (numl s)) = s then some (trip (numl s)) else none := by unfold rpk; rw [if_neg hz]
    rw [e]
    simp only [walkS, wl, rgets, retv, argsEnv, ev, cst, cst1, cstL, AEnv.get, AEnv.trim, envput, qstep, abin, aun, evs, evo, deref, qload, target, if_true, if_false, Nat.reduceEqDiff, reduceIte, Nat.reduceAdd, AV.cells, AV.isTuple, setMany, alen, aiaddr, afill, Nat.reduceLeDiff, Nat.reduceMul, Nat.reduceLT, afillE, List.replicate, g]
    refine call_pure (numerals_ok s hs) (frzL_of' (d := 1) rfl) ?_
    have hln := numl_length s
    obtain ⟨l, hl⟩ : ∃ l, l = numl s := ⟨_, rfl⟩
    rw [← hl] at hln ⊢
    rw [trip_trN]
    simp only [walk, wl, rgets, retv, argsEnv, ev, cst, cst1, cstL, AEnv.get, AEnv.trim, envput, qstep, abin, aun, evs, evo, deref, qload, target, if_true, if_false, Nat.reduceEqDiff, reduceIte, Nat.reduceAdd, AV.cells, AV.isTuple, setMany, alen, aiaddr, afill, Nat.reduceLeDiff, Nat.reduceMul, Nat.reduceLT, afillE, List.replicate]
    refine awp_loop (σ := Nat × AV) (fun t => [(0, .str s), (2, .ptr 0 1 0 0), (4, .ro true (ic l)), (5, .ptr 1 1 0 0), (6, I ((3 * t.1 : Nat) : Int))])
      (fun t H => 2 ≤ H.length ∧ AHeap.obj H 0 = some ⟨26, 1, [[.nilSlice]]⟩ ∧ AHeap.obj H 1 = some ⟨26, 1, [[t.2]]⟩ ∧ Acc 2 H t.2 47 3 (rows (trN l t.1))) (fun t => t.1 ≤ l.length / 3) (fun t => l.length / 3 - t.1) (0, .nilSlice) (Nat.zero_le _) rfl ⟨by simp, rfl, rfl, .inl ⟨rfl, rfl⟩⟩ ?_
    rintro ⟨k, a⟩ H hk ⟨hH, hO, hO1, hacc⟩
    simp only at hk hO1 hacc
    have w2 : IntKind.i64.wrap (((3 * k : Nat) : Int) + 2) = ((3 * k + 2 : Nat) : Int) := by rw [wrap_id (by omega) (by omega)]; omega
    simp only [walkS, wl, rgets, retv, argsEnv, ev, cst, cst1, cstL, AEnv.get, AEnv.trim, envput, qstep, abin, aun, evs, evo, deref, qload, target, if_true, if_false, Nat.reduceEqDiff, reduceIte, Nat.reduceAdd, AV.cells, AV.isTuple, setMany, alen, aiaddr, afill, Nat.reduceLeDiff, Nat.reduceMul, Nat.reduceLT, afillE, List.replicate, ic_length, w2]
    refine withBool_intro ?_ ?_ <;> intro hb <;> simp only [walkS, wl, rgets, retv, argsEnv, ev, cst, cst1, cstL, AEnv.get, AEnv.trim, envput, qstep, abin, aun, evs, evo, deref, qload, target, if_true, if_false, Nat.reduceEqDiff, reduceIte, Nat.reduceAdd, AV.cells, AV.isTuple, setMany, alen, aiaddr, afill, Nat.reduceLeDiff, Nat.reduceMul, Nat.reduceLT, afillE, List.replicate]
    · have hlt : 3 * k + 2 < l.length := by have := of_decide_eq_true hb; omega
      have w1 : IntKind.i64.wrap (((3 * k : Nat) : Int) + 1) = ((3 * k + 1 : Nat) : Int) := by rw [wrap_id (by omega) (by omega)]; omega
      have w3 : IntKind.i64.wrap (((3 * k : Nat) : Int) + 3) = ((3 * (k + 1) : Nat) : Int) := by rw [wrap_id (by omega) (by omega)]; omega
      have g0 := gd_get (l := l) (i := 3 * k) (by omega)
      have g1 := gd_get (l := l) (i := 3 * k + 1) (by omega)
      have g2 := gd_get (l := l) (i := 3 * k + 2) (by omega)
      have n0 : ((3 * k : Nat) : Int) < ((l.length : Nat) : Int) := by omega
      have n1 : ((3 * k + 1 : Nat) : Int) < ((l.length : Nat) : Int) := by omega
      have n2 : ((3 * k + 2 : Nat) : Int) < ((l.length : Nat) : Int) := by omega
      simp only [walkS, wl, rgets, retv, argsEnv, ev, cst, cst1, cstL, AEnv.get, AEnv.trim, envput, qstep, abin, aun, evs, evo, deref, qload, target, if_true, if_false, Nat.reduceEqDiff, reduceIte, Nat.reduceAdd, AV.cells, AV.isTuple, setMany, alen, aiaddr, afill, Nat.reduceLeDiff, Nat.reduceMul, Nat.reduceLT, afillE, List.replicate, hO1, ic_length, w1, w2, n0, n1, n2, g0, g1, g2]
      refine acc_append (lo := 2) (by simp; omega) (hacc.push _) rfl rfl AHeap.obj_push_eq (by rw [rows_length, trN_length]; omega) fun a' H4 x1 x2 x3 => ?_
      simp only [List.length_append, List.length_cons, List.length_nil] at x1
      have x4 : Acc 2 H4 a' 47 3 (rows (trN l (k + 1))) := by unfold trN; rw [rows_snoc]; exact x2
      have q0 : AHeap.obj H4 0 = some ⟨26, 1, [[.nilSlice]]⟩ := by rw [x3 0 (by omega), AHeap.obj_push_lt (by omega)]; exact hO
      have q1 : AHeap.obj H4 1 = some ⟨26, 1, [[a]]⟩ := by rw [x3 1 (by omega), AHeap.obj_push_lt (by omega)]; exact hO1
      simp only [walkS, wl, rgets, retv, argsEnv, ev, cst, cst1, cstL, AEnv.get, AEnv.trim, envput, qstep, abin, aun, evs, evo, deref, qload, target, if_true, if_false, Nat.reduceEqDiff, reduceIte, Nat.reduceAdd, AV.cells, AV.isTuple, setMany, alen, aiaddr, afill, Nat.reduceLeDiff, Nat.reduceMul, Nat.reduceLT, afillE, List.replicate]
      refine storeR rfl rfl q1 rfl ⟨rfl, ?_, ?_, ?_⟩ fun H9 v1 v2 v3 => ?_
      · exact congrArg List.length x4.one.1
      · exact x4.one.2
      · simp
      rw [x4.one.1] at v2
      simp only [setMany, List.set_cons_zero, List.set_cons_succ] at v2
      simp only [walkS, wl, rgets, retv, argsEnv, ev, cst, cst1, cstL, AEnv.get, AEnv.trim, envput, qstep, abin, aun, evs, evo, deref, qload, target, if_true, if_false, Nat.reduceEqDiff, reduceIte, Nat.reduceAdd, AV.cells, AV.isTuple, setMany, alen, aiaddr, afill, Nat.reduceLeDiff, Nat.reduceMul, Nat.reduceLT, afillE, List.replicate, w3]
      refine loop_end (k + 1, a') (by omega) (by simp only; omega) rfl ⟨by omega, ?_, v2, ?_⟩
      · rw [v3 0 (by omega)]; exact q0
      · exact x4.keep fun i h1 h2 => v3 i (by omega)
    · have hk' : k = l.length / 3 := by have := of_decide_eq_false hb; omega
      subst hk'
      obtain ⟨ls, hls⟩ : ∃ ls, ls = trN l (l.length / 3) := ⟨_, rfl⟩
      rw [← hls] at hacc ⊢
      simp only [walkS, wl, rgets, retv, argsEnv, ev, cst, cst1, cstL, AEnv.get, AEnv.trim, envput, qstep, abin, aun, evs, evo, deref, qload, target, if_true, if_false, Nat.reduceEqDiff, reduceIte, Nat.reduceAdd, AV.cells, AV.isTuple, setMany, alen, aiaddr, afill, Nat.reduceLeDiff, Nat.reduceMul, Nat.reduceLT, afillE, List.replicate, hO1]
      refine call_pure (rPrint_ok ls) (.cons (frz_agg1 (hacc.carF (d := 0) (rows_simple _)) rfl) .nil) ?_
      have t20 : ((20 : Int) != 0) = true := rfl
      by_cases hp : okP ls = true
      · have e2 : printV ls = (textV ls, 0) := by unfold printV; rw [if_pos hp]
        rw [e2]
        have hbe : (textV ls == s) = decide (textV ls = s) := beqB _ _
        simp only [walkS, wl, rgets, retv, argsEnv, ev, cst, cst1, cstL, AEnv.get, AEnv.trim, envput, qstep, abin, aun, evs, evo, deref, qload, target, if_true, if_false, Nat.reduceEqDiff, reduceIte, Nat.reduceAdd, AV.cells, AV.isTuple, setMany, alen, aiaddr, afill, Nat.reduceLeDiff, Nat.reduceMul, Nat.reduceLT, afillE, List.replicate, bne_self_eq_false, hO1, hbe]
        by_cases ht : textV ls = s
        · rw [if_pos ⟨hp, ht⟩]
          simp only [ht, decide_true, Bool.not_true]
          simp only [walkS, wl, rgets, retv, argsEnv, ev, cst, cst1, cstL, AEnv.get, AEnv.trim, envput, qstep, abin, aun, evs, evo, deref, qload, target, if_true, if_false, Nat.reduceEqDiff, reduceIte, Nat.reduceAdd, AV.cells, AV.isTuple, setMany, alen, aiaddr, afill, Nat.reduceLeDiff, Nat.reduceMul, Nat.reduceLT, afillE, List.replicate, hO1]
          refine storeR rfl rfl hO rfl ⟨rfl, ?_, ?_, ?_⟩ fun H9 v1 v2 v3 => ?_
          · rfl
          · rfl
          · simp
          simp only [AV.cells, setMany, List.set_cons_zero, List.set_cons_succ] at v2
          simp only [walkS, wl, rgets, retv, argsEnv, ev, cst, cst1, cstL, AEnv.get, AEnv.trim, envput, qstep, abin, aun, evs, evo, deref, qload, target, if_true, if_false, Nat.reduceEqDiff, reduceIte, Nat.reduceAdd, AV.cells, AV.isTuple, setMany, alen, aiaddr, afill, Nat.reduceLeDiff, Nat.reduceMul, Nat.reduceLT, afillE, List.replicate, v2]
          exact out_pkS (((hacc.keep fun i h1 h2 => v3 i (by omega)).weaken (by omega)))
        · rw [if_neg fun h => ht h.2]
          simp only [ht, decide_false, Bool.not_false]
          simp only [walkS, wl, rgets, retv, argsEnv, ev, cst, cst1, cstL, AEnv.get, AEnv.trim, envput, qstep, abin, aun, evs, evo, deref, qload, target, if_true, if_false, Nat.reduceEqDiff, reduceIte, Nat.reduceAdd, AV.cells, AV.isTuple, setMany, alen, aiaddr, afill, Nat.reduceLeDiff, Nat.reduceMul, Nat.reduceLT, afillE, List.replicate, hO1]
          refine storeR rfl rfl hO rfl ⟨rfl, rfl, rfl, by simp⟩ fun H9 v1 v2 v3 => ?_
          simp only [AV.cells, setMany, List.set_cons_zero, List.set_cons_succ] at v2
          simp only [walkS, wl, rgets, retv, argsEnv, ev, cst, cst1, cstL, AEnv.get, AEnv.trim, envput, qstep, abin, aun, evs, evo, deref, qload, target, if_true, if_false, Nat.reduceEqDiff, reduceIte, Nat.reduceAdd, AV.cells, AV.isTuple, setMany, alen, aiaddr, afill, Nat.reduceLeDiff, Nat.reduceMul, Nat.reduceLT, afillE, List.replicate, v2]
          exact out_pkN
      · have e2 : printV ls = (bE, 20) := by unfold printV; rw [if_neg hp]
        rw [e2, if_neg fun h => hp h.1]
        simp only [walkS, wl, rgets, retv, argsEnv, ev, cst, cst1, cstL, AEnv.get, AEnv.trim, envput, qstep, abin, aun, evs, evo, deref, qload, target, if_true, if_false, Nat.reduceEqDiff, reduceIte, Nat.reduceAdd, AV.cells, AV.isTuple, setMany, alen, aiaddr, afill, Nat.reduceLeDiff, Nat.reduceMul, Nat.reduceLT, afillE, List.replicate, t20, hO1]
        refine storeR rfl rfl hO rfl ⟨rfl, rfl, rfl, by simp⟩ fun H9 v1 v2 v3 => ?_
        simp only [AV.cells, setMany, List.set_cons_zero, List.set_cons_succ] at v2
        simp only [walkS, wl, rgets, retv, argsEnv, ev, cst, cst1, cstL, AEnv.get, AEnv.trim, envput, qstep, abin, aun, evs, evo, deref, qload, target, if_true, if_false, Nat.reduceEqDiff, reduceIte, Nat.reduceAdd, AV.cells, AV.isTuple, setMany, alen, aiaddr, afill, Nat.reduceLeDiff, Nat.reduceMul, Nat.reduceLT, afillE, List.replicate, v2]
        exact out_pkN
end Go.Proofs.YtomejgikdelgkaaGreatDoor
