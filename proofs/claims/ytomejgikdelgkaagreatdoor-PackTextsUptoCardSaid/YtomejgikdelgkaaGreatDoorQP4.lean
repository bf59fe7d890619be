/- Contracts: ParseStep of both. -/
import Derived.Test.YtomejgikdelgkaaGreatDoorQP3
set_option linter.unusedVariables false
set_option linter.unusedSimpArgs false
set_option linter.unusedSectionVars false
namespace Go.Proofs.YtomejgikdelgkaaGreatDoor
open Go.Awp Go.Snow
set_option linter.unusedSimpArgs false
set_option linter.unusedVariables false
set_option linter.unusedSectionVars false
set_option maxRecDepth 10000
def gd (l : List Int) (i : Nat) : Int := (l[i]?).getD 0
theorem gd_get {l : List Int} {i : Nat} (h : i < l.length) : (ic l)[i]? = some [I (gd l i)] := by
  rw [ic_get h]; unfold gd; rw [List.getElem?_eq_getElem h]; rfl
theorem gd_far {l : List Int} {i : Nat} (h : l.length ≤ i) : gd l i = 0 := by
  unfold gd; rw [List.getElem?_eq_none h]; rfl
def ppX (w0 : ByteArray) (ws : List ByteArray) : Lay := (1 + ixS w0 kinds, gd (nmV ws) 0, if ixS w0 kinds = 0 then gd (nmV ws) 1 else 0)
/-- What a step is read from words. -/
def ppW (w0 : ByteArray) (ws : List ByteArray) : Option Lay :=
  if nmB ws = true ∧ (nmV ws).length = (if ixS w0 kinds = 0 then 2 else 1) ∧ okL (ppX w0 ws) = true then some (ppX w0 ws) else none
def ppS (t : ByteArray) : Option Lay := match wordsB t 32 with
  | w0 :: ws => ppW w0 ws
  | [] => none
def ppD : Option Lay → Lay
  | some x => x
  | none => (0, 0, 0)
def ppE {α : Type} : Option α → Int
  | some _ => 0
  | none => 3
def ppAV (o : Option Lay) : AV := .tuple [.agg (dc (ppD o)), I (ppE o)]
theorem ixS_ge (w : ByteArray) : ∀ l : List ByteArray, -1 ≤ ixS w l ∧ ixS w l < l.length
  | [] => by simp [ixS]
  | x :: r => by
    have := ixS_ge w r
    unfold ixS
    simp only [List.length_cons]
    split
    · omega
    · split <;> omega
theorem out_ppN {H : AHeap} : Out H (.tuple [.agg [I 0, I 0, I 0], I 3]) (ppAV none) := out_of (d := 3) rfl
theorem out_ppS {H : AHeap} {a b c : Int} : Out H (.tuple [.agg [I a, I b, I c], I 0]) (ppAV (some (a, b, c))) := out_of (d := 3) rfl
theorem ParseStep_ok (s : ByteArray) (hs : s.size ≤ 1048576) : PCall Tryz.prog 8 [.str s] (ppAV (ppS s)) := by
  refine PCall.intro text8 (by simp) ?_
  unfold ir8
  simp only [walkS, wl, rgets, retv, argsEnv, ev, cst, cst1, cstL, AEnv.get, AEnv.trim, envput, qstep, abin, aun, evs, evo, deref, qload, target, if_true, if_false, Nat.reduceEqDiff, reduceIte, Nat.reduceAdd, AV.cells, AV.isTuple, setMany, alen, aiaddr, afill, Nat.reduceLeDiff, Nat.reduceMul, Nat.reduceLT, afillE, List.replicate]
  refine call_pure (Split_ok s 32 (by omega)) (frzL_of' (d := 1) rfl) ?_
  have wlen := wordsB_len s 32
  have wz := fun x => wordsB_size (s := s) (c := 32) (x := x)
  obtain ⟨w0, ws, hw⟩ : ∃ w0 ws, wordsB s 32 = w0 :: ws := by
    cases h : wordsB s 32 with
    | nil => exact absurd h (wordsB_ne s 32)
    | cons a t => exact ⟨a, t, rfl⟩
  have e0 : ppS s = ppW w0 ws := by unfold ppS; rw [hw]
  rw [e0]
  rw [hw] at wlen wz ⊢
  have a1 : ∀ H, aslice H 1 (.ro true (Go.Awp.sc (w0 :: ws))) (some (.int .i64 1)) none = some (.ro true (Go.Awp.sc ws)) := fun H => aslice_from (k := 1) (by simp)
  simp only [List.length_cons] at wlen
  simp only [walkS, wl, rgets, retv, argsEnv, ev, cst, cst1, cstL, AEnv.get, AEnv.trim, envput, qstep, abin, aun, evs, evo, deref, qload, target, if_true, if_false, Nat.reduceEqDiff, reduceIte, Nat.reduceAdd, AV.cells, AV.isTuple, setMany, alen, aiaddr, afill, Nat.reduceLeDiff, Nat.reduceMul, Nat.reduceLT, afillE, List.replicate, a1]
  refine call_pure (numbers_ok ws (by omega) (fun x hx => by have := wz x (by simp [hx]); omega)) (frzL_of' (d := 3) (carL_cons (car_ro (sc_simple _) (.inl rfl)) rfl)) ?_
  have h0 : (Go.Awp.sc (w0 :: ws))[0]? = some [.str w0] := rfl
  have z0 : Int.toNat 0 = 0 := rfl
  have z1 : Int.toNat 1 = 1 := rfl
  have c0 : (0 : Int) ≤ 0 := by omega
  have c1 : (0 : Int) ≤ 1 := by omega
  have sl1 : (Go.Awp.sc (w0 :: ws)).length = ws.length + 1 := by simp [Go.Awp.sc]
  have hp : (0 : Int) < ((ws.length + 1 : Nat) : Int) := by omega
  simp only [walk, wl, rgets, retv, argsEnv, ev, cst, cst1, cstL, AEnv.get, AEnv.trim, envput, qstep, abin, aun, evs, evo, deref, qload, target, if_true, if_false, Nat.reduceEqDiff, reduceIte, Nat.reduceAdd, AV.cells, AV.isTuple, setMany, alen, aiaddr, afill, Nat.reduceLeDiff, Nat.reduceMul, Nat.reduceLT, afillE, List.replicate]
  refine dcall_pure words_ok (frzL_of (d := 1) rfl) ?_
  simp only [walk, wl, rgets, retv, argsEnv, ev, cst, cst1, cstL, AEnv.get, AEnv.trim, envput, qstep, abin, aun, evs, evo, deref, qload, target, if_true, if_false, Nat.reduceEqDiff, reduceIte, Nat.reduceAdd, AV.cells, AV.isTuple, setMany, alen, aiaddr, afill, Nat.reduceLeDiff, Nat.reduceMul, Nat.reduceLT, afillE, List.replicate, h0, z0, c0, sl1, hp]
  refine dcall_pure (Index_ok kinds w0 (by decide)) (frzL_of (d := 4) (carL_cons (car_ro (sc_simple _) (.inl rfl)) rfl)) ?_
  have hix := ixS_ge w0 kinds
  have kl : kinds.length = 6 := rfl
  rw [kl] at hix
  unfold ppW ppX
  obtain ⟨ix, hx⟩ : ∃ ix, ix = ixS w0 kinds := ⟨_, rfl⟩
  obtain ⟨l, hl⟩ : ∃ l, l = nmV ws := ⟨_, rfl⟩
  obtain ⟨bb, hbb⟩ : ∃ bb, bb = nmB ws := ⟨_, rfl⟩
  rw [← hx] at hix
  rw [← hx, ← hl, ← hbb]
  have w1 : IntKind.i64.wrap (1 + ix) = 1 + ix := wrap_id (by omega) (by omega)
  have t21 : ((21 : Int) != 0) = true := rfl
  by_cases hi : ix = 0
  · subst hi
    simp only [if_true]
    have b1 : ((1 : Int) + 0 == 1) = true := rfl
    simp only [walk, wl, rgets, retv, argsEnv, ev, cst, cst1, cstL, AEnv.get, AEnv.trim, envput, qstep, abin, aun, evs, evo, deref, qload, target, if_true, if_false, Nat.reduceEqDiff, reduceIte, Nat.reduceAdd, AV.cells, AV.isTuple, setMany, alen, aiaddr, afill, Nat.reduceLeDiff, Nat.reduceMul, Nat.reduceLT, afillE, List.replicate, h0, z0, c0, sl1, hp, w1, b1]
    cases bb with
    | false =>
      simp only [walk, wl, rgets, retv, argsEnv, ev, cst, cst1, cstL, AEnv.get, AEnv.trim, envput, qstep, abin, aun, evs, evo, deref, qload, target, if_true, if_false, Nat.reduceEqDiff, reduceIte, Nat.reduceAdd, AV.cells, AV.isTuple, setMany, alen, aiaddr, afill, Nat.reduceLeDiff, Nat.reduceMul, Nat.reduceLT, afillE, List.replicate, ic_length]
      exact out_ppN
    | true =>
      simp only [walk, wl, rgets, retv, argsEnv, ev, cst, cst1, cstL, AEnv.get, AEnv.trim, envput, qstep, abin, aun, evs, evo, deref, qload, target, if_true, if_false, Nat.reduceEqDiff, reduceIte, Nat.reduceAdd, AV.cells, AV.isTuple, setMany, alen, aiaddr, afill, Nat.reduceLeDiff, Nat.reduceMul, Nat.reduceLT, afillE, List.replicate, ic_length]
      by_cases h2 : l.length = 2
      · have b2 : (((l.length : Nat) : Int) != 2) = false := by rw [h2]; rfl
        have g0 := gd_get (l := l) (i := 0) (by omega)
        have g1 := gd_get (l := l) (i := 1) (by omega)
        have p0 : (0 : Int) < ((l.length : Nat) : Int) := by omega
        have p1 : (1 : Int) < ((l.length : Nat) : Int) := by omega
        simp only [walk, wl, rgets, retv, argsEnv, ev, cst, cst1, cstL, AEnv.get, AEnv.trim, envput, qstep, abin, aun, evs, evo, deref, qload, target, if_true, if_false, Nat.reduceEqDiff, reduceIte, Nat.reduceAdd, AV.cells, AV.isTuple, setMany, alen, aiaddr, afill, Nat.reduceLeDiff, Nat.reduceMul, Nat.reduceLT, afillE, List.replicate, b2, ic_length, z0, z1, c0, c1, p0, p1, g0, g1, beq_self_eq_true]
        refine call_pure (CheckStep_ok (1 + 0) (gd l 0) (gd l 1)) (frzL_of' (d := 4) rfl) ?_
        by_cases hk : okL (1 + 0, gd l 0, gd l 1) = true
        · have e2 := chkS_t hk
          simp only at e2
          rw [e2, if_pos ⟨h2, hk⟩]
          simp only [walk, wl, rgets, retv, argsEnv, ev, cst, cst1, cstL, AEnv.get, AEnv.trim, envput, qstep, abin, aun, evs, evo, deref, qload, target, if_true, if_false, Nat.reduceEqDiff, reduceIte, Nat.reduceAdd, AV.cells, AV.isTuple, setMany, alen, aiaddr, afill, Nat.reduceLeDiff, Nat.reduceMul, Nat.reduceLT, afillE, List.replicate, bne_self_eq_false]
          exact out_ppS
        · have e2 := chkS_f hk
          simp only at e2
          rw [e2, if_neg (fun h => hk h.2)]
          simp only [walk, wl, rgets, retv, argsEnv, ev, cst, cst1, cstL, AEnv.get, AEnv.trim, envput, qstep, abin, aun, evs, evo, deref, qload, target, if_true, if_false, Nat.reduceEqDiff, reduceIte, Nat.reduceAdd, AV.cells, AV.isTuple, setMany, alen, aiaddr, afill, Nat.reduceLeDiff, Nat.reduceMul, Nat.reduceLT, afillE, List.replicate, t21]
          exact out_ppN
      · have b2 : (((l.length : Nat) : Int) != 2) = true := by simp only [bne_iff_ne]; omega
        simp only [walk, wl, rgets, retv, argsEnv, ev, cst, cst1, cstL, AEnv.get, AEnv.trim, envput, qstep, abin, aun, evs, evo, deref, qload, target, if_true, if_false, Nat.reduceEqDiff, reduceIte, Nat.reduceAdd, AV.cells, AV.isTuple, setMany, alen, aiaddr, afill, Nat.reduceLeDiff, Nat.reduceMul, Nat.reduceLT, afillE, List.replicate, b2, ic_length]
        rw [if_neg (fun h => h2 h.1)]
        exact out_ppN
  · have b1 : ((1 : Int) + ix == 1) = false := by simp only [beq_eq_false_iff_ne]; omega
    simp only [hi, if_false]
    simp only [walk, wl, rgets, retv, argsEnv, ev, cst, cst1, cstL, AEnv.get, AEnv.trim, envput, qstep, abin, aun, evs, evo, deref, qload, target, if_true, if_false, Nat.reduceEqDiff, reduceIte, Nat.reduceAdd, AV.cells, AV.isTuple, setMany, alen, aiaddr, afill, Nat.reduceLeDiff, Nat.reduceMul, Nat.reduceLT, afillE, List.replicate, h0, z0, c0, sl1, hp, w1, b1]
    cases bb with
    | false =>
      simp only [walk, wl, rgets, retv, argsEnv, ev, cst, cst1, cstL, AEnv.get, AEnv.trim, envput, qstep, abin, aun, evs, evo, deref, qload, target, if_true, if_false, Nat.reduceEqDiff, reduceIte, Nat.reduceAdd, AV.cells, AV.isTuple, setMany, alen, aiaddr, afill, Nat.reduceLeDiff, Nat.reduceMul, Nat.reduceLT, afillE, List.replicate, ic_length]
      exact out_ppN
    | true =>
      simp only [walk, wl, rgets, retv, argsEnv, ev, cst, cst1, cstL, AEnv.get, AEnv.trim, envput, qstep, abin, aun, evs, evo, deref, qload, target, if_true, if_false, Nat.reduceEqDiff, reduceIte, Nat.reduceAdd, AV.cells, AV.isTuple, setMany, alen, aiaddr, afill, Nat.reduceLeDiff, Nat.reduceMul, Nat.reduceLT, afillE, List.replicate, ic_length]
      by_cases h2 : l.length = 1
      · have b2 : (((l.length : Nat) : Int) != 1) = false := by rw [h2]; rfl
        have g0 := gd_get (l := l) (i := 0) (by omega)
        have p0 : (0 : Int) < ((l.length : Nat) : Int) := by omega
        have n12 : ((1 : Int) == 2) = false := rfl
        simp only [walk, wl, rgets, retv, argsEnv, ev, cst, cst1, cstL, AEnv.get, AEnv.trim, envput, qstep, abin, aun, evs, evo, deref, qload, target, if_true, if_false, Nat.reduceEqDiff, reduceIte, Nat.reduceAdd, AV.cells, AV.isTuple, setMany, alen, aiaddr, afill, Nat.reduceLeDiff, Nat.reduceMul, Nat.reduceLT, afillE, List.replicate, b2, ic_length, z0, c0, p0, g0, n12]
        refine call_pure (CheckStep_ok (1 + ix) (gd l 0) 0) (frzL_of' (d := 4) rfl) ?_
        by_cases hk : okL (1 + ix, gd l 0, 0) = true
        · have e2 := chkS_t hk
          simp only at e2
          rw [e2, if_pos ⟨h2, hk⟩]
          simp only [walk, wl, rgets, retv, argsEnv, ev, cst, cst1, cstL, AEnv.get, AEnv.trim, envput, qstep, abin, aun, evs, evo, deref, qload, target, if_true, if_false, Nat.reduceEqDiff, reduceIte, Nat.reduceAdd, AV.cells, AV.isTuple, setMany, alen, aiaddr, afill, Nat.reduceLeDiff, Nat.reduceMul, Nat.reduceLT, afillE, List.replicate, bne_self_eq_false]
          exact out_ppS
        · have e2 := chkS_f hk
          simp only at e2
          rw [e2, if_neg (fun h => hk h.2)]
          simp only [walk, wl, rgets, retv, argsEnv, ev, cst, cst1, cstL, AEnv.get, AEnv.trim, envput, qstep, abin, aun, evs, evo, deref, qload, target, if_true, if_false, Nat.reduceEqDiff, reduceIte, Nat.reduceAdd, AV.cells, AV.isTuple, setMany, alen, aiaddr, afill, Nat.reduceLeDiff, Nat.reduceMul, Nat.reduceLT, afillE, List.replicate, t21]
          exact out_ppN
      · have b2 : (((l.length : Nat) : Int) != 1) = true := by simp only [bne_iff_ne]; omega
        simp only [walk, wl, rgets, retv, argsEnv, ev, cst, cst1, cstL, AEnv.get, AEnv.trim, envput, qstep, abin, aun, evs, evo, deref, qload, target, if_true, if_false, Nat.reduceEqDiff, reduceIte, Nat.reduceAdd, AV.cells, AV.isTuple, setMany, alen, aiaddr, afill, Nat.reduceLeDiff, Nat.reduceMul, Nat.reduceLT, afillE, List.replicate, b2, ic_length]
        rw [if_neg (fun h => h2 h.1)]
        exact out_ppN
def cand (l : List Int) (k : Nat) : Lay := ((k : Int), gd l 0, if k = 1 then gd l 1 else 0)
/-- The first kind of step whose text a text is. -/
def prG (l : List Int) (s : ByteArray) : Nat → Nat → Option Lay
  | _, 0 => none
  | k, f + 1 => if okL (cand l k) = true ∧ stepT (cand l k) = s then some (cand l k) else prG l s (k + 1) f
def prS (s : ByteArray) : Option Lay := prG (numl s) s 1 6
theorem rParseStep_ok (s : ByteArray) (hs : s.size ≤ 1048576) : PCall Tryz.prog 9 [.str s] (ppAV (prS s)) := by
  refine PCall.intro text9 (by simp) ?_
  unfold ir9
  simp only [walkS, wl, rgets, retv, argsEnv, ev, cst, cst1, cstL, AEnv.get, AEnv.trim, envput, qstep, abin, aun, evs, evo, deref, qload, target, if_true, if_false, Nat.reduceEqDiff, reduceIte, Nat.reduceAdd, AV.cells, AV.isTuple, setMany, alen, aiaddr, afill, Nat.reduceLeDiff, Nat.reduceMul, Nat.reduceLT, afillE, List.replicate]
  refine call_pure (numerals_ok s hs) (frzL_of' (d := 1) rfl) ?_
  have hln := numl_length s
  unfold prS
  obtain ⟨l, hl⟩ : ∃ l, l = numl s := ⟨_, rfl⟩
  rw [← hl] at hln ⊢
  simp only [walkS, wl, rgets, retv, argsEnv, ev, cst, cst1, cstL, AEnv.get, AEnv.trim, envput, qstep, abin, aun, evs, evo, deref, qload, target, if_true, if_false, Nat.reduceEqDiff, reduceIte, Nat.reduceAdd, AV.cells, AV.isTuple, setMany, alen, aiaddr, afill, Nat.reduceLeDiff, Nat.reduceMul, Nat.reduceLT, afillE, List.replicate]
  refine awp_loop (σ := Nat) (fun k => [(0, .str s), (2, .ptr 0 1 0 0), (4, .ro true (ic l)), (5, I k)]) (fun _ H => 1 ≤ H.length ∧ AHeap.obj H 0 = some ⟨23, 3, [[I 0, I 0, I 0]]⟩) (fun k => 1 ≤ k ∧ k ≤ 7 ∧ prG l s 1 6 = prG l s k (7 - k)) (fun k => 7 - k) 1 ⟨by omega, by omega, rfl⟩ rfl ⟨by simp, rfl⟩ ?_
  rintro k H ⟨hk1, hk7, hG⟩ ⟨hH, hO⟩
  simp only [walkS, wl, rgets, retv, argsEnv, ev, cst, cst1, cstL, AEnv.get, AEnv.trim, envput, qstep, abin, aun, evs, evo, deref, qload, target, if_true, if_false, Nat.reduceEqDiff, reduceIte, Nat.reduceAdd, AV.cells, AV.isTuple, setMany, alen, aiaddr, afill, Nat.reduceLeDiff, Nat.reduceMul, Nat.reduceLT, afillE, List.replicate]
  refine withBool_intro ?_ ?_ <;> intro hb <;> simp only [walkS, wl, rgets, retv, argsEnv, ev, cst, cst1, cstL, AEnv.get, AEnv.trim, envput, qstep, abin, aun, evs, evo, deref, qload, target, if_true, if_false, Nat.reduceEqDiff, reduceIte, Nat.reduceAdd, AV.cells, AV.isTuple, setMany, alen, aiaddr, afill, Nat.reduceLeDiff, Nat.reduceMul, Nat.reduceLT, afillE, List.replicate]
  · have hk6 : k ≤ 6 := by have := of_decide_eq_true hb; omega
    have w1 := w_succ (k := k) (by omega)
    obtain ⟨f, hf⟩ : ∃ f, 7 - k = f + 1 := ⟨6 - k, by omega⟩
    have hf2 : 7 - (k + 1) = f := by omega
    have hGs : prG l s 1 6 = if okL (cand l k) = true ∧ stepT (cand l k) = s then some (cand l k) else prG l s (k + 1) (7 - (k + 1)) := by rw [hG, hf, hf2]; rfl
    have z0 : Int.toNat 0 = 0 := rfl
    have z1 : Int.toNat 1 = 1 := rfl
    have c0 : (0 : Int) ≤ 0 := by omega
    have c1 : (0 : Int) ≤ 1 := by omega
    have t21 : ((21 : Int) == 0) = false := rfl
    refine storeR rfl rfl AHeap.obj_push_eq rfl ⟨rfl, rfl, rfl, by simp⟩ fun H1 y1 fo y3 => ?_
    simp only [AV.cells, setMany, List.set_cons_zero, List.set_cons_succ] at fo
    have f0 : AHeap.obj H1 0 = some ⟨23, 3, [[I 0, I 0, I 0]]⟩ := (y3 0 (by omega)).trans (by rw [AHeap.obj_push_lt (by omega)]; exact hO)
    simp only [List.length_append, List.length_cons, List.length_nil] at y1
    simp only [walkS, wl, rgets, retv, argsEnv, ev, cst, cst1, cstL, AEnv.get, AEnv.trim, envput, qstep, abin, aun, evs, evo, deref, qload, target, if_true, if_false, Nat.reduceEqDiff, reduceIte, Nat.reduceAdd, AV.cells, AV.isTuple, setMany, alen, aiaddr, afill, Nat.reduceLeDiff, Nat.reduceMul, Nat.reduceLT, afillE, List.replicate, ic_length]
    rcases Nat.eq_zero_or_pos l.length with hl0 | hl0
    · have g1 : decide (((l.length : Nat) : Int) > 0) = false := by simp only [decide_eq_false_iff_not]; omega
      have g2 : decide (((l.length : Nat) : Int) > 1) = false := by simp only [decide_eq_false_iff_not]; omega
      have hc : cand l k = ((k : Int), 0, 0) := by unfold cand; rw [gd_far (by omega), gd_far (by omega)]; simp
      simp only [walkS, wl, rgets, retv, argsEnv, ev, cst, cst1, cstL, AEnv.get, AEnv.trim, envput, qstep, abin, aun, evs, evo, deref, qload, target, if_true, if_false, Nat.reduceEqDiff, reduceIte, Nat.reduceAdd, AV.cells, AV.isTuple, setMany, alen, aiaddr, afill, Nat.reduceLeDiff, Nat.reduceMul, Nat.reduceLT, afillE, List.replicate, g1, g2, ic_length]
      simp only [walkS, wl, rgets, retv, argsEnv, ev, cst, cst1, cstL, AEnv.get, AEnv.trim, envput, qstep, abin, aun, evs, evo, deref, qload, target, if_true, if_false, Nat.reduceEqDiff, reduceIte, Nat.reduceAdd, AV.cells, AV.isTuple, setMany, alen, aiaddr, afill, Nat.reduceLeDiff, Nat.reduceMul, Nat.reduceLT, afillE, List.replicate, fo]
      refine call_pure (rPrintStep_ok k 0 0) (frzL_of' (d := 4) rfl) ?_
      simp only [walkS, wl, rgets, retv, argsEnv, ev, cst, cst1, cstL, AEnv.get, AEnv.trim, envput, qstep, abin, aun, evs, evo, deref, qload, target, if_true, if_false, Nat.reduceEqDiff, reduceIte, Nat.reduceAdd, AV.cells, AV.isTuple, setMany, alen, aiaddr, afill, Nat.reduceLeDiff, Nat.reduceMul, Nat.reduceLT, afillE, List.replicate, fo]
      by_cases hk : okL ((k : Int), 0, 0) = true
      · have e2 : psV ((k : Int), 0, 0) = (stepT ((k : Int), 0, 0), 0) := by unfold psV; rw [if_pos hk]
        rw [e2]
        simp only [walkS, wl, rgets, retv, argsEnv, ev, cst, cst1, cstL, AEnv.get, AEnv.trim, envput, qstep, abin, aun, evs, evo, deref, qload, target, if_true, if_false, Nat.reduceEqDiff, reduceIte, Nat.reduceAdd, AV.cells, AV.isTuple, setMany, alen, aiaddr, afill, Nat.reduceLeDiff, Nat.reduceMul, Nat.reduceLT, afillE, List.replicate, beq_self_eq_true, fo]
        refine withBool_intro ?_ ?_ <;> intro h5 <;> simp only [walkS, wl, rgets, retv, argsEnv, ev, cst, cst1, cstL, AEnv.get, AEnv.trim, envput, qstep, abin, aun, evs, evo, deref, qload, target, if_true, if_false, Nat.reduceEqDiff, reduceIte, Nat.reduceAdd, AV.cells, AV.isTuple, setMany, alen, aiaddr, afill, Nat.reduceLeDiff, Nat.reduceMul, Nat.reduceLT, afillE, List.replicate, fo]
        · have h5 : stepT ((k : Int), 0, 0) = s := by rw [beqB] at h5; exact of_decide_eq_true h5
          refine storeR rfl rfl f0 rfl ⟨rfl, rfl, rfl, by simp⟩ fun H9 v1 v2 v3 => ?_
          simp only [AV.cells, setMany, List.set_cons_zero, List.set_cons_succ] at v2
          simp only [walkS, wl, rgets, retv, argsEnv, ev, cst, cst1, cstL, AEnv.get, AEnv.trim, envput, qstep, abin, aun, evs, evo, deref, qload, target, if_true, if_false, Nat.reduceEqDiff, reduceIte, Nat.reduceAdd, AV.cells, AV.isTuple, setMany, alen, aiaddr, afill, Nat.reduceLeDiff, Nat.reduceMul, Nat.reduceLT, afillE, List.replicate, v2]
          rw [hGs, hc, if_pos ⟨hk, h5⟩]
          exact out_ppS
        · have h5 : ¬ stepT ((k : Int), 0, 0) = s := by rw [beqB] at h5; exact of_decide_eq_false h5
          simp only [walkS, wl, rgets, retv, argsEnv, ev, cst, cst1, cstL, AEnv.get, AEnv.trim, envput, qstep, abin, aun, evs, evo, deref, qload, target, if_true, if_false, Nat.reduceEqDiff, reduceIte, Nat.reduceAdd, AV.cells, AV.isTuple, setMany, alen, aiaddr, afill, Nat.reduceLeDiff, Nat.reduceMul, Nat.reduceLT, afillE, List.replicate, w1]
          refine loop_end (k + 1) ⟨by omega, by omega, ?_⟩ (by omega) rfl ⟨by omega, f0⟩
          rw [hGs, hc, if_neg fun h => h5 h.2]
      · have e2 : psV ((k : Int), 0, 0) = (bE, 21) := by unfold psV; rw [if_neg hk]
        rw [e2]
        simp only [walkS, wl, rgets, retv, argsEnv, ev, cst, cst1, cstL, AEnv.get, AEnv.trim, envput, qstep, abin, aun, evs, evo, deref, qload, target, if_true, if_false, Nat.reduceEqDiff, reduceIte, Nat.reduceAdd, AV.cells, AV.isTuple, setMany, alen, aiaddr, afill, Nat.reduceLeDiff, Nat.reduceMul, Nat.reduceLT, afillE, List.replicate, t21, fo, w1]
        refine loop_end (k + 1) ⟨by omega, by omega, ?_⟩ (by omega) rfl ⟨by omega, f0⟩
        rw [hGs, hc, if_neg fun h => hk h.1]
    · have g1 : decide (((l.length : Nat) : Int) > 0) = true := by simp only [decide_eq_true_eq]; omega
      have p0 : (0 : Int) < ((l.length : Nat) : Int) := by omega
      have q0 := gd_get (l := l) (i := 0) (by omega)
      simp only [walkS, wl, rgets, retv, argsEnv, ev, cst, cst1, cstL, AEnv.get, AEnv.trim, envput, qstep, abin, aun, evs, evo, deref, qload, target, if_true, if_false, Nat.reduceEqDiff, reduceIte, Nat.reduceAdd, AV.cells, AV.isTuple, setMany, alen, aiaddr, afill, Nat.reduceLeDiff, Nat.reduceMul, Nat.reduceLT, afillE, List.replicate, g1, ic_length]
      simp only [walkS, wl, rgets, retv, argsEnv, ev, cst, cst1, cstL, AEnv.get, AEnv.trim, envput, qstep, abin, aun, evs, evo, deref, qload, target, if_true, if_false, Nat.reduceEqDiff, reduceIte, Nat.reduceAdd, AV.cells, AV.isTuple, setMany, alen, aiaddr, afill, Nat.reduceLeDiff, Nat.reduceMul, Nat.reduceLT, afillE, List.replicate, z0, c0, p0, q0, ic_length]
      refine storeR rfl rfl fo rfl ⟨rfl, rfl, rfl, by simp⟩ fun H2 y1' fo' y3' => ?_
      simp only [AV.cells, setMany, List.set_cons_zero, List.set_cons_succ] at fo'
      have f0 := (y3' 0 (by omega)).trans f0
      simp only [walkS, wl, rgets, retv, argsEnv, ev, cst, cst1, cstL, AEnv.get, AEnv.trim, envput, qstep, abin, aun, evs, evo, deref, qload, target, if_true, if_false, Nat.reduceEqDiff, reduceIte, Nat.reduceAdd, AV.cells, AV.isTuple, setMany, alen, aiaddr, afill, Nat.reduceLeDiff, Nat.reduceMul, Nat.reduceLT, afillE, List.replicate, ic_length]
      by_cases hl1 : 1 < l.length
      · have g2 : decide (((l.length : Nat) : Int) > 1) = true := by simp only [decide_eq_true_eq]; omega
        by_cases hke : k = 1
        · have g3 : ((k : Int) == 1) = true := by subst hke; rfl
          have p1 : (1 : Int) < ((l.length : Nat) : Int) := by omega
          have q1 := gd_get (l := l) (i := 1) (by omega)
          simp only [walkS, wl, rgets, retv, argsEnv, ev, cst, cst1, cstL, AEnv.get, AEnv.trim, envput, qstep, abin, aun, evs, evo, deref, qload, target, if_true, if_false, Nat.reduceEqDiff, reduceIte, Nat.reduceAdd, AV.cells, AV.isTuple, setMany, alen, aiaddr, afill, Nat.reduceLeDiff, Nat.reduceMul, Nat.reduceLT, afillE, List.replicate, g2, g3, ic_length]
          simp only [walkS, wl, rgets, retv, argsEnv, ev, cst, cst1, cstL, AEnv.get, AEnv.trim, envput, qstep, abin, aun, evs, evo, deref, qload, target, if_true, if_false, Nat.reduceEqDiff, reduceIte, Nat.reduceAdd, AV.cells, AV.isTuple, setMany, alen, aiaddr, afill, Nat.reduceLeDiff, Nat.reduceMul, Nat.reduceLT, afillE, List.replicate, z1, c1, p1, q1, ic_length]
          refine storeR rfl rfl fo' rfl ⟨rfl, rfl, rfl, by simp⟩ fun H3 y1'' fo'' y3'' => ?_
          simp only [AV.cells, setMany, List.set_cons_zero, List.set_cons_succ] at fo''
          have f0 := (y3'' 0 (by omega)).trans f0
          have fo := fo''
          have hc : cand l k = ((k : Int), gd l 0, gd l 1) := by unfold cand; rw [if_pos hke]
          simp only [walkS, wl, rgets, retv, argsEnv, ev, cst, cst1, cstL, AEnv.get, AEnv.trim, envput, qstep, abin, aun, evs, evo, deref, qload, target, if_true, if_false, Nat.reduceEqDiff, reduceIte, Nat.reduceAdd, AV.cells, AV.isTuple, setMany, alen, aiaddr, afill, Nat.reduceLeDiff, Nat.reduceMul, Nat.reduceLT, afillE, List.replicate, fo]
          refine call_pure (rPrintStep_ok k (gd l 0) (gd l 1)) (frzL_of' (d := 4) rfl) ?_
          simp only [walkS, wl, rgets, retv, argsEnv, ev, cst, cst1, cstL, AEnv.get, AEnv.trim, envput, qstep, abin, aun, evs, evo, deref, qload, target, if_true, if_false, Nat.reduceEqDiff, reduceIte, Nat.reduceAdd, AV.cells, AV.isTuple, setMany, alen, aiaddr, afill, Nat.reduceLeDiff, Nat.reduceMul, Nat.reduceLT, afillE, List.replicate, fo]
          by_cases hk : okL ((k : Int), (gd l 0), (gd l 1)) = true
          · have e2 : psV ((k : Int), (gd l 0), (gd l 1)) = (stepT ((k : Int), (gd l 0), (gd l 1)), 0) := by unfold psV; rw [if_pos hk]
            rw [e2]
            simp only [walkS, wl, rgets, retv, argsEnv, ev, cst, cst1, cstL, AEnv.get, AEnv.trim, envput, qstep, abin, aun, evs, evo, deref, qload, target, if_true, if_false, Nat.reduceEqDiff, reduceIte, Nat.reduceAdd, AV.cells, AV.isTuple, setMany, alen, aiaddr, afill, Nat.reduceLeDiff, Nat.reduceMul, Nat.reduceLT, afillE, List.replicate, beq_self_eq_true, fo]
            refine withBool_intro ?_ ?_ <;> intro h5 <;> simp only [walkS, wl, rgets, retv, argsEnv, ev, cst, cst1, cstL, AEnv.get, AEnv.trim, envput, qstep, abin, aun, evs, evo, deref, qload, target, if_true, if_false, Nat.reduceEqDiff, reduceIte, Nat.reduceAdd, AV.cells, AV.isTuple, setMany, alen, aiaddr, afill, Nat.reduceLeDiff, Nat.reduceMul, Nat.reduceLT, afillE, List.replicate, fo]
            · have h5 : stepT ((k : Int), (gd l 0), (gd l 1)) = s := by rw [beqB] at h5; exact of_decide_eq_true h5
              refine storeR rfl rfl f0 rfl ⟨rfl, rfl, rfl, by simp⟩ fun H9 v1 v2 v3 => ?_
              simp only [AV.cells, setMany, List.set_cons_zero, List.set_cons_succ] at v2
              simp only [walkS, wl, rgets, retv, argsEnv, ev, cst, cst1, cstL, AEnv.get, AEnv.trim, envput, qstep, abin, aun, evs, evo, deref, qload, target, if_true, if_false, Nat.reduceEqDiff, reduceIte, Nat.reduceAdd, AV.cells, AV.isTuple, setMany, alen, aiaddr, afill, Nat.reduceLeDiff, Nat.reduceMul, Nat.reduceLT, afillE, List.replicate, v2]
              rw [hGs, hc, if_pos ⟨hk, h5⟩]
              exact out_ppS
            · have h5 : ¬ stepT ((k : Int), (gd l 0), (gd l 1)) = s := by rw [beqB] at h5; exact of_decide_eq_false h5
              simp only [walkS, wl, rgets, retv, argsEnv, ev, cst, cst1, cstL, AEnv.get, AEnv.trim, envput, qstep, abin, aun, evs, evo, deref, qload, target, if_true, if_false, Nat.reduceEqDiff, reduceIte, Nat.reduceAdd, AV.cells, AV.isTuple, setMany, alen, aiaddr, afill, Nat.reduceLeDiff, Nat.reduceMul, Nat.reduceLT, afillE, List.replicate, w1]
              refine loop_end (k + 1) ⟨by omega, by omega, ?_⟩ (by omega) rfl ⟨by omega, f0⟩
              rw [hGs, hc, if_neg fun h => h5 h.2]
          · have e2 : psV ((k : Int), (gd l 0), (gd l 1)) = (bE, 21) := by unfold psV; rw [if_neg hk]
            rw [e2]
            simp only [walkS, wl, rgets, retv, argsEnv, ev, cst, cst1, cstL, AEnv.get, AEnv.trim, envput, qstep, abin, aun, evs, evo, deref, qload, target, if_true, if_false, Nat.reduceEqDiff, reduceIte, Nat.reduceAdd, AV.cells, AV.isTuple, setMany, alen, aiaddr, afill, Nat.reduceLeDiff, Nat.reduceMul, Nat.reduceLT, afillE, List.replicate, t21, fo, w1]
            refine loop_end (k + 1) ⟨by omega, by omega, ?_⟩ (by omega) rfl ⟨by omega, f0⟩
            rw [hGs, hc, if_neg fun h => hk h.1]
        · have g3 : ((k : Int) == 1) = false := by simp only [beq_eq_false_iff_ne]; omega
          have fo := fo'
          have hc : cand l k = ((k : Int), gd l 0, 0) := by unfold cand; rw [if_neg hke]
          simp only [walkS, wl, rgets, retv, argsEnv, ev, cst, cst1, cstL, AEnv.get, AEnv.trim, envput, qstep, abin, aun, evs, evo, deref, qload, target, if_true, if_false, Nat.reduceEqDiff, reduceIte, Nat.reduceAdd, AV.cells, AV.isTuple, setMany, alen, aiaddr, afill, Nat.reduceLeDiff, Nat.reduceMul, Nat.reduceLT, afillE, List.replicate, g2, g3, ic_length]
          simp only [walkS, wl, rgets, retv, argsEnv, ev, cst, cst1, cstL, AEnv.get, AEnv.trim, envput, qstep, abin, aun, evs, evo, deref, qload, target, if_true, if_false, Nat.reduceEqDiff, reduceIte, Nat.reduceAdd, AV.cells, AV.isTuple, setMany, alen, aiaddr, afill, Nat.reduceLeDiff, Nat.reduceMul, Nat.reduceLT, afillE, List.replicate, fo]
          refine call_pure (rPrintStep_ok k (gd l 0) 0) (frzL_of' (d := 4) rfl) ?_
          simp only [walkS, wl, rgets, retv, argsEnv, ev, cst, cst1, cstL, AEnv.get, AEnv.trim, envput, qstep, abin, aun, evs, evo, deref, qload, target, if_true, if_false, Nat.reduceEqDiff, reduceIte, Nat.reduceAdd, AV.cells, AV.isTuple, setMany, alen, aiaddr, afill, Nat.reduceLeDiff, Nat.reduceMul, Nat.reduceLT, afillE, List.replicate, fo]
          by_cases hk : okL ((k : Int), (gd l 0), 0) = true
          · have e2 : psV ((k : Int), (gd l 0), 0) = (stepT ((k : Int), (gd l 0), 0), 0) := by unfold psV; rw [if_pos hk]
            rw [e2]
            simp only [walkS, wl, rgets, retv, argsEnv, ev, cst, cst1, cstL, AEnv.get, AEnv.trim, envput, qstep, abin, aun, evs, evo, deref, qload, target, if_true, if_false, Nat.reduceEqDiff, reduceIte, Nat.reduceAdd, AV.cells, AV.isTuple, setMany, alen, aiaddr, afill, Nat.reduceLeDiff, Nat.reduceMul, Nat.reduceLT, afillE, List.replicate, beq_self_eq_true, fo]
            refine withBool_intro ?_ ?_ <;> intro h5 <;> simp only [walkS, wl, rgets, retv, argsEnv, ev, cst, cst1, cstL, AEnv.get, AEnv.trim, envput, qstep, abin, aun, evs, evo, deref, qload, target, if_true, if_false, Nat.reduceEqDiff, reduceIte, Nat.reduceAdd, AV.cells, AV.isTuple, setMany, alen, aiaddr, afill, Nat.reduceLeDiff, Nat.reduceMul, Nat.reduceLT, afillE, List.replicate, fo]
            · have h5 : stepT ((k : Int), (gd l 0), 0) = s := by rw [beqB] at h5; exact of_decide_eq_true h5
              refine storeR rfl rfl f0 rfl ⟨rfl, rfl, rfl, by simp⟩ fun H9 v1 v2 v3 => ?_
              simp only [AV.cells, setMany, List.set_cons_zero, List.set_cons_succ] at v2
              simp only [walkS, wl, rgets, retv, argsEnv, ev, cst, cst1, cstL, AEnv.get, AEnv.trim, envput, qstep, abin, aun, evs, evo, deref, qload, target, if_true, if_false, Nat.reduceEqDiff, reduceIte, Nat.reduceAdd, AV.cells, AV.isTuple, setMany, alen, aiaddr, afill, Nat.reduceLeDiff, Nat.reduceMul, Nat.reduceLT, afillE, List.replicate, v2]
              rw [hGs, hc, if_pos ⟨hk, h5⟩]
              exact out_ppS
            · have h5 : ¬ stepT ((k : Int), (gd l 0), 0) = s := by rw [beqB] at h5; exact of_decide_eq_false h5
              simp only [walkS, wl, rgets, retv, argsEnv, ev, cst, cst1, cstL, AEnv.get, AEnv.trim, envput, qstep, abin, aun, evs, evo, deref, qload, target, if_true, if_false, Nat.reduceEqDiff, reduceIte, Nat.reduceAdd, AV.cells, AV.isTuple, setMany, alen, aiaddr, afill, Nat.reduceLeDiff, Nat.reduceMul, Nat.reduceLT, afillE, List.replicate, w1]
              refine loop_end (k + 1) ⟨by omega, by omega, ?_⟩ (by omega) rfl ⟨by omega, f0⟩
              rw [hGs, hc, if_neg fun h => h5 h.2]
          · have e2 : psV ((k : Int), (gd l 0), 0) = (bE, 21) := by unfold psV; rw [if_neg hk]
            rw [e2]
            simp only [walkS, wl, rgets, retv, argsEnv, ev, cst, cst1, cstL, AEnv.get, AEnv.trim, envput, qstep, abin, aun, evs, evo, deref, qload, target, if_true, if_false, Nat.reduceEqDiff, reduceIte, Nat.reduceAdd, AV.cells, AV.isTuple, setMany, alen, aiaddr, afill, Nat.reduceLeDiff, Nat.reduceMul, Nat.reduceLT, afillE, List.replicate, t21, fo, w1]
            refine loop_end (k + 1) ⟨by omega, by omega, ?_⟩ (by omega) rfl ⟨by omega, f0⟩
            rw [hGs, hc, if_neg fun h => hk h.1]
      · have g2 : decide (((l.length : Nat) : Int) > 1) = false := by simp only [decide_eq_false_iff_not]; omega
        have fo := fo'
        have hc : cand l k = ((k : Int), gd l 0, 0) := by
          unfold cand; split
          · rw [gd_far (i := 1) (by omega)]
          · rfl
        simp only [walkS, wl, rgets, retv, argsEnv, ev, cst, cst1, cstL, AEnv.get, AEnv.trim, envput, qstep, abin, aun, evs, evo, deref, qload, target, if_true, if_false, Nat.reduceEqDiff, reduceIte, Nat.reduceAdd, AV.cells, AV.isTuple, setMany, alen, aiaddr, afill, Nat.reduceLeDiff, Nat.reduceMul, Nat.reduceLT, afillE, List.replicate, g2, ic_length]
        simp only [walkS, wl, rgets, retv, argsEnv, ev, cst, cst1, cstL, AEnv.get, AEnv.trim, envput, qstep, abin, aun, evs, evo, deref, qload, target, if_true, if_false, Nat.reduceEqDiff, reduceIte, Nat.reduceAdd, AV.cells, AV.isTuple, setMany, alen, aiaddr, afill, Nat.reduceLeDiff, Nat.reduceMul, Nat.reduceLT, afillE, List.replicate, fo]
        refine call_pure (rPrintStep_ok k (gd l 0) 0) (frzL_of' (d := 4) rfl) ?_
        simp only [walkS, wl, rgets, retv, argsEnv, ev, cst, cst1, cstL, AEnv.get, AEnv.trim, envput, qstep, abin, aun, evs, evo, deref, qload, target, if_true, if_false, Nat.reduceEqDiff, reduceIte, Nat.reduceAdd, AV.cells, AV.isTuple, setMany, alen, aiaddr, afill, Nat.reduceLeDiff, Nat.reduceMul, Nat.reduceLT, afillE, List.replicate, fo]
        by_cases hk : okL ((k : Int), (gd l 0), 0) = true
        · have e2 : psV ((k : Int), (gd l 0), 0) = (stepT ((k : Int), (gd l 0), 0), 0) := by unfold psV; rw [if_pos hk]
          rw [e2]
          simp only [walkS, wl, rgets, retv, argsEnv, ev, cst, cst1, cstL, AEnv.get, AEnv.trim, envput, qstep, abin, aun, evs, evo, deref, qload, target, if_true, if_false, Nat.reduceEqDiff, reduceIte, Nat.reduceAdd, AV.cells, AV.isTuple, setMany, alen, aiaddr, afill, Nat.reduceLeDiff, Nat.reduceMul, Nat.reduceLT, afillE, List.replicate, beq_self_eq_true, fo]
          refine withBool_intro ?_ ?_ <;> intro h5 <;> simp only [walkS, wl, rgets, retv, argsEnv, ev, cst, cst1, cstL, AEnv.get, AEnv.trim, envput, qstep, abin, aun, evs, evo, deref, qload, target, if_true, if_false, Nat.reduceEqDiff, reduceIte, Nat.reduceAdd, AV.cells, AV.isTuple, setMany, alen, aiaddr, afill, Nat.reduceLeDiff, Nat.reduceMul, Nat.reduceLT, afillE, List.replicate, fo]
          · have h5 : stepT ((k : Int), (gd l 0), 0) = s := by rw [beqB] at h5; exact of_decide_eq_true h5
            refine storeR rfl rfl f0 rfl ⟨rfl, rfl, rfl, by simp⟩ fun H9 v1 v2 v3 => ?_
            simp only [AV.cells, setMany, List.set_cons_zero, List.set_cons_succ] at v2
            simp only [walkS, wl, rgets, retv, argsEnv, ev, cst, cst1, cstL, AEnv.get, AEnv.trim, envput, qstep, abin, aun, evs, evo, deref, qload, target, if_true, if_false, Nat.reduceEqDiff, reduceIte, Nat.reduceAdd, AV.cells, AV.isTuple, setMany, alen, aiaddr, afill, Nat.reduceLeDiff, Nat.reduceMul, Nat.reduceLT, afillE, List.replicate, v2]
            rw [hGs, hc, if_pos ⟨hk, h5⟩]
            exact out_ppS
          · have h5 : ¬ stepT ((k : Int), (gd l 0), 0) = s := by rw [beqB] at h5; exact of_decide_eq_false h5
            simp only [walkS, wl, rgets, retv, argsEnv, ev, cst, cst1, cstL, AEnv.get, AEnv.trim, envput, qstep, abin, aun, evs, evo, deref, qload, target, if_true, if_false, Nat.reduceEqDiff, reduceIte, Nat.reduceAdd, AV.cells, AV.isTuple, setMany, alen, aiaddr, afill, Nat.reduceLeDiff, Nat.reduceMul, Nat.reduceLT, afillE, List.replicate, w1]
            refine loop_end (k + 1) ⟨by omega, by omega, ?_⟩ (by omega) rfl ⟨by omega, f0⟩
            rw [hGs, hc, if_neg fun h => h5 h.2]
        · have e2 : psV ((k : Int), (gd l 0), 0) = (bE, 21) := by unfold psV; rw [if_neg hk]
          rw [e2]
          simp only [walkS, wl, rgets, retv, argsEnv, ev, cst, cst1, cstL, AEnv.get, AEnv.trim, envput, qstep, abin, aun, evs, evo, deref, qload, target, if_true, if_false, Nat.reduceEqDiff, reduceIte, Nat.reduceAdd, AV.cells, AV.isTuple, setMany, alen, aiaddr, afill, Nat.reduceLeDiff, Nat.reduceMul, Nat.reduceLT, afillE, List.replicate, t21, fo, w1]
          refine loop_end (k + 1) ⟨by omega, by omega, ?_⟩ (by omega) rfl ⟨by omega, f0⟩
          rw [hGs, hc, if_neg fun h => hk h.1]
  · have hk' : k = 7 := by have := of_decide_eq_false hb; omega
    subst hk'
    refine storeR rfl rfl hO rfl ⟨rfl, rfl, rfl, by simp⟩ fun H1 y1 y2 y3 => ?_
    simp only [AV.cells, setMany, List.set_cons_zero, List.set_cons_succ] at y2
    simp only [walkS, wl, rgets, retv, argsEnv, ev, cst, cst1, cstL, AEnv.get, AEnv.trim, envput, qstep, abin, aun, evs, evo, deref, qload, target, if_true, if_false, Nat.reduceEqDiff, reduceIte, Nat.reduceAdd, AV.cells, AV.isTuple, setMany, alen, aiaddr, afill, Nat.reduceLeDiff, Nat.reduceMul, Nat.reduceLT, afillE, List.replicate, y2]
    rw [hG]
    exact out_ppN
end Go.Proofs.YtomejgikdelgkaaGreatDoor
