/- Contracts: Print of the specification, Parse of both. -/
import Derived.Test.YtomejgikdelgkaaGreatDoorQP4
set_option linter.unusedVariables false
set_option linter.unusedSimpArgs false
set_option linter.unusedSectionVars false
namespace Go.Proofs.YtomejgikdelgkaaGreatDoor
open Go.Awp Go.Snow
set_option linter.unusedSimpArgs false
set_option linter.unusedVariables false
set_option linter.unusedSectionVars false
set_option maxRecDepth 10000
def layB (b : ByteArray) (l : Lay) : ByteArray := b ++ bl ++ itoaB l.1 ++ sl ++ itoaB l.2.1 ++ sl ++ itoaB l.2.2
def accS (ls : List Lay) : ByteArray := ls.foldl layB pk
theorem of_data {a b : ByteArray} (h : a.data.toList = b.data.toList) : a = b := by rw [← ofL_data a, h, ofL_data]
theorem accS_data : ∀ (ls : List Lay) (b : ByteArray), (ls.foldl layB b).data.toList = b.data.toList ++ ((ls.map fun l => (wordV l).data.toList).map (32 :: ·)).flatten
  | [], b => by simp
  | l :: r, b => by
    rw [List.foldl_cons, accS_data r]
    simp [layB, wordV, data_app]
theorem joinTail_flat {c : UInt8} (r : List (List UInt8)) : Lib.joinTail [c] r = (r.map (c :: ·)).flatten := rfl
theorem textV_data (ls : List Lay) : (textV ls).data.toList = pk.data.toList ++ ((ls.map fun l => (wordV l).data.toList).map (32 :: ·)).flatten := by
  have : (textV ls).data.toList = Lib.join ((pk :: ls.map wordV).map (·.data.toList)) bl.data.toList := by simp [textV, joinB]
  rw [this, List.map_cons, Lib.join_cons, show bl.data.toList = [32] from rfl, joinTail_flat]
  simp only [List.map_map, Function.comp_def]
theorem textV_acc (ls : List Lay) : textV ls = accS ls := of_data (by rw [textV_data, accS, accS_data])
theorem accS_take {ls : List Lay} {k : Nat} (h : k < ls.length) : accS (ls.take (k + 1)) = layB (accS (ls.take k)) ls[k] := by
  unfold accS; rw [List.take_succ_eq_append_getElem h, List.foldl_append]; rfl
theorem layB_size {b : ByteArray} {l : Lay} (h : right l = true) : (layB b l).size ≤ b.size + 18 := by
  have hr := right_iff.1 h
  have h1 := itoaB_size (n := l.1) (by omega)
  have h2 := itoaB_size (n := l.2.1) (by omega)
  have h3 := itoaB_size (n := l.2.2) (by omega)
  have h4 : sl.size = 1 := rfl
  have h5 : bl.size = 1 := rfl
  unfold layB
  simp only [ByteArray.size_append]; omega
theorem accS_size {ls : List Lay} (h : ∀ l, l ∈ ls → right l = true) : ∀ k, (accS (ls.take k)).size ≤ 4 + 18 * k
  | 0 => by simp [accS]; decide
  | k + 1 => by
    have ih := accS_size h k
    by_cases hk : k < ls.length
    · rw [accS_take hk]
      have := layB_size (b := accS (ls.take k)) (h ls[k] (List.getElem_mem hk))
      omega
    · rw [List.take_of_length_le (by omega)] at ih ⊢
      omega
theorem rPrint_ok (ls : List Lay) : PCall Tryz.prog 11 [.agg [.ro false (rows ls)]] (.tuple [.str (printV ls).1, I (printV ls).2]) := by
  refine PCall.intro text11 (by simp) ?_
  unfold ir11
  simp only [walkS, wl, rgets, retv, argsEnv, ev, cst, cst1, cstL, AEnv.get, AEnv.trim, envput, qstep, abin, aun, evs, evo, deref, qload, target, if_true, if_false, Nat.reduceEqDiff, reduceIte, Nat.reduceAdd, AV.cells, AV.isTuple, setMany, alen, aiaddr, afill, Nat.reduceLeDiff, Nat.reduceMul, Nat.reduceLT, afillE, List.replicate]
  refine call_pure (rCheck_ok ls) (frzL_of' (d := 4) car_pkL) ?_
  simp only [walkS, wl, rgets, retv, argsEnv, ev, cst, cst1, cstL, AEnv.get, AEnv.trim, envput, qstep, abin, aun, evs, evo, deref, qload, target, if_true, if_false, Nat.reduceEqDiff, reduceIte, Nat.reduceAdd, AV.cells, AV.isTuple, setMany, alen, aiaddr, afill, Nat.reduceLeDiff, Nat.reduceMul, Nat.reduceLT, afillE, List.replicate]
  refine withBool_intro ?_ ?_ <;> intro h <;> simp only [walkS, wl, rgets, retv, argsEnv, ev, cst, cst1, cstL, AEnv.get, AEnv.trim, envput, qstep, abin, aun, evs, evo, deref, qload, target, if_true, if_false, Nat.reduceEqDiff, reduceIte, Nat.reduceAdd, AV.cells, AV.isTuple, setMany, alen, aiaddr, afill, Nat.reduceLeDiff, Nat.reduceMul, Nat.reduceLT, afillE, List.replicate, rows_length]
  · obtain ⟨h1, h2⟩ := chk_ne (ls := ls) (by simpa using h)
    simp only [h2, printV, h1, Bool.false_eq_true, if_false]; exact out_two out_str out_int
  · have h1 := chk_zero (ls := ls) (by simpa using h)
    obtain ⟨hlen, hR, -, -⟩ := okP_iff.1 h1
    refine awp_loop (σ := Nat) (fun k => [(1, .ptr 0 1 0 0), (5, .str (accS (ls.take k))), (6, I k)]) (fun _ H => 1 ≤ H.length ∧ AHeap.obj H 0 = some ⟨26, 1, [[.ro false (rows ls)]]⟩) (fun k => k ≤ ls.length) (fun k => ls.length - k) 0 (Nat.zero_le _) rfl ⟨by simp, rfl⟩ ?_
    rintro k H hk ⟨hH, hO⟩
    simp only [walkS, wl, rgets, retv, argsEnv, ev, cst, cst1, cstL, AEnv.get, AEnv.trim, envput, qstep, abin, aun, evs, evo, deref, qload, target, if_true, if_false, Nat.reduceEqDiff, reduceIte, Nat.reduceAdd, AV.cells, AV.isTuple, setMany, alen, aiaddr, afill, Nat.reduceLeDiff, Nat.reduceMul, Nat.reduceLT, afillE, List.replicate, hO, rows_length]
    refine withBool_intro ?_ ?_ <;> intro hb <;> simp only [walkS, wl, rgets, retv, argsEnv, ev, cst, cst1, cstL, AEnv.get, AEnv.trim, envput, qstep, abin, aun, evs, evo, deref, qload, target, if_true, if_false, Nat.reduceEqDiff, reduceIte, Nat.reduceAdd, AV.cells, AV.isTuple, setMany, alen, aiaddr, afill, Nat.reduceLeDiff, Nat.reduceMul, Nat.reduceLT, afillE, List.replicate]
    · have hlt : k < ls.length := by simpa using hb
      have hr := right_iff.1 (hR ls[k] (List.getElem_mem hlt))
      have w1 := w_succ (k := k) (by omega)
      have hi : (k : Int) < (ls.length : Int) := by omega
      simp only [walkS, wl, rgets, retv, argsEnv, ev, cst, cst1, cstL, AEnv.get, AEnv.trim, envput, qstep, abin, aun, evs, evo, deref, qload, target, if_true, if_false, Nat.reduceEqDiff, reduceIte, Nat.reduceAdd, AV.cells, AV.isTuple, setMany, alen, aiaddr, afill, Nat.reduceLeDiff, Nat.reduceMul, Nat.reduceLT, afillE, List.replicate, hO, rows_length, hi, rows_get hlt]
      refine storeR rfl rfl AHeap.obj_push_eq rfl ⟨rfl, rfl, rfl, by simp⟩ fun H1 y1 y2 y3 => ?_
      simp only [AV.cells, setMany, List.set_cons_zero, List.set_cons_succ] at y2
      have f0 : AHeap.obj H1 0 = some ⟨26, 1, [[.ro false (rows ls)]]⟩ := (y3 0 (by omega)).trans (by rw [AHeap.obj_push_lt (by omega)]; exact hO)
      simp only [List.length_append, List.length_cons, List.length_nil] at y1
      have z1 := itoaB_size (n := ls[k].1) (by omega)
      have z2 := itoaB_size (n := ls[k].2.1) (by omega)
      have z3 := itoaB_size (n := ls[k].2.2) (by omega)
      have z4 : sl.size = 1 := rfl
      have z5 : bl.size = 1 := rfl
      have za := accS_size hR k
      have hkl : k ≤ 64 := by omega
      have a0 : (accS (ls.take k)).size + bl.size ≤ 9223372036854775807 := by omega
      have a1 : (accS (ls.take k) ++ bl).size + (itoaB ls[k].1).size ≤ 9223372036854775807 := by simp only [ByteArray.size_append]; omega
      have a2 : (accS (ls.take k) ++ bl ++ itoaB ls[k].1).size + sl.size ≤ 9223372036854775807 := by simp only [ByteArray.size_append]; omega
      have a3 : (accS (ls.take k) ++ bl ++ itoaB ls[k].1 ++ sl).size + (itoaB ls[k].2.1).size ≤ 9223372036854775807 := by simp only [ByteArray.size_append]; omega
      have a4 : (accS (ls.take k) ++ bl ++ itoaB ls[k].1 ++ sl ++ itoaB ls[k].2.1).size + sl.size ≤ 9223372036854775807 := by simp only [ByteArray.size_append]; omega
      have a5 : (accS (ls.take k) ++ bl ++ itoaB ls[k].1 ++ sl ++ itoaB ls[k].2.1 ++ sl).size + (itoaB ls[k].2.2).size ≤ 9223372036854775807 := by simp only [ByteArray.size_append]; omega
      simp only [walkS, wl, rgets, retv, argsEnv, ev, cst, cst1, cstL, AEnv.get, AEnv.trim, envput, qstep, abin, aun, evs, evo, deref, qload, target, if_true, if_false, Nat.reduceEqDiff, reduceIte, Nat.reduceAdd, AV.cells, AV.isTuple, setMany, alen, aiaddr, afill, Nat.reduceLeDiff, Nat.reduceMul, Nat.reduceLT, afillE, List.replicate, y2, a0]
      refine dcall_pure (rnum_ok (n := ls[k].1) (by omega) (by omega)) (frzL_of (d := 1) rfl) ?_
      simp only [walkS, wl, rgets, retv, argsEnv, ev, cst, cst1, cstL, AEnv.get, AEnv.trim, envput, qstep, abin, aun, evs, evo, deref, qload, target, if_true, if_false, Nat.reduceEqDiff, reduceIte, Nat.reduceAdd, AV.cells, AV.isTuple, setMany, alen, aiaddr, afill, Nat.reduceLeDiff, Nat.reduceMul, Nat.reduceLT, afillE, List.replicate, y2, a1, a2]
      refine dcall_pure (rnum_ok (n := ls[k].2.1) (by omega) (by omega)) (frzL_of (d := 1) rfl) ?_
      simp only [walkS, wl, rgets, retv, argsEnv, ev, cst, cst1, cstL, AEnv.get, AEnv.trim, envput, qstep, abin, aun, evs, evo, deref, qload, target, if_true, if_false, Nat.reduceEqDiff, reduceIte, Nat.reduceAdd, AV.cells, AV.isTuple, setMany, alen, aiaddr, afill, Nat.reduceLeDiff, Nat.reduceMul, Nat.reduceLT, afillE, List.replicate, y2, a3, a4]
      refine dcall_pure (rnum_ok (n := ls[k].2.2) (by omega) (by omega)) (frzL_of (d := 1) rfl) ?_
      simp only [walkS, wl, rgets, retv, argsEnv, ev, cst, cst1, cstL, AEnv.get, AEnv.trim, envput, qstep, abin, aun, evs, evo, deref, qload, target, if_true, if_false, Nat.reduceEqDiff, reduceIte, Nat.reduceAdd, AV.cells, AV.isTuple, setMany, alen, aiaddr, afill, Nat.reduceLeDiff, Nat.reduceMul, Nat.reduceLT, afillE, List.replicate, y2, a5, w1]
      refine loop_end (k + 1) hlt (by omega) (by rw [accS_take hlt]; rfl) ⟨by omega, f0⟩
    · have hk' : k = ls.length := by simp at hb; omega
      subst hk'
      rw [List.take_length, ← textV_acc]
      simp only [printV, h1, if_true]; exact out_two out_str out_int
def lay3 (l : List Int) : Option Lay := match l with
  | [a, b, c] => some (a, b, c)
  | _ => none
def layO (x : ByteArray) : Option Lay := if nmB (wordsB x 47) = true then lay3 (nmV (wordsB x 47)) else none
def pkP (t : ByteArray) : Option (List Lay) := if (wordsB t 32).head? = some pk then (match mapO layO ((wordsB t 32).drop 1) with
  | some ls => if okP ls = true then some ls else none
  | none => none) else none
def pkD : Option (List Lay) → List Lay
  | some x => x
  | none => []
def pkAV (o : Option (List Lay)) : AV := .tuple [.agg [.ro true (rows (pkD o))], I (ppE o)]
theorem out_pkN {H : AHeap} : Out H (.tuple [.agg [.nilSlice], I 3]) (pkAV none) := out_two (out_agg1 out_nil rfl) out_int
theorem out_pkS {H : AHeap} {a : AV} {ls : List Lay} (h : Acc 0 H a 47 3 (rows ls)) : Out H (.tuple [.agg [a], I 0]) (pkAV (some ls)) := out_two (out_agg1 (h.out (rows_simple _)) rfl) out_int
theorem mapO_take {α β : Type} {f : α → Option β} {l : List α} {k : Nat} (h : k < l.length) : mapO f (l.take (k + 1)) = match mapO f (l.take k), f l[k] with
    | some r, some y => some (r ++ [y])
    | _, _ => none := by
  rw [List.take_succ_eq_append_getElem h, mapO_app]
  cases mapO f (l.take k) <;> cases f l[k] <;> rfl
theorem mapO_long {α β : Type} {f : α → Option β} {l : List α} {k : Nat} {r ls : List β} (h1 : mapO f (l.take k) = some r) (h2 : mapO f l = some ls) : r.length ≤ ls.length := by
  have q1 := mapO_len h1
  have q2 := mapO_len h2
  rw [List.length_take] at q1
  omega
theorem Parse_ok (s : ByteArray) (hs : s.size ≤ 1048576) : PCall Tryz.prog 12 [.str s] (pkAV (pkP s)) := by
  refine PCall.intro text12 (by simp) ?_
  unfold ir12
  simp only [walkS, wl, rgets, retv, argsEnv, ev, cst, cst1, cstL, AEnv.get, AEnv.trim, envput, qstep, abin, aun, evs, evo, deref, qload, target, if_true, if_false, Nat.reduceEqDiff, reduceIte, Nat.reduceAdd, AV.cells, AV.isTuple, setMany, alen, aiaddr, afill, Nat.reduceLeDiff, Nat.reduceMul, Nat.reduceLT, afillE, List.replicate]
  refine awp_scope (σ := Empty) (fun s => nomatch s) (fun s _ => nomatch s) (fun s => nomatch s) (fun s => nomatch s) ?_ (fun s => nomatch s)
  simp only [walkS, wl, rgets, retv, argsEnv, ev, cst, cst1, cstL, AEnv.get, AEnv.trim, envput, qstep, abin, aun, evs, evo, deref, qload, target, if_true, if_false, Nat.reduceEqDiff, reduceIte, Nat.reduceAdd, AV.cells, AV.isTuple, setMany, alen, aiaddr, afill, Nat.reduceLeDiff, Nat.reduceMul, Nat.reduceLT, afillE, List.replicate]
  refine call_pure (Split_ok s 32 (by omega)) (frzL_of' (d := 1) rfl) ?_
  have wlen := wordsB_len s 32
  have wz := fun x => wordsB_size (s := s) (c := 32) (x := x)
  obtain ⟨w0, ws, hw⟩ : ∃ w0 ws, wordsB s 32 = w0 :: ws := by
    cases h : wordsB s 32 with
    | nil => exact absurd h (wordsB_ne s 32)
    | cons a t => exact ⟨a, t, rfl⟩
  have e0 : pkP s = if w0 = pk then (match mapO layO ws with
    | some ls => if okP ls = true then some ls else none
    | none => none) else none := by unfold pkP; rw [hw]; simp only [List.head?_cons, Option.some.injEq, List.drop_succ_cons, List.drop_zero]
  rw [e0]
  rw [hw] at wlen wz ⊢
  have a1 : ∀ H, aslice H 1 (.ro true (Go.Awp.sc (w0 :: ws))) (some (.int .i64 1)) none = some (.ro true (Go.Awp.sc ws)) := fun H => aslice_from (k := 1) (by simp)
  simp only [List.length_cons] at wlen
  have h0 : (Go.Awp.sc (w0 :: ws))[0]? = some [.str w0] := rfl
  have z0 : Int.toNat 0 = 0 := rfl
  have z1 : Int.toNat 1 = 1 := rfl
  have z2 : Int.toNat 2 = 2 := rfl
  have c0 : (0 : Int) ≤ 0 := by omega
  have c1 : (0 : Int) ≤ 1 := by omega
  have c2 : (0 : Int) ≤ 2 := by omega
  have sl1 : (Go.Awp.sc (w0 :: ws)).length = ws.length + 1 := by simp [Go.Awp.sc]
  have hp : (0 : Int) < ((ws.length + 1 : Nat) : Int) := by omega
  have hb0 : (w0 == pk) = decide (w0 = pk) := beqB _ _
  have t20 : ((20 : Int) != 0) = true := rfl
  simp only [walkS, wl, rgets, retv, argsEnv, ev, cst, cst1, cstL, AEnv.get, AEnv.trim, envput, qstep, abin, aun, evs, evo, deref, qload, target, if_true, if_false, Nat.reduceEqDiff, reduceIte, Nat.reduceAdd, AV.cells, AV.isTuple, setMany, alen, aiaddr, afill, Nat.reduceLeDiff, Nat.reduceMul, Nat.reduceLT, afillE, List.replicate, h0, z0, c0, sl1, hp, a1, sc_length, hb0]
  refine awp_loop (σ := Nat × AV × List Lay) (fun t => [(2, .ptr 0 1 0 0), (5, .ptr 1 1 0 0), (6, .bool (decide (w0 = pk))), (20, .ro true (Go.Awp.sc ws)), (21, I ws.length), (22, I t.1)])
    (fun t H => 2 ≤ H.length ∧ AHeap.obj H 0 = some ⟨26, 1, [[.nilSlice]]⟩ ∧ AHeap.obj H 1 = some ⟨26, 1, [[t.2.1]]⟩ ∧ Acc 2 H t.2.1 47 3 (rows t.2.2)) (fun t => t.1 ≤ ws.length ∧ mapO layO (ws.take t.1) = some t.2.2 ∧ t.2.2.length ≤ 65 ∧ (0 < t.1 → w0 = pk)) (fun t => ws.length - t.1) (0, .nilSlice, []) ⟨Nat.zero_le _, rfl, by simp, fun h => absurd h (by simp)⟩ rfl ⟨by simp, rfl, rfl, .inl ⟨rfl, rfl⟩⟩ ?_
  rintro ⟨k, a, ls⟩ H ⟨hk, hm, h65, hpk⟩ ⟨hH, hO, hO1, hacc⟩
  simp only at hk hm h65 hpk hO1 hacc
  simp only [walkS, wl, rgets, retv, argsEnv, ev, cst, cst1, cstL, AEnv.get, AEnv.trim, envput, qstep, abin, aun, evs, evo, deref, qload, target, if_true, if_false, Nat.reduceEqDiff, reduceIte, Nat.reduceAdd, AV.cells, AV.isTuple, setMany, alen, aiaddr, afill, Nat.reduceLeDiff, Nat.reduceMul, Nat.reduceLT, afillE, List.replicate]
  refine withBool_intro ?_ ?_ <;> intro hb <;> simp only [walkS, wl, rgets, retv, argsEnv, ev, cst, cst1, cstL, AEnv.get, AEnv.trim, envput, qstep, abin, aun, evs, evo, deref, qload, target, if_true, if_false, Nat.reduceEqDiff, reduceIte, Nat.reduceAdd, AV.cells, AV.isTuple, setMany, alen, aiaddr, afill, Nat.reduceLeDiff, Nat.reduceMul, Nat.reduceLT, afillE, List.replicate]
  · have hlt : k < ws.length := by simpa using hb
    have w1 := w_succ (k := k) (by omega)
    have hwk := wz ws[k] (by simp)
    have wl2 := wordsB_len ws[k] 47
    have wz2 := fun x => wordsB_size (s := ws[k]) (c := 47) (x := x)
    have hlen := hacc.len
    rw [rows_length] at hlen
    simp only [alen] at hlen
    simp only [walkS, wl, rgets, retv, argsEnv, ev, cst, cst1, cstL, AEnv.get, AEnv.trim, envput, qstep, abin, aun, evs, evo, deref, qload, target, if_true, if_false, Nat.reduceEqDiff, reduceIte, Nat.reduceAdd, AV.cells, AV.isTuple, setMany, alen, aiaddr, afill, Nat.reduceLeDiff, Nat.reduceMul, Nat.reduceLT, afillE, List.replicate, sc_get hlt]
    refine call_pure (Split_ok ws[k] 47 (by omega)) (frzL_of' (d := 1) rfl) ?_
    simp only [walkS, wl, rgets, retv, argsEnv, ev, cst, cst1, cstL, AEnv.get, AEnv.trim, envput, qstep, abin, aun, evs, evo, deref, qload, target, if_true, if_false, Nat.reduceEqDiff, reduceIte, Nat.reduceAdd, AV.cells, AV.isTuple, setMany, alen, aiaddr, afill, Nat.reduceLeDiff, Nat.reduceMul, Nat.reduceLT, afillE, List.replicate]
    refine call_pure (numbers_ok (wordsB ws[k] 47) (by omega) (fun x hx => by have := wz2 x hx; omega)) (frzL_of' (d := 3) (carL_cons (car_ro (sc_simple _) (.inl rfl)) rfl)) ?_
    obtain ⟨l, hl⟩ : ∃ l, l = nmV (wordsB ws[k] 47) := ⟨_, rfl⟩
    obtain ⟨bb, hbb⟩ : ∃ bb, bb = nmB (wordsB ws[k] 47) := ⟨_, rfl⟩
    have hlay : layO ws[k] = if bb = true then lay3 l else none := by unfold layO; rw [← hl, ← hbb]
    rw [← hl, ← hbb]
    simp only [walkS, wl, rgets, retv, argsEnv, ev, cst, cst1, cstL, AEnv.get, AEnv.trim, envput, qstep, abin, aun, evs, evo, deref, qload, target, if_true, if_false, Nat.reduceEqDiff, reduceIte, Nat.reduceAdd, AV.cells, AV.isTuple, setMany, alen, aiaddr, afill, Nat.reduceLeDiff, Nat.reduceMul, Nat.reduceLT, afillE, List.replicate, hO1, hlen, ic_length]
    obtain ⟨bs, hbs⟩ : ∃ bs : List Bool, bs = [!(decide (w0 = pk)), !bb, ((l.length : Int) != 3), decide ((ls.length : Int) > 64)] := ⟨_, rfl⟩
    have hb4 : bs.length = 4 := by rw [hbs]; rfl
    have good : (∀ i (h : i < 4), bs[i]'(by omega) = false) → w0 = pk ∧ bb = true ∧ l.length = 3 ∧ ls.length ≤ 64 := fun h => by
      have q0 := h 0 (by omega)
      have q1 := h 1 (by omega)
      have q2 := h 2 (by omega)
      have q3 := h 3 (by omega)
      simp only [hbs, List.getElem_cons_zero, List.getElem_cons_succ, Bool.not_eq_false', decide_eq_true_eq, decide_eq_false_iff_not, bne_eq_false_iff_eq] at q0 q1 q2 q3
      exact ⟨q0, q1, by omega, by omega⟩
    have bad : ∀ i (h : i < 4), bs[i]'(by omega) = true → (if w0 = pk then (match mapO layO ws with
        | some ls => if okP ls = true then some ls else none
        | none => none) else none) = none := fun i h hi => by
      by_cases hw0 : w0 = pk
      · rw [if_pos hw0]
        cases hM : mapO layO ws with
        | none => rfl
        | some all =>
          simp only
          rw [if_neg]
          intro hk
          cases hy : layO ws[k] with
          | none =>
            have := mapO_bad (List.getElem_mem hlt) hy
            rw [hM] at this; cases this
          | some y =>
            have hlong := mapO_long (k := k + 1) (r := ls ++ [y]) (by rw [mapO_take hlt, hm, hy]) hM
            have h64 := (okP_iff.1 hk).1
            rw [List.length_append, List.length_singleton] at hlong
            rw [hlay] at hy
            cases hB : bb with
            | false => rw [hB] at hy; cases hy
            | true =>
              rw [hB, if_pos rfl] at hy
              have hl3 : l.length = 3 := by
                unfold lay3 at hy
                split at hy
                · rfl
                · cases hy
              subst hbs
              rw [hB, hw0, hl3] at hi
              have : i = 0 ∨ i = 1 ∨ i = 2 ∨ i = 3 := by omega
              rcases this with rfl | rfl | rfl | rfl
              · simp at hi
              · simp at hi
              · simp at hi
              · simp at hi; omega
      · rw [if_neg hw0]
    have hgr : ∀ j (h : j < 4), (bc bs)[j]? = some [.bool (bs[j]'(by omega))] := fun j h => bc_get (by omega)
    have hbc : [[AV.bool (!(decide (w0 = pk)))], [.bool (!bb)], [.bool ((l.length : Int) != 3)], [.bool (decide ((ls.length : Int) > 64))]] = bc bs := by rw [hbs]; rfl
    rw [hbc]
    refine awp_loop (σ := Nat) (fun j => [(2, .ptr 0 1 0 0), (5, .ptr 1 1 0 0), (6, .bool (decide (w0 = pk))), (9, .ro true (ic l)), (20, .ro true (Go.Awp.sc ws)), (21, I ws.length), (22, I k), (43, .own H.length 4 0 4), (44, I 4), (45, I j)])
      (fun _ G => G = H ++ [some ⟨4, 1, bc bs⟩]) (fun j => j ≤ 4 ∧ ∀ i (h : i < j) (h4 : i < 4), bs[i]'(by omega) = false) (fun j => 4 - j) 0 ⟨by omega, fun i h => absurd h (by omega)⟩ rfl rfl ?_
    rintro j G ⟨hj, hgo⟩ rfl
    have l4 : (bc bs).length = 4 := by rw [bc_length, hb4]
    have oG : AHeap.obj (H ++ [some ⟨4, 1, bc bs⟩]) H.length = some ⟨4, 1, bc bs⟩ := AHeap.obj_push_eq
    have oG0 : AHeap.obj (H ++ [some ⟨4, 1, bc bs⟩]) 0 = some ⟨26, 1, [[.nilSlice]]⟩ := by rw [AHeap.obj_push_lt (by omega)]; exact hO
    have oG1 : AHeap.obj (H ++ [some ⟨4, 1, bc bs⟩]) 1 = some ⟨26, 1, [[a]]⟩ := by rw [AHeap.obj_push_lt (by omega)]; exact hO1
    have accG := hacc.push [some ⟨4, 1, bc bs⟩]
    simp only [walkS, wl, rgets, retv, argsEnv, ev, cst, cst1, cstL, AEnv.get, AEnv.trim, envput, qstep, abin, aun, evs, evo, deref, qload, target, if_true, if_false, Nat.reduceEqDiff, reduceIte, Nat.reduceAdd, AV.cells, AV.isTuple, setMany, alen, aiaddr, afill, Nat.reduceLeDiff, Nat.reduceMul, Nat.reduceLT, afillE, List.replicate]
    refine withBool_intro ?_ ?_ <;> intro hjb <;> simp only [walkS, wl, rgets, retv, argsEnv, ev, cst, cst1, cstL, AEnv.get, AEnv.trim, envput, qstep, abin, aun, evs, evo, deref, qload, target, if_true, if_false, Nat.reduceEqDiff, reduceIte, Nat.reduceAdd, AV.cells, AV.isTuple, setMany, alen, aiaddr, afill, Nat.reduceLeDiff, Nat.reduceMul, Nat.reduceLT, afillE, List.replicate]
    · have hj4 : j < 4 := by have := of_decide_eq_true hjb; omega
      have w2 := w_succ (k := j) (by omega)
      have jlt : (j : Int) < ((4 : Nat) : Int) := by omega
      simp only [walkS, wl, rgets, retv, argsEnv, ev, cst, cst1, cstL, AEnv.get, AEnv.trim, envput, qstep, abin, aun, evs, evo, deref, qload, target, if_true, if_false, Nat.reduceEqDiff, reduceIte, Nat.reduceAdd, AV.cells, AV.isTuple, setMany, alen, aiaddr, afill, Nat.reduceLeDiff, Nat.reduceMul, Nat.reduceLT, afillE, List.replicate, oG, l4, jlt, hgr j hj4]
      refine withBool_intro ?_ ?_ <;> intro hjv <;> simp only [walkS, wl, rgets, retv, argsEnv, ev, cst, cst1, cstL, AEnv.get, AEnv.trim, envput, qstep, abin, aun, evs, evo, deref, qload, target, if_true, if_false, Nat.reduceEqDiff, reduceIte, Nat.reduceAdd, AV.cells, AV.isTuple, setMany, alen, aiaddr, afill, Nat.reduceLeDiff, Nat.reduceMul, Nat.reduceLT, afillE, List.replicate, w2]
      · simp only [walkS, wl, rgets, retv, argsEnv, ev, cst, cst1, cstL, AEnv.get, AEnv.trim, envput, qstep, abin, aun, evs, evo, deref, qload, target, if_true, if_false, Nat.reduceEqDiff, reduceIte, Nat.reduceAdd, AV.cells, AV.isTuple, setMany, alen, aiaddr, afill, Nat.reduceLeDiff, Nat.reduceMul, Nat.reduceLT, afillE, List.replicate, block_exit_ne (i := 0) (j := 2) rfl, block_exit_ne (i := 0) (j := 3) rfl, block_exit_ne (i := 0) (j := 1) rfl, oG1]
        rw [bad j hj4 hjv]
        refine storeR rfl rfl oG0 rfl ⟨rfl, rfl, rfl, by simp⟩ fun H9 v1 v2 v3 => ?_
        simp only [AV.cells, setMany, List.set_cons_zero, List.set_cons_succ] at v2
        simp only [walkS, wl, rgets, retv, argsEnv, ev, cst, cst1, cstL, AEnv.get, AEnv.trim, envput, qstep, abin, aun, evs, evo, deref, qload, target, if_true, if_false, Nat.reduceEqDiff, reduceIte, Nat.reduceAdd, AV.cells, AV.isTuple, setMany, alen, aiaddr, afill, Nat.reduceLeDiff, Nat.reduceMul, Nat.reduceLT, afillE, List.replicate, v2]
        exact out_pkN
      · refine loop_end (j + 1) ⟨by omega, fun i h h4 => ?_⟩ (by omega) rfl rfl
        rcases Nat.lt_or_ge i j with h5 | h5
        · exact hgo i h5 h4
        · have : i = j := by omega
          subst this; exact hjv
    · have hj4 : j = 4 := by have := of_decide_eq_false hjb; omega
      subst hj4
      obtain ⟨g0, g1, g2, g3⟩ := good fun i h => hgo i h h
      obtain ⟨x, y, z, hxyz⟩ : ∃ x y z, l = [x, y, z] := by
        match l, g2 with
        | [x, y, z], _ => exact ⟨x, y, z, rfl⟩
      have i0 : (ic l)[0]? = some [I x] := by rw [hxyz]; rfl
      have i1 : (ic l)[1]? = some [I y] := by rw [hxyz]; rfl
      have i2 : (ic l)[2]? = some [I z] := by rw [hxyz]; rfl
      have n0 : (0 : Int) < ((l.length : Nat) : Int) := by omega
      have n1 : (1 : Int) < ((l.length : Nat) : Int) := by omega
      have n2 : (2 : Int) < ((l.length : Nat) : Int) := by omega
      simp only [walkS, wl, rgets, retv, argsEnv, ev, cst, cst1, cstL, AEnv.get, AEnv.trim, envput, qstep, abin, aun, evs, evo, deref, qload, target, if_true, if_false, Nat.reduceEqDiff, reduceIte, Nat.reduceAdd, AV.cells, AV.isTuple, setMany, alen, aiaddr, afill, Nat.reduceLeDiff, Nat.reduceMul, Nat.reduceLT, afillE, List.replicate, oG1, ic_length, z0, z1, z2, c0, c1, c2, n0, n1, n2, i0, i1, i2]
      refine acc_append (lo := 2) (by simp) (hacc.push _) rfl rfl (obj_app_add (k := 1)) (by rw [rows_length]; omega) fun a' H4 x1 x2 x3 => ?_
      simp only [List.length_append, List.length_cons, List.length_nil] at x1
      have hy : layO ws[k] = some (x, y, z) := by rw [hlay, g1, if_pos rfl, hxyz]; rfl
      have x4 : Acc 2 H4 a' 47 3 (rows (ls ++ [(x, y, z)])) := by rw [rows_snoc]; exact x2
      have q0 : AHeap.obj H4 0 = some ⟨26, 1, [[.nilSlice]]⟩ := by rw [x3 0 (by omega), AHeap.obj_push_lt (by omega)]; exact hO
      have q1 : AHeap.obj H4 1 = some ⟨26, 1, [[a]]⟩ := by rw [x3 1 (by omega), AHeap.obj_push_lt (by omega)]; exact hO1
      simp only [walkS, wl, rgets, retv, argsEnv, ev, cst, cst1, cstL, AEnv.get, AEnv.trim, envput, qstep, abin, aun, evs, evo, deref, qload, target, if_true, if_false, Nat.reduceEqDiff, reduceIte, Nat.reduceAdd, AV.cells, AV.isTuple, setMany, alen, aiaddr, afill, Nat.reduceLeDiff, Nat.reduceMul, Nat.reduceLT, afillE, List.replicate]
      refine storeR rfl rfl q1 rfl ⟨rfl, ?_, ?_, ?_⟩ fun H9 v1 v2 v3 => ?_
      · exact congrArg List.length x4.one.1
      · exact x4.one.2
      · simp
      rw [x4.one.1] at v2
      simp only [setMany, List.set_cons_zero, List.set_cons_succ] at v2
      simp only [walkS, wl, rgets, retv, argsEnv, ev, cst, cst1, cstL, AEnv.get, AEnv.trim, envput, qstep, abin, aun, evs, evo, deref, qload, target, if_true, if_false, Nat.reduceEqDiff, reduceIte, Nat.reduceAdd, AV.cells, AV.isTuple, setMany, alen, aiaddr, afill, Nat.reduceLeDiff, Nat.reduceMul, Nat.reduceLT, afillE, List.replicate, w1]
      refine loop_end (k + 1, a', ls ++ [(x, y, z)]) ⟨hlt, by rw [mapO_take hlt, hm, hy], by simp; omega, fun _ => g0⟩ (by simp only; omega) rfl ⟨by omega, ?_, v2, ?_⟩
      · rw [v3 0 (by omega)]; exact q0
      · exact x4.keep fun i h1 h2 => v3 i (by omega)
  · have hk' : k = ws.length := by simp at hb; omega
    subst hk'
    rw [List.take_length] at hm
    rw [hm]
    by_cases hw0 : w0 = pk
    · simp only [hw0, decide_true, if_true]
      simp only [walkS, wl, rgets, retv, argsEnv, ev, cst, cst1, cstL, AEnv.get, AEnv.trim, envput, qstep, abin, aun, evs, evo, deref, qload, target, if_true, if_false, Nat.reduceEqDiff, reduceIte, Nat.reduceAdd, AV.cells, AV.isTuple, setMany, alen, aiaddr, afill, Nat.reduceLeDiff, Nat.reduceMul, Nat.reduceLT, afillE, List.replicate, hO1]
      refine call_pure (Check_ok ls) (.cons (frz_agg1 (hacc.carF (d := 0) (rows_simple _)) rfl) .nil) ?_
      by_cases hk : okP ls = true
      · have e2 : chk ls = 0 := by unfold chk; rw [if_pos hk]
        rw [e2, if_pos hk]
        simp only [walkS, wl, rgets, retv, argsEnv, ev, cst, cst1, cstL, AEnv.get, AEnv.trim, envput, qstep, abin, aun, evs, evo, deref, qload, target, if_true, if_false, Nat.reduceEqDiff, reduceIte, Nat.reduceAdd, AV.cells, AV.isTuple, setMany, alen, aiaddr, afill, Nat.reduceLeDiff, Nat.reduceMul, Nat.reduceLT, afillE, List.replicate, bne_self_eq_false, hO1]
        refine storeR rfl rfl hO rfl ⟨rfl, ?_, ?_, ?_⟩ fun H9 v1 v2 v3 => ?_
        · rfl
        · rfl
        · simp
        simp only [AV.cells, setMany, List.set_cons_zero, List.set_cons_succ] at v2
        simp only [walkS, wl, rgets, retv, argsEnv, ev, cst, cst1, cstL, AEnv.get, AEnv.trim, envput, qstep, abin, aun, evs, evo, deref, qload, target, if_true, if_false, Nat.reduceEqDiff, reduceIte, Nat.reduceAdd, AV.cells, AV.isTuple, setMany, alen, aiaddr, afill, Nat.reduceLeDiff, Nat.reduceMul, Nat.reduceLT, afillE, List.replicate, v2]
        exact out_pkS (((hacc.keep fun i h1 h2 => v3 i (by omega)).weaken (by omega)))
      · have e2 : chk ls = 20 := by unfold chk; rw [if_neg hk]
        rw [e2, if_neg hk]
        simp only [walkS, wl, rgets, retv, argsEnv, ev, cst, cst1, cstL, AEnv.get, AEnv.trim, envput, qstep, abin, aun, evs, evo, deref, qload, target, if_true, if_false, Nat.reduceEqDiff, reduceIte, Nat.reduceAdd, AV.cells, AV.isTuple, setMany, alen, aiaddr, afill, Nat.reduceLeDiff, Nat.reduceMul, Nat.reduceLT, afillE, List.replicate, t20, hO1]
        refine storeR rfl rfl hO rfl ⟨rfl, rfl, rfl, by simp⟩ fun H9 v1 v2 v3 => ?_
        simp only [AV.cells, setMany, List.set_cons_zero, List.set_cons_succ] at v2
        simp only [walkS, wl, rgets, retv, argsEnv, ev, cst, cst1, cstL, AEnv.get, AEnv.trim, envput, qstep, abin, aun, evs, evo, deref, qload, target, if_true, if_false, Nat.reduceEqDiff, reduceIte, Nat.reduceAdd, AV.cells, AV.isTuple, setMany, alen, aiaddr, afill, Nat.reduceLeDiff, Nat.reduceMul, Nat.reduceLT, afillE, List.replicate, v2]
        exact out_pkN
    · simp only [hw0, decide_false, if_false]
      simp only [walkS, wl, rgets, retv, argsEnv, ev, cst, cst1, cstL, AEnv.get, AEnv.trim, envput, qstep, abin, aun, evs, evo, deref, qload, target, if_true, if_false, Nat.reduceEqDiff, reduceIte, Nat.reduceAdd, AV.cells, AV.isTuple, setMany, alen, aiaddr, afill, Nat.reduceLeDiff, Nat.reduceMul, Nat.reduceLT, afillE, List.replicate, hO1]
      refine storeR rfl rfl hO rfl ⟨rfl, rfl, rfl, by simp⟩ fun H9 v1 v2 v3 => ?_
      simp only [AV.cells, setMany, List.set_cons_zero, List.set_cons_succ] at v2
      simp only [walkS, wl, rgets, retv, argsEnv, ev, cst, cst1, cstL, AEnv.get, AEnv.trim, envput, qstep, abin, aun, evs, evo, deref, qload, target, if_true, if_false, Nat.reduceEqDiff, reduceIte, Nat.reduceAdd, AV.cells, AV.isTuple, setMany, alen, aiaddr, afill, Nat.reduceLeDiff, Nat.reduceMul, Nat.reduceLT, afillE, List.replicate, v2]
      exact out_pkN
end Go.Proofs.YtomejgikdelgkaaGreatDoor
