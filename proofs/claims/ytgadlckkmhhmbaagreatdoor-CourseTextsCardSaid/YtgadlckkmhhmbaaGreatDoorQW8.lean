/- Contracts: ParseSheet of the specification. -/
import Derived.Test.YtgadlckkmhhmbaaGreatDoorQW7
set_option linter.unusedVariables false
set_option linter.unusedSimpArgs false
set_option linter.unusedSectionVars false
namespace Go.Proofs.YtgadlckkmhhmbaaGreatDoor
open Go.Awp Go.Grams
set_option linter.unusedSimpArgs false
set_option linter.unusedVariables false
set_option linter.unusedSectionVars false
set_option maxRecDepth 10000
theorem rParseSheet_ok (s : ByteArray) (hs : s.size ≤ 100000) : PCall Tryz.prog 12 [.str s] (psAV (psS rintO s)) := by
  refine PCall.intro text12 (by simp) ?_
  unfold ir12
  simp only [walkS, wl, rgets, retv, argsEnv, ev, cst, cst1, cstL, AEnv.get, AEnv.trim, envput, qstep, abin, aun, evs, evo, deref, qload, target, if_true, if_false, Nat.reduceEqDiff, reduceIte, Nat.reduceAdd, AV.cells, AV.isTuple, setMany, alen, aiaddr, afill, Nat.reduceLeDiff, Nat.reduceMul, Nat.reduceLT, afillE, List.replicate]
  refine call_pure (rWords_ok s 32 (by omega)) (frzL_of' (d := 1) rfl) ?_
  have wlen := wordsB_len s 32
  have wz := fun x => wordsB_size (s := s) (c := 32) (x := x)
  unfold psS
  obtain ⟨ws, hws⟩ : ∃ ws, ws = wordsB s 32 := ⟨_, rfl⟩
  rw [← hws] at wlen wz ⊢
  simp only [walkS, wl, rgets, retv, argsEnv, ev, cst, cst1, cstL, AEnv.get, AEnv.trim, envput, qstep, abin, aun, evs, evo, deref, qload, target, if_true, if_false, Nat.reduceEqDiff, reduceIte, Nat.reduceAdd, AV.cells, AV.isTuple, setMany, alen, aiaddr, afill, Nat.reduceLeDiff, Nat.reduceMul, Nat.reduceLT, afillE, List.replicate, sc_length]
  by_cases h9 : ws.length < 9
  · have c : decide ((ws.length : Int) < 9) = true := by simp only [decide_eq_true_eq]; omega
    have e : psW rintO ws = none := by unfold psW; rw [if_pos (.inl h9)]
    rw [e]
    simp only [walk, wl, rgets, retv, argsEnv, ev, cst, cst1, cstL, AEnv.get, AEnv.trim, envput, qstep, abin, aun, evs, evo, deref, qload, target, if_true, if_false, Nat.reduceEqDiff, reduceIte, Nat.reduceAdd, AV.cells, AV.isTuple, setMany, alen, aiaddr, afill, Nat.reduceLeDiff, Nat.reduceMul, Nat.reduceLT, afillE, List.replicate, c]
    exact out_zS
  have c : decide ((ws.length : Int) < 9) = false := by simp only [decide_eq_false_iff_not]; omega
  obtain ⟨w0, wr, hw⟩ : ∃ w0 wr, ws = w0 :: wr := by
    cases ws with
    | nil => simp at h9
    | cons a t => exact ⟨a, t, rfl⟩
  have h0 : (Go.Awp.sc ws)[0]? = some [.str w0] := by rw [hw]; rfl
  have z0 : Int.toNat 0 = 0 := rfl
  have c0 : (0 : Int) ≤ 0 := by omega
  have z1 : Int.toNat 1 = 1 := rfl
  have c1 : (0 : Int) ≤ 1 := by omega
  have z2 : Int.toNat 2 = 2 := rfl
  have c2 : (0 : Int) ≤ 2 := by omega
  have z3 : Int.toNat 3 = 3 := rfl
  have c3 : (0 : Int) ≤ 3 := by omega
  have z4 : Int.toNat 4 = 4 := rfl
  have c4 : (0 : Int) ≤ 4 := by omega
  have z5 : Int.toNat 5 = 5 := rfl
  have c5 : (0 : Int) ≤ 5 := by omega
  have z6 : Int.toNat 6 = 6 := rfl
  have c6 : (0 : Int) ≤ 6 := by omega
  have z7 : Int.toNat 7 = 7 := rfl
  have c7 : (0 : Int) ≤ 7 := by omega
  simp only [walkS, wl, rgets, retv, argsEnv, ev, cst, cst1, cstL, AEnv.get, AEnv.trim, envput, qstep, abin, aun, evs, evo, deref, qload, target, if_true, if_false, Nat.reduceEqDiff, reduceIte, Nat.reduceAdd, AV.cells, AV.isTuple, setMany, alen, aiaddr, afill, Nat.reduceLeDiff, Nat.reduceMul, Nat.reduceLT, afillE, List.replicate, c, h0, z0, c0]
  refine withBool_intro ?_ ?_ <;> intro h1
  · have hne : ¬ w0 = bSheet := fun e => by rw [e] at h1; exact absurd h1 (by decide)
    have e : psW rintO ws = none := by unfold psW; rw [if_pos (.inr (by rw [hw]; simpa using hne))]
    rw [e]
    simp only [walk, wl, rgets, retv, argsEnv, ev, cst, cst1, cstL, AEnv.get, AEnv.trim, envput, qstep, abin, aun, evs, evo, deref, qload, target, if_true, if_false, Nat.reduceEqDiff, reduceIte, Nat.reduceAdd, AV.cells, AV.isTuple, setMany, alen, aiaddr, afill, Nat.reduceLeDiff, Nat.reduceMul, Nat.reduceLT, afillE, List.replicate]
    exact out_zS
  have hw0 : w0 = bSheet := by
    by_cases e : w0 = bSheet
    · exact e
    · exfalso
      have h1' : (w0 != bSheet) = false := h1
      rw [bneB, decide_eq_false e] at h1'; cases h1'
  have hh : ws.head? = some bSheet := by rw [hw, hw0]; rfl
  simp only [walkS, wl, rgets, retv, argsEnv, ev, cst, cst1, cstL, AEnv.get, AEnv.trim, envput, qstep, abin, aun, evs, evo, deref, qload, target, if_true, if_false, Nat.reduceEqDiff, reduceIte, Nat.reduceAdd, AV.cells, AV.isTuple, setMany, alen, aiaddr, afill, Nat.reduceLeDiff, Nat.reduceMul, Nat.reduceLT, afillE, List.replicate, aslice_19 (show 9 ≤ ws.length by omega)]
  refine call_pure (rIntegers_ok ((ws.take 9).drop 1) 8 (by simp; omega) (by omega) (fun x hx => by have := wz x (List.mem_of_mem_take (List.mem_of_mem_drop hx)); omega)) (frzL_of' (d := 3) (carL_cons (car_ro (sc_simple _) (.inl rfl)) rfl)) ?_
  have e0 : psW rintO ws = psN (mapO (stk rintO) (ws.drop 9)) (nums rintO ((ws.take 9).drop 1) 8) := by unfold psW; rw [if_neg (by rw [hh]; simp; omega)]
  rw [e0]
  cases hn : nums rintO ((ws.take 9).drop 1) 8 with
  | none =>
    unfold numsAV
    simp only [walk, wl, rgets, retv, argsEnv, ev, cst, cst1, cstL, AEnv.get, AEnv.trim, envput, qstep, abin, aun, evs, evo, deref, qload, target, if_true, if_false, Nat.reduceEqDiff, reduceIte, Nat.reduceAdd, AV.cells, AV.isTuple, setMany, alen, aiaddr, afill, Nat.reduceLeDiff, Nat.reduceMul, Nat.reduceLT, afillE, List.replicate]
    exact out_zS
  | some l =>
    obtain ⟨n0, n1, n2, n3, n4, n5, n6, n7, rfl⟩ := nums_eight hn
    rw [show ∀ o, psN o (some [n0, n1, n2, n3, n4, n5, n6, n7]) = psFin n0 n1 n2 n3 n4 n5 n6 n7 o from fun _ => rfl]
    unfold numsAV
    have i0 : (ic [n0, n1, n2, n3, n4, n5, n6, n7])[0]? = some [I n0] := rfl
    have i1 : (ic [n0, n1, n2, n3, n4, n5, n6, n7])[1]? = some [I n1] := rfl
    have i2 : (ic [n0, n1, n2, n3, n4, n5, n6, n7])[2]? = some [I n2] := rfl
    have i3 : (ic [n0, n1, n2, n3, n4, n5, n6, n7])[3]? = some [I n3] := rfl
    have i4 : (ic [n0, n1, n2, n3, n4, n5, n6, n7])[4]? = some [I n4] := rfl
    have i5 : (ic [n0, n1, n2, n3, n4, n5, n6, n7])[5]? = some [I n5] := rfl
    have i6 : (ic [n0, n1, n2, n3, n4, n5, n6, n7])[6]? = some [I n6] := rfl
    have i7 : (ic [n0, n1, n2, n3, n4, n5, n6, n7])[7]? = some [I n7] := rfl
    simp only [walkS, wl, rgets, retv, argsEnv, ev, cst, cst1, cstL, AEnv.get, AEnv.trim, envput, qstep, abin, aun, evs, evo, deref, qload, target, if_true, if_false, Nat.reduceEqDiff, reduceIte, Nat.reduceAdd, AV.cells, AV.isTuple, setMany, alen, aiaddr, afill, Nat.reduceLeDiff, Nat.reduceMul, Nat.reduceLT, afillE, List.replicate, z0, c0, z1, c1, z2, c2, z3, c3, z4, c4, z5, c5, z6, c6, z7, c7, i0, i1, i2, i3, i4, i5, i6, i7]
    refine storeR rfl rfl rfl rfl ⟨rfl, rfl, rfl, by simp⟩ fun H1 y1 y2 y3 => ?_
    simp only [AV.cells, setMany, List.set_cons_zero, List.set_cons_succ] at y2
    have o0 : AHeap.obj H1 0 = some ⟨26, 9, [[I 0, I 0, I 0, I 0, I 0, I 0, I 0, I 0, .nilSlice]]⟩ := by rw [y3 0 (by omega)]; rfl
    have hH1 : 2 ≤ H1.length := by rw [y1]; simp
    have wd : (ws.drop 9).length ≤ 100001 := by rw [List.length_drop]; omega
    obtain ⟨rs, hrs⟩ : ∃ rs, rs = ws.drop 9 := ⟨_, rfl⟩
    have rz : ∀ x, x ∈ rs → x.size ≤ 100000 := fun x hx => by have := wz x (List.mem_of_mem_drop (hrs ▸ hx)); omega
    rw [← hrs] at wd ⊢
    have rl : ws.length = 9 + rs.length := by rw [hrs, List.length_drop]; omega
    have rg : ∀ k (h : k < rs.length), (Go.Awp.sc ws)[9 + k]? = some [.str rs[k]] := fun k h => by
      rw [sc_get (by omega)]
      congr 3
      simp only [hrs, List.getElem_drop]
    simp only [walkS, wl, rgets, retv, argsEnv, ev, cst, cst1, cstL, AEnv.get, AEnv.trim, envput, qstep, abin, aun, evs, evo, deref, qload, target, if_true, if_false, Nat.reduceEqDiff, reduceIte, Nat.reduceAdd, AV.cells, AV.isTuple, setMany, alen, aiaddr, afill, Nat.reduceLeDiff, Nat.reduceMul, Nat.reduceLT, afillE, List.replicate, sc_length]
    refine awp_loop (σ := Nat × AV × List Stk) (fun t => [(2, .ptr 0 1 0 0), (4, .ro true (Go.Awp.sc ws)), (7, .ptr 1 1 0 0), (8, I ((9 + t.1 : Nat) : Int))]) (fun t G => 2 ≤ G.length ∧ AHeap.obj G 0 = some ⟨26, 9, [[I 0, I 0, I 0, I 0, I 0, I 0, I 0, I 0, .nilSlice]]⟩ ∧ AHeap.obj G 1 = some ⟨26, 9, [[I n0, I n1, I n2, I n3, I n4, I n5, I n6, I n7, t.2.1]]⟩ ∧ Acc 2 G t.2.1 71 5 (krows t.2.2)) (fun t => t.1 ≤ rs.length ∧ mapO (stk rintO) (rs.take t.1) = some t.2.2) (fun t => rs.length - t.1) (0, .nilSlice, []) ⟨Nat.zero_le _, rfl⟩ rfl ⟨hH1, o0, y2, .inl ⟨rfl, rfl⟩⟩ ?_
    rintro ⟨k, a, st⟩ G ⟨hk, hml⟩ ⟨hG, p0, p1, hacc⟩
    simp only at hk hml p1 hacc
    simp only [walkS, wl, rgets, retv, argsEnv, ev, cst, cst1, cstL, AEnv.get, AEnv.trim, envput, qstep, abin, aun, evs, evo, deref, qload, target, if_true, if_false, Nat.reduceEqDiff, reduceIte, Nat.reduceAdd, AV.cells, AV.isTuple, setMany, alen, aiaddr, afill, Nat.reduceLeDiff, Nat.reduceMul, Nat.reduceLT, afillE, List.replicate, sc_length]
    refine withBool_intro ?_ ?_ <;> intro hb <;> simp only [walkS, wl, rgets, retv, argsEnv, ev, cst, cst1, cstL, AEnv.get, AEnv.trim, envput, qstep, abin, aun, evs, evo, deref, qload, target, if_true, if_false, Nat.reduceEqDiff, reduceIte, Nat.reduceAdd, AV.cells, AV.isTuple, setMany, alen, aiaddr, afill, Nat.reduceLeDiff, Nat.reduceMul, Nat.reduceLT, afillE, List.replicate]
    · have hlt : k < rs.length := by have := of_decide_eq_true hb; omega
      have w1 := w_succ (k := 9 + k) (by omega)
      rw [show 9 + k + 1 = 9 + (k + 1) by omega] at w1
      have hx := rz _ (List.getElem_mem hlt)
      simp only [walkS, wl, rgets, retv, argsEnv, ev, cst, cst1, cstL, AEnv.get, AEnv.trim, envput, qstep, abin, aun, evs, evo, deref, qload, target, if_true, if_false, Nat.reduceEqDiff, reduceIte, Nat.reduceAdd, AV.cells, AV.isTuple, setMany, alen, aiaddr, afill, Nat.reduceLeDiff, Nat.reduceMul, Nat.reduceLT, afillE, List.replicate, rg k hlt]
      refine call_pure (rWords_ok rs[k] 47 (by omega)) (frzL_of' (d := 1) rfl) ?_
      have wl2 := wordsB_len rs[k] 47
      simp only [walkS, wl, rgets, retv, argsEnv, ev, cst, cst1, cstL, AEnv.get, AEnv.trim, envput, qstep, abin, aun, evs, evo, deref, qload, target, if_true, if_false, Nat.reduceEqDiff, reduceIte, Nat.reduceAdd, AV.cells, AV.isTuple, setMany, alen, aiaddr, afill, Nat.reduceLeDiff, Nat.reduceMul, Nat.reduceLT, afillE, List.replicate]
      refine call_pure (rIntegers_ok (wordsB rs[k] 47) 5 (by omega) (by omega) (fun x hx2 => by have := wordsB_size hx2; omega)) (frzL_of' (d := 3) (carL_cons (car_ro (sc_simple _) (.inl rfl)) rfl)) ?_
      cases hn2 : nums rintO (wordsB rs[k] 47) 5 with
      | none =>
        have bad : mapO (stk rintO) rs = none := mapO_bad (List.getElem_mem hlt) (by unfold stk; rw [hn2])
        rw [bad]
        unfold numsAV
        simp only [walkS, wl, rgets, retv, argsEnv, ev, cst, cst1, cstL, AEnv.get, AEnv.trim, envput, qstep, abin, aun, evs, evo, deref, qload, target, if_true, if_false, Nat.reduceEqDiff, reduceIte, Nat.reduceAdd, AV.cells, AV.isTuple, setMany, alen, aiaddr, afill, Nat.reduceLeDiff, Nat.reduceMul, Nat.reduceLT, afillE, List.replicate]
        refine storeR rfl rfl p0 rfl ⟨rfl, rfl, rfl, by simp⟩ fun H2 v1 v2 v3 => ?_
        simp only [AV.cells, setMany, List.set_cons_zero, List.set_cons_succ] at v2
        simp only [walkS, wl, rgets, retv, argsEnv, ev, cst, cst1, cstL, AEnv.get, AEnv.trim, envput, qstep, abin, aun, evs, evo, deref, qload, target, if_true, if_false, Nat.reduceEqDiff, reduceIte, Nat.reduceAdd, AV.cells, AV.isTuple, setMany, alen, aiaddr, afill, Nat.reduceLeDiff, Nat.reduceMul, Nat.reduceLT, afillE, List.replicate, v2]
        exact out_zS
      | some l =>
        obtain ⟨b0, b1, b2, b3, b4, rfl⟩ := nums_five hn2
        have hst : stk rintO rs[k] = some (b0, b1, b2, b3, b4) := by unfold stk; rw [hn2]
        have j0 : (ic [b0, b1, b2, b3, b4])[0]? = some [I b0] := rfl
        have j1 : (ic [b0, b1, b2, b3, b4])[1]? = some [I b1] := rfl
        have j2 : (ic [b0, b1, b2, b3, b4])[2]? = some [I b2] := rfl
        have j3 : (ic [b0, b1, b2, b3, b4])[3]? = some [I b3] := rfl
        have j4 : (ic [b0, b1, b2, b3, b4])[4]? = some [I b4] := rfl
        unfold numsAV
        simp only [walkS, wl, rgets, retv, argsEnv, ev, cst, cst1, cstL, AEnv.get, AEnv.trim, envput, qstep, abin, aun, evs, evo, deref, qload, target, if_true, if_false, Nat.reduceEqDiff, reduceIte, Nat.reduceAdd, AV.cells, AV.isTuple, setMany, alen, aiaddr, afill, Nat.reduceLeDiff, Nat.reduceMul, Nat.reduceLT, afillE, List.replicate, p1, z0, c0, z1, c1, z2, c2, z3, c3, z4, c4, j0, j1, j2, j3, j4]
        have hsl := mapO_len hml
        rw [List.length_take] at hsl
        refine acc_append (lo := 2) (by simp; omega) (hacc.push _) rfl rfl AHeap.obj_push_eq (by rw [krows_length]; omega) fun a' H4 x1 x2 x3 => ?_
        simp only [List.length_append, List.length_cons, List.length_nil] at x1
        have p0 := (x3 0 (by omega)).trans (obj_keep p0)
        have p1 := (x3 1 (by omega)).trans (obj_keep p1)
        have ha1 := x2.one
        simp only [walkS, wl, rgets, retv, argsEnv, ev, cst, cst1, cstL, AEnv.get, AEnv.trim, envput, qstep, abin, aun, evs, evo, deref, qload, target, if_true, if_false, Nat.reduceEqDiff, reduceIte, Nat.reduceAdd, AV.cells, AV.isTuple, setMany, alen, aiaddr, afill, Nat.reduceLeDiff, Nat.reduceMul, Nat.reduceLT, afillE, List.replicate]
        refine storeR rfl rfl p1 rfl ⟨rfl, by rw [ha1.1]; rfl, ha1.2, by simp⟩ fun H5 v1 v2 v3 => ?_
        simp only [ha1.1, setMany, List.set_cons_zero, List.set_cons_succ] at v2
        simp only [walkS, wl, rgets, retv, argsEnv, ev, cst, cst1, cstL, AEnv.get, AEnv.trim, envput, qstep, abin, aun, evs, evo, deref, qload, target, if_true, if_false, Nat.reduceEqDiff, reduceIte, Nat.reduceAdd, AV.cells, AV.isTuple, setMany, alen, aiaddr, afill, Nat.reduceLeDiff, Nat.reduceMul, Nat.reduceLT, afillE, List.replicate, w1]
        refine loop_end (k + 1, a', st ++ [(b0, b1, b2, b3, b4)]) ⟨hlt, ?_⟩ (by simp only; omega) rfl ⟨by omega, (v3 0 (by omega)).trans p0, v2, ?_⟩
        · simp only
          rw [List.take_succ_eq_append_getElem hlt, mapO_app, hml, hst]
        · simp only
          have e : krows (st ++ [(b0, b1, b2, b3, b4)]) = krows st ++ [[I b0, I b1, I b2, I b3, I b4]] := by simp [krows, kd]
          rw [e]
          exact x2.keep fun i h1 h2 => v3 i (by omega)
    · have hk' : k = rs.length := by have := of_decide_eq_false hb; omega
      subst hk'
      rw [List.take_length] at hml
      rw [hml, psFin_some]
      obtain ⟨x, hx⟩ : ∃ x : Sht, x = ⟨n0, n1, n2, n3, n4, n5, n6, n7, st⟩ := ⟨_, rfl⟩
      have hacc' : Acc 2 G a 71 5 (krows x.st) := by rw [hx]; exact hacc
      rw [← hx]
      simp only [walkS, wl, rgets, retv, argsEnv, ev, cst, cst1, cstL, AEnv.get, AEnv.trim, envput, qstep, abin, aun, evs, evo, deref, qload, target, if_true, if_false, Nat.reduceEqDiff, reduceIte, Nat.reduceAdd, AV.cells, AV.isTuple, setMany, alen, aiaddr, afill, Nat.reduceLeDiff, Nat.reduceMul, Nat.reduceLT, afillE, List.replicate, p1]
      refine call_pure (rCheckSheet_ok x) (.cons (by have := frz_sheet hacc'; rw [hx] at this ⊢; exact this) .nil) ?_
      by_cases hok : okSh x = true
      · rw [chkSh_t hok, if_pos hok]
        simp only [walkS, wl, rgets, retv, argsEnv, ev, cst, cst1, cstL, AEnv.get, AEnv.trim, envput, qstep, abin, aun, evs, evo, deref, qload, target, if_true, if_false, Nat.reduceEqDiff, reduceIte, Nat.reduceAdd, AV.cells, AV.isTuple, setMany, alen, aiaddr, afill, Nat.reduceLeDiff, Nat.reduceMul, Nat.reduceLT, afillE, List.replicate, bne_self_eq_false, p1]
        refine storeR rfl rfl p0 rfl ⟨rfl, rfl, rfl, by simp⟩ fun H2 v1 v2 v3 => ?_
        simp only [AV.cells, setMany, List.set_cons_zero, List.set_cons_succ] at v2
        simp only [walkS, wl, rgets, retv, argsEnv, ev, cst, cst1, cstL, AEnv.get, AEnv.trim, envput, qstep, abin, aun, evs, evo, deref, qload, target, if_true, if_false, Nat.reduceEqDiff, reduceIte, Nat.reduceAdd, AV.cells, AV.isTuple, setMany, alen, aiaddr, afill, Nat.reduceLeDiff, Nat.reduceMul, Nat.reduceLT, afillE, List.replicate, v2]
        have hacc2 : Acc 2 H2 a 71 5 (krows x.st) := hacc'.keep fun i h1 h2 => v3 i (by omega)
        refine out_two ?_ out_int
        have := out_sheet hacc2
        rw [hx] at this ⊢
        exact this
      · rw [chkSh_f hok, if_neg hok]
        have t12 : ((12 : Int) != 0) = true := rfl
        simp only [walkS, wl, rgets, retv, argsEnv, ev, cst, cst1, cstL, AEnv.get, AEnv.trim, envput, qstep, abin, aun, evs, evo, deref, qload, target, if_true, if_false, Nat.reduceEqDiff, reduceIte, Nat.reduceAdd, AV.cells, AV.isTuple, setMany, alen, aiaddr, afill, Nat.reduceLeDiff, Nat.reduceMul, Nat.reduceLT, afillE, List.replicate, t12]
        refine storeR rfl rfl p0 rfl ⟨rfl, rfl, rfl, by simp⟩ fun H2 v1 v2 v3 => ?_
        simp only [AV.cells, setMany, List.set_cons_zero, List.set_cons_succ] at v2
        simp only [walkS, wl, rgets, retv, argsEnv, ev, cst, cst1, cstL, AEnv.get, AEnv.trim, envput, qstep, abin, aun, evs, evo, deref, qload, target, if_true, if_false, Nat.reduceEqDiff, reduceIte, Nat.reduceAdd, AV.cells, AV.isTuple, setMany, alen, aiaddr, afill, Nat.reduceLeDiff, Nat.reduceMul, Nat.reduceLT, afillE, List.replicate, v2]
        exact out_zS
end Go.Proofs.YtgadlckkmhhmbaaGreatDoor
