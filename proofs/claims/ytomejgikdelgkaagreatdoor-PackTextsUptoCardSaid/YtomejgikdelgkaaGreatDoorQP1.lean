/- Contracts: numbers of words, words of steps, of the program and of the specification. -/
import Derived.Test.YtomejgikdelgkaaGreatDoorQP0
import Derived.Test.YtomejgikdelgkaaGreatDoorQC16
import Derived.Test.YtomejgikdelgkaaGreatDoorQTW
set_option linter.unusedVariables false
set_option linter.unusedSimpArgs false
set_option linter.unusedSectionVars false
namespace Go.Proofs.YtomejgikdelgkaaGreatDoor
open Go.Awp Go.Snow
set_option linter.unusedSimpArgs false
set_option linter.unusedVariables false
set_option linter.unusedSectionVars false
set_option maxRecDepth 10000
theorem out_boolE {H : AHeap} {a b : Bool} (h : a = b) : Out H (.bool a) (.bool b) := by rw [h]; exact out_bool
theorem w_succ {k : Nat} (h : k < 9223372036854775807) : IntKind.i64.wrap ((k : Int) + 1) = ((k + 1 : Nat) : Int) := by rw [wrap_id (by omega) (by omega)]; simp
theorem number_ok (s : ByteArray) (hs : s.size ≤ 1048576) : PCall Tryz.prog 51 [.str s] (.tuple [I (intV s).1, .bool (intV s).2]) := by
  refine PCall.intro text51 (by simp) ?_
  unfold ir51
  obtain ⟨h1, h2, h3⟩ := atoi_cases s
  simp only [walk, wl, rgets, retv, argsEnv, ev, cst, cst1, cstL, AEnv.get, AEnv.trim, envput, qstep, abin, aun, evs, evo, deref, qload, target, if_true, if_false, Nat.reduceEqDiff, reduceIte, Nat.reduceAdd, AV.cells, AV.isTuple, setMany, alen, aiaddr, afill, Nat.reduceLeDiff, Nat.reduceMul, Nat.reduceLT, afillE, List.replicate]
  refine call_pure (Atoi_ok s hs) (frzL_of' (d := 1) rfl) ?_
  rcases h1 with h1 | h1
  · rw [h1]
    simp only [walk, wl, rgets, retv, argsEnv, ev, cst, cst1, cstL, AEnv.get, AEnv.trim, envput, qstep, abin, aun, evs, evo, deref, qload, target, if_true, if_false, Nat.reduceEqDiff, reduceIte, Nat.reduceAdd, AV.cells, AV.isTuple, setMany, alen, aiaddr, afill, Nat.reduceLeDiff, Nat.reduceMul, Nat.reduceLT, afillE, List.replicate]
    refine call_pure (Itoa_ok _ h2 h3) (frzL_of' (d := 1) rfl) ?_
    simp only [walk, wl, rgets, retv, argsEnv, ev, cst, cst1, cstL, AEnv.get, AEnv.trim, envput, qstep, abin, aun, evs, evo, deref, qload, target, if_true, if_false, Nat.reduceEqDiff, reduceIte, Nat.reduceAdd, AV.cells, AV.isTuple, setMany, alen, aiaddr, afill, Nat.reduceLeDiff, Nat.reduceMul, Nat.reduceLT, afillE, List.replicate]
    exact out_two out_int (out_boolE (by unfold intV; rw [h1]; simp [nilI]))
  · rw [h1]
    simp only [walk, wl, rgets, retv, argsEnv, ev, cst, cst1, cstL, AEnv.get, AEnv.trim, envput, qstep, abin, aun, evs, evo, deref, qload, target, if_true, if_false, Nat.reduceEqDiff, reduceIte, Nat.reduceAdd, AV.cells, AV.isTuple, setMany, alen, aiaddr, afill, Nat.reduceLeDiff, Nat.reduceMul, Nat.reduceLT, afillE, List.replicate]
    exact out_two out_int (out_boolE (by unfold intV; rw [h1]; simp [nilI]))
def nmV (ws : List ByteArray) : List Int := ws.map fun w => (intV w).1
def nmB (ws : List ByteArray) : Bool := ws.all fun w => (intV w).2
theorem nmV_length (ws : List ByteArray) : (nmV ws).length = ws.length := List.length_map ..
theorem numbers_ok (ws : List ByteArray) (hl : ws.length ≤ 2097152) (hs : ∀ s, s ∈ ws → s.size ≤ 1048576) : PCall Tryz.prog 29 [.ro false (Go.Awp.sc ws)] (.tuple [.ro true (ic (nmV ws)), .bool (nmB ws)]) := by
  refine PCall.intro text29 (by simp) ?_
  unfold ir29
  simp only [walk, wl, rgets, retv, argsEnv, ev, cst, cst1, cstL, AEnv.get, AEnv.trim, envput, qstep, abin, aun, evs, evo, deref, qload, target, if_true, if_false, Nat.reduceEqDiff, reduceIte, Nat.reduceAdd, AV.cells, AV.isTuple, setMany, alen, aiaddr, afill, Nat.reduceLeDiff, Nat.reduceMul, Nat.reduceLT, afillE, List.replicate, sc_length]
  refine awp_loop (σ := Nat × AV) (fun s => [(2, s.2), (3, .bool (nmB (ws.take s.1))), (8, .ro false (Go.Awp.sc ws)), (9, I ws.length), (10, I s.1)]) (fun s H => Acc 0 H s.2 3 1 (ic (nmV (ws.take s.1)))) (fun s => s.1 ≤ ws.length) (fun s => ws.length - s.1) (0, .nilSlice) (Nat.zero_le _) rfl (.inl ⟨rfl, rfl⟩) ?_
  rintro ⟨k, a⟩ H hk hacc
  simp only at hk hacc
  simp only [walkS, wl, rgets, retv, argsEnv, ev, cst, cst1, cstL, AEnv.get, AEnv.trim, envput, qstep, abin, aun, evs, evo, deref, qload, target, if_true, if_false, Nat.reduceEqDiff, reduceIte, Nat.reduceAdd, AV.cells, AV.isTuple, setMany, alen, aiaddr, afill, Nat.reduceLeDiff, Nat.reduceMul, Nat.reduceLT, afillE, List.replicate]
  refine withBool_intro ?_ ?_ <;> intro hb <;> simp only [walkS, wl, rgets, retv, argsEnv, ev, cst, cst1, cstL, AEnv.get, AEnv.trim, envput, qstep, abin, aun, evs, evo, deref, qload, target, if_true, if_false, Nat.reduceEqDiff, reduceIte, Nat.reduceAdd, AV.cells, AV.isTuple, setMany, alen, aiaddr, afill, Nat.reduceLeDiff, Nat.reduceMul, Nat.reduceLT, afillE, List.replicate]
  · have hlt : k < ws.length := by simpa using hb
    have w1 := w_succ (k := k) (by omega)
    simp only [walkS, wl, rgets, retv, argsEnv, ev, cst, cst1, cstL, AEnv.get, AEnv.trim, envput, qstep, abin, aun, evs, evo, deref, qload, target, if_true, if_false, Nat.reduceEqDiff, reduceIte, Nat.reduceAdd, AV.cells, AV.isTuple, setMany, alen, aiaddr, afill, Nat.reduceLeDiff, Nat.reduceMul, Nat.reduceLT, afillE, List.replicate, sc_get hlt]
    refine call_pure (number_ok ws[k] (hs _ (List.getElem_mem hlt))) (frzL_of' (d := 1) rfl) ?_
    simp only [walkS, wl, rgets, retv, argsEnv, ev, cst, cst1, cstL, AEnv.get, AEnv.trim, envput, qstep, abin, aun, evs, evo, deref, qload, target, if_true, if_false, Nat.reduceEqDiff, reduceIte, Nat.reduceAdd, AV.cells, AV.isTuple, setMany, alen, aiaddr, afill, Nat.reduceLeDiff, Nat.reduceMul, Nat.reduceLT, afillE, List.replicate]
    refine acc_append (lo := 0) (Nat.zero_le _) (hacc.push _) rfl rfl AHeap.obj_push_eq (by rw [ic_length, nmV_length, List.length_take]; omega) fun a' H4 x1 x2 x3 => ?_
    have eV : nmV (ws.take (k + 1)) = nmV (ws.take k) ++ [(intV ws[k]).1] := by
      unfold nmV; rw [List.take_succ_eq_append_getElem hlt, List.map_append]; rfl
    have eB : nmB (ws.take (k + 1)) = (nmB (ws.take k) && (intV ws[k]).2) := by
      unfold nmB; rw [List.take_succ_eq_append_getElem hlt, List.all_append]; simp
    rw [← ic_snoc, ← eV] at x2
    simp only [walkS, wl, rgets, retv, argsEnv, ev, cst, cst1, cstL, AEnv.get, AEnv.trim, envput, qstep, abin, aun, evs, evo, deref, qload, target, if_true, if_false, Nat.reduceEqDiff, reduceIte, Nat.reduceAdd, AV.cells, AV.isTuple, setMany, alen, aiaddr, afill, Nat.reduceLeDiff, Nat.reduceMul, Nat.reduceLT, afillE, List.replicate]
    cases h1 : nmB (ws.take k) <;> rw [h1] at eB <;> simp only [Bool.false_and, Bool.true_and] at eB <;> simp only [walkS, wl, rgets, retv, argsEnv, ev, cst, cst1, cstL, AEnv.get, AEnv.trim, envput, qstep, abin, aun, evs, evo, deref, qload, target, if_true, if_false, Nat.reduceEqDiff, reduceIte, Nat.reduceAdd, AV.cells, AV.isTuple, setMany, alen, aiaddr, afill, Nat.reduceLeDiff, Nat.reduceMul, Nat.reduceLT, afillE, List.replicate, w1]
    · exact loop_end (k + 1, a') hlt (by simp only; omega) (by simp only [eB]) x2
    · exact loop_end (k + 1, a') hlt (by simp only; omega) (by simp only [eB]) x2
  · have hk' : k = ws.length := by simp at hb; omega
    subst hk'
    rw [List.take_length] at hacc ⊢
    exact out_two (hacc.out (ic_simple _)) out_bool
/-- Where a word stands first; -1: nowhere. -/
def ixS (w : ByteArray) : List ByteArray → Int
  | [] => -1
  | x :: r => if w = x then 0 else if ixS w r < 0 then -1 else ixS w r + 1
theorem ixS_miss {w : ByteArray} : ∀ {l : List ByteArray}, w ∉ l → ixS w l = -1
  | [], _ => rfl
  | x :: r, h => by
    unfold ixS
    rw [if_neg (fun e => h (by rw [e]; exact List.mem_cons_self ..)), if_pos (by rw [ixS_miss fun hm => h (List.mem_cons_of_mem _ hm)]; decide)]
theorem ixS_hit {w : ByteArray} : ∀ {l : List ByteArray} {k : Nat} (hk : k < l.length), l[k] = w → w ∉ l.take k → ixS w l = k
  | x :: r, 0, _, h, _ => by
    unfold ixS
    rw [if_pos (by simpa using h.symm)]; rfl
  | x :: r, k + 1, hk, h, hn => by
    simp only [List.take_succ_cons, List.mem_cons, not_or] at hn
    have ih := ixS_hit (l := r) (k := k) (by simpa using hk) (by simpa using h) hn.2
    unfold ixS
    rw [if_neg hn.1, ih, if_neg (by omega)]; omega
theorem Index_ok (ws : List ByteArray) (w : ByteArray) (hl : ws.length ≤ 1000000) : PCall Tryz.prog 30 [.ro false (Go.Awp.sc ws), .str w] (I (ixS w ws)) := by
  refine PCall.intro text30 (by simp) ?_
  unfold ir30
  simp only [walk, wl, rgets, retv, argsEnv, ev, cst, cst1, cstL, AEnv.get, AEnv.trim, envput, qstep, abin, aun, evs, evo, deref, qload, target, if_true, if_false, Nat.reduceEqDiff, reduceIte, Nat.reduceAdd, AV.cells, AV.isTuple, setMany, alen, aiaddr, afill, Nat.reduceLeDiff, Nat.reduceMul, Nat.reduceLT, afillE, List.replicate, sc_length]
  refine awp_loop (σ := Nat) (fun k => [(0, .ro false (Go.Awp.sc ws)), (1, .str w), (7, I ws.length), (8, I k)]) (fun _ _ => True) (fun k => k ≤ ws.length ∧ w ∉ ws.take k) (fun k => ws.length - k) 0 ⟨Nat.zero_le _, by simp⟩ rfl trivial ?_
  rintro k H ⟨hk, hn⟩ -
  simp only [walk, wl, rgets, retv, argsEnv, ev, cst, cst1, cstL, AEnv.get, AEnv.trim, envput, qstep, abin, aun, evs, evo, deref, qload, target, if_true, if_false, Nat.reduceEqDiff, reduceIte, Nat.reduceAdd, AV.cells, AV.isTuple, setMany, alen, aiaddr, afill, Nat.reduceLeDiff, Nat.reduceMul, Nat.reduceLT, afillE, List.replicate]
  refine withBool_intro ?_ ?_ <;> intro hb <;> simp only [walk, wl, rgets, retv, argsEnv, ev, cst, cst1, cstL, AEnv.get, AEnv.trim, envput, qstep, abin, aun, evs, evo, deref, qload, target, if_true, if_false, Nat.reduceEqDiff, reduceIte, Nat.reduceAdd, AV.cells, AV.isTuple, setMany, alen, aiaddr, afill, Nat.reduceLeDiff, Nat.reduceMul, Nat.reduceLT, afillE, List.replicate]
  · have hlt : k < ws.length := by simpa using hb
    have w1 := w_succ (k := k) (by omega)
    simp only [walk, wl, rgets, retv, argsEnv, ev, cst, cst1, cstL, AEnv.get, AEnv.trim, envput, qstep, abin, aun, evs, evo, deref, qload, target, if_true, if_false, Nat.reduceEqDiff, reduceIte, Nat.reduceAdd, AV.cells, AV.isTuple, setMany, alen, aiaddr, afill, Nat.reduceLeDiff, Nat.reduceMul, Nat.reduceLT, afillE, List.replicate, sc_get hlt]
    refine withBool_intro ?_ ?_ <;> intro h2 <;> simp only [walk, wl, rgets, retv, argsEnv, ev, cst, cst1, cstL, AEnv.get, AEnv.trim, envput, qstep, abin, aun, evs, evo, deref, qload, target, if_true, if_false, Nat.reduceEqDiff, reduceIte, Nat.reduceAdd, AV.cells, AV.isTuple, setMany, alen, aiaddr, afill, Nat.reduceLeDiff, Nat.reduceMul, Nat.reduceLT, afillE, List.replicate, w1]
    · rw [beqB, decide_eq_true_eq] at h2
      rw [ixS_hit hlt h2.symm hn]; exact out_int
    · rw [beqB, decide_eq_false_iff_not] at h2
      refine loop_end (k + 1) ⟨hlt, ?_⟩ (by omega) rfl trivial
      rw [List.take_succ_eq_append_getElem hlt, List.mem_append, List.mem_singleton]
      rintro (h3 | h3)
      · exact hn h3
      · exact h2 h3
  · have hk' : k = ws.length := by simp at hb; omega
    subst hk'
    rw [List.take_length] at hn
    rw [ixS_miss hn]; exact out_int
def kinds : List ByteArray := [ByteArray.mk (Array.mk [115, 110, 111, 119]), ByteArray.mk (Array.mk [114, 97, 105, 110]), ByteArray.mk (Array.mk [109, 101, 108, 116]), ByteArray.mk (Array.mk [102, 114, 111, 115, 116]), ByteArray.mk (Array.mk [108, 111, 115, 115]), ByteArray.mk (Array.mk [98, 108, 111, 119, 110])]
theorem words_ok : PCall Tryz.prog 23 [] (.ro true (Go.Awp.sc kinds)) := by
  refine PCall.intro text23 (by simp) ?_
  unfold ir23
  simp only [walk, wl, rgets, retv, argsEnv, ev, cst, cst1, cstL, AEnv.get, AEnv.trim, envput, qstep, abin, aun, evs, evo, deref, qload, target, if_true, if_false, Nat.reduceEqDiff, reduceIte, Nat.reduceAdd, AV.cells, AV.isTuple, setMany, alen, aiaddr, afill, Nat.reduceLeDiff, Nat.reduceMul, Nat.reduceLT, afillE, List.replicate]
  exact out_of (d := 2) rfl
theorem rwords_ok : PCall Tryz.prog 26 [] (.ro true (Go.Awp.sc kinds)) := by
  refine PCall.intro text26 (by simp) ?_
  unfold ir26
  simp only [walk, wl, rgets, retv, argsEnv, ev, cst, cst1, cstL, AEnv.get, AEnv.trim, envput, qstep, abin, aun, evs, evo, deref, qload, target, if_true, if_false, Nat.reduceEqDiff, reduceIte, Nat.reduceAdd, AV.cells, AV.isTuple, setMany, alen, aiaddr, afill, Nat.reduceLeDiff, Nat.reduceMul, Nat.reduceLT, afillE, List.replicate]
  exact out_of (d := 2) rfl
def ten : ByteArray := ByteArray.mk (Array.mk [48, 49, 50, 51, 52, 53, 54, 55, 56, 57])
theorem ten_at : ∀ d : Nat, d < 10 → ten.extract d (d + 1) = ofL [UInt8.ofNat (48 + d)] := by decide +kernel
theorem itoa_nat {u : Nat} : itoaB (u : Int) = ofL (Lib.decDigits u) := by
  have : Lib.itoa (u : Int) = Lib.decDigits u := by unfold Lib.itoa; rw [if_neg (by omega)]; rfl
  unfold itoaB; rw [this]; rfl
theorem ofL_app (a b : List UInt8) : ofL a ++ ofL b = ofL (a ++ b) := by
  rw [← ofL_data (ofL a ++ ofL b), data_app, data_ofL, data_ofL]
theorem dd_len : ∀ (n u : Nat), u < 10 ^ n → 1 ≤ n → (Lib.decDigits u).length ≤ n := fun n u h h1 => (dd_facts n u h h1).2.2.2.1
theorem rnumber_ok : ∀ (f u : Nat), u < 10 ^ (f + 1) → f ≤ 17 → PCall Tryz.prog 27 [I (u : Int)] (.str (itoaB (u : Int)))
  | f, u, hu, hf => by
    have hu18 : u < 10 ^ 18 := Nat.lt_of_lt_of_le hu (Nat.pow_le_pow_right (by omega) (by omega))
    refine PCall.intro text27 (by simp) ?_
    unfold ir27
    simp only [walk, wl, rgets, retv, argsEnv, ev, cst, cst1, cstL, AEnv.get, AEnv.trim, envput, qstep, abin, aun, evs, evo, deref, qload, target, if_true, if_false, Nat.reduceEqDiff, reduceIte, Nat.reduceAdd, AV.cells, AV.isTuple, setMany, alen, aiaddr, afill, Nat.reduceLeDiff, Nat.reduceMul, Nat.reduceLT, afillE, List.replicate]
    refine withBool_intro ?_ ?_ <;> intro hb <;> simp only [walk, wl, rgets, retv, argsEnv, ev, cst, cst1, cstL, AEnv.get, AEnv.trim, envput, qstep, abin, aun, evs, evo, deref, qload, target, if_true, if_false, Nat.reduceEqDiff, reduceIte, Nat.reduceAdd, AV.cells, AV.isTuple, setMany, alen, aiaddr, afill, Nat.reduceLeDiff, Nat.reduceMul, Nat.reduceLT, afillE, List.replicate]
    · have hb : u < 10 := by have := of_decide_eq_true hb; omega
      have w1 := w_succ (k := u) (by omega)
      have a1 := asl_both (s := ten) (a := u) (b := u + 1) (by omega) (by show u + 1 ≤ 10; omega)
      rw [ten_at u hb] at a1
      unfold ten at a1
      have e : itoaB (u : Int) = ofL [UInt8.ofNat (48 + u)] := by rw [itoa_nat, dd_small hb]
      rw [e]
      simp only [walk, wl, rgets, retv, argsEnv, ev, cst, cst1, cstL, AEnv.get, AEnv.trim, envput, qstep, abin, aun, evs, evo, deref, qload, target, if_true, if_false, Nat.reduceEqDiff, reduceIte, Nat.reduceAdd, AV.cells, AV.isTuple, setMany, alen, aiaddr, afill, Nat.reduceLeDiff, Nat.reduceMul, Nat.reduceLT, afillE, List.replicate, w1, a1]
      exact out_str
    · have hb : ¬ u < 10 := by have := of_decide_eq_false hb; omega
      have q1 : IntKind.i64.wrap ((u : Int).tdiv 10) = ((u / 10 : Nat) : Int) := by
        have : (u : Int).tdiv 10 = ((u / 10 : Nat) : Int) := by rw [Int.tdiv_eq_ediv_of_nonneg (by omega)]; omega
        rw [this, wrap_id (by omega) (by omega)]
      have q2 : (u : Int).tmod 10 = ((u % 10 : Nat) : Int) := by rw [Int.tmod_eq_emod_of_nonneg (by omega)]; omega
      have q10 : ((10 : Int) = 0) = False := by simp
      have w1 := w_succ (k := u % 10) (by omega)
      have a1 := asl_both (s := ten) (a := u % 10) (b := u % 10 + 1) (by omega) (by show u % 10 + 1 ≤ 10; omega)
      rw [ten_at (u % 10) (by omega)] at a1
      unfold ten at a1
      match f, hf, hu with
      | 0, _, hu => exact absurd hu (by simp; omega)
      | f + 1, hf, hu =>
        have ih := rnumber_ok f (u / 10) (by rw [Nat.pow_succ] at hu; omega) (by omega)
        have e : itoaB (u : Int) = itoaB ((u / 10 : Nat) : Int) ++ ofL [UInt8.ofNat (48 + u % 10)] := by
          rw [itoa_nat, itoa_nat, ofL_app, dd_big hb]
        have hz : (itoaB ((u / 10 : Nat) : Int)).size ≤ 18 := by
          rw [itoa_nat, size_list, data_ofL]; exact dd_len 18 _ (by omega) (by omega)
        have hz1 : (ofL [UInt8.ofNat (48 + u % 10)]).size = 1 := by rw [size_list, data_ofL]; rfl
        have q3 : (itoaB ((u / 10 : Nat) : Int)).size + (ofL [UInt8.ofNat (48 + u % 10)]).size ≤ 9223372036854775807 := by omega
        rw [e]
        simp only [walk, wl, rgets, retv, argsEnv, ev, cst, cst1, cstL, AEnv.get, AEnv.trim, envput, qstep, abin, aun, evs, evo, deref, qload, target, if_true, if_false, Nat.reduceEqDiff, reduceIte, Nat.reduceAdd, AV.cells, AV.isTuple, setMany, alen, aiaddr, afill, Nat.reduceLeDiff, Nat.reduceMul, Nat.reduceLT, afillE, List.replicate, q1, q2, q10, if_false, w1, a1]
        refine dcall_pure ih (frzL_of (d := 1) rfl) ?_
        simp only [walk, wl, rgets, retv, argsEnv, ev, cst, cst1, cstL, AEnv.get, AEnv.trim, envput, qstep, abin, aun, evs, evo, deref, qload, target, if_true, if_false, Nat.reduceEqDiff, reduceIte, Nat.reduceAdd, AV.cells, AV.isTuple, setMany, alen, aiaddr, afill, Nat.reduceLeDiff, Nat.reduceMul, Nat.reduceLT, afillE, List.replicate, q1, q2, q10, if_false, w1, a1, q3]
        exact out_str
theorem rnum_ok {n : Int} (h0 : 0 ≤ n) (h1 : n ≤ 1000000) : PCall Tryz.prog 27 [I n] (.str (itoaB n)) := by
  obtain ⟨u, rfl⟩ : ∃ u : Nat, n = u := ⟨n.toNat, by omega⟩
  exact rnumber_ok 10 u (by omega) (by omega)
end Go.Proofs.YtomejgikdelgkaaGreatDoor
