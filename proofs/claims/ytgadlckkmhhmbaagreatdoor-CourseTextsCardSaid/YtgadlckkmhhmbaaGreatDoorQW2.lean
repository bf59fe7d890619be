/- Contracts: integers of words, of the program; words, of the specification. -/
import Derived.Test.YtgadlckkmhhmbaaGreatDoorQW1
import Derived.Test.YtgadlckkmhhmbaaGreatDoorQC14
import Derived.Test.YtgadlckkmhhmbaaGreatDoorQC8
import Derived.Lib.AtoiAllCases
set_option linter.unusedVariables false
set_option linter.unusedSimpArgs false
set_option linter.unusedSectionVars false
namespace Go.Proofs.YtgadlckkmhhmbaaGreatDoor
open Go.Awp Go.Grams
set_option linter.unusedSimpArgs false
set_option linter.unusedVariables false
set_option linter.unusedSectionVars false
set_option maxRecDepth 10000
theorem beqB (a b : ByteArray) : (a == b) = decide (a = b) := by
  cases a with
  | mk x =>
  cases b with
  | mk y =>
    show (x == y) = _
    rw [Bool.eq_iff_iff]
    simp
theorem bneB (a b : ByteArray) : (a != b) = !decide (a = b) := by unfold bne; rw [beqB]
def nilI : AV → Bool
  | .nilIface => true
  | _ => false
def intV (s : ByteArray) : Int × Bool := ((atoiV s).1, nilI (atoiV s).2 && (itoaB (atoiV s).1 == s))
theorem atoi_cases (s : ByteArray) : ((atoiV s).2 = .nilIface ∨ (atoiV s).2 = .iface 135 .ptrJ) ∧ -9223372036854775808 ≤ (atoiV s).1 ∧ (atoiV s).1 ≤ 9223372036854775807 := by
  unfold atoiV
  have h0 := Lib.atoiSat_bounds s.data.toList
  cases h : Lib.atoiAll s.data.toList
  · exact ⟨.inl rfl, Lib.atoiAll_bounds h⟩
  · exact ⟨.inr rfl, by simp, by simp⟩
  · exact ⟨.inr rfl, h0⟩
theorem integer_ok (s : ByteArray) (hs : s.size ≤ 1000000) : PCall Tryz.prog 61 [.str s] (.tuple [I (intV s).1, .bool (intV s).2]) := by
  refine PCall.intro text61 (by simp) ?_
  unfold ir61
  obtain ⟨h1, h2, h3⟩ := atoi_cases s
  simp only [walk, wl, rgets, retv, argsEnv, ev, cst, cst1, cstL, AEnv.get, AEnv.trim, envput, qstep, abin, aun, evs, evo, deref, qload, target, if_true, if_false, Nat.reduceEqDiff, reduceIte, Nat.reduceAdd, AV.cells, AV.isTuple, setMany, alen, aiaddr, afill, Nat.reduceLeDiff, Nat.reduceMul, Nat.reduceLT, afillE, List.replicate]
  refine call_pure (Atoi_ok s hs) (frzL_of' (d := 1) rfl) ?_
  rcases h1 with h1 | h1
  · rw [h1]
    simp only [walk, wl, rgets, retv, argsEnv, ev, cst, cst1, cstL, AEnv.get, AEnv.trim, envput, qstep, abin, aun, evs, evo, deref, qload, target, if_true, if_false, Nat.reduceEqDiff, reduceIte, Nat.reduceAdd, AV.cells, AV.isTuple, setMany, alen, aiaddr, afill, Nat.reduceLeDiff, Nat.reduceMul, Nat.reduceLT, afillE, List.replicate]
    refine call_pure (Itoa_ok _ h2 h3) (frzL_of' (d := 1) rfl) ?_
    simp only [walk, wl, rgets, retv, argsEnv, ev, cst, cst1, cstL, AEnv.get, AEnv.trim, envput, qstep, abin, aun, evs, evo, deref, qload, target, if_true, if_false, Nat.reduceEqDiff, reduceIte, Nat.reduceAdd, AV.cells, AV.isTuple, setMany, alen, aiaddr, afill, Nat.reduceLeDiff, Nat.reduceMul, Nat.reduceLT, afillE, List.replicate]
    exact out_two out_int (out_boolE (by unfold intV; rw [h1]; simp [nilI]))
  · rw [h1]
    simp only [walk, wl, rgets, retv, argsEnv, ev, cst, cst1, cstL, AEnv.get, AEnv.trim, envput, qstep, abin, aun, evs, evo, deref, qload, target, if_true, if_false, Nat.reduceEqDiff, reduceIte, Nat.reduceAdd, AV.cells, AV.isTuple, setMany, alen, aiaddr, afill, Nat.reduceLeDiff, Nat.reduceMul, Nat.reduceLT, afillE, List.replicate]
    exact out_two out_int (out_boolE (by unfold intV; rw [h1]; simp [nilI]))
/-- What a function finds of all of a list, if it finds it of each. -/
def mapO {α β : Type} (f : α → Option β) : List α → Option (List β)
  | [] => some []
  | x :: r => match f x, mapO f r with
    | some y, some l => some (y :: l)
    | _, _ => none
theorem mapO_app {α β : Type} (f : α → Option β) : ∀ (a : List α) (x : α), mapO f (a ++ [x]) = match mapO f a, f x with
    | some l, some y => some (l ++ [y])
    | _, _ => none
  | [], x => by simp only [List.nil_append, mapO]; cases f x <;> rfl
  | a :: r, x => by
    simp only [List.cons_append, mapO, mapO_app f r x]
    cases f a with
    | none => rfl
    | some y =>
      cases mapO f r with
      | none => rfl
      | some l => cases f x <;> rfl
theorem mapO_bad {α β : Type} {f : α → Option β} : ∀ {l : List α} {x : α}, x ∈ l → f x = none → mapO f l = none
  | a :: r, x, hx, h => by
    simp only [mapO]
    rcases List.mem_cons.1 hx with rfl | hx
    · rw [h]
    · rw [mapO_bad hx h]; cases f a <;> rfl
def intO (s : ByteArray) : Option Int := if (intV s).2 = true then some (intV s).1 else none
def nums (f : ByteArray → Option Int) (ws : List ByteArray) (many : Nat) : Option (List Int) := if ws.length = many then mapO f ws else none
def numsAV : Option (List Int) → AV
  | some l => .tuple [.ro true (ic l), .bool true]
  | none => .tuple [.ro true (ic []), .bool false]
theorem out_none {H : AHeap} : Out H (.tuple [.nilSlice, .bool false]) (numsAV none) := out_two out_nil out_bool
theorem mapO_len {α β : Type} {f : α → Option β} : ∀ {l : List α} {r : List β}, mapO f l = some r → r.length = l.length
  | [], r, h => by cases h; rfl
  | a :: l, r, h => by
    simp only [mapO] at h
    split at h
    · rename_i h1 h2; cases h; simp [mapO_len h2]
    · cases h
theorem numbers_ok (ws : List ByteArray) (many : Nat) (hl : ws.length ≤ 1000000) (hm : many ≤ 1000) (hs : ∀ s, s ∈ ws → s.size ≤ 1000000) : PCall Tryz.prog 34 [.ro false (Go.Awp.sc ws), I many] (numsAV (nums intO ws many)) := by
  refine PCall.intro text34 (by simp) ?_
  unfold ir34
  simp only [walk, wl, rgets, retv, argsEnv, ev, cst, cst1, cstL, AEnv.get, AEnv.trim, envput, qstep, abin, aun, evs, evo, deref, qload, target, if_true, if_false, Nat.reduceEqDiff, reduceIte, Nat.reduceAdd, AV.cells, AV.isTuple, setMany, alen, aiaddr, afill, Nat.reduceLeDiff, Nat.reduceMul, Nat.reduceLT, afillE, List.replicate, sc_length]
  refine withBool_intro ?_ ?_ <;> intro h1 <;> simp only [walk, wl, rgets, retv, argsEnv, ev, cst, cst1, cstL, AEnv.get, AEnv.trim, envput, qstep, abin, aun, evs, evo, deref, qload, target, if_true, if_false, Nat.reduceEqDiff, reduceIte, Nat.reduceAdd, AV.cells, AV.isTuple, setMany, alen, aiaddr, afill, Nat.reduceLeDiff, Nat.reduceMul, Nat.reduceLT, afillE, List.replicate, sc_length]
  · have : nums intO ws many = none := by unfold nums; rw [if_neg (by simp at h1; omega)]
    rw [this]; exact out_none
  · have hn : ws.length = many := by simp at h1; omega
    have e : nums intO ws many = mapO intO ws := by unfold nums; rw [if_pos hn]
    rw [e]
    refine awp_loop (σ := Nat × AV × List Int) (fun s => [(6, s.2.1), (15, .ro false (Go.Awp.sc ws)), (16, I ws.length), (17, I s.1)]) (fun s H => Acc 0 H s.2.1 3 1 (ic s.2.2)) (fun s => s.1 ≤ ws.length ∧ mapO intO (ws.take s.1) = some s.2.2) (fun s => ws.length - s.1) (0, .nilSlice, []) ⟨Nat.zero_le _, rfl⟩ rfl (.inl ⟨rfl, rfl⟩) ?_
    rintro ⟨k, a, l⟩ H ⟨hk, hml⟩ hacc
    simp only at hk hml hacc
    simp only [walkS, wl, rgets, retv, argsEnv, ev, cst, cst1, cstL, AEnv.get, AEnv.trim, envput, qstep, abin, aun, evs, evo, deref, qload, target, if_true, if_false, Nat.reduceEqDiff, reduceIte, Nat.reduceAdd, AV.cells, AV.isTuple, setMany, alen, aiaddr, afill, Nat.reduceLeDiff, Nat.reduceMul, Nat.reduceLT, afillE, List.replicate]
    refine withBool_intro ?_ ?_ <;> intro hb <;> simp only [walkS, wl, rgets, retv, argsEnv, ev, cst, cst1, cstL, AEnv.get, AEnv.trim, envput, qstep, abin, aun, evs, evo, deref, qload, target, if_true, if_false, Nat.reduceEqDiff, reduceIte, Nat.reduceAdd, AV.cells, AV.isTuple, setMany, alen, aiaddr, afill, Nat.reduceLeDiff, Nat.reduceMul, Nat.reduceLT, afillE, List.replicate]
    · have hlt : k < ws.length := by simpa using hb
      have w1 := w_succ (k := k) (by omega)
      simp only [walkS, wl, rgets, retv, argsEnv, ev, cst, cst1, cstL, AEnv.get, AEnv.trim, envput, qstep, abin, aun, evs, evo, deref, qload, target, if_true, if_false, Nat.reduceEqDiff, reduceIte, Nat.reduceAdd, AV.cells, AV.isTuple, setMany, alen, aiaddr, afill, Nat.reduceLeDiff, Nat.reduceMul, Nat.reduceLT, afillE, List.replicate, sc_get hlt]
      refine call_pure (integer_ok ws[k] (hs _ (List.getElem_mem hlt))) (frzL_of' (d := 1) rfl) ?_
      simp only [walkS, wl, rgets, retv, argsEnv, ev, cst, cst1, cstL, AEnv.get, AEnv.trim, envput, qstep, abin, aun, evs, evo, deref, qload, target, if_true, if_false, Nat.reduceEqDiff, reduceIte, Nat.reduceAdd, AV.cells, AV.isTuple, setMany, alen, aiaddr, afill, Nat.reduceLeDiff, Nat.reduceMul, Nat.reduceLT, afillE, List.replicate]
      refine withBool_intro ?_ ?_ <;> intro h2 <;> simp only [walkS, wl, rgets, retv, argsEnv, ev, cst, cst1, cstL, AEnv.get, AEnv.trim, envput, qstep, abin, aun, evs, evo, deref, qload, target, if_true, if_false, Nat.reduceEqDiff, reduceIte, Nat.reduceAdd, AV.cells, AV.isTuple, setMany, alen, aiaddr, afill, Nat.reduceLeDiff, Nat.reduceMul, Nat.reduceLT, afillE, List.replicate]
      · have : mapO intO ws = none := mapO_bad (List.getElem_mem hlt) (by unfold intO; rw [if_neg (by simpa using h2)])
        rw [this]; exact out_none
      · have hi : intO ws[k] = some (intV ws[k]).1 := by unfold intO; rw [if_pos (by simpa using h2)]
        have hll := mapO_len hml
        rw [List.length_take] at hll
        refine acc_append (lo := 0) (Nat.zero_le _) (hacc.push _) rfl rfl AHeap.obj_push_eq (by rw [ic_length]; omega) fun a' H4 x1 x2 x3 => ?_
        simp only [walkS, wl, rgets, retv, argsEnv, ev, cst, cst1, cstL, AEnv.get, AEnv.trim, envput, qstep, abin, aun, evs, evo, deref, qload, target, if_true, if_false, Nat.reduceEqDiff, reduceIte, Nat.reduceAdd, AV.cells, AV.isTuple, setMany, alen, aiaddr, afill, Nat.reduceLeDiff, Nat.reduceMul, Nat.reduceLT, afillE, List.replicate, w1]
        refine loop_end (k + 1, a', l ++ [(intV ws[k]).1]) ⟨hlt, ?_⟩ (by simp only; omega) rfl ?_
        · simp only
          rw [List.take_succ_eq_append_getElem hlt, mapO_app, hml, hi]
        · simp only; rw [ic_snoc]; exact x2
    · have hk' : k = ws.length := by simp at hb; omega
      subst hk'
      rw [List.take_length] at hml
      rw [hml]
      exact out_two (hacc.out (ic_simple _)) out_bool
end Go.Proofs.YtgadlckkmhhmbaaGreatDoor
