/- Contracts: words and integers, of the specification. -/
import Derived.Test.YtgadlckkmhhmbaaGreatDoorQW2
import Derived.Test.YtgadlckkmhhmbaaGreatDoorQTR
set_option linter.unusedVariables false
set_option linter.unusedSimpArgs false
set_option linter.unusedSectionVars false
namespace Go.Proofs.YtgadlckkmhhmbaaGreatDoor
open Go.Awp Go.Grams
set_option linter.unusedSimpArgs false
set_option linter.unusedVariables false
set_option linter.unusedSectionVars false
set_option maxRecDepth 10000
theorem size_list (s : ByteArray) : s.size = s.data.toList.length := by rw [Array.length_toList]; rfl
theorem byte_get {s : ByteArray} {k : Nat} (h : k < s.size) : s[k]? = some (s.data.toList[k]'(by rw [← size_list]; exact h)) := by
  rw [getElem?_pos s k h]
  simp
  rfl
theorem extract_ofL (s : ByteArray) (a b : Nat) : s.extract a b = ofL ((s.data.toList.take b).drop a) := by
  rw [← extract_list, ofL_data]
/-- What a loop over a text's bytes has found so far. -/
def Found (c : UInt8) (l : List UInt8) (i fr : Nat) (out : List (List UInt8)) : Prop := fr ≤ i ∧ i ≤ l.length ∧ out.length ≤ i ∧ out ++ consL ((l.take i).drop fr) (splR c (l.drop i)) = splR c l
theorem found_start (c : UInt8) (l : List UInt8) : Found c l 0 0 [] := ⟨Nat.le_refl _, Nat.zero_le _, Nat.le_refl _, by simp [consL_nil (splR_ne c l)]⟩
theorem found_hit {c : UInt8} {l : List UInt8} {i fr : Nat} {out : List (List UInt8)} (h : Found c l i fr out) (hi : i < l.length) (hc : l[i] = c) : Found c l (i + 1) (i + 1) (out ++ [(l.take i).drop fr]) := by
  obtain ⟨h1, h2, h3, h4⟩ := h
  refine ⟨Nat.le_refl _, hi, by simp; omega, ?_⟩
  rw [← h4, List.drop_eq_getElem_cons hi]
  have e : splR c (l[i] :: l.drop (i + 1)) = [] :: splR c (l.drop (i + 1)) := by conv => lhs; unfold splR; rw [if_pos hc]
  have e2 : (l.take (i + 1)).drop (i + 1) = [] := List.drop_eq_nil_of_le (by simp; omega)
  rw [e, e2, consL_nil (splR_ne _ _), List.append_assoc]
  simp [consL]
theorem found_miss {c : UInt8} {l : List UInt8} {i fr : Nat} {out : List (List UInt8)} (h : Found c l i fr out) (hi : i < l.length) (hc : l[i] ≠ c) : Found c l (i + 1) fr out := by
  obtain ⟨h1, h2, h3, h4⟩ := h
  refine ⟨by omega, hi, by omega, ?_⟩
  rw [← h4, List.drop_eq_getElem_cons hi]
  have e : splR c (l[i] :: l.drop (i + 1)) = consH l[i] (splR c (l.drop (i + 1))) := by conv => lhs; unfold splR; rw [if_neg hc]
  rw [e, consL_consH (splR_ne _ _), List.take_succ_eq_append_getElem hi, List.drop_append_of_le_length (by rw [List.length_take]; omega)]
theorem found_end {c : UInt8} {l : List UInt8} {fr : Nat} {out : List (List UInt8)} (h : Found c l l.length fr out) : out ++ [l.drop fr] = splR c l := by
  obtain ⟨h1, h2, h3, h4⟩ := h
  rw [← h4]
  simp [splR, consL]
theorem asl_both {s : ByteArray} {a b : Nat} (h1 : a ≤ b) (h2 : b ≤ s.size) : asliceS (.str s) (some (I a)) (some (I b)) = some (.str (s.extract a b)) := by
  unfold asliceS; simp only [abnds_h h2 h1]
theorem asl_lo {s : ByteArray} {a : Nat} (h1 : a ≤ s.size) : asliceS (.str s) (some (I a)) none = some (.str (s.extract a s.size)) := by
  unfold asliceS; simp only [abnds_lo h1]
theorem rWords_ok (s : ByteArray) (c : UInt8) (hs : s.size ≤ 1000000) : PCall Tryz.prog 35 [.str s, .int .u8 c.toNat] (.ro true (Go.Awp.sc (wordsB s c))) := by
  refine PCall.intro text35 (by simp) ?_
  unfold ir35
  simp only [walkS, wl, rgets, retv, argsEnv, ev, cst, cst1, cstL, AEnv.get, AEnv.trim, envput, qstep, abin, aun, evs, evo, deref, qload, target, if_true, if_false, Nat.reduceEqDiff, reduceIte, Nat.reduceAdd, AV.cells, AV.isTuple, setMany, alen, aiaddr, afill, Nat.reduceLeDiff, Nat.reduceMul, Nat.reduceLT, afillE, List.replicate]
  have sl := size_list s
  refine awp_loop (σ := Nat × Nat × AV × List (List UInt8)) (fun t => [(0, .str s), (1, .int .u8 c.toNat), (5, t.2.2.1), (6, I t.2.1), (7, I t.1)]) (fun t H => Acc 0 H t.2.2.1 9 1 (Go.Awp.sc (t.2.2.2.map ofL))) (fun t => Found c s.data.toList t.1 t.2.1 t.2.2.2) (fun t => s.size - t.1) (0, 0, .nilSlice, []) (found_start _ _) rfl (.inl ⟨rfl, rfl⟩) ?_
  rintro ⟨i, fr, a, out⟩ H hF hacc
  simp only at hF hacc
  obtain ⟨q1, q2, q3, q4⟩ := hF
  have hF : Found c s.data.toList i fr out := ⟨q1, q2, q3, q4⟩
  simp only [walkS, wl, rgets, retv, argsEnv, ev, cst, cst1, cstL, AEnv.get, AEnv.trim, envput, qstep, abin, aun, evs, evo, deref, qload, target, if_true, if_false, Nat.reduceEqDiff, reduceIte, Nat.reduceAdd, AV.cells, AV.isTuple, setMany, alen, aiaddr, afill, Nat.reduceLeDiff, Nat.reduceMul, Nat.reduceLT, afillE, List.replicate]
  refine withBool_intro ?_ ?_ <;> intro hb <;> simp only [walkS, wl, rgets, retv, argsEnv, ev, cst, cst1, cstL, AEnv.get, AEnv.trim, envput, qstep, abin, aun, evs, evo, deref, qload, target, if_true, if_false, Nat.reduceEqDiff, reduceIte, Nat.reduceAdd, AV.cells, AV.isTuple, setMany, alen, aiaddr, afill, Nat.reduceLeDiff, Nat.reduceMul, Nat.reduceLT, afillE, List.replicate]
  · have hlt : i < s.size := by simpa using hb
    have hl2 : i < s.data.toList.length := by omega
    have w1 := w_succ (k := i) (by omega)
    simp only [walkS, wl, rgets, retv, argsEnv, ev, cst, cst1, cstL, AEnv.get, AEnv.trim, envput, qstep, abin, aun, evs, evo, deref, qload, target, if_true, if_false, Nat.reduceEqDiff, reduceIte, Nat.reduceAdd, AV.cells, AV.isTuple, setMany, alen, aiaddr, afill, Nat.reduceLeDiff, Nat.reduceMul, Nat.reduceLT, afillE, List.replicate, byte_get hlt]
    refine withBool_intro ?_ ?_ <;> intro hc <;> simp only [walkS, wl, rgets, retv, argsEnv, ev, cst, cst1, cstL, AEnv.get, AEnv.trim, envput, qstep, abin, aun, evs, evo, deref, qload, target, if_true, if_false, Nat.reduceEqDiff, reduceIte, Nat.reduceAdd, AV.cells, AV.isTuple, setMany, alen, aiaddr, afill, Nat.reduceLeDiff, Nat.reduceMul, Nat.reduceLT, afillE, List.replicate]
    · have hcc : s.data.toList[i] = c := by
        have : ((s.data.toList[i]).toNat : Int) = (c.toNat : Int) := by simpa using hc
        exact UInt8.toNat_inj.1 (by omega)
      simp only [walkS, wl, rgets, retv, argsEnv, ev, cst, cst1, cstL, AEnv.get, AEnv.trim, envput, qstep, abin, aun, evs, evo, deref, qload, target, if_true, if_false, Nat.reduceEqDiff, reduceIte, Nat.reduceAdd, AV.cells, AV.isTuple, setMany, alen, aiaddr, afill, Nat.reduceLeDiff, Nat.reduceMul, Nat.reduceLT, afillE, List.replicate, asl_both q1 (show i ≤ s.size by omega)]
      refine acc_append (lo := 0) (Nat.zero_le _) (hacc.push _) rfl rfl AHeap.obj_push_eq (by rw [sc_length, List.length_map]; omega) fun a' H4 x1 x2 x3 => ?_
      simp only [walkS, wl, rgets, retv, argsEnv, ev, cst, cst1, cstL, AEnv.get, AEnv.trim, envput, qstep, abin, aun, evs, evo, deref, qload, target, if_true, if_false, Nat.reduceEqDiff, reduceIte, Nat.reduceAdd, AV.cells, AV.isTuple, setMany, alen, aiaddr, afill, Nat.reduceLeDiff, Nat.reduceMul, Nat.reduceLT, afillE, List.replicate, w1]
      refine loop_end (i + 1, i + 1, a', out ++ [(s.data.toList.take i).drop fr]) (found_hit hF hl2 hcc) (by simp only; omega) rfl ?_
      simp only
      rw [List.map_append, List.map_cons, List.map_nil, sc_snoc, ← extract_ofL]; exact x2
    · have hcc : s.data.toList[i] ≠ c := fun e => by rw [e] at hc; simp at hc
      simp only [walkS, wl, rgets, retv, argsEnv, ev, cst, cst1, cstL, AEnv.get, AEnv.trim, envput, qstep, abin, aun, evs, evo, deref, qload, target, if_true, if_false, Nat.reduceEqDiff, reduceIte, Nat.reduceAdd, AV.cells, AV.isTuple, setMany, alen, aiaddr, afill, Nat.reduceLeDiff, Nat.reduceMul, Nat.reduceLT, afillE, List.replicate, w1]
      exact loop_end (i + 1, fr, a, out) (found_miss hF hl2 hcc) (by simp only; omega) rfl hacc
  · have hi' : i = s.data.toList.length := by simp at hb; omega
    subst hi'
    simp only [walkS, wl, rgets, retv, argsEnv, ev, cst, cst1, cstL, AEnv.get, AEnv.trim, envput, qstep, abin, aun, evs, evo, deref, qload, target, if_true, if_false, Nat.reduceEqDiff, reduceIte, Nat.reduceAdd, AV.cells, AV.isTuple, setMany, alen, aiaddr, afill, Nat.reduceLeDiff, Nat.reduceMul, Nat.reduceLT, afillE, List.replicate, asl_lo (show fr ≤ s.size by omega)]
    refine acc_append (lo := 0) (Nat.zero_le _) (hacc.push _) rfl rfl AHeap.obj_push_eq (by rw [sc_length, List.length_map]; omega) fun a' H4 x1 x2 x3 => ?_
    simp only [walkS, wl, rgets, retv, argsEnv, ev, cst, cst1, cstL, AEnv.get, AEnv.trim, envput, qstep, abin, aun, evs, evo, deref, qload, target, if_true, if_false, Nat.reduceEqDiff, reduceIte, Nat.reduceAdd, AV.cells, AV.isTuple, setMany, alen, aiaddr, afill, Nat.reduceLeDiff, Nat.reduceMul, Nat.reduceLT, afillE, List.replicate]
    have e : Go.Awp.sc (out.map ofL) ++ [[.str (s.extract fr s.size)]] = Go.Awp.sc (wordsB s c) := by
      unfold wordsB
      rw [← found_end hF, List.map_append, List.map_cons, List.map_nil, sc_snoc, extract_ofL, sl, List.take_length]
    rw [← e]
    exact x2.out (by rw [e]; exact sc_simple _)
end Go.Proofs.YtgadlckkmhhmbaaGreatDoor
