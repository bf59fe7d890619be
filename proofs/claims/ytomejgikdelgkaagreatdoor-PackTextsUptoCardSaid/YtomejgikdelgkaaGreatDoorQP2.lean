/- Contracts: numerals of a text, of the specification. -/
import Derived.Test.YtomejgikdelgkaaGreatDoorQP1
set_option linter.unusedVariables false
set_option linter.unusedSimpArgs false
set_option linter.unusedSectionVars false
namespace Go.Proofs.YtomejgikdelgkaaGreatDoor
open Go.Awp Go.Snow
set_option linter.unusedSimpArgs false
set_option linter.unusedVariables false
set_option linter.unusedSectionVars false
set_option maxRecDepth 10000
abbrev NSt := List Int × Option Int
def nst (s : NSt) (x : UInt8) : NSt := if dig x = true then (s.1, some (min (s.2.getD 0 * 10 + x.toNat - 48) 1073741824)) else (s.1 ++ s.2.toList, none)
def nfold (l : List UInt8) : NSt := l.foldl nst ([], none)
def nall (s : NSt) : List Int := s.1 ++ s.2.toList
def numl (s : ByteArray) : List Int := nall (nfold s.data.toList)
theorem nfold_take {l : List UInt8} {k : Nat} (h : k < l.length) : nfold (l.take (k + 1)) = nst (nfold (l.take k)) l[k] := by
  unfold nfold; rw [List.take_succ_eq_append_getElem h, List.foldl_append]; rfl
theorem nst_bd {s : NSt} {x : UInt8} (h : ∀ v, s.2 = some v → 0 ≤ v ∧ v ≤ 1073741824) : ∀ v, (nst s x).2 = some v → 0 ≤ v ∧ v ≤ 1073741824 := by
  intro v hv
  unfold nst at hv
  split at hv
  · rename_i hd
    have hd := dig_iff.1 hd
    simp only [Option.some.injEq] at hv
    cases hs : s.2 with
    | none => rw [hs] at hv; simp only [Option.getD_none] at hv; omega
    | some u => rw [hs] at hv; have := h u hs; simp only [Option.getD_some] at hv; omega
  · cases hv
theorem nfold_bd (l : List UInt8) : ∀ k v, (nfold (l.take k)).2 = some v → 0 ≤ v ∧ v ≤ 1073741824
  | 0, v, h => by simp [nfold] at h
  | k + 1, v, h => by
    by_cases hk : k < l.length
    · rw [nfold_take hk] at h
      exact nst_bd (nfold_bd l k) v h
    · rw [List.take_of_length_le (by omega)] at h
      have := nfold_bd l k v
      rw [List.take_of_length_le (by omega)] at this
      exact this h
theorem nst_len {s : NSt} {x : UInt8} : (nall (nst s x)).length ≤ (nall s).length + 1 := by
  unfold nst nall
  split
  · cases s.2 <;> simp
  · simp
theorem nfold_len (l : List UInt8) : ∀ k, (nall (nfold (l.take k))).length ≤ k
  | 0 => by simp [nfold, nall]
  | k + 1 => by
    by_cases hk : k < l.length
    · rw [nfold_take hk]
      have := nst_len (s := nfold (l.take k)) (x := l[k])
      have := nfold_len l k
      omega
    · have := nfold_len l k
      rw [List.take_of_length_le (by omega)] at this ⊢
      omega
theorem numl_length (s : ByteArray) : (numl s).length ≤ s.size := by
  have := nfold_len s.data.toList s.data.toList.length
  rw [List.take_length] at this
  rw [size_list]; exact this
theorem ic_last {l : List Int} {v : Int} : (ic (l ++ [v]))[l.length]? = some [I v] := by simp [ic]
theorem ic_setlast {l : List Int} {v w : Int} : (ic (l ++ [v])).set l.length [I w] = ic (l ++ [w]) := by
  rw [ic_set]; simp
theorem numerals_ok (s : ByteArray) (hs : s.size ≤ 1048576) : PCall Tryz.prog 31 [.str s] (.ro true (ic (numl s))) := by
  refine PCall.intro text31 (by simp) ?_
  unfold ir31
  simp only [walkS, wl, rgets, retv, argsEnv, ev, cst, cst1, cstL, AEnv.get, AEnv.trim, envput, qstep, abin, aun, evs, evo, deref, qload, target, if_true, if_false, Nat.reduceEqDiff, reduceIte, Nat.reduceAdd, AV.cells, AV.isTuple, setMany, alen, aiaddr, afill, Nat.reduceLeDiff, Nat.reduceMul, Nat.reduceLT, afillE, List.replicate]
  have sl := size_list s
  refine awp_loop (σ := Nat × AV) (fun t => [(0, .str s), (3, t.2), (4, .bool (nfold (s.data.toList.take t.1)).2.isSome), (5, I t.1)]) (fun t H => Acc 0 H t.2 3 1 (ic (nall (nfold (s.data.toList.take t.1))))) (fun t => t.1 ≤ s.size) (fun t => s.size - t.1) (0, .nilSlice) (Nat.zero_le _) rfl (.inl ⟨rfl, rfl⟩) ?_
  rintro ⟨k, a⟩ H hk hacc
  simp only at hk hacc
  obtain ⟨st, hst⟩ : ∃ st, st = nfold (s.data.toList.take k) := ⟨_, rfl⟩
  have hbd := nfold_bd s.data.toList k
  have hln := nfold_len s.data.toList k
  rw [← hst] at hacc hbd hln ⊢
  simp only [walkS, wl, rgets, retv, argsEnv, ev, cst, cst1, cstL, AEnv.get, AEnv.trim, envput, qstep, abin, aun, evs, evo, deref, qload, target, if_true, if_false, Nat.reduceEqDiff, reduceIte, Nat.reduceAdd, AV.cells, AV.isTuple, setMany, alen, aiaddr, afill, Nat.reduceLeDiff, Nat.reduceMul, Nat.reduceLT, afillE, List.replicate]
  refine withBool_intro ?_ ?_ <;> intro hb <;> simp only [walkS, wl, rgets, retv, argsEnv, ev, cst, cst1, cstL, AEnv.get, AEnv.trim, envput, qstep, abin, aun, evs, evo, deref, qload, target, if_true, if_false, Nat.reduceEqDiff, reduceIte, Nat.reduceAdd, AV.cells, AV.isTuple, setMany, alen, aiaddr, afill, Nat.reduceLeDiff, Nat.reduceMul, Nat.reduceLT, afillE, List.replicate]
  · have hlt : k < s.size := by simpa using hb
    have hl2 : k < s.data.toList.length := by omega
    have w1 := w_succ (k := k) (by omega)
    obtain ⟨x, hx⟩ : ∃ x, x = s.data.toList[k] := ⟨_, rfl⟩
    have gx : s[k]? = some x := by rw [hx]; exact byte_get hlt
    have xb : x.toNat < 256 := x.toNat_lt
    have hnx : nfold (s.data.toList.take (k + 1)) = nst st x := by rw [nfold_take hl2, ← hst, hx]
    simp only [walkS, wl, rgets, retv, argsEnv, ev, cst, cst1, cstL, AEnv.get, AEnv.trim, envput, qstep, abin, aun, evs, evo, deref, qload, target, if_true, if_false, Nat.reduceEqDiff, reduceIte, Nat.reduceAdd, AV.cells, AV.isTuple, setMany, alen, aiaddr, afill, Nat.reduceLeDiff, Nat.reduceMul, Nat.reduceLT, afillE, List.replicate, gx]
    by_cases hd : dig x = true
    · have hd2 := dig_iff.1 hd
      have c1 : decide ((x.toNat : Int) < 48) = false := by simp only [decide_eq_false_iff_not]; omega
      have c2 : decide ((x.toNat : Int) > 57) = false := by simp only [decide_eq_false_iff_not]; omega
      have u0 : IntKind.i64.wrap (x.toNat : Int) = x.toNat := wrap_id (by omega) (by omega)
      obtain ⟨done, cur⟩ := st
      cases cur with
      | none =>
        have en : nst (done, none) x = (done, some ((x.toNat : Int) - 48)) := by
          unfold nst; rw [if_pos hd]
          simp only [Option.getD_none]
          congr 2; omega
        simp only [nall, Option.toList_none, List.append_nil] at hacc hln
        simp only [walkS, wl, rgets, retv, argsEnv, ev, cst, cst1, cstL, AEnv.get, AEnv.trim, envput, qstep, abin, aun, evs, evo, deref, qload, target, if_true, if_false, Nat.reduceEqDiff, reduceIte, Nat.reduceAdd, AV.cells, AV.isTuple, setMany, alen, aiaddr, afill, Nat.reduceLeDiff, Nat.reduceMul, Nat.reduceLT, afillE, List.replicate, c1, c2, Option.isSome_none, gx]
        refine acc_append (lo := 0) (Nat.zero_le _) (hacc.push _) rfl rfl AHeap.obj_push_eq (by rw [ic_length]; omega) fun a' H4 x1 x2 x3 => ?_
        rw [← ic_snoc] at x2
        rcases x2 with ⟨e0, -⟩ | ⟨h, hh, rfl, ho⟩
        · simp [ic] at e0
        rw [ic_length, List.length_append, List.length_singleton]
        have eL : ∀ u : Int, (ic (done ++ [u])).length = done.length + 1 := fun u => by rw [ic_length]; simp
        have e1 : IntKind.i64.wrap (((done.length + 1 : Nat) : Int) - 1) = (done.length : Int) := by rw [wrap_id (by omega) (by omega)]; omega
        have e2 : ((done.length : Nat) : Int) < ((done.length + 1 : Nat) : Int) := by omega
        have e3 : IntKind.i64.wrap ((0 : Int) * 10) = 0 := rfl
        have e4 : IntKind.i64.wrap (0 + (x.toNat : Int)) = x.toNat := by rw [wrap_id (by omega) (by omega)]; omega
        have e5 : IntKind.i64.wrap ((x.toNat : Int) - 48) = (x.toNat : Int) - 48 := wrap_id (by omega) (by omega)
        have e6 : min ((x.toNat : Int) - 48) 1073741824 = (x.toNat : Int) - 48 := by omega
        simp only [walkS, wl, rgets, retv, argsEnv, ev, cst, cst1, cstL, AEnv.get, AEnv.trim, envput, qstep, abin, aun, evs, evo, deref, qload, target, if_true, if_false, Nat.reduceEqDiff, reduceIte, Nat.reduceAdd, AV.cells, AV.isTuple, setMany, alen, aiaddr, afill, Nat.reduceLeDiff, Nat.reduceMul, Nat.reduceLT, afillE, List.replicate, eL, e1, e2, ho, ic_last, gx, u0, e3, e4, e5, amm, amm.go, amin, e6]
        refine storeR rfl rfl ho (ic_last (l := done)) ⟨by simp only [ic_length, List.length_append, List.length_singleton], rfl, rfl, by simp⟩ fun H2 z1 z2 z3 => ?_
        simp only [AV.cells, setMany, List.set_cons_zero, List.set_cons_succ, Nat.zero_add] at z2
        rw [ic_setlast] at z2
        simp only [walkS, wl, rgets, retv, argsEnv, ev, cst, cst1, cstL, AEnv.get, AEnv.trim, envput, qstep, abin, aun, evs, evo, deref, qload, target, if_true, if_false, Nat.reduceEqDiff, reduceIte, Nat.reduceAdd, AV.cells, AV.isTuple, setMany, alen, aiaddr, afill, Nat.reduceLeDiff, Nat.reduceMul, Nat.reduceLT, afillE, List.replicate, w1]
        refine loop_end (k + 1, .own h (done.length + 1) 0 (done.length + 1)) hlt (by simp only; omega) (by simp only [hnx, en]; rfl) ?_
        simp only [hnx, en]
        refine .inr ⟨h, Nat.zero_le _, ?_, ?_⟩
        · simp [nall, ic]
        · rw [show nall (done, some ((x.toNat : Int) - 48)) = done ++ [(x.toNat : Int) - 48] from rfl]; exact z2
      | some v =>
        have hv := hbd v rfl
        have en : nst (done, some v) x = (done, some (min (v * 10 + x.toNat - 48) 1073741824)) := by
          unfold nst; rw [if_pos hd]; rfl
        simp only [nall, Option.toList_some] at hacc hln
        rw [List.length_append, List.length_singleton] at hln
        rcases hacc with ⟨e0, -⟩ | ⟨h, hh, rfl, ho⟩
        · simp [ic] at e0
        rw [ic_length, List.length_append, List.length_singleton]
        have eL : ∀ u : Int, (ic (done ++ [u])).length = done.length + 1 := fun u => by rw [ic_length]; simp
        have e1 : IntKind.i64.wrap (((done.length + 1 : Nat) : Int) - 1) = (done.length : Int) := by rw [wrap_id (by omega) (by omega)]; omega
        have e2 : ((done.length : Nat) : Int) < ((done.length + 1 : Nat) : Int) := by omega
        have e3 : IntKind.i64.wrap (v * 10) = v * 10 := wrap_id (by omega) (by omega)
        have e4 : IntKind.i64.wrap (v * 10 + (x.toNat : Int)) = v * 10 + x.toNat := wrap_id (by omega) (by omega)
        have e5 : IntKind.i64.wrap (v * 10 + (x.toNat : Int) - 48) = v * 10 + (x.toNat : Int) - 48 := wrap_id (by omega) (by omega)
        simp only [walkS, wl, rgets, retv, argsEnv, ev, cst, cst1, cstL, AEnv.get, AEnv.trim, envput, qstep, abin, aun, evs, evo, deref, qload, target, if_true, if_false, Nat.reduceEqDiff, reduceIte, Nat.reduceAdd, AV.cells, AV.isTuple, setMany, alen, aiaddr, afill, Nat.reduceLeDiff, Nat.reduceMul, Nat.reduceLT, afillE, List.replicate, c1, c2, Option.isSome_some, eL, e1, e2, ho, ic_last, gx, u0, e3, e4, e5, amm, amm.go, amin]
        refine storeR rfl rfl ho (ic_last (l := done)) ⟨by simp only [ic_length, List.length_append, List.length_singleton], rfl, rfl, by simp⟩ fun H2 z1 z2 z3 => ?_
        simp only [AV.cells, setMany, List.set_cons_zero, List.set_cons_succ, Nat.zero_add] at z2
        rw [ic_setlast] at z2
        simp only [walkS, wl, rgets, retv, argsEnv, ev, cst, cst1, cstL, AEnv.get, AEnv.trim, envput, qstep, abin, aun, evs, evo, deref, qload, target, if_true, if_false, Nat.reduceEqDiff, reduceIte, Nat.reduceAdd, AV.cells, AV.isTuple, setMany, alen, aiaddr, afill, Nat.reduceLeDiff, Nat.reduceMul, Nat.reduceLT, afillE, List.replicate, w1]
        refine loop_end (k + 1, .own h (done.length + 1) 0 (done.length + 1)) hlt (by simp only; omega) (by simp only [hnx, en]; rfl) ?_
        simp only [hnx, en]
        refine .inr ⟨h, Nat.zero_le _, ?_, ?_⟩
        · simp [nall, ic]
        · rw [show nall (done, some (min (v * 10 + x.toNat - 48) 1073741824)) = done ++ [min (v * 10 + x.toNat - 48) 1073741824] from rfl]; exact z2
    · have en : nst st x = (nall st, none) := by unfold nst; rw [if_neg hd]; rfl
      have hd' : ¬ (48 ≤ x.toNat ∧ x.toNat ≤ 57) := fun h => hd (dig_iff.2 h)
      by_cases h1 : x.toNat < 48
      · have c1 : decide ((x.toNat : Int) < 48) = true := by simp only [decide_eq_true_eq]; omega
        simp only [walkS, wl, rgets, retv, argsEnv, ev, cst, cst1, cstL, AEnv.get, AEnv.trim, envput, qstep, abin, aun, evs, evo, deref, qload, target, if_true, if_false, Nat.reduceEqDiff, reduceIte, Nat.reduceAdd, AV.cells, AV.isTuple, setMany, alen, aiaddr, afill, Nat.reduceLeDiff, Nat.reduceMul, Nat.reduceLT, afillE, List.replicate, c1, gx, w1]
        refine loop_end (k + 1, a) hlt (by simp only; omega) (by simp only [hnx, en]; rfl) ?_
        simp only [hnx, en]
        rw [show nall (nall st, none) = nall st by simp [nall]]; exact hacc
      · have c1 : decide ((x.toNat : Int) < 48) = false := by simp only [decide_eq_false_iff_not]; omega
        have c2 : decide ((x.toNat : Int) > 57) = true := by simp only [decide_eq_true_eq]; omega
        simp only [walkS, wl, rgets, retv, argsEnv, ev, cst, cst1, cstL, AEnv.get, AEnv.trim, envput, qstep, abin, aun, evs, evo, deref, qload, target, if_true, if_false, Nat.reduceEqDiff, reduceIte, Nat.reduceAdd, AV.cells, AV.isTuple, setMany, alen, aiaddr, afill, Nat.reduceLeDiff, Nat.reduceMul, Nat.reduceLT, afillE, List.replicate, c1, c2, gx, w1]
        refine loop_end (k + 1, a) hlt (by simp only; omega) (by simp only [hnx, en]; rfl) ?_
        simp only [hnx, en]
        rw [show nall (nall st, none) = nall st by simp [nall]]; exact hacc
  · have hk' : k = s.data.toList.length := by simp at hb; omega
    subst hk'
    rw [List.take_length] at hst
    rw [hst] at hacc
    exact hacc.out (ic_simple _)
end Go.Proofs.YtomejgikdelgkaaGreatDoor
