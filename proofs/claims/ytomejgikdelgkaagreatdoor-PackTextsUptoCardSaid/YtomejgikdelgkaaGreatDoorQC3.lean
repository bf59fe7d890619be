/- Contracts: steps are checked; the cells of a column. -/
import Derived.Test.YtomejgikdelgkaaGreatDoorQC2
set_option linter.unusedVariables false
set_option linter.unusedSimpArgs false
set_option linter.unusedSectionVars false
namespace Go.Proofs.YtomejgikdelgkaaGreatDoor
open Go.Awp Go.Snow
set_option linter.unusedSimpArgs false
set_option linter.unusedVariables false
set_option linter.unusedSectionVars false
set_option maxRecDepth 10000
def chkS (k m c : Int) : Int := if okS k m c then 0 else 21
theorem okS_iff {k m c : Int} : okS k m c = true ↔ (1 ≤ k ∧ k ≤ 6) ∧ (0 ≤ m ∧ m ≤ 65536) ∧ (0 ≤ c ∧ c ≤ if k = 1 then 65536 else 0) := by
  simp only [okS, decide_eq_true_eq]
  constructor <;> intro h <;> (refine ⟨?_, ?_, ?_⟩ <;> omega) <;> done
theorem chkS_not {k m c : Int} (h : ¬ ((1 ≤ k ∧ k ≤ 6) ∧ (0 ≤ m ∧ m ≤ 65536) ∧ (0 ≤ c ∧ c ≤ if k = 1 then 65536 else 0))) : chkS k m c = 21 := by
  unfold chkS
  rw [if_neg]
  rwa [okS_iff]
theorem chkS_yes {k m c : Int} (h : (1 ≤ k ∧ k ≤ 6) ∧ (0 ≤ m ∧ m ≤ 65536) ∧ (0 ≤ c ∧ c ≤ if k = 1 then 65536 else 0)) : chkS k m c = 0 := by
  unfold chkS
  rw [if_pos (okS_iff.2 h)]
theorem CheckStep_ok (k m c : Int) : PCall Tryz.prog 22 [.agg (dc (k, m, c))] (I (chkS k m c)) := by
  refine PCall.intro text22 (by simp) ?_
  unfold ir22
  simp only [walk, wl, rgets, retv, argsEnv, ev, cst, cst1, cstL, AEnv.get, AEnv.trim, envput, qstep, abin, aun, evs, evo, deref, qload, target, if_true, if_false, Nat.reduceEqDiff, reduceIte, Nat.reduceAdd, AV.cells, AV.isTuple, setMany, alen, aiaddr, afill, Nat.reduceLeDiff, Nat.reduceMul, Nat.reduceLT, afillE, List.replicate, dc]
  have key : ∀ (b : Int), b = (if k = 1 then 65536 else 0) → PCall Tryz.prog 44 [I c, I 0, I b] (.bool (decide (0 ≤ c) && decide (c ≤ if k = 1 then 65536 else 0))) := fun b hb => by
    subst hb; exact from_ok _ _ _
  refine withBool_intro ?_ ?_ <;> intro hk <;> simp only [walk, wl, rgets, retv, argsEnv, ev, cst, cst1, cstL, AEnv.get, AEnv.trim, envput, qstep, abin, aun, evs, evo, deref, qload, target, if_true, if_false, Nat.reduceEqDiff, reduceIte, Nat.reduceAdd, AV.cells, AV.isTuple, setMany, alen, aiaddr, afill, Nat.reduceLeDiff, Nat.reduceMul, Nat.reduceLT, afillE, List.replicate]
  all_goals
    have hb : (if k = 1 then (65536 : Int) else 0) = (if k = 1 then 65536 else 0) := rfl
    by_cases h1 : 1 ≤ k ∧ k ≤ 6
    · refine call_pure (from_t h1) (frzL_of' (d := 1) rfl) ?_
      simp only [walk, wl, rgets, retv, argsEnv, ev, cst, cst1, cstL, AEnv.get, AEnv.trim, envput, qstep, abin, aun, evs, evo, deref, qload, target, if_true, if_false, Nat.reduceEqDiff, reduceIte, Nat.reduceAdd, AV.cells, AV.isTuple, setMany, alen, aiaddr, afill, Nat.reduceLeDiff, Nat.reduceMul, Nat.reduceLT, afillE, List.replicate]
      by_cases h2 : 0 ≤ m ∧ m ≤ 65536
      · refine call_pure (from_t h2) (frzL_of' (d := 1) rfl) ?_
        simp only [walk, wl, rgets, retv, argsEnv, ev, cst, cst1, cstL, AEnv.get, AEnv.trim, envput, qstep, abin, aun, evs, evo, deref, qload, target, if_true, if_false, Nat.reduceEqDiff, reduceIte, Nat.reduceAdd, AV.cells, AV.isTuple, setMany, alen, aiaddr, afill, Nat.reduceLeDiff, Nat.reduceMul, Nat.reduceLT, afillE, List.replicate]
        by_cases h3 : 0 ≤ c ∧ c ≤ if k = 1 then 65536 else 0
        · refine call_pure (from_t (by simp at hk; simpa [hk] using h3)) (frzL_of' (d := 1) rfl) ?_
          simp only [walk, wl, rgets, retv, argsEnv, ev, cst, cst1, cstL, AEnv.get, AEnv.trim, envput, qstep, abin, aun, evs, evo, deref, qload, target, if_true, if_false, Nat.reduceEqDiff, reduceIte, Nat.reduceAdd, AV.cells, AV.isTuple, setMany, alen, aiaddr, afill, Nat.reduceLeDiff, Nat.reduceMul, Nat.reduceLT, afillE, List.replicate]
          rw [chkS_yes ⟨h1, h2, h3⟩]; exact out_int
        · refine call_pure (from_f (by simp at hk; simpa [hk] using h3)) (frzL_of' (d := 1) rfl) ?_
          simp only [walk, wl, rgets, retv, argsEnv, ev, cst, cst1, cstL, AEnv.get, AEnv.trim, envput, qstep, abin, aun, evs, evo, deref, qload, target, if_true, if_false, Nat.reduceEqDiff, reduceIte, Nat.reduceAdd, AV.cells, AV.isTuple, setMany, alen, aiaddr, afill, Nat.reduceLeDiff, Nat.reduceMul, Nat.reduceLT, afillE, List.replicate]
          rw [chkS_not fun h => h3 h.2.2]; exact out_int
      · refine call_pure (from_f h2) (frzL_of' (d := 1) rfl) ?_
        simp only [walk, wl, rgets, retv, argsEnv, ev, cst, cst1, cstL, AEnv.get, AEnv.trim, envput, qstep, abin, aun, evs, evo, deref, qload, target, if_true, if_false, Nat.reduceEqDiff, reduceIte, Nat.reduceAdd, AV.cells, AV.isTuple, setMany, alen, aiaddr, afill, Nat.reduceLeDiff, Nat.reduceMul, Nat.reduceLT, afillE, List.replicate]
        rw [chkS_not fun h => h2 h.2.1]; exact out_int
    · refine call_pure (from_f h1) (frzL_of' (d := 1) rfl) ?_
      simp only [walk, wl, rgets, retv, argsEnv, ev, cst, cst1, cstL, AEnv.get, AEnv.trim, envput, qstep, abin, aun, evs, evo, deref, qload, target, if_true, if_false, Nat.reduceEqDiff, reduceIte, Nat.reduceAdd, AV.cells, AV.isTuple, setMany, alen, aiaddr, afill, Nat.reduceLeDiff, Nat.reduceMul, Nat.reduceLT, afillE, List.replicate]
      rw [chkS_not fun h => h1 h.1]; exact out_int
theorem rCheckStep_ok (k m c : Int) : PCall Tryz.prog 25 [.agg (dc (k, m, c))] (I (chkS k m c)) := by
  refine PCall.intro text25 (by simp) ?_
  unfold ir25
  simp only [walk, wl, rgets, retv, argsEnv, ev, cst, cst1, cstL, AEnv.get, AEnv.trim, envput, qstep, abin, aun, evs, evo, deref, qload, target, if_true, if_false, Nat.reduceEqDiff, reduceIte, Nat.reduceAdd, AV.cells, AV.isTuple, setMany, alen, aiaddr, afill, Nat.reduceLeDiff, Nat.reduceMul, Nat.reduceLT, afillE, List.replicate, dc]
  by_cases h1 : 1 ≤ k ∧ k ≤ 6
  · refine call_pure (within_t h1) (frzL_of' (d := 1) rfl) ?_
    simp only [walk, wl, rgets, retv, argsEnv, ev, cst, cst1, cstL, AEnv.get, AEnv.trim, envput, qstep, abin, aun, evs, evo, deref, qload, target, if_true, if_false, Nat.reduceEqDiff, reduceIte, Nat.reduceAdd, AV.cells, AV.isTuple, setMany, alen, aiaddr, afill, Nat.reduceLeDiff, Nat.reduceMul, Nat.reduceLT, afillE, List.replicate]
    by_cases h2 : 0 ≤ m ∧ m ≤ 65536
    · refine call_pure (within_t h2) (frzL_of' (d := 1) rfl) ?_
      simp only [walk, wl, rgets, retv, argsEnv, ev, cst, cst1, cstL, AEnv.get, AEnv.trim, envput, qstep, abin, aun, evs, evo, deref, qload, target, if_true, if_false, Nat.reduceEqDiff, reduceIte, Nat.reduceAdd, AV.cells, AV.isTuple, setMany, alen, aiaddr, afill, Nat.reduceLeDiff, Nat.reduceMul, Nat.reduceLT, afillE, List.replicate]
      refine withGuard_intro ?_ ?_ <;> intro hk <;> simp only [walk, wl, rgets, retv, argsEnv, ev, cst, cst1, cstL, AEnv.get, AEnv.trim, envput, qstep, abin, aun, evs, evo, deref, qload, target, if_true, if_false, Nat.reduceEqDiff, reduceIte, Nat.reduceAdd, AV.cells, AV.isTuple, setMany, alen, aiaddr, afill, Nat.reduceLeDiff, Nat.reduceMul, Nat.reduceLT, afillE, List.replicate, hk]
      · have hk1 : k = 1 := by simpa using hk
        by_cases h3 : 0 ≤ c ∧ c ≤ 65536
        · refine call_pure (within_t h3) (frzL_of' (d := 1) rfl) ?_
          simp only [walk, wl, rgets, retv, argsEnv, ev, cst, cst1, cstL, AEnv.get, AEnv.trim, envput, qstep, abin, aun, evs, evo, deref, qload, target, if_true, if_false, Nat.reduceEqDiff, reduceIte, Nat.reduceAdd, AV.cells, AV.isTuple, setMany, alen, aiaddr, afill, Nat.reduceLeDiff, Nat.reduceMul, Nat.reduceLT, afillE, List.replicate, hk1]
          simp only [bne_self_eq_false]
          simp only [walk, wl, rgets, retv, argsEnv, ev, cst, cst1, cstL, AEnv.get, AEnv.trim, envput, qstep, abin, aun, evs, evo, deref, qload, target, if_true, if_false, Nat.reduceEqDiff, reduceIte, Nat.reduceAdd, AV.cells, AV.isTuple, setMany, alen, aiaddr, afill, Nat.reduceLeDiff, Nat.reduceMul, Nat.reduceLT, afillE, List.replicate]
          rw [chkS_yes ⟨by omega, h2, by simpa [hk1] using h3⟩]; exact out_int
        · refine call_pure (within_f h3) (frzL_of' (d := 1) rfl) ?_
          simp only [walk, wl, rgets, retv, argsEnv, ev, cst, cst1, cstL, AEnv.get, AEnv.trim, envput, qstep, abin, aun, evs, evo, deref, qload, target, if_true, if_false, Nat.reduceEqDiff, reduceIte, Nat.reduceAdd, AV.cells, AV.isTuple, setMany, alen, aiaddr, afill, Nat.reduceLeDiff, Nat.reduceMul, Nat.reduceLT, afillE, List.replicate]
          rw [chkS_not fun h => h3 (by simpa [hk1] using h.2.2)]; exact out_int
      · have hk1 : ¬ k = 1 := by simpa using hk
        have hk2 : (k != 1) = true := by simpa using hk1
        simp only [walk, wl, rgets, retv, argsEnv, ev, cst, cst1, cstL, AEnv.get, AEnv.trim, envput, qstep, abin, aun, evs, evo, deref, qload, target, if_true, if_false, Nat.reduceEqDiff, reduceIte, Nat.reduceAdd, AV.cells, AV.isTuple, setMany, alen, aiaddr, afill, Nat.reduceLeDiff, Nat.reduceMul, Nat.reduceLT, afillE, List.replicate, hk2]
        refine withBool_intro ?_ ?_ <;> intro h3 <;> simp only [walk, wl, rgets, retv, argsEnv, ev, cst, cst1, cstL, AEnv.get, AEnv.trim, envput, qstep, abin, aun, evs, evo, deref, qload, target, if_true, if_false, Nat.reduceEqDiff, reduceIte, Nat.reduceAdd, AV.cells, AV.isTuple, setMany, alen, aiaddr, afill, Nat.reduceLeDiff, Nat.reduceMul, Nat.reduceLT, afillE, List.replicate]
        · rw [chkS_not fun h => by simp at h3; simp only [hk1, if_false] at h; omega]; exact out_int
        · rw [chkS_yes ⟨h1, h2, by simp at h3; simp only [hk1, if_false]; omega⟩]; exact out_int
    · refine call_pure (within_f h2) (frzL_of' (d := 1) rfl) ?_
      simp only [walk, wl, rgets, retv, argsEnv, ev, cst, cst1, cstL, AEnv.get, AEnv.trim, envput, qstep, abin, aun, evs, evo, deref, qload, target, if_true, if_false, Nat.reduceEqDiff, reduceIte, Nat.reduceAdd, AV.cells, AV.isTuple, setMany, alen, aiaddr, afill, Nat.reduceLeDiff, Nat.reduceMul, Nat.reduceLT, afillE, List.replicate]
      rw [chkS_not fun h => h2 h.2.1]; exact out_int
  · refine call_pure (within_f h1) (frzL_of' (d := 1) rfl) ?_
    simp only [walk, wl, rgets, retv, argsEnv, ev, cst, cst1, cstL, AEnv.get, AEnv.trim, envput, qstep, abin, aun, evs, evo, deref, qload, target, if_true, if_false, Nat.reduceEqDiff, reduceIte, Nat.reduceAdd, AV.cells, AV.isTuple, setMany, alen, aiaddr, afill, Nat.reduceLeDiff, Nat.reduceMul, Nat.reduceLT, afillE, List.replicate]
    rw [chkS_not fun h => h1 h.1]; exact out_int
-- the cells of a column
def colC (L : List Lay) (t n o k : Int) : List AV := (rows L).flatten ++ [I t, I n, I o, I k]
theorem colC_cons {l : Lay} {L : List Lay} {t n o k : Int} : colC (l :: L) t n o k = I l.1 :: I l.2.1 :: I l.2.2 :: colC L t n o k := rfl
theorem colC_length {L : List Lay} {t n o k : Int} : (colC L t n o k).length = 3 * L.length + 4 := by
  induction L with
  | nil => rfl
  | cons l L ih => rw [colC_cons]; simp only [List.length_cons, ih]; omega
theorem colC_drop {t n o k : Int} : ∀ (L : List Lay) (i : Nat), i ≤ L.length → (colC L t n o k).drop (i * 3) = colC (L.drop i) t n o k
  | L, 0, _ => by simp
  | [], i + 1, h => by simp at h
  | l :: L, i + 1, h => by
    rw [colC_cons, show (i + 1) * 3 = i * 3 + 3 by omega]
    simp only [List.drop_succ_cons]
    exact colC_drop L i (by simpa using h)
theorem colC_at {L : List Lay} {i : Nat} (h : i < L.length) {t n o k : Int} : (colC L t n o k).drop (i * 3) = I L[i].1 :: I L[i].2.1 :: I L[i].2.2 :: colC (L.drop (i + 1)) t n o k := by
  rw [colC_drop L i (by omega), List.drop_eq_getElem_cons h, colC_cons]
theorem colC_at1 {L : List Lay} {i : Nat} (h : i < L.length) {t n o k : Int} : (colC L t n o k).drop (i * 3 + 1) = I L[i].2.1 :: I L[i].2.2 :: colC (L.drop (i + 1)) t n o k := by
  rw [← List.drop_drop, colC_at h]; rfl
theorem colC_at2 {L : List Lay} {i : Nat} (h : i < L.length) {t n o k : Int} : (colC L t n o k).drop (i * 3 + 2) = I L[i].2.2 :: colC (L.drop (i + 1)) t n o k := by
  rw [← List.drop_drop, colC_at h]; rfl
theorem colC_drop' {L : List Lay} {t n o k : Int} (q : Nat) : (colC L t n o k).drop (3 * L.length + q) = [I t, I n, I o, I k].drop q := by
  have h : (rows L).flatten.length = 3 * L.length := by
    have := @colC_length L t n o k
    simp only [colC, List.length_append, List.length_cons, List.length_nil] at this; omega
  rw [colC, List.drop_append, h, List.drop_eq_nil_of_le (by omega), List.nil_append]
  congr 1; omega
theorem colC_195 {L : List Lay} (h : L.length = 65) {t n o k : Int} : (colC L t n o k).drop 195 = [I t, I n, I o, I k] := by
  have := @colC_drop' L t n o k 0
  rw [h] at this; exact this
theorem colC_196 {L : List Lay} (h : L.length = 65) {t n o k : Int} : (colC L t n o k).drop 196 = [I n, I o, I k] := by
  have := @colC_drop' L t n o k 1
  rw [h] at this; exact this
theorem colC_197 {L : List Lay} (h : L.length = 65) {t n o k : Int} : (colC L t n o k).drop 197 = [I o, I k] := by
  have := @colC_drop' L t n o k 2
  rw [h] at this; exact this
theorem colC_198 {L : List Lay} (h : L.length = 65) {t n o k : Int} : (colC L t n o k).drop 198 = [I k] := by
  have := @colC_drop' L t n o k 3
  rw [h] at this; exact this
theorem set_at0 {t n o k a : Int} : ∀ {L : List Lay} {i : Nat} (h : i < L.length), (colC L t n o k).set (i * 3) (I a) = colC (L.set i (a, L[i].2.1, L[i].2.2)) t n o k
  | l :: L, 0, h => rfl
  | l :: L, i + 1, h => by
    rw [colC_cons, show (i + 1) * 3 = i * 3 + 3 by omega]
    simp only [List.set_cons_succ, List.getElem_cons_succ, colC_cons]
    rw [set_at0 (by simpa using h)]
theorem set_at1 {t n o k a : Int} : ∀ {L : List Lay} {i : Nat} (h : i < L.length), (colC L t n o k).set (i * 3 + 1) (I a) = colC (L.set i (L[i].1, a, L[i].2.2)) t n o k
  | l :: L, 0, h => rfl
  | l :: L, i + 1, h => by
    rw [colC_cons, show (i + 1) * 3 + 1 = i * 3 + 1 + 3 by omega]
    simp only [List.set_cons_succ, List.getElem_cons_succ, colC_cons]
    rw [set_at1 (by simpa using h)]
theorem set_at2 {t n o k a : Int} : ∀ {L : List Lay} {i : Nat} (h : i < L.length), (colC L t n o k).set (i * 3 + 2) (I a) = colC (L.set i (L[i].1, L[i].2.1, a)) t n o k
  | l :: L, 0, h => rfl
  | l :: L, i + 1, h => by
    rw [colC_cons, show (i + 1) * 3 + 2 = i * 3 + 2 + 3 by omega]
    simp only [List.set_cons_succ, List.getElem_cons_succ, colC_cons]
    rw [set_at2 (by simpa using h)]
theorem colC_set' {L : List Lay} {t n o k : Int} (q : Nat) (x : AV) : (colC L t n o k).set (3 * L.length + q) x = (rows L).flatten ++ [I t, I n, I o, I k].set q x := by
  have h : (rows L).flatten.length = 3 * L.length := by
    have := @colC_length L t n o k
    simp only [colC, List.length_append, List.length_cons, List.length_nil] at this; omega
  rw [colC, List.set_append_right _ _ (by omega), h]
  congr 2; omega
theorem set_195 {L : List Lay} (h : L.length = 65) {t n o k a : Int} : (colC L t n o k).set 195 (I a) = colC L a n o k := by
  have := @colC_set' L t n o k 0 (I a)
  rw [h] at this; exact this
theorem set_196 {L : List Lay} (h : L.length = 65) {t n o k a : Int} : (colC L t n o k).set 196 (I a) = colC L t a o k := by
  have := @colC_set' L t n o k 1 (I a)
  rw [h] at this; exact this
theorem set_197 {L : List Lay} (h : L.length = 65) {t n o k a : Int} : (colC L t n o k).set 197 (I a) = colC L t n a k := by
  have := @colC_set' L t n o k 2 (I a)
  rw [h] at this; exact this
theorem set_198 {L : List Lay} (h : L.length = 65) {t n o k a : Int} : (colC L t n o k).set 198 (I a) = colC L t n o a := by
  have := @colC_set' L t n o k 3 (I a)
  rw [h] at this; exact this
theorem chunks_col {t n o k : Int} : ∀ (L : List Lay) (m : Nat), m ≤ L.length → chunks 3 m (colC L t n o k) = rows (L.take m)
  | L, 0, _ => rfl
  | [], m + 1, h => by simp at h
  | l :: L, m + 1, h => by
    rw [colC_cons]
    simp only [chunks, List.take_succ_cons, List.take_zero, List.drop_succ_cons, List.drop_zero]
    rw [chunks_col L m (by simpa using h)]
    rfl
theorem setMany_rows {t n o k : Int} : ∀ (ls L : List Lay) (i : Nat), i + ls.length ≤ L.length → setMany (colC L t n o k) (i * 3) (rows ls).flatten = colC (L.take i ++ ls ++ L.drop (i + ls.length)) t n o k
  | [], L, i, h => by simp [rows, setMany]
  | l :: ls, L, i, h => by
    simp only [List.length_cons] at h
    have hlt : i < L.length := by omega
    have e : (rows (l :: ls)).flatten = I l.1 :: I l.2.1 :: I l.2.2 :: (rows ls).flatten := rfl
    rw [e]
    simp only [setMany]
    rw [set_at0 hlt, set_at1 (by simpa using hlt), show i * 3 + 1 + 1 = i * 3 + 2 by omega, set_at2 (by simpa using hlt), show i * 3 + 2 + 1 = (i + 1) * 3 by omega]
    simp only [List.getElem_set_self, List.set_set]
    rw [setMany_rows ls _ (i + 1) (by simp only [List.length_set]; omega)]
    congr 1
    rw [List.take_set, List.take_succ_eq_append_getElem hlt]
    have hl : (L.take i).length = i := by simp; omega
    rw [List.set_append_right _ _ (by omega), hl, Nat.sub_self, List.set_cons_zero, List.drop_set_of_lt (by omega)]
    simp only [List.append_assoc, List.cons_append, List.nil_append, List.length_cons]
    congr 4; omega
end Go.Proofs.YtomejgikdelgkaaGreatDoor
