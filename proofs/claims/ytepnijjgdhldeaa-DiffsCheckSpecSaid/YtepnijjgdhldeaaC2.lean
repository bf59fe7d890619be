/- A text of the proof of a law about the given program: contracts of its functions, as walked. -/
import Derived.Test.YtepnijjgdhldeaaC1
namespace Go.Proofs.Ytepnijjgdhldeaa
open Go.Awp
set_option linter.unusedSimpArgs false
set_option linter.unusedVariables false
set_option maxRecDepth 10000
def rows (ds : List Df) : List (List AV) := ds.map dc
theorem rows_simple (ds : List Df) : Simple (rows ds) := by
  intro el hel x hx
  obtain ⟨d, _, rfl⟩ := List.mem_map.1 hel
  simp [dc] at hx
  rcases hx with rfl | rfl | rfl <;> rfl
theorem rows_length (ds : List Df) : (rows ds).length = ds.length := List.length_map ..
theorem rows_get {ds : List Df} {k : Nat} (h : k < ds.length) : (rows ds)[k]? = some [I (ds[k]).1, I (ds[k]).2.1, I (ds[k]).2.2] := by
  simp [rows, h, dc]
def net (n : Int) (ds : List Df) : AV := .agg [I n, .ro false (rows ds)]
def valid (n : Int) (ds : List Df) : Bool := (decide (1 ≤ n) && decide (n ≤ 256)) && (decide (ds.length ≤ 4096) && ds.all (right · n))
def check (n : Int) (ds : List Df) : Int := if valid n ds then 0 else 40
theorem valid_iff {n : Int} {ds : List Df} : valid n ds = true ↔ (1 ≤ n ∧ n ≤ 256) ∧ ds.length ≤ 4096 ∧ ∀ d, d ∈ ds → right d n = true := by
  simp [valid]
theorem check_not {n : Int} {ds : List Df} (h : ¬ ((1 ≤ n ∧ n ≤ 256) ∧ ds.length ≤ 4096 ∧ ∀ d, d ∈ ds → right d n = true)) : check n ds = 40 := by
  unfold check
  rw [if_neg]
  rwa [valid_iff]
theorem all_take {α : Type} {p : α → Bool} {l : List α} {k : Nat} (h : (l.take k).all p = true) (hk : k < l.length) (h2 : p l[k] = true) : (l.take (k + 1)).all p = true := by
  rw [List.take_succ_eq_append_getElem hk, List.all_append, h]
  simp [h2]
theorem check_ok (n : Int) (ds : List Df) : PCall Try.prog 29 [net n ds] (I (check n ds)) := by
  refine PCall.intro text29 (by simp) ?_
  unfold ir29
  simp only [walk, rgets, retv, argsEnv, ev, cst, cst1, cstL, AEnv.get, AEnv.trim, envput, qstep, abin, aun, evs, evo, deref, qload, target, if_true, if_false, Nat.reduceEqDiff, reduceIte, Nat.reduceAdd, Bool.not_true, Bool.not_false, true_and, and_true, List.nil_append, List.cons_append, List.drop_zero, List.drop_succ_cons, List.drop_nil, List.take_succ_cons, List.take_zero, List.take_nil, List.getElem?_cons_zero, List.getElem?_cons_succ, List.getElem?_nil, List.length_cons, List.length_nil, Bool.false_eq_true, List.set_cons_zero, List.set_cons_succ, AV.cells, AV.isTuple, setMany, alen, aiaddr, afill, Nat.reduceLeDiff, Nat.reduceMul, Nat.zero_add, Option.getD_some, Option.getD_none, Int.toNat_natCast, Int.natCast_nonneg, List.append_assoc, List.length_append, and_self, Nat.reduceLT, afillE, List.replicate, net]
  refine call_pure (in_ok _ _ _) (frzL_of' (d := 1) rfl) ?_
  simp only [walk, rgets, retv, argsEnv, ev, cst, cst1, cstL, AEnv.get, AEnv.trim, envput, qstep, abin, aun, evs, evo, deref, qload, target, if_true, if_false, Nat.reduceEqDiff, reduceIte, Nat.reduceAdd, Bool.not_true, Bool.not_false, true_and, and_true, List.nil_append, List.cons_append, List.drop_zero, List.drop_succ_cons, List.drop_nil, List.take_succ_cons, List.take_zero, List.take_nil, List.getElem?_cons_zero, List.getElem?_cons_succ, List.getElem?_nil, List.length_cons, List.length_nil, Bool.false_eq_true, List.set_cons_zero, List.set_cons_succ, AV.cells, AV.isTuple, setMany, alen, aiaddr, afill, Nat.reduceLeDiff, Nat.reduceMul, Nat.zero_add, Option.getD_some, Option.getD_none, Int.toNat_natCast, Int.natCast_nonneg, List.append_assoc, List.length_append, and_self, Nat.reduceLT, afillE, List.replicate]
  refine withGuard_intro ?_ ?_ <;> intro h <;> simp only [walk, rgets, retv, argsEnv, ev, cst, cst1, cstL, AEnv.get, AEnv.trim, envput, qstep, abin, aun, evs, evo, deref, qload, target, if_true, if_false, Nat.reduceEqDiff, reduceIte, Nat.reduceAdd, Bool.not_true, Bool.not_false, true_and, and_true, List.nil_append, List.cons_append, List.drop_zero, List.drop_succ_cons, List.drop_nil, List.take_succ_cons, List.take_zero, List.take_nil, List.getElem?_cons_zero, List.getElem?_cons_succ, List.getElem?_nil, List.length_cons, List.length_nil, Bool.false_eq_true, List.set_cons_zero, List.set_cons_succ, AV.cells, AV.isTuple, setMany, alen, aiaddr, afill, Nat.reduceLeDiff, Nat.reduceMul, Nat.zero_add, Option.getD_some, Option.getD_none, Int.toNat_natCast, Int.natCast_nonneg, List.append_assoc, List.length_append, and_self, Nat.reduceLT, afillE, List.replicate, h]
  · have hin : 1 ≤ n ∧ n ≤ 256 := by simpa using h
    rw [rows_length]
    refine withBool_intro ?_ ?_ <;> intro h2 <;> simp only [walk, rgets, retv, argsEnv, ev, cst, cst1, cstL, AEnv.get, AEnv.trim, envput, qstep, abin, aun, evs, evo, deref, qload, target, if_true, if_false, Nat.reduceEqDiff, reduceIte, Nat.reduceAdd, Bool.not_true, Bool.not_false, true_and, and_true, List.nil_append, List.cons_append, List.drop_zero, List.drop_succ_cons, List.drop_nil, List.take_succ_cons, List.take_zero, List.take_nil, List.getElem?_cons_zero, List.getElem?_cons_succ, List.getElem?_nil, List.length_cons, List.length_nil, Bool.false_eq_true, List.set_cons_zero, List.set_cons_succ, AV.cells, AV.isTuple, setMany, alen, aiaddr, afill, Nat.reduceLeDiff, Nat.reduceMul, Nat.zero_add, Option.getD_some, Option.getD_none, Int.toNat_natCast, Int.natCast_nonneg, List.append_assoc, List.length_append, and_self, Nat.reduceLT, afillE, List.replicate]
    · have e : check n ds = 40 := by
        simp at h2
        exact check_not fun h => by omega
      rw [e]; exact out_int
    · have hlen : ds.length ≤ 4096 := by simp at h2; omega
      rw [rows_length]
      refine awp_loop (σ := Nat) (fun k => [(1, .ptr 0 1 0 0), (16, .ro false (rows ds)), (17, I ds.length), (18, I k)]) (fun _ H => ∃ X, H = some ⟨24, 2, [[I n, .ro false (rows ds)]]⟩ :: X) (fun k => k ≤ ds.length ∧ (ds.take k).all (right · n) = true) (fun k => ds.length - k) 0 ⟨Nat.zero_le _, rfl⟩ rfl ⟨[], rfl⟩ ?_
      rintro k H ⟨hk, hall⟩ ⟨X, rfl⟩
      simp only [walk, rgets, retv, argsEnv, ev, cst, cst1, cstL, AEnv.get, AEnv.trim, envput, qstep, abin, aun, evs, evo, deref, qload, target, if_true, if_false, Nat.reduceEqDiff, reduceIte, Nat.reduceAdd, Bool.not_true, Bool.not_false, true_and, and_true, List.nil_append, List.cons_append, List.drop_zero, List.drop_succ_cons, List.drop_nil, List.take_succ_cons, List.take_zero, List.take_nil, List.getElem?_cons_zero, List.getElem?_cons_succ, List.getElem?_nil, List.length_cons, List.length_nil, Bool.false_eq_true, List.set_cons_zero, List.set_cons_succ, AV.cells, AV.isTuple, setMany, alen, aiaddr, afill, Nat.reduceLeDiff, Nat.reduceMul, Nat.zero_add, Option.getD_some, Option.getD_none, Int.toNat_natCast, Int.natCast_nonneg, List.append_assoc, List.length_append, and_self, Nat.reduceLT, afillE, List.replicate]
      refine withBool_intro ?_ ?_ <;> intro hb <;> simp only [walk, rgets, retv, argsEnv, ev, cst, cst1, cstL, AEnv.get, AEnv.trim, envput, qstep, abin, aun, evs, evo, deref, qload, target, if_true, if_false, Nat.reduceEqDiff, reduceIte, Nat.reduceAdd, Bool.not_true, Bool.not_false, true_and, and_true, List.nil_append, List.cons_append, List.drop_zero, List.drop_succ_cons, List.drop_nil, List.take_succ_cons, List.take_zero, List.take_nil, List.getElem?_cons_zero, List.getElem?_cons_succ, List.getElem?_nil, List.length_cons, List.length_nil, Bool.false_eq_true, List.set_cons_zero, List.set_cons_succ, AV.cells, AV.isTuple, setMany, alen, aiaddr, afill, Nat.reduceLeDiff, Nat.reduceMul, Nat.zero_add, Option.getD_some, Option.getD_none, Int.toNat_natCast, Int.natCast_nonneg, List.append_assoc, List.length_append, and_self, Nat.reduceLT, afillE, List.replicate]
      · have hlt : k < ds.length := by simpa using hb
        simp only [walk, rgets, retv, argsEnv, ev, cst, cst1, cstL, AEnv.get, AEnv.trim, envput, qstep, abin, aun, evs, evo, deref, qload, target, if_true, if_false, Nat.reduceEqDiff, reduceIte, Nat.reduceAdd, Bool.not_true, Bool.not_false, true_and, and_true, List.nil_append, List.cons_append, List.drop_zero, List.drop_succ_cons, List.drop_nil, List.take_succ_cons, List.take_zero, List.take_nil, List.getElem?_cons_zero, List.getElem?_cons_succ, List.getElem?_nil, List.length_cons, List.length_nil, Bool.false_eq_true, List.set_cons_zero, List.set_cons_succ, AV.cells, AV.isTuple, setMany, alen, aiaddr, afill, Nat.reduceLeDiff, Nat.reduceMul, Nat.zero_add, Option.getD_some, Option.getD_none, Int.toNat_natCast, Int.natCast_nonneg, List.append_assoc, List.length_append, and_self, Nat.reduceLT, afillE, List.replicate, rows_get hlt]
        refine call_pure (right_ok ds[k] n (by omega) (by omega)) (frzL_of' (d := 4) rfl) ?_
        simp only [walk, rgets, retv, argsEnv, ev, cst, cst1, cstL, AEnv.get, AEnv.trim, envput, qstep, abin, aun, evs, evo, deref, qload, target, if_true, if_false, Nat.reduceEqDiff, reduceIte, Nat.reduceAdd, Bool.not_true, Bool.not_false, true_and, and_true, List.nil_append, List.cons_append, List.drop_zero, List.drop_succ_cons, List.drop_nil, List.take_succ_cons, List.take_zero, List.take_nil, List.getElem?_cons_zero, List.getElem?_cons_succ, List.getElem?_nil, List.length_cons, List.length_nil, Bool.false_eq_true, List.set_cons_zero, List.set_cons_succ, AV.cells, AV.isTuple, setMany, alen, aiaddr, afill, Nat.reduceLeDiff, Nat.reduceMul, Nat.zero_add, Option.getD_some, Option.getD_none, Int.toNat_natCast, Int.natCast_nonneg, List.append_assoc, List.length_append, and_self, Nat.reduceLT, afillE, List.replicate]
        refine withBool_intro ?_ ?_ <;> intro hr <;> simp only [walk, rgets, retv, argsEnv, ev, cst, cst1, cstL, AEnv.get, AEnv.trim, envput, qstep, abin, aun, evs, evo, deref, qload, target, if_true, if_false, Nat.reduceEqDiff, reduceIte, Nat.reduceAdd, Bool.not_true, Bool.not_false, true_and, and_true, List.nil_append, List.cons_append, List.drop_zero, List.drop_succ_cons, List.drop_nil, List.take_succ_cons, List.take_zero, List.take_nil, List.getElem?_cons_zero, List.getElem?_cons_succ, List.getElem?_nil, List.length_cons, List.length_nil, Bool.false_eq_true, List.set_cons_zero, List.set_cons_succ, AV.cells, AV.isTuple, setMany, alen, aiaddr, afill, Nat.reduceLeDiff, Nat.reduceMul, Nat.zero_add, Option.getD_some, Option.getD_none, Int.toNat_natCast, Int.natCast_nonneg, List.append_assoc, List.length_append, and_self, Nat.reduceLT, afillE, List.replicate]
        · have e : check n ds = 40 := check_not fun h => by
            have := h.2.2 ds[k] (List.getElem_mem hlt)
            rw [this] at hr; cases hr
          rw [e]; exact out_int
        · have hr' : right ds[k] n = true := by simpa using hr
          rw [wrap_id (by omega) (by omega)]
          refine loop_end (k + 1) ⟨hlt, all_take hall hlt hr'⟩ (by omega) rfl ⟨_, rfl⟩
      · have hk' : k = ds.length := by simp at hb; omega
        subst hk'
        have e : check n ds = 0 := by
          unfold check
          rw [if_pos]
          refine valid_iff.2 ⟨hin, hlen, ?_⟩
          rw [List.take_length] at hall
          simpa using hall
        rw [e]; exact out_int
  · have e : check n ds = 40 := by
      simp at h
      exact check_not fun h => by omega
    rw [e]; exact out_int
end Go.Proofs.Ytepnijjgdhldeaa
