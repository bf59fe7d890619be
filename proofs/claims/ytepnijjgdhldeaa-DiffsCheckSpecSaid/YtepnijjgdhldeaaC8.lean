/- A text of the proof of a law about the given program: contracts of its functions, as walked. -/
import Derived.Test.YtepnijjgdhldeaaC7
namespace Go.Proofs.Ytepnijjgdhldeaa
open Go.Awp
set_option linter.unusedSimpArgs false
set_option linter.unusedVariables false
set_option maxRecDepth 10000
theorem Fulfils_ok (n : Int) (ds : List Df) (xs : List Int) (hv : valid n ds = true) (hl : xs.length ≤ big) : PCall Try.prog 37 [.agg [I n, .ro false (rows ds)], .ro false (ic xs)] (.bool (numbers n xs && holds ds xs)) := by
  obtain ⟨h1, h2, h3⟩ := valid_iff.1 hv
  refine PCall.intro text37 (by simp) ?_
  unfold ir37
  simp only [walk, rgets, retv, argsEnv, ev, cst, cst1, cstL, AEnv.get, AEnv.trim, envput, qstep, abin, aun, evs, evo, deref, qload, target, if_true, if_false, Nat.reduceEqDiff, reduceIte, Nat.reduceAdd, Bool.not_true, Bool.not_false, true_and, and_true, List.nil_append, List.cons_append, List.drop_zero, List.drop_succ_cons, List.drop_nil, List.take_succ_cons, List.take_zero, List.take_nil, List.getElem?_cons_zero, List.getElem?_cons_succ, List.getElem?_nil, List.length_cons, List.length_nil, Bool.false_eq_true, List.set_cons_zero, List.set_cons_succ, AV.cells, AV.isTuple, setMany, alen, aiaddr, afill, Nat.reduceLeDiff, Nat.reduceMul, Nat.zero_add, Option.getD_some, Option.getD_none, Int.toNat_natCast, Int.natCast_nonneg, List.append_assoc, List.length_append, and_self, Nat.reduceLT, afillE, List.replicate]
  refine call_pure (Numbers_ok n ds xs hl) (frzL_of' (d := 4) (carL_cons car_netF (carL_cons car_icF rfl))) ?_
  simp only [walk, rgets, retv, argsEnv, ev, cst, cst1, cstL, AEnv.get, AEnv.trim, envput, qstep, abin, aun, evs, evo, deref, qload, target, if_true, if_false, Nat.reduceEqDiff, reduceIte, Nat.reduceAdd, Bool.not_true, Bool.not_false, true_and, and_true, List.nil_append, List.cons_append, List.drop_zero, List.drop_succ_cons, List.drop_nil, List.take_succ_cons, List.take_zero, List.take_nil, List.getElem?_cons_zero, List.getElem?_cons_succ, List.getElem?_nil, List.length_cons, List.length_nil, Bool.false_eq_true, List.set_cons_zero, List.set_cons_succ, AV.cells, AV.isTuple, setMany, alen, aiaddr, afill, Nat.reduceLeDiff, Nat.reduceMul, Nat.zero_add, Option.getD_some, Option.getD_none, Int.toNat_natCast, Int.natCast_nonneg, List.append_assoc, List.length_append, and_self, Nat.reduceLT, afillE, List.replicate]
  refine withGuard_intro ?_ ?_ <;> intro h <;> simp only [walk, rgets, retv, argsEnv, ev, cst, cst1, cstL, AEnv.get, AEnv.trim, envput, qstep, abin, aun, evs, evo, deref, qload, target, if_true, if_false, Nat.reduceEqDiff, reduceIte, Nat.reduceAdd, Bool.not_true, Bool.not_false, true_and, and_true, List.nil_append, List.cons_append, List.drop_zero, List.drop_succ_cons, List.drop_nil, List.take_succ_cons, List.take_zero, List.take_nil, List.getElem?_cons_zero, List.getElem?_cons_succ, List.getElem?_nil, List.length_cons, List.length_nil, Bool.false_eq_true, List.set_cons_zero, List.set_cons_succ, AV.cells, AV.isTuple, setMany, alen, aiaddr, afill, Nat.reduceLeDiff, Nat.reduceMul, Nat.zero_add, Option.getD_some, Option.getD_none, Int.toNat_natCast, Int.natCast_nonneg, List.append_assoc, List.length_append, and_self, Nat.reduceLT, afillE, List.replicate, h]
  · have hn : numbers n xs = true := by simpa using h
    have hn' := hn
    simp [numbers] at hn'
    obtain ⟨e1, e2⟩ := hn'
    have hf : ∀ x, x ∈ xs → far x = false := e2
    have hlen : (0 : Int) < xs.length := by omega
    have g0 := at_get (xs := xs) (i := 0) (by omega) hlen
    simp only [walk, rgets, retv, argsEnv, ev, cst, cst1, cstL, AEnv.get, AEnv.trim, envput, qstep, abin, aun, evs, evo, deref, qload, target, if_true, if_false, Nat.reduceEqDiff, reduceIte, Nat.reduceAdd, Bool.not_true, Bool.not_false, true_and, and_true, List.nil_append, List.cons_append, List.drop_zero, List.drop_succ_cons, List.drop_nil, List.take_succ_cons, List.take_zero, List.take_nil, List.getElem?_cons_zero, List.getElem?_cons_succ, List.getElem?_nil, List.length_cons, List.length_nil, Bool.false_eq_true, List.set_cons_zero, List.set_cons_succ, AV.cells, AV.isTuple, setMany, alen, aiaddr, afill, Nat.reduceLeDiff, Nat.reduceMul, Nat.zero_add, Option.getD_some, Option.getD_none, Int.toNat_natCast, Int.natCast_nonneg, List.append_assoc, List.length_append, and_self, Nat.reduceLT, afillE, List.replicate, Int.le_refl, g0]
    refine withBool_intro ?_ ?_ <;> intro h0 <;> simp only [walk, rgets, retv, argsEnv, ev, cst, cst1, cstL, AEnv.get, AEnv.trim, envput, qstep, abin, aun, evs, evo, deref, qload, target, if_true, if_false, Nat.reduceEqDiff, reduceIte, Nat.reduceAdd, Bool.not_true, Bool.not_false, true_and, and_true, List.nil_append, List.cons_append, List.drop_zero, List.drop_succ_cons, List.drop_nil, List.take_succ_cons, List.take_zero, List.take_nil, List.getElem?_cons_zero, List.getElem?_cons_succ, List.getElem?_nil, List.length_cons, List.length_nil, Bool.false_eq_true, List.set_cons_zero, List.set_cons_succ, AV.cells, AV.isTuple, setMany, alen, aiaddr, afill, Nat.reduceLeDiff, Nat.reduceMul, Nat.zero_add, Option.getD_some, Option.getD_none, Int.toNat_natCast, Int.natCast_nonneg, List.append_assoc, List.length_append, and_self, Nat.reduceLT, afillE, List.replicate]
    · have e : (numbers n xs && holds ds xs) = false := by
        simp at h0; simp [holds, h0]
      rw [e]; exact out_bool
    · have hz : at0 xs 0 = 0 := by simpa using h0
      refine awp_loop (σ := Nat) (fun k => [(1, .ro false (ic xs)), (2, .ptr 0 1 0 0), (5, I k)]) (fun _ H => ∃ X, H = some ⟨24, 2, [[I n, .ro false (rows ds)]]⟩ :: X) (fun k => k ≤ ds.length ∧ (ds.take k).all (fun d => !over xs d) = true) (fun k => ds.length - k) 0 ⟨Nat.zero_le _, rfl⟩ rfl ⟨[], rfl⟩ ?_
      rintro k H ⟨hk, hall⟩ ⟨X, rfl⟩
      simp only [walk, rgets, retv, argsEnv, ev, cst, cst1, cstL, AEnv.get, AEnv.trim, envput, qstep, abin, aun, evs, evo, deref, qload, target, if_true, if_false, Nat.reduceEqDiff, reduceIte, Nat.reduceAdd, Bool.not_true, Bool.not_false, true_and, and_true, List.nil_append, List.cons_append, List.drop_zero, List.drop_succ_cons, List.drop_nil, List.take_succ_cons, List.take_zero, List.take_nil, List.getElem?_cons_zero, List.getElem?_cons_succ, List.getElem?_nil, List.length_cons, List.length_nil, Bool.false_eq_true, List.set_cons_zero, List.set_cons_succ, AV.cells, AV.isTuple, setMany, alen, aiaddr, afill, Nat.reduceLeDiff, Nat.reduceMul, Nat.zero_add, Option.getD_some, Option.getD_none, Int.toNat_natCast, Int.natCast_nonneg, List.append_assoc, List.length_append, and_self, Nat.reduceLT, afillE, List.replicate, rows_length]
      refine withBool_intro ?_ ?_ <;> intro hb <;> simp only [walk, rgets, retv, argsEnv, ev, cst, cst1, cstL, AEnv.get, AEnv.trim, envput, qstep, abin, aun, evs, evo, deref, qload, target, if_true, if_false, Nat.reduceEqDiff, reduceIte, Nat.reduceAdd, Bool.not_true, Bool.not_false, true_and, and_true, List.nil_append, List.cons_append, List.drop_zero, List.drop_succ_cons, List.drop_nil, List.take_succ_cons, List.take_zero, List.take_nil, List.getElem?_cons_zero, List.getElem?_cons_succ, List.getElem?_nil, List.length_cons, List.length_nil, Bool.false_eq_true, List.set_cons_zero, List.set_cons_succ, AV.cells, AV.isTuple, setMany, alen, aiaddr, afill, Nat.reduceLeDiff, Nat.reduceMul, Nat.zero_add, Option.getD_some, Option.getD_none, Int.toNat_natCast, Int.natCast_nonneg, List.append_assoc, List.length_append, and_self, Nat.reduceLT, afillE, List.replicate]
      · have hlt : k < ds.length := by simpa using hb
        obtain ⟨⟨a1, a2⟩, ⟨b1, b2⟩, _⟩ := right_lt (h3 _ (List.getElem_mem hlt))
        have f1 := at_far (i := ds[k].1) hf
        have f2 := at_far (i := ds[k].2.1) hf
        simp only [walk, rgets, retv, argsEnv, ev, cst, cst1, cstL, AEnv.get, AEnv.trim, envput, qstep, abin, aun, evs, evo, deref, qload, target, if_true, if_false, Nat.reduceEqDiff, reduceIte, Nat.reduceAdd, Bool.not_true, Bool.not_false, true_and, and_true, List.nil_append, List.cons_append, List.drop_zero, List.drop_succ_cons, List.drop_nil, List.take_succ_cons, List.take_zero, List.take_nil, List.getElem?_cons_zero, List.getElem?_cons_succ, List.getElem?_nil, List.length_cons, List.length_nil, Bool.false_eq_true, List.set_cons_zero, List.set_cons_succ, AV.cells, AV.isTuple, setMany, alen, aiaddr, afill, Nat.reduceLeDiff, Nat.reduceMul, Nat.zero_add, Option.getD_some, Option.getD_none, Int.toNat_natCast, Int.natCast_nonneg, List.append_assoc, List.length_append, and_self, Nat.reduceLT, afillE, List.replicate, rows_get hlt, if_pos a1, if_pos b1, at_get a1 (by rw [e1]; exact a2), at_get b1 (by rw [e1]; exact b2), wrap_id (show -9223372036854775808 ≤ at0 xs ds[k].2.1 - at0 xs ds[k].1 by omega) (by omega)]
        refine withBool_intro ?_ ?_ <;> intro hr <;> simp only [walk, rgets, retv, argsEnv, ev, cst, cst1, cstL, AEnv.get, AEnv.trim, envput, qstep, abin, aun, evs, evo, deref, qload, target, if_true, if_false, Nat.reduceEqDiff, reduceIte, Nat.reduceAdd, Bool.not_true, Bool.not_false, true_and, and_true, List.nil_append, List.cons_append, List.drop_zero, List.drop_succ_cons, List.drop_nil, List.take_succ_cons, List.take_zero, List.take_nil, List.getElem?_cons_zero, List.getElem?_cons_succ, List.getElem?_nil, List.length_cons, List.length_nil, Bool.false_eq_true, List.set_cons_zero, List.set_cons_succ, AV.cells, AV.isTuple, setMany, alen, aiaddr, afill, Nat.reduceLeDiff, Nat.reduceMul, Nat.zero_add, Option.getD_some, Option.getD_none, Int.toNat_natCast, Int.natCast_nonneg, List.append_assoc, List.length_append, and_self, Nat.reduceLT, afillE, List.replicate]
        · have e : (numbers n xs && holds ds xs) = false := by
            have : ds.any (over xs) = true := List.any_eq_true.2 ⟨_, List.getElem_mem hlt, hr⟩
            simp [holds, this]
          rw [e]; exact out_bool
        · rw [wrap_id (by omega) (by omega)]
          refine loop_end (k + 1) ⟨hlt, all_take hall hlt (by simp [over, hr])⟩ (by omega) rfl ⟨_, rfl⟩
      · have hk' : k = ds.length := by simp at hb; omega
        subst hk'
        rw [List.take_length] at hall
        have e : (numbers n xs && holds ds xs) = true := by
          have : ds.any (over xs) = false := by
            rw [List.any_eq_false]; rw [List.all_eq_true] at hall
            intro x hx; have := hall x hx; simpa using this
          simp [holds, hz, this, hn]
        rw [e]; exact out_bool
  · have hn : numbers n xs = false := by simpa using h
    rw [hn]; exact out_bool
theorem check_ne {n : Int} {ds : List Df} (h : decide (check n ds ≠ 0) = true) : valid n ds = false := by
  cases hv : valid n ds with
  | false => rfl
  | true => simp [check, hv] at h
theorem check_eq {n : Int} {ds : List Df} (h : decide (check n ds ≠ 0) = false) : valid n ds = true := by
  cases hv : valid n ds with
  | true => rfl
  | false => simp [check, hv] at h
theorem refHolds_ok (n : Int) (ds : List Df) (xs : List Int) (hl : xs.length ≤ big) : PCall Try.prog 60 [.agg [I n, .ro false (rows ds)], .ro false (ic xs)] (.tuple [.bool (Holds n ds xs).1, I (Holds n ds xs).2]) := by
  refine PCall.intro text60 (by simp) ?_
  unfold ir60
  simp only [walk, rgets, retv, argsEnv, ev, cst, cst1, cstL, AEnv.get, AEnv.trim, envput, qstep, abin, aun, evs, evo, deref, qload, target, if_true, if_false, Nat.reduceEqDiff, reduceIte, Nat.reduceAdd, Bool.not_true, Bool.not_false, true_and, and_true, List.nil_append, List.cons_append, List.drop_zero, List.drop_succ_cons, List.drop_nil, List.take_succ_cons, List.take_zero, List.take_nil, List.getElem?_cons_zero, List.getElem?_cons_succ, List.getElem?_nil, List.length_cons, List.length_nil, Bool.false_eq_true, List.set_cons_zero, List.set_cons_succ, AV.cells, AV.isTuple, setMany, alen, aiaddr, afill, Nat.reduceLeDiff, Nat.reduceMul, Nat.zero_add, Option.getD_some, Option.getD_none, Int.toNat_natCast, Int.natCast_nonneg, List.append_assoc, List.length_append, and_self, Nat.reduceLT, afillE, List.replicate]
  refine call_pure (refCheck_ok n ds) (frzL_of' (d := 4) (carL_cons car_netF rfl)) ?_
  simp only [walk, rgets, retv, argsEnv, ev, cst, cst1, cstL, AEnv.get, AEnv.trim, envput, qstep, abin, aun, evs, evo, deref, qload, target, if_true, if_false, Nat.reduceEqDiff, reduceIte, Nat.reduceAdd, Bool.not_true, Bool.not_false, true_and, and_true, List.nil_append, List.cons_append, List.drop_zero, List.drop_succ_cons, List.drop_nil, List.take_succ_cons, List.take_zero, List.take_nil, List.getElem?_cons_zero, List.getElem?_cons_succ, List.getElem?_nil, List.length_cons, List.length_nil, Bool.false_eq_true, List.set_cons_zero, List.set_cons_succ, AV.cells, AV.isTuple, setMany, alen, aiaddr, afill, Nat.reduceLeDiff, Nat.reduceMul, Nat.zero_add, Option.getD_some, Option.getD_none, Int.toNat_natCast, Int.natCast_nonneg, List.append_assoc, List.length_append, and_self, Nat.reduceLT, afillE, List.replicate]
  refine withBool_intro ?_ ?_ <;> intro h <;> simp only [walk, rgets, retv, argsEnv, ev, cst, cst1, cstL, AEnv.get, AEnv.trim, envput, qstep, abin, aun, evs, evo, deref, qload, target, if_true, if_false, Nat.reduceEqDiff, reduceIte, Nat.reduceAdd, Bool.not_true, Bool.not_false, true_and, and_true, List.nil_append, List.cons_append, List.drop_zero, List.drop_succ_cons, List.drop_nil, List.take_succ_cons, List.take_zero, List.take_nil, List.getElem?_cons_zero, List.getElem?_cons_succ, List.getElem?_nil, List.length_cons, List.length_nil, Bool.false_eq_true, List.set_cons_zero, List.set_cons_succ, AV.cells, AV.isTuple, setMany, alen, aiaddr, afill, Nat.reduceLeDiff, Nat.reduceMul, Nat.zero_add, Option.getD_some, Option.getD_none, Int.toNat_natCast, Int.natCast_nonneg, List.append_assoc, List.length_append, and_self, Nat.reduceLT, afillE, List.replicate]
  · have hv : valid n ds = false := by
      cases hv : valid n ds with
      | false => rfl
      | true => simp [check, hv] at h
    have e : Holds n ds xs = (false, 40) := by simp [Holds, hv]
    rw [e]; exact out_two out_bool out_int
  · have hv : valid n ds = true := by
      cases hv : valid n ds with
      | true => rfl
      | false => simp [check, hv] at h
    refine call_pure (Numbers_ok n ds xs hl) (frzL_of' (d := 4) (carL_cons car_netF (carL_cons car_icF rfl))) ?_
    simp only [walk, rgets, retv, argsEnv, ev, cst, cst1, cstL, AEnv.get, AEnv.trim, envput, qstep, abin, aun, evs, evo, deref, qload, target, if_true, if_false, Nat.reduceEqDiff, reduceIte, Nat.reduceAdd, Bool.not_true, Bool.not_false, true_and, and_true, List.nil_append, List.cons_append, List.drop_zero, List.drop_succ_cons, List.drop_nil, List.take_succ_cons, List.take_zero, List.take_nil, List.getElem?_cons_zero, List.getElem?_cons_succ, List.getElem?_nil, List.length_cons, List.length_nil, Bool.false_eq_true, List.set_cons_zero, List.set_cons_succ, AV.cells, AV.isTuple, setMany, alen, aiaddr, afill, Nat.reduceLeDiff, Nat.reduceMul, Nat.zero_add, Option.getD_some, Option.getD_none, Int.toNat_natCast, Int.natCast_nonneg, List.append_assoc, List.length_append, and_self, Nat.reduceLT, afillE, List.replicate]
    refine withBool_intro ?_ ?_ <;> intro h2 <;> simp only [walk, rgets, retv, argsEnv, ev, cst, cst1, cstL, AEnv.get, AEnv.trim, envput, qstep, abin, aun, evs, evo, deref, qload, target, if_true, if_false, Nat.reduceEqDiff, reduceIte, Nat.reduceAdd, Bool.not_true, Bool.not_false, true_and, and_true, List.nil_append, List.cons_append, List.drop_zero, List.drop_succ_cons, List.drop_nil, List.take_succ_cons, List.take_zero, List.take_nil, List.getElem?_cons_zero, List.getElem?_cons_succ, List.getElem?_nil, List.length_cons, List.length_nil, Bool.false_eq_true, List.set_cons_zero, List.set_cons_succ, AV.cells, AV.isTuple, setMany, alen, aiaddr, afill, Nat.reduceLeDiff, Nat.reduceMul, Nat.zero_add, Option.getD_some, Option.getD_none, Int.toNat_natCast, Int.natCast_nonneg, List.append_assoc, List.length_append, and_self, Nat.reduceLT, afillE, List.replicate]
    · have e : Holds n ds xs = (false, 1) := by
        simp at h2; simp [Holds, hv, h2]
      rw [e]; exact out_two out_bool out_int
    · refine call_pure (Fulfils_ok n ds xs hv hl) (frzL_of' (d := 4) (carL_cons car_netF (carL_cons car_icF rfl))) ?_
      simp only [walk, rgets, retv, argsEnv, ev, cst, cst1, cstL, AEnv.get, AEnv.trim, envput, qstep, abin, aun, evs, evo, deref, qload, target, if_true, if_false, Nat.reduceEqDiff, reduceIte, Nat.reduceAdd, Bool.not_true, Bool.not_false, true_and, and_true, List.nil_append, List.cons_append, List.drop_zero, List.drop_succ_cons, List.drop_nil, List.take_succ_cons, List.take_zero, List.take_nil, List.getElem?_cons_zero, List.getElem?_cons_succ, List.getElem?_nil, List.length_cons, List.length_nil, Bool.false_eq_true, List.set_cons_zero, List.set_cons_succ, AV.cells, AV.isTuple, setMany, alen, aiaddr, afill, Nat.reduceLeDiff, Nat.reduceMul, Nat.zero_add, Option.getD_some, Option.getD_none, Int.toNat_natCast, Int.natCast_nonneg, List.append_assoc, List.length_append, and_self, Nat.reduceLT, afillE, List.replicate]
      have e : Holds n ds xs = (numbers n xs && holds ds xs, 0) := by
        simp at h2; simp [Holds, hv, h2]
      rw [e]; exact out_two out_bool out_int
/-- SameNets, as the program answers. -/
def sameNets (n : Int) (ds : List Df) (n' : Int) (ds' : List Df) : Bool := decide (n = n') && decide (ds = ds')
theorem sameNets_ok (n n' : Int) (ds ds' : List Df) (hl : ds.length ≤ big) (hl' : ds'.length ≤ big) : PCall Try.prog 62 [.agg [I n, .ro false (rows ds)], .agg [I n', .ro false (rows ds')]] (.bool (sameNets n ds n' ds')) := by
  unfold big at hl hl'
  refine PCall.intro text62 (by simp) ?_
  unfold ir62
  simp only [walk, rgets, retv, argsEnv, ev, cst, cst1, cstL, AEnv.get, AEnv.trim, envput, qstep, abin, aun, evs, evo, deref, qload, target, if_true, if_false, Nat.reduceEqDiff, reduceIte, Nat.reduceAdd, Bool.not_true, Bool.not_false, true_and, and_true, List.nil_append, List.cons_append, List.drop_zero, List.drop_succ_cons, List.drop_nil, List.take_succ_cons, List.take_zero, List.take_nil, List.getElem?_cons_zero, List.getElem?_cons_succ, List.getElem?_nil, List.length_cons, List.length_nil, Bool.false_eq_true, List.set_cons_zero, List.set_cons_succ, AV.cells, AV.isTuple, setMany, alen, aiaddr, afill, Nat.reduceLeDiff, Nat.reduceMul, Nat.zero_add, Option.getD_some, Option.getD_none, Int.toNat_natCast, Int.natCast_nonneg, List.append_assoc, List.length_append, and_self, Nat.reduceLT, afillE, List.replicate, rows_length]
  refine withGuard_intro ?_ ?_ <;> intro h <;> simp only [walk, rgets, retv, argsEnv, ev, cst, cst1, cstL, AEnv.get, AEnv.trim, envput, qstep, abin, aun, evs, evo, deref, qload, target, if_true, if_false, Nat.reduceEqDiff, reduceIte, Nat.reduceAdd, Bool.not_true, Bool.not_false, true_and, and_true, List.nil_append, List.cons_append, List.drop_zero, List.drop_succ_cons, List.drop_nil, List.take_succ_cons, List.take_zero, List.take_nil, List.getElem?_cons_zero, List.getElem?_cons_succ, List.getElem?_nil, List.length_cons, List.length_nil, Bool.false_eq_true, List.set_cons_zero, List.set_cons_succ, AV.cells, AV.isTuple, setMany, alen, aiaddr, afill, Nat.reduceLeDiff, Nat.reduceMul, Nat.zero_add, Option.getD_some, Option.getD_none, Int.toNat_natCast, Int.natCast_nonneg, List.append_assoc, List.length_append, and_self, Nat.reduceLT, afillE, List.replicate, h, rows_length]
  · have hn : n = n' := by simpa using h
    refine withBool_intro ?_ ?_ <;> intro h2 <;> simp only [walk, rgets, retv, argsEnv, ev, cst, cst1, cstL, AEnv.get, AEnv.trim, envput, qstep, abin, aun, evs, evo, deref, qload, target, if_true, if_false, Nat.reduceEqDiff, reduceIte, Nat.reduceAdd, Bool.not_true, Bool.not_false, true_and, and_true, List.nil_append, List.cons_append, List.drop_zero, List.drop_succ_cons, List.drop_nil, List.take_succ_cons, List.take_zero, List.take_nil, List.getElem?_cons_zero, List.getElem?_cons_succ, List.getElem?_nil, List.length_cons, List.length_nil, Bool.false_eq_true, List.set_cons_zero, List.set_cons_succ, AV.cells, AV.isTuple, setMany, alen, aiaddr, afill, Nat.reduceLeDiff, Nat.reduceMul, Nat.zero_add, Option.getD_some, Option.getD_none, Int.toNat_natCast, Int.natCast_nonneg, List.append_assoc, List.length_append, and_self, Nat.reduceLT, afillE, List.replicate]
    · have e : sameNets n ds n' ds' = false := by
        have : ds ≠ ds' := by intro e; subst e; simp at h2
        simp [sameNets, this]
      rw [e]; exact out_bool
    · have hll : ds.length = ds'.length := by simp at h2; omega
      refine awp_loop (σ := Nat) (fun k => [(2, .ptr 0 1 0 0), (3, .ptr 1 1 0 0), (5, I k)]) (fun _ H => ∃ X, H = some ⟨24, 2, [[I n, .ro false (rows ds)]]⟩ :: some ⟨24, 2, [[I n', .ro false (rows ds')]]⟩ :: X) (fun k => k ≤ ds.length ∧ ds.take k = ds'.take k) (fun k => ds.length - k) 0 ⟨Nat.zero_le _, rfl⟩ rfl ⟨[], rfl⟩ ?_
      rintro k H ⟨hk, hall⟩ ⟨X, rfl⟩
      simp only [walk, rgets, retv, argsEnv, ev, cst, cst1, cstL, AEnv.get, AEnv.trim, envput, qstep, abin, aun, evs, evo, deref, qload, target, if_true, if_false, Nat.reduceEqDiff, reduceIte, Nat.reduceAdd, Bool.not_true, Bool.not_false, true_and, and_true, List.nil_append, List.cons_append, List.drop_zero, List.drop_succ_cons, List.drop_nil, List.take_succ_cons, List.take_zero, List.take_nil, List.getElem?_cons_zero, List.getElem?_cons_succ, List.getElem?_nil, List.length_cons, List.length_nil, Bool.false_eq_true, List.set_cons_zero, List.set_cons_succ, AV.cells, AV.isTuple, setMany, alen, aiaddr, afill, Nat.reduceLeDiff, Nat.reduceMul, Nat.zero_add, Option.getD_some, Option.getD_none, Int.toNat_natCast, Int.natCast_nonneg, List.append_assoc, List.length_append, and_self, Nat.reduceLT, afillE, List.replicate, rows_length]
      refine withBool_intro ?_ ?_ <;> intro hb <;> simp only [walk, rgets, retv, argsEnv, ev, cst, cst1, cstL, AEnv.get, AEnv.trim, envput, qstep, abin, aun, evs, evo, deref, qload, target, if_true, if_false, Nat.reduceEqDiff, reduceIte, Nat.reduceAdd, Bool.not_true, Bool.not_false, true_and, and_true, List.nil_append, List.cons_append, List.drop_zero, List.drop_succ_cons, List.drop_nil, List.take_succ_cons, List.take_zero, List.take_nil, List.getElem?_cons_zero, List.getElem?_cons_succ, List.getElem?_nil, List.length_cons, List.length_nil, Bool.false_eq_true, List.set_cons_zero, List.set_cons_succ, AV.cells, AV.isTuple, setMany, alen, aiaddr, afill, Nat.reduceLeDiff, Nat.reduceMul, Nat.zero_add, Option.getD_some, Option.getD_none, Int.toNat_natCast, Int.natCast_nonneg, List.append_assoc, List.length_append, and_self, Nat.reduceLT, afillE, List.replicate]
      · have hlt : k < ds.length := by simpa using hb
        simp only [walk, rgets, retv, argsEnv, ev, cst, cst1, cstL, AEnv.get, AEnv.trim, envput, qstep, abin, aun, evs, evo, deref, qload, target, if_true, if_false, Nat.reduceEqDiff, reduceIte, Nat.reduceAdd, Bool.not_true, Bool.not_false, true_and, and_true, List.nil_append, List.cons_append, List.drop_zero, List.drop_succ_cons, List.drop_nil, List.take_succ_cons, List.take_zero, List.take_nil, List.getElem?_cons_zero, List.getElem?_cons_succ, List.getElem?_nil, List.length_cons, List.length_nil, Bool.false_eq_true, List.set_cons_zero, List.set_cons_succ, AV.cells, AV.isTuple, setMany, alen, aiaddr, afill, Nat.reduceLeDiff, Nat.reduceMul, Nat.zero_add, Option.getD_some, Option.getD_none, Int.toNat_natCast, Int.natCast_nonneg, List.append_assoc, List.length_append, and_self, Nat.reduceLT, afillE, List.replicate, rows_get hlt, rows_get (show k < ds'.length by omega), aeqO]
        have key : (ds[k].1 == ds'[k].1 && (ds[k].2.1 == ds'[k].2.1 && (ds[k].2.2 == ds'[k].2.2 && true))) = decide (ds[k] = ds'[k]) := by
          rw [Bool.eq_iff_iff]
          simp [Prod.ext_iff]
        rw [key]
        refine withBool_intro ?_ ?_ <;> intro hr <;> simp only [walk, rgets, retv, argsEnv, ev, cst, cst1, cstL, AEnv.get, AEnv.trim, envput, qstep, abin, aun, evs, evo, deref, qload, target, if_true, if_false, Nat.reduceEqDiff, reduceIte, Nat.reduceAdd, Bool.not_true, Bool.not_false, true_and, and_true, List.nil_append, List.cons_append, List.drop_zero, List.drop_succ_cons, List.drop_nil, List.take_succ_cons, List.take_zero, List.take_nil, List.getElem?_cons_zero, List.getElem?_cons_succ, List.getElem?_nil, List.length_cons, List.length_nil, Bool.false_eq_true, List.set_cons_zero, List.set_cons_succ, AV.cells, AV.isTuple, setMany, alen, aiaddr, afill, Nat.reduceLeDiff, Nat.reduceMul, Nat.zero_add, Option.getD_some, Option.getD_none, Int.toNat_natCast, Int.natCast_nonneg, List.append_assoc, List.length_append, and_self, Nat.reduceLT, afillE, List.replicate]
        · have e : sameNets n ds n' ds' = false := by
            have : ds ≠ ds' := by intro e; subst e; simp at hr
            simp [sameNets, this]
          rw [e]; exact out_bool
        · rw [wrap_id (by omega) (by omega)]
          refine loop_end (k + 1) ⟨hlt, ?_⟩ (by omega) rfl ⟨_, rfl⟩
          have : ds[k] = ds'[k] := by simpa using hr
          rw [List.take_succ_eq_append_getElem hlt, List.take_succ_eq_append_getElem (show k < ds'.length by omega), hall, this]
      · have hk' : k = ds.length := by simp at hb; omega
        subst hk'
        rw [List.take_length, hll, List.take_length] at hall
        have e : sameNets n ds n' ds' = true := by simp [sameNets, hn, hall]
        rw [e]; exact out_bool
  · have e : sameNets n ds n' ds' = false := by
      simp at h; simp [sameNets, h]
    rw [e]; exact out_bool
end Go.Proofs.Ytepnijjgdhldeaa
