/- A text of the proof of a law about the given program: contracts of its functions, as walked. -/
import Derived.Test.YtepnijjgdhldeaaC6
namespace Go.Proofs.Ytepnijjgdhldeaa
open Go.Awp
set_option linter.unusedSimpArgs false
set_option linter.unusedVariables false
set_option maxRecDepth 10000
def at0 (xs : List Int) (i : Int) : Int := xs.getD i.toNat 0
theorem at_get {xs : List Int} {i : Int} (h0 : 0 ≤ i) (h : i < xs.length) : (ic xs)[i.toNat]? = some [I (at0 xs i)] := by
  have hk : i.toNat < xs.length := by omega
  rw [ic_get hk]
  simp [at0, hk]
theorem far_le {x : Int} (h : far x = false) : -1099511627776 ≤ x ∧ x ≤ 1099511627776 := by
  simp [far] at h; exact h
theorem at_far {xs : List Int} {i : Int} (h : ∀ x, x ∈ xs → far x = false) : -1099511627776 ≤ at0 xs i ∧ at0 xs i ≤ 1099511627776 := by
  unfold at0
  rcases Nat.lt_or_ge i.toNat xs.length with hk | hk
  · have : xs.getD i.toNat 0 = xs[i.toNat] := by simp [hk]
    rw [this]; exact far_le (h _ (List.getElem_mem hk))
  · have : xs.getD i.toNat 0 = 0 := by simp [hk]
    rw [this]; omega
def over (xs : List Int) (d : Df) : Bool := decide (at0 xs d.2.1 - at0 xs d.1 > d.2.2)
theorem right_lt {d : Df} {n : Int} (h : right d n = true) : (0 ≤ d.1 ∧ d.1 < n) ∧ (0 ≤ d.2.1 ∧ d.2.1 < n) ∧ -1073741824 ≤ d.2.2 ∧ d.2.2 ≤ 1073741824 := by
  simp [right] at h; omega
theorem over_ok (d : Df) (xs : List Int) (hr : right d xs.length = true) (hf : ∀ x, x ∈ xs → far x = false) : PCall Try.prog 119 [.agg (dc d), .rop [.ro false (ic xs)]] (.bool (over xs d)) := by
  refine PCall.intro text119 (by simp) ?_
  unfold ir119
  obtain ⟨⟨a1, a2⟩, ⟨b1, b2⟩, _⟩ := right_lt hr
  have f1 := at_far (i := d.1) hf
  have f2 := at_far (i := d.2.1) hf
  simp only [walk, rgets, retv, argsEnv, ev, cst, cst1, cstL, AEnv.get, AEnv.trim, envput, qstep, abin, aun, evs, evo, deref, qload, target, if_true, if_false, Nat.reduceEqDiff, reduceIte, Nat.reduceAdd, Bool.not_true, Bool.not_false, true_and, and_true, List.nil_append, List.cons_append, List.drop_zero, List.drop_succ_cons, List.drop_nil, List.take_succ_cons, List.take_zero, List.take_nil, List.getElem?_cons_zero, List.getElem?_cons_succ, List.getElem?_nil, List.length_cons, List.length_nil, Bool.false_eq_true, List.set_cons_zero, List.set_cons_succ, AV.cells, AV.isTuple, setMany, alen, aiaddr, afill, Nat.reduceLeDiff, Nat.reduceMul, Nat.zero_add, Option.getD_some, Option.getD_none, Int.toNat_natCast, Int.natCast_nonneg, List.append_assoc, List.length_append, and_self, Nat.reduceLT, afillE, List.replicate, dc, if_pos a1, if_pos b1, at_get a1 a2, at_get b1 b2, wrap_id (show -9223372036854775808 ≤ at0 xs d.2.1 - at0 xs d.1 by omega) (by omega)]
  exact out_bool
def holds (ds : List Df) (xs : List Int) : Bool := decide (at0 xs 0 = 0) && !ds.any (over xs)
theorem holds_ok (n : Int) (ds : List Df) (xs : List Int) (hv : valid n ds = true) (hn : numbers n xs = true) : PCall Try.prog 97 [.agg [I n, .ro false (rows ds)], .ro false (ic xs)] (.bool (holds ds xs)) := by
  refine PCall.intro text97 (by simp) ?_
  unfold ir97
  obtain ⟨h1, h2, h3⟩ := valid_iff.1 hv
  have hn' := hn
  simp [numbers] at hn'
  obtain ⟨e1, e2⟩ := hn'
  have hf : ∀ x, x ∈ xs → far x = false := e2
  have hlen : (0 : Int) < xs.length := by omega
  have g0 := at_get (xs := xs) (i := 0) (by omega) hlen
  simp only [walk, rgets, retv, argsEnv, ev, cst, cst1, cstL, AEnv.get, AEnv.trim, envput, qstep, abin, aun, evs, evo, deref, qload, target, if_true, if_false, Nat.reduceEqDiff, reduceIte, Nat.reduceAdd, Bool.not_true, Bool.not_false, true_and, and_true, List.nil_append, List.cons_append, List.drop_zero, List.drop_succ_cons, List.drop_nil, List.take_succ_cons, List.take_zero, List.take_nil, List.getElem?_cons_zero, List.getElem?_cons_succ, List.getElem?_nil, List.length_cons, List.length_nil, Bool.false_eq_true, List.set_cons_zero, List.set_cons_succ, AV.cells, AV.isTuple, setMany, alen, aiaddr, afill, Nat.reduceLeDiff, Nat.reduceMul, Nat.zero_add, Option.getD_some, Option.getD_none, Int.toNat_natCast, Int.natCast_nonneg, List.append_assoc, List.length_append, and_self, Nat.reduceLT, afillE, List.replicate, Int.le_refl, g0]
  refine withGuard_intro ?_ ?_ <;> intro h <;> simp only [walk, rgets, retv, argsEnv, ev, cst, cst1, cstL, AEnv.get, AEnv.trim, envput, qstep, abin, aun, evs, evo, deref, qload, target, if_true, if_false, Nat.reduceEqDiff, reduceIte, Nat.reduceAdd, Bool.not_true, Bool.not_false, true_and, and_true, List.nil_append, List.cons_append, List.drop_zero, List.drop_succ_cons, List.drop_nil, List.take_succ_cons, List.take_zero, List.take_nil, List.getElem?_cons_zero, List.getElem?_cons_succ, List.getElem?_nil, List.length_cons, List.length_nil, Bool.false_eq_true, List.set_cons_zero, List.set_cons_succ, AV.cells, AV.isTuple, setMany, alen, aiaddr, afill, Nat.reduceLeDiff, Nat.reduceMul, Nat.zero_add, Option.getD_some, Option.getD_none, Int.toNat_natCast, Int.natCast_nonneg, List.append_assoc, List.length_append, and_self, Nat.reduceLT, afillE, List.replicate, h]
  · refine call_pure (contains118 (p := over xs) (caps := [.rop [.ro false (ic xs)]]) rfl (fun _ => carL_cons (car_ropF (carL_cons (car_icF (d := 1)) rfl)) rfl) (fun d hd => over_ok d xs (by rw [e1]; exact h3 d hd) hf) (by unfold big; omega)) (frzL_of' (d := 5) (carL_cons car_rowsF (carL_cons (car_func (carL_cons (car_ptr rfl (carL_cons car_icF rfl)) rfl)) rfl))) ?_
    simp only [walk, rgets, retv, argsEnv, ev, cst, cst1, cstL, AEnv.get, AEnv.trim, envput, qstep, abin, aun, evs, evo, deref, qload, target, if_true, if_false, Nat.reduceEqDiff, reduceIte, Nat.reduceAdd, Bool.not_true, Bool.not_false, true_and, and_true, List.nil_append, List.cons_append, List.drop_zero, List.drop_succ_cons, List.drop_nil, List.take_succ_cons, List.take_zero, List.take_nil, List.getElem?_cons_zero, List.getElem?_cons_succ, List.getElem?_nil, List.length_cons, List.length_nil, Bool.false_eq_true, List.set_cons_zero, List.set_cons_succ, AV.cells, AV.isTuple, setMany, alen, aiaddr, afill, Nat.reduceLeDiff, Nat.reduceMul, Nat.zero_add, Option.getD_some, Option.getD_none, Int.toNat_natCast, Int.natCast_nonneg, List.append_assoc, List.length_append, and_self, Nat.reduceLT, afillE, List.replicate]
    have e : holds ds xs = !ds.any (over xs) := by
      simp at h; simp [holds, h]
    rw [e]; exact out_bool
  · have e : holds ds xs = false := by
      simp at h; simp [holds, h]
    rw [e]; exact out_bool
/-- Holds, as the program answers. -/
def Holds (n : Int) (ds : List Df) (xs : List Int) : Bool × Int := if valid n ds then (if numbers n xs then (holds ds xs, 0) else (false, 1)) else (false, 40)
theorem Holds_ok (n : Int) (ds : List Df) (xs : List Int) (hl : xs.length ≤ big) : PCall Try.prog 51 [.agg [I n, .ro false (rows ds)], .ro false (ic xs)] (.tuple [.bool (Holds n ds xs).1, I (Holds n ds xs).2]) := by
  refine PCall.intro text51 (by simp) ?_
  unfold ir51
  simp only [walk, rgets, retv, argsEnv, ev, cst, cst1, cstL, AEnv.get, AEnv.trim, envput, qstep, abin, aun, evs, evo, deref, qload, target, if_true, if_false, Nat.reduceEqDiff, reduceIte, Nat.reduceAdd, Bool.not_true, Bool.not_false, true_and, and_true, List.nil_append, List.cons_append, List.drop_zero, List.drop_succ_cons, List.drop_nil, List.take_succ_cons, List.take_zero, List.take_nil, List.getElem?_cons_zero, List.getElem?_cons_succ, List.getElem?_nil, List.length_cons, List.length_nil, Bool.false_eq_true, List.set_cons_zero, List.set_cons_succ, AV.cells, AV.isTuple, setMany, alen, aiaddr, afill, Nat.reduceLeDiff, Nat.reduceMul, Nat.zero_add, Option.getD_some, Option.getD_none, Int.toNat_natCast, Int.natCast_nonneg, List.append_assoc, List.length_append, and_self, Nat.reduceLT, afillE, List.replicate]
  refine dcall_pure (numbers_ok n xs hl) (frzL_of (d := 4) (carL_cons rfl (carL_cons car_icF rfl))) ?_
  simp only [walk, rgets, retv, argsEnv, ev, cst, cst1, cstL, AEnv.get, AEnv.trim, envput, qstep, abin, aun, evs, evo, deref, qload, target, if_true, if_false, Nat.reduceEqDiff, reduceIte, Nat.reduceAdd, Bool.not_true, Bool.not_false, true_and, and_true, List.nil_append, List.cons_append, List.drop_zero, List.drop_succ_cons, List.drop_nil, List.take_succ_cons, List.take_zero, List.take_nil, List.getElem?_cons_zero, List.getElem?_cons_succ, List.getElem?_nil, List.length_cons, List.length_nil, Bool.false_eq_true, List.set_cons_zero, List.set_cons_succ, AV.cells, AV.isTuple, setMany, alen, aiaddr, afill, Nat.reduceLeDiff, Nat.reduceMul, Nat.zero_add, Option.getD_some, Option.getD_none, Int.toNat_natCast, Int.natCast_nonneg, List.append_assoc, List.length_append, and_self, Nat.reduceLT, afillE, List.replicate]
  refine call_pure (asked_ok n ds [numbers n xs] (by simp [big])) (frzL_of' (d := 4) (carL_cons car_netF (carL_cons (car_own (o := ⟨4, 1, [[.bool (numbers n xs)]]⟩) rfl (bc_simple [numbers n xs])) rfl))) ?_
  simp only [walk, rgets, retv, argsEnv, ev, cst, cst1, cstL, AEnv.get, AEnv.trim, envput, qstep, abin, aun, evs, evo, deref, qload, target, if_true, if_false, Nat.reduceEqDiff, reduceIte, Nat.reduceAdd, Bool.not_true, Bool.not_false, true_and, and_true, List.nil_append, List.cons_append, List.drop_zero, List.drop_succ_cons, List.drop_nil, List.take_succ_cons, List.take_zero, List.take_nil, List.getElem?_cons_zero, List.getElem?_cons_succ, List.getElem?_nil, List.length_cons, List.length_nil, Bool.false_eq_true, List.set_cons_zero, List.set_cons_succ, AV.cells, AV.isTuple, setMany, alen, aiaddr, afill, Nat.reduceLeDiff, Nat.reduceMul, Nat.zero_add, Option.getD_some, Option.getD_none, Int.toNat_natCast, Int.natCast_nonneg, List.append_assoc, List.length_append, and_self, Nat.reduceLT, afillE, List.replicate]
  refine withBool_intro ?_ ?_ <;> intro h <;> simp only [walk, rgets, retv, argsEnv, ev, cst, cst1, cstL, AEnv.get, AEnv.trim, envput, qstep, abin, aun, evs, evo, deref, qload, target, if_true, if_false, Nat.reduceEqDiff, reduceIte, Nat.reduceAdd, Bool.not_true, Bool.not_false, true_and, and_true, List.nil_append, List.cons_append, List.drop_zero, List.drop_succ_cons, List.drop_nil, List.take_succ_cons, List.take_zero, List.take_nil, List.getElem?_cons_zero, List.getElem?_cons_succ, List.getElem?_nil, List.length_cons, List.length_nil, Bool.false_eq_true, List.set_cons_zero, List.set_cons_succ, AV.cells, AV.isTuple, setMany, alen, aiaddr, afill, Nat.reduceLeDiff, Nat.reduceMul, Nat.zero_add, Option.getD_some, Option.getD_none, Int.toNat_natCast, Int.natCast_nonneg, List.append_assoc, List.length_append, and_self, Nat.reduceLT, afillE, List.replicate]
  · have e : Holds n ds xs = (false, asked n ds [numbers n xs]) := by
      simp [asked] at h
      unfold Holds asked
      split at h
      · split at h
        · simp at h
        · simp_all
      · simp_all
    rw [e]; exact out_two out_bool out_int
  · have hv : valid n ds = true ∧ numbers n xs = true := by
      simp [asked] at h
      split at h
      · split at h
        · simp_all
        · simp at h
      · simp at h
    refine call_pure (holds_ok n ds xs hv.1 hv.2) (frzL_of' (d := 4) (carL_cons car_netF (carL_cons car_icF rfl))) ?_
    simp only [walk, rgets, retv, argsEnv, ev, cst, cst1, cstL, AEnv.get, AEnv.trim, envput, qstep, abin, aun, evs, evo, deref, qload, target, if_true, if_false, Nat.reduceEqDiff, reduceIte, Nat.reduceAdd, Bool.not_true, Bool.not_false, true_and, and_true, List.nil_append, List.cons_append, List.drop_zero, List.drop_succ_cons, List.drop_nil, List.take_succ_cons, List.take_zero, List.take_nil, List.getElem?_cons_zero, List.getElem?_cons_succ, List.getElem?_nil, List.length_cons, List.length_nil, Bool.false_eq_true, List.set_cons_zero, List.set_cons_succ, AV.cells, AV.isTuple, setMany, alen, aiaddr, afill, Nat.reduceLeDiff, Nat.reduceMul, Nat.zero_add, Option.getD_some, Option.getD_none, Int.toNat_natCast, Int.natCast_nonneg, List.append_assoc, List.length_append, and_self, Nat.reduceLT, afillE, List.replicate]
    have e : Holds n ds xs = (holds ds xs, 0) := by simp [Holds, hv.1, hv.2]
    rw [e]; exact out_two out_bool out_int
theorem Numbers_ok (n : Int) (ds : List Df) (xs : List Int) (hl : xs.length ≤ big) : PCall Try.prog 87 [.agg [I n, .ro false (rows ds)], .ro false (ic xs)] (.bool (numbers n xs)) := by
  unfold big at hl
  refine PCall.intro text87 (by simp) ?_
  unfold ir87
  simp only [walk, rgets, retv, argsEnv, ev, cst, cst1, cstL, AEnv.get, AEnv.trim, envput, qstep, abin, aun, evs, evo, deref, qload, target, if_true, if_false, Nat.reduceEqDiff, reduceIte, Nat.reduceAdd, Bool.not_true, Bool.not_false, true_and, and_true, List.nil_append, List.cons_append, List.drop_zero, List.drop_succ_cons, List.drop_nil, List.take_succ_cons, List.take_zero, List.take_nil, List.getElem?_cons_zero, List.getElem?_cons_succ, List.getElem?_nil, List.length_cons, List.length_nil, Bool.false_eq_true, List.set_cons_zero, List.set_cons_succ, AV.cells, AV.isTuple, setMany, alen, aiaddr, afill, Nat.reduceLeDiff, Nat.reduceMul, Nat.zero_add, Option.getD_some, Option.getD_none, Int.toNat_natCast, Int.natCast_nonneg, List.append_assoc, List.length_append, and_self, Nat.reduceLT, afillE, List.replicate, ic_length]
  refine withBool_intro ?_ ?_ <;> intro h <;> simp only [walk, rgets, retv, argsEnv, ev, cst, cst1, cstL, AEnv.get, AEnv.trim, envput, qstep, abin, aun, evs, evo, deref, qload, target, if_true, if_false, Nat.reduceEqDiff, reduceIte, Nat.reduceAdd, Bool.not_true, Bool.not_false, true_and, and_true, List.nil_append, List.cons_append, List.drop_zero, List.drop_succ_cons, List.drop_nil, List.take_succ_cons, List.take_zero, List.take_nil, List.getElem?_cons_zero, List.getElem?_cons_succ, List.getElem?_nil, List.length_cons, List.length_nil, Bool.false_eq_true, List.set_cons_zero, List.set_cons_succ, AV.cells, AV.isTuple, setMany, alen, aiaddr, afill, Nat.reduceLeDiff, Nat.reduceMul, Nat.zero_add, Option.getD_some, Option.getD_none, Int.toNat_natCast, Int.natCast_nonneg, List.append_assoc, List.length_append, and_self, Nat.reduceLT, afillE, List.replicate]
  · have e : numbers n xs = false := by
      simp at h; simp [numbers, h]
    rw [e]; exact out_bool
  · have hn : (xs.length : Int) = n := by simpa using h
    refine awp_loop (σ := Nat) (fun k => [(1, .ro false (ic xs)), (5, I k)]) (fun _ _ => True) (fun k => k ≤ xs.length ∧ (xs.take k).all (fun x => !far x) = true) (fun k => xs.length - k) 0 ⟨Nat.zero_le _, rfl⟩ rfl trivial ?_
    rintro k H ⟨hk, hall⟩ -
    simp only [walk, rgets, retv, argsEnv, ev, cst, cst1, cstL, AEnv.get, AEnv.trim, envput, qstep, abin, aun, evs, evo, deref, qload, target, if_true, if_false, Nat.reduceEqDiff, reduceIte, Nat.reduceAdd, Bool.not_true, Bool.not_false, true_and, and_true, List.nil_append, List.cons_append, List.drop_zero, List.drop_succ_cons, List.drop_nil, List.take_succ_cons, List.take_zero, List.take_nil, List.getElem?_cons_zero, List.getElem?_cons_succ, List.getElem?_nil, List.length_cons, List.length_nil, Bool.false_eq_true, List.set_cons_zero, List.set_cons_succ, AV.cells, AV.isTuple, setMany, alen, aiaddr, afill, Nat.reduceLeDiff, Nat.reduceMul, Nat.zero_add, Option.getD_some, Option.getD_none, Int.toNat_natCast, Int.natCast_nonneg, List.append_assoc, List.length_append, and_self, Nat.reduceLT, afillE, List.replicate, ic_length]
    refine withBool_intro ?_ ?_ <;> intro hb <;> simp only [walk, rgets, retv, argsEnv, ev, cst, cst1, cstL, AEnv.get, AEnv.trim, envput, qstep, abin, aun, evs, evo, deref, qload, target, if_true, if_false, Nat.reduceEqDiff, reduceIte, Nat.reduceAdd, Bool.not_true, Bool.not_false, true_and, and_true, List.nil_append, List.cons_append, List.drop_zero, List.drop_succ_cons, List.drop_nil, List.take_succ_cons, List.take_zero, List.take_nil, List.getElem?_cons_zero, List.getElem?_cons_succ, List.getElem?_nil, List.length_cons, List.length_nil, Bool.false_eq_true, List.set_cons_zero, List.set_cons_succ, AV.cells, AV.isTuple, setMany, alen, aiaddr, afill, Nat.reduceLeDiff, Nat.reduceMul, Nat.zero_add, Option.getD_some, Option.getD_none, Int.toNat_natCast, Int.natCast_nonneg, List.append_assoc, List.length_append, and_self, Nat.reduceLT, afillE, List.replicate]
    · have hlt : k < xs.length := by simpa using hb
      have bad : far xs[k] = true → numbers n xs = false := by
        intro hf
        have : xs.any far = true := List.any_eq_true.2 ⟨_, List.getElem_mem hlt, hf⟩
        simp [numbers, this]
      simp only [walk, rgets, retv, argsEnv, ev, cst, cst1, cstL, AEnv.get, AEnv.trim, envput, qstep, abin, aun, evs, evo, deref, qload, target, if_true, if_false, Nat.reduceEqDiff, reduceIte, Nat.reduceAdd, Bool.not_true, Bool.not_false, true_and, and_true, List.nil_append, List.cons_append, List.drop_zero, List.drop_succ_cons, List.drop_nil, List.take_succ_cons, List.take_zero, List.take_nil, List.getElem?_cons_zero, List.getElem?_cons_succ, List.getElem?_nil, List.length_cons, List.length_nil, Bool.false_eq_true, List.set_cons_zero, List.set_cons_succ, AV.cells, AV.isTuple, setMany, alen, aiaddr, afill, Nat.reduceLeDiff, Nat.reduceMul, Nat.zero_add, Option.getD_some, Option.getD_none, Int.toNat_natCast, Int.natCast_nonneg, List.append_assoc, List.length_append, and_self, Nat.reduceLT, afillE, List.replicate, ic_get hlt]
      refine withGuard_intro ?_ ?_ <;> intro h1 <;> simp only [walk, rgets, retv, argsEnv, ev, cst, cst1, cstL, AEnv.get, AEnv.trim, envput, qstep, abin, aun, evs, evo, deref, qload, target, if_true, if_false, Nat.reduceEqDiff, reduceIte, Nat.reduceAdd, Bool.not_true, Bool.not_false, true_and, and_true, List.nil_append, List.cons_append, List.drop_zero, List.drop_succ_cons, List.drop_nil, List.take_succ_cons, List.take_zero, List.take_nil, List.getElem?_cons_zero, List.getElem?_cons_succ, List.getElem?_nil, List.length_cons, List.length_nil, Bool.false_eq_true, List.set_cons_zero, List.set_cons_succ, AV.cells, AV.isTuple, setMany, alen, aiaddr, afill, Nat.reduceLeDiff, Nat.reduceMul, Nat.zero_add, Option.getD_some, Option.getD_none, Int.toNat_natCast, Int.natCast_nonneg, List.append_assoc, List.length_append, and_self, Nat.reduceLT, afillE, List.replicate, h1, ic_get hlt]
      · refine withBool_intro ?_ ?_ <;> intro h2 <;> simp only [walk, rgets, retv, argsEnv, ev, cst, cst1, cstL, AEnv.get, AEnv.trim, envput, qstep, abin, aun, evs, evo, deref, qload, target, if_true, if_false, Nat.reduceEqDiff, reduceIte, Nat.reduceAdd, Bool.not_true, Bool.not_false, true_and, and_true, List.nil_append, List.cons_append, List.drop_zero, List.drop_succ_cons, List.drop_nil, List.take_succ_cons, List.take_zero, List.take_nil, List.getElem?_cons_zero, List.getElem?_cons_succ, List.getElem?_nil, List.length_cons, List.length_nil, Bool.false_eq_true, List.set_cons_zero, List.set_cons_succ, AV.cells, AV.isTuple, setMany, alen, aiaddr, afill, Nat.reduceLeDiff, Nat.reduceMul, Nat.zero_add, Option.getD_some, Option.getD_none, Int.toNat_natCast, Int.natCast_nonneg, List.append_assoc, List.length_append, and_self, Nat.reduceLT, afillE, List.replicate]
        · rw [bad (by simp at h2; simp only [far, Bool.not_eq_true', Bool.and_eq_false_iff, decide_eq_false_iff_not]; omega)]; exact out_bool
        · have hf : far xs[k] = false := by simp at h1 h2; simp [far]; omega
          rw [wrap_id (by omega) (by omega)]
          refine loop_end (k + 1) ⟨hlt, all_take hall hlt (by simp [hf])⟩ (by omega) rfl trivial
      · rw [bad (by simp at h1; simp [far]; omega)]; exact out_bool
    · have hk' : k = xs.length := by simp at hb; omega
      subst hk'
      rw [List.take_length] at hall
      have e : numbers n xs = true := by
        have : xs.any far = false := by
          rw [List.any_eq_false]; rw [List.all_eq_true] at hall
          intro x hx; have := hall x hx; simpa using this
        simp [numbers, hn, this]
      rw [e]; exact out_bool
end Go.Proofs.Ytepnijjgdhldeaa
