/- Lists of differences: are they indices, are they walks. -/
import Derived.Test.YtepnijjgdhldeaaQD13
import Derived.Test.YtepnijjgdhldeaaQG6
namespace Go.Proofs.Ytepnijjgdhldeaa
open Go.Awp
set_option linter.unusedSimpArgs false
set_option linter.unusedVariables false
set_option maxRecDepth 10000
set_option maxHeartbeats 4000000
def dd (ds : List Df) (k : Int) : Df := ds.getD k.toNat (0, 0, 0)
def isIdx (ds : List Df) (k : Int) : Bool := decide (0 ≤ k) && decide (k < ds.length)
def idx (ds : List Df) (l : List Int) : Bool := l.all (isIdx ds)
theorem dd_get {ds : List Df} {k : Int} (h : isIdx ds k = true) : 0 ≤ k ∧ k < ds.length ∧ (rows ds)[k.toNat]? = some [I (dd ds k).1, I (dd ds k).2.1, I (dd ds k).2.2] ∧ dd ds k ∈ ds := by
  simp [isIdx] at h
  have hk : k.toNat < ds.length := by omega
  have e : dd ds k = ds[k.toNat] := by simp [dd, hk]
  exact ⟨h.1, h.2, by rw [rows_get hk, e], by rw [e]; exact List.getElem_mem hk⟩
theorem idx1_ok {n : Int} {ds : List Df} (hd : ds.length ≤ big) (x : Int) : PCall Try.prog 111 [I x, .rop [I n, .ro false (rows ds)]] (.bool (!isIdx ds x)) := by
  unfold big at hd
  refine PCall.intro text111 (by simp) ?_
  unfold ir111
  simp only [walkS, wl, rgets, retv, argsEnv, ev, cst, cst1, cstL, AEnv.get, AEnv.trim, envput, qstep, abin, aun, evs, evo, deref, qload, target, if_true, if_false, Nat.reduceEqDiff, reduceIte, Nat.reduceAdd, AV.cells, AV.isTuple, setMany, alen, aiaddr, afill, Nat.reduceLeDiff, Nat.reduceMul, Nat.reduceLT, afillE, List.replicate, rows_length]
  rw [wrap_id (by omega) (by omega)]
  refine call_pure (in_ok x 0 (ds.length - 1)) (frzL_of' (d := 4) rfl) ?_
  simp only [walkS, wl, rgets, retv, argsEnv, ev, cst, cst1, cstL, AEnv.get, AEnv.trim, envput, qstep, abin, aun, evs, evo, deref, qload, target, if_true, if_false, Nat.reduceEqDiff, reduceIte, Nat.reduceAdd, AV.cells, AV.isTuple, setMany, alen, aiaddr, afill, Nat.reduceLeDiff, Nat.reduceMul, Nat.reduceLT, afillE, List.replicate]
  have e : (decide (0 ≤ x) && decide (x ≤ (ds.length : Int) - 1)) = isIdx ds x := by
    rw [Bool.eq_iff_iff]; simp [isIdx]; omega
  rw [e]; exact out_bool
theorem indices_ok {n : Int} {ds : List Df} {l : List Int} (hd : ds.length ≤ big) (hl : l.length ≤ big) : PCall Try.prog 81 [.agg [I n, .ro false (rows ds)], .ro false (ic l)] (.bool (idx ds l)) := by
  refine PCall.intro text81 (by simp) ?_
  unfold ir81
  simp only [walkS, wl, rgets, retv, argsEnv, ev, cst, cst1, cstL, AEnv.get, AEnv.trim, envput, qstep, abin, aun, evs, evo, deref, qload, target, if_true, if_false, Nat.reduceEqDiff, reduceIte, Nat.reduceAdd, AV.cells, AV.isTuple, setMany, alen, aiaddr, afill, Nat.reduceLeDiff, Nat.reduceMul, Nat.reduceLT, afillE, List.replicate]
  refine call_pure (contains52 (p := fun x => !isIdx ds x) (caps := [.rop [I n, .ro false (rows ds)]]) rfl (fun _ => carL_cons (car_ropF (carL_cons rfl (carL_cons (car_rowsF (d := 1)) rfl))) rfl) (fun x => idx1_ok hd x) hl) (frzL_of' (d := 5) (carL_cons car_icF (carL_cons (car_func (carL_cons (car_ptr (d := 3) rfl (carL_cons rfl (carL_cons (car_rowsF (d := 1)) rfl))) rfl)) rfl))) ?_
  simp only [walkS, wl, rgets, retv, argsEnv, ev, cst, cst1, cstL, AEnv.get, AEnv.trim, envput, qstep, abin, aun, evs, evo, deref, qload, target, if_true, if_false, Nat.reduceEqDiff, reduceIte, Nat.reduceAdd, AV.cells, AV.isTuple, setMany, alen, aiaddr, afill, Nat.reduceLeDiff, Nat.reduceMul, Nat.reduceLT, afillE, List.replicate]
  have e : (!l.any fun x => !isIdx ds x) = idx ds l := by
    unfold idx
    induction l with
    | nil => rfl
    | cons a r ih =>
      simp only [List.any_cons, List.all_cons, Bool.not_or, Bool.not_not]
      rw [ih (by simp at hl; omega)]
  rw [e]; exact out_bool
theorem refindices_ok {n : Int} {ds : List Df} {l : List Int} (hl : l.length ≤ big) : PCall Try.prog 83 [.agg [I n, .ro false (rows ds)], .ro false (ic l)] (.bool (idx ds l)) := by
  unfold big at hl
  refine PCall.intro text83 (by simp) ?_
  unfold ir83
  simp only [walkS, wl, rgets, retv, argsEnv, ev, cst, cst1, cstL, AEnv.get, AEnv.trim, envput, qstep, abin, aun, evs, evo, deref, qload, target, if_true, if_false, Nat.reduceEqDiff, reduceIte, Nat.reduceAdd, AV.cells, AV.isTuple, setMany, alen, aiaddr, afill, Nat.reduceLeDiff, Nat.reduceMul, Nat.reduceLT, afillE, List.replicate]
  refine awp_loop (σ := Nat) (fun k => [(1, .ro false (ic l)), (2, .ptr 0 1 0 0), (5, I k)]) (fun _ H => ∃ X, H = some ⟨24, 2, [[I n, .ro false (rows ds)]]⟩ :: X) (fun k => k ≤ l.length ∧ (l.take k).all (isIdx ds) = true) (fun k => l.length - k) 0 ⟨Nat.zero_le _, rfl⟩ rfl ⟨_, rfl⟩ ?_
  rintro k H ⟨hk, hall⟩ ⟨X, rfl⟩
  simp only [walkS, wl, rgets, retv, argsEnv, ev, cst, cst1, cstL, AEnv.get, AEnv.trim, envput, qstep, abin, aun, evs, evo, deref, qload, target, if_true, if_false, Nat.reduceEqDiff, reduceIte, Nat.reduceAdd, AV.cells, AV.isTuple, setMany, alen, aiaddr, afill, Nat.reduceLeDiff, Nat.reduceMul, Nat.reduceLT, afillE, List.replicate, ic_length]
  refine withBool_intro ?_ ?_ <;> intro hb <;> simp only [walkS, wl, rgets, retv, argsEnv, ev, cst, cst1, cstL, AEnv.get, AEnv.trim, envput, qstep, abin, aun, evs, evo, deref, qload, target, if_true, if_false, Nat.reduceEqDiff, reduceIte, Nat.reduceAdd, AV.cells, AV.isTuple, setMany, alen, aiaddr, afill, Nat.reduceLeDiff, Nat.reduceMul, Nat.reduceLT, afillE, List.replicate]
  · have hlt : k < l.length := by simpa using hb
    simp only [walkS, wl, rgets, retv, argsEnv, ev, cst, cst1, cstL, AEnv.get, AEnv.trim, envput, qstep, abin, aun, evs, evo, deref, qload, target, if_true, if_false, Nat.reduceEqDiff, reduceIte, Nat.reduceAdd, AV.cells, AV.isTuple, setMany, alen, aiaddr, afill, Nat.reduceLeDiff, Nat.reduceMul, Nat.reduceLT, afillE, List.replicate, ic_get hlt, rows_length]
    have no : isIdx ds l[k] = false → idx ds l = false := fun h => by
      cases hi : idx ds l with
      | false => rfl
      | true =>
        have := List.all_eq_true.1 hi _ (List.getElem_mem hlt)
        rw [h] at this; cases this
    refine withGuard_intro ?_ ?_ <;> intro h4 <;> simp only [walkS, wl, rgets, retv, argsEnv, ev, cst, cst1, cstL, AEnv.get, AEnv.trim, envput, qstep, abin, aun, evs, evo, deref, qload, target, if_true, if_false, Nat.reduceEqDiff, reduceIte, Nat.reduceAdd, AV.cells, AV.isTuple, setMany, alen, aiaddr, afill, Nat.reduceLeDiff, Nat.reduceMul, Nat.reduceLT, afillE, List.replicate, h4, ic_get hlt, rows_length]
    · refine withBool_intro ?_ ?_ <;> intro h5 <;> simp only [walkS, wl, rgets, retv, argsEnv, ev, cst, cst1, cstL, AEnv.get, AEnv.trim, envput, qstep, abin, aun, evs, evo, deref, qload, target, if_true, if_false, Nat.reduceEqDiff, reduceIte, Nat.reduceAdd, AV.cells, AV.isTuple, setMany, alen, aiaddr, afill, Nat.reduceLeDiff, Nat.reduceMul, Nat.reduceLT, afillE, List.replicate]
      · rw [no (by simp at h4 h5; simp [isIdx]; omega)]; exact out_bool
      · rw [wrap_id (by omega) (by omega)]
        exact loop_end (k + 1) ⟨hlt, all_take hall hlt (by simp at h4 h5; simp [isIdx]; omega)⟩ (by omega) rfl ⟨_, rfl⟩
    · rw [no (by simp at h4; simp [isIdx]; omega)]; exact out_bool
  · have hk' : k = l.length := by simp at hb; omega
    subst hk'
    rw [List.take_length] at hall
    rw [show idx ds l = true from hall]; exact out_bool
/-- A walk along a list, as both programs reckon it: the sum, and where it ends. -/
def wk (ds : List Df) : Int → Int → List Int → Option (Int × Int)
  | s, at', [] => some (s, at')
  | s, at', k :: r => if (dd ds k).1 = at' then wk ds (IntKind.i64.wrap (s + (dd ds k).2.2)) (dd ds k).2.1 r else none
def wkV (ds : List Df) (f t : Int) (l : List Int) : Int × Bool := match wk ds 0 f l with
  | some (s, a) => (s, a == t)
  | none => (0, false)
theorem wk_step {ds : List Df} {s a : Int} {l : List Int} {k : Nat} (h : k < l.length) : wk ds s a (l.drop k) = if (dd ds l[k]).1 = a then wk ds (IntKind.i64.wrap (s + (dd ds l[k]).2.2)) (dd ds l[k]).2.1 (l.drop (k + 1)) else none := by
  rw [List.drop_eq_getElem_cons h]; rfl
theorem walk_ok {n : Int} {ds : List Df} {l : List Int} {f t : Int} {b : Bool} (hl : l.length ≤ big) (hi : idx ds l = true) : PCall Try.prog 82 [.agg [I n, .ro false (rows ds)], I f, I t, .ro b (ic l)] (.tuple [I (wkV ds f t l).1, .bool (wkV ds f t l).2]) := by
  unfold big at hl
  refine PCall.intro text82 (by simp) ?_
  unfold ir82
  simp only [walkS, wl, rgets, retv, argsEnv, ev, cst, cst1, cstL, AEnv.get, AEnv.trim, envput, qstep, abin, aun, evs, evo, deref, qload, target, if_true, if_false, Nat.reduceEqDiff, reduceIte, Nat.reduceAdd, AV.cells, AV.isTuple, setMany, alen, aiaddr, afill, Nat.reduceLeDiff, Nat.reduceMul, Nat.reduceLT, afillE, List.replicate, ic_length]
  refine awp_loop (σ := Nat × Int × Int) (fun s => [(1, I s.2.2), (2, I t), (4, .ptr 0 1 0 0), (10, I s.2.1), (14, .ro b (ic l)), (15, I l.length), (16, I s.1)]) (fun _ H => ∃ X, H = some ⟨24, 2, [[I n, .ro false (rows ds)]]⟩ :: X) (fun s => s.1 ≤ l.length ∧ wk ds 0 f l = wk ds s.2.1 s.2.2 (l.drop s.1)) (fun s => l.length - s.1) (0, 0, f) ⟨Nat.zero_le _, rfl⟩ rfl ⟨_, rfl⟩ ?_
  rintro ⟨k, s, a⟩ H ⟨hk, hw⟩ ⟨X, rfl⟩
  simp only at hk hw
  simp only [walkS, wl, rgets, retv, argsEnv, ev, cst, cst1, cstL, AEnv.get, AEnv.trim, envput, qstep, abin, aun, evs, evo, deref, qload, target, if_true, if_false, Nat.reduceEqDiff, reduceIte, Nat.reduceAdd, AV.cells, AV.isTuple, setMany, alen, aiaddr, afill, Nat.reduceLeDiff, Nat.reduceMul, Nat.reduceLT, afillE, List.replicate]
  refine withBool_intro ?_ ?_ <;> intro hb <;> simp only [walkS, wl, rgets, retv, argsEnv, ev, cst, cst1, cstL, AEnv.get, AEnv.trim, envput, qstep, abin, aun, evs, evo, deref, qload, target, if_true, if_false, Nat.reduceEqDiff, reduceIte, Nat.reduceAdd, AV.cells, AV.isTuple, setMany, alen, aiaddr, afill, Nat.reduceLeDiff, Nat.reduceMul, Nat.reduceLT, afillE, List.replicate]
  · have hlt : k < l.length := by simpa using hb
    have hix := List.all_eq_true.1 hi _ (List.getElem_mem hlt)
    obtain ⟨i1, i2, i3, _⟩ := dd_get hix
    rw [wk_step hlt] at hw
    simp only [walkS, wl, rgets, retv, argsEnv, ev, cst, cst1, cstL, AEnv.get, AEnv.trim, envput, qstep, abin, aun, evs, evo, deref, qload, target, if_true, if_false, Nat.reduceEqDiff, reduceIte, Nat.reduceAdd, AV.cells, AV.isTuple, setMany, alen, aiaddr, afill, Nat.reduceLeDiff, Nat.reduceMul, Nat.reduceLT, afillE, List.replicate, ic_get hlt, ic_length, rows_length, if_pos i1, i3, sstep_store]
    refine withBool_intro ?_ ?_ <;> intro hr <;> simp only [walkS, wl, rgets, retv, argsEnv, ev, cst, cst1, cstL, AEnv.get, AEnv.trim, envput, qstep, abin, aun, evs, evo, deref, qload, target, if_true, if_false, Nat.reduceEqDiff, reduceIte, Nat.reduceAdd, AV.cells, AV.isTuple, setMany, alen, aiaddr, afill, Nat.reduceLeDiff, Nat.reduceMul, Nat.reduceLT, afillE, List.replicate]
    · have : (dd ds l[k]).1 ≠ a := by simpa using hr
      rw [if_neg this] at hw
      have e : wkV ds f t l = (0, false) := by unfold wkV; rw [hw]
      rw [e]; exact out_two out_int out_bool
    · have : (dd ds l[k]).1 = a := by simpa using hr
      rw [if_pos this] at hw
      rw [wrap_id (x := (k : Int) + 1) (by omega) (by omega)]
      exact loop_end (k + 1, _, _) ⟨hlt, hw⟩ (by simp only; omega) rfl ⟨_, rfl⟩
  · have hk' : k = l.length := by simp at hb; omega
    subst hk'
    rw [List.drop_length] at hw
    have e : wkV ds f t l = (s, a == t) := by unfold wkV; rw [hw]; rfl
    rw [e]; exact out_two out_int out_bool
theorem refwalk_ok {n : Int} {ds : List Df} {l : List Int} {f t : Int} {b : Bool} (hl : l.length ≤ big) (hi : idx ds l = true) : PCall Try.prog 84 [.agg [I n, .ro false (rows ds)], I f, I t, .ro b (ic l)] (.tuple [I (wkV ds f t l).1, .bool (wkV ds f t l).2]) := by
  unfold big at hl
  refine PCall.intro text84 (by simp) ?_
  unfold ir84
  simp only [walkS, wl, rgets, retv, argsEnv, ev, cst, cst1, cstL, AEnv.get, AEnv.trim, envput, qstep, abin, aun, evs, evo, deref, qload, target, if_true, if_false, Nat.reduceEqDiff, reduceIte, Nat.reduceAdd, AV.cells, AV.isTuple, setMany, alen, aiaddr, afill, Nat.reduceLeDiff, Nat.reduceMul, Nat.reduceLT, afillE, List.replicate, ic_length]
  refine awp_loop (σ := Nat × Int × Int) (fun s => [(2, I t), (3, .ro b (ic l)), (4, .ptr 0 1 0 0), (10, I s.2.2), (11, I s.2.1), (12, I s.1)]) (fun _ H => ∃ X, H = some ⟨24, 2, [[I n, .ro false (rows ds)]]⟩ :: X) (fun s => s.1 ≤ l.length ∧ wk ds 0 f l = wk ds s.2.1 s.2.2 (l.drop s.1)) (fun s => l.length - s.1) (0, 0, f) ⟨Nat.zero_le _, rfl⟩ rfl ⟨_, rfl⟩ ?_
  rintro ⟨k, s, a⟩ H ⟨hk, hw⟩ ⟨X, rfl⟩
  simp only at hk hw
  simp only [walkS, wl, rgets, retv, argsEnv, ev, cst, cst1, cstL, AEnv.get, AEnv.trim, envput, qstep, abin, aun, evs, evo, deref, qload, target, if_true, if_false, Nat.reduceEqDiff, reduceIte, Nat.reduceAdd, AV.cells, AV.isTuple, setMany, alen, aiaddr, afill, Nat.reduceLeDiff, Nat.reduceMul, Nat.reduceLT, afillE, List.replicate, ic_length]
  refine withBool_intro ?_ ?_ <;> intro hb <;> simp only [walkS, wl, rgets, retv, argsEnv, ev, cst, cst1, cstL, AEnv.get, AEnv.trim, envput, qstep, abin, aun, evs, evo, deref, qload, target, if_true, if_false, Nat.reduceEqDiff, reduceIte, Nat.reduceAdd, AV.cells, AV.isTuple, setMany, alen, aiaddr, afill, Nat.reduceLeDiff, Nat.reduceMul, Nat.reduceLT, afillE, List.replicate]
  · have hlt : k < l.length := by simpa using hb
    have hix := List.all_eq_true.1 hi _ (List.getElem_mem hlt)
    obtain ⟨i1, i2, i3, _⟩ := dd_get hix
    rw [wk_step hlt] at hw
    simp only [walkS, wl, rgets, retv, argsEnv, ev, cst, cst1, cstL, AEnv.get, AEnv.trim, envput, qstep, abin, aun, evs, evo, deref, qload, target, if_true, if_false, Nat.reduceEqDiff, reduceIte, Nat.reduceAdd, AV.cells, AV.isTuple, setMany, alen, aiaddr, afill, Nat.reduceLeDiff, Nat.reduceMul, Nat.reduceLT, afillE, List.replicate, ic_get hlt, ic_length, rows_length, if_pos i1, i3, sstep_store]
    refine withBool_intro ?_ ?_ <;> intro hr <;> simp only [walkS, wl, rgets, retv, argsEnv, ev, cst, cst1, cstL, AEnv.get, AEnv.trim, envput, qstep, abin, aun, evs, evo, deref, qload, target, if_true, if_false, Nat.reduceEqDiff, reduceIte, Nat.reduceAdd, AV.cells, AV.isTuple, setMany, alen, aiaddr, afill, Nat.reduceLeDiff, Nat.reduceMul, Nat.reduceLT, afillE, List.replicate]
    · have : (dd ds l[k]).1 ≠ a := by simpa using hr
      rw [if_neg this] at hw
      have e : wkV ds f t l = (0, false) := by unfold wkV; rw [hw]
      rw [e]; exact out_two out_int out_bool
    · have : (dd ds l[k]).1 = a := by simpa using hr
      rw [if_pos this] at hw
      rw [wrap_id (x := (k : Int) + 1) (by omega) (by omega)]
      exact loop_end (k + 1, _, _) ⟨hlt, hw⟩ (by simp only; omega) rfl ⟨_, rfl⟩
  · have hk' : k = l.length := by simp at hb; omega
    subst hk'
    rw [List.drop_length] at hw
    have e : wkV ds f t l = (s, a == t) := by unfold wkV; rw [hw]; rfl
    rw [e]; exact out_two out_int out_bool
end Go.Proofs.Ytepnijjgdhldeaa
