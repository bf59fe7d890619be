/- Texts of the proof of a law about the given program: contracts of its functions, as walked. -/
import Derived.Test.YtepnijjgdhldeaaQT1
import Derived.Test.YtepnijjgdhldeaaQT0
import Derived.Test.YtepnijjgdhldeaaA8
namespace Go.Proofs.Ytepnijjgdhldeaa
open Go.Awp
abbrev I (n : Int) : AV := .int .i64 n
theorem out_bool {H : AHeap} {b : Bool} : Out H (.bool b) (.bool b) := out_of (d := 1) rfl
theorem out_int {H : AHeap} {n : Int} : Out H (I n) (I n) := out_of (d := 1) rfl
theorem wrap_id {x : Int} (h1 : -9223372036854775808 ≤ x) (h2 : x ≤ 9223372036854775807) : IntKind.i64.wrap x = x := by
  simp only [IntKind.wrap, IntKind.signed, IntKind.bits]
  simp
  split <;> omega
set_option linter.unusedSimpArgs false
set_option linter.unusedVariables false
set_option maxRecDepth 10000
theorem in_ok (n lo hi : Int) : PCall Try.prog 75 [I n, I lo, I hi] (.bool (decide (lo ≤ n) && decide (n ≤ hi))) := by
  refine PCall.intro text75 (by simp) ?_
  unfold ir75
  simp only [walk, wl, rgets, retv, argsEnv, ev, cst, cst1, cstL, AEnv.get, AEnv.trim, envput, qstep, abin, aun, evs, evo, deref, qload, target, if_true, if_false, Nat.reduceEqDiff, reduceIte, Nat.reduceAdd, AV.cells, AV.isTuple, setMany, alen, aiaddr, afill, Nat.reduceLeDiff, Nat.reduceMul, Nat.reduceLT, afillE, List.replicate]
  refine withGuard_intro ?_ ?_ <;> intro h <;> simp only [walk, wl, rgets, retv, argsEnv, ev, cst, cst1, cstL, AEnv.get, AEnv.trim, envput, qstep, abin, aun, evs, evo, deref, qload, target, if_true, if_false, Nat.reduceEqDiff, reduceIte, Nat.reduceAdd, AV.cells, AV.isTuple, setMany, alen, aiaddr, afill, Nat.reduceLeDiff, Nat.reduceMul, Nat.reduceLT, afillE, List.replicate, h] <;> simp at h <;> simp [out_bool, h, Int.not_le.2]
theorem node_ok (n m : Int) : PCall Try.prog 88 [I n, I m] (.bool (decide (0 ≤ n) && decide (n < m))) := by
  refine PCall.intro text88 (by simp) ?_
  unfold ir88
  simp only [walk, wl, rgets, retv, argsEnv, ev, cst, cst1, cstL, AEnv.get, AEnv.trim, envput, qstep, abin, aun, evs, evo, deref, qload, target, if_true, if_false, Nat.reduceEqDiff, reduceIte, Nat.reduceAdd, AV.cells, AV.isTuple, setMany, alen, aiaddr, afill, Nat.reduceLeDiff, Nat.reduceMul, Nat.reduceLT, afillE, List.replicate]
  refine withGuard_intro ?_ ?_ <;> intro h <;> simp only [walk, wl, rgets, retv, argsEnv, ev, cst, cst1, cstL, AEnv.get, AEnv.trim, envput, qstep, abin, aun, evs, evo, deref, qload, target, if_true, if_false, Nat.reduceEqDiff, reduceIte, Nat.reduceAdd, AV.cells, AV.isTuple, setMany, alen, aiaddr, afill, Nat.reduceLeDiff, Nat.reduceMul, Nat.reduceLT, afillE, List.replicate, h] <;> simp at h <;> simp [out_bool, h, Int.not_le.2]
abbrev Df := Int × Int × Int
def dc (d : Df) : List AV := [I d.1, I d.2.1, I d.2.2]
def right (d : Df) (n : Int) : Bool := (decide (0 ≤ d.1) && decide (d.1 < n)) && ((decide (0 ≤ d.2.1) && decide (d.2.1 < n)) && (decide (-1073741824 ≤ d.2.2) && decide (d.2.2 ≤ 1073741824)))
theorem right_ok (d : Df) (n : Int) (h1 : 0 ≤ n) (h2 : n ≤ 256) : PCall Try.prog 76 [.agg (dc d), I n] (.bool (right d n)) := by
  refine PCall.intro text76 (by simp) ?_
  unfold ir76
  have hw : IntKind.i64.wrap (n - 1) = n - 1 := wrap_id (by omega) (by omega)
  simp only [walk, wl, rgets, retv, argsEnv, ev, cst, cst1, cstL, AEnv.get, AEnv.trim, envput, qstep, abin, aun, evs, evo, deref, qload, target, if_true, if_false, Nat.reduceEqDiff, reduceIte, Nat.reduceAdd, AV.cells, AV.isTuple, setMany, alen, aiaddr, afill, Nat.reduceLeDiff, Nat.reduceMul, Nat.reduceLT, afillE, List.replicate, dc]
  refine call_pure (in_ok _ _ _) (frzL_of' (d := 1) rfl) ?_
  simp only [walk, wl, rgets, retv, argsEnv, ev, cst, cst1, cstL, AEnv.get, AEnv.trim, envput, qstep, abin, aun, evs, evo, deref, qload, target, if_true, if_false, Nat.reduceEqDiff, reduceIte, Nat.reduceAdd, AV.cells, AV.isTuple, setMany, alen, aiaddr, afill, Nat.reduceLeDiff, Nat.reduceMul, Nat.reduceLT, afillE, List.replicate]
  refine withGuard_intro ?_ ?_ <;> intro h <;> simp only [walk, wl, rgets, retv, argsEnv, ev, cst, cst1, cstL, AEnv.get, AEnv.trim, envput, qstep, abin, aun, evs, evo, deref, qload, target, if_true, if_false, Nat.reduceEqDiff, reduceIte, Nat.reduceAdd, AV.cells, AV.isTuple, setMany, alen, aiaddr, afill, Nat.reduceLeDiff, Nat.reduceMul, Nat.reduceLT, afillE, List.replicate, h]
  · refine call_pure (in_ok _ _ _) (frzL_of' (d := 1) rfl) ?_
    simp only [walk, wl, rgets, retv, argsEnv, ev, cst, cst1, cstL, AEnv.get, AEnv.trim, envput, qstep, abin, aun, evs, evo, deref, qload, target, if_true, if_false, Nat.reduceEqDiff, reduceIte, Nat.reduceAdd, AV.cells, AV.isTuple, setMany, alen, aiaddr, afill, Nat.reduceLeDiff, Nat.reduceMul, Nat.reduceLT, afillE, List.replicate]
    refine withGuard_intro ?_ ?_ <;> intro h' <;> simp only [walk, wl, rgets, retv, argsEnv, ev, cst, cst1, cstL, AEnv.get, AEnv.trim, envput, qstep, abin, aun, evs, evo, deref, qload, target, if_true, if_false, Nat.reduceEqDiff, reduceIte, Nat.reduceAdd, AV.cells, AV.isTuple, setMany, alen, aiaddr, afill, Nat.reduceLeDiff, Nat.reduceMul, Nat.reduceLT, afillE, List.replicate, h']
    · refine call_pure (in_ok _ _ _) (frzL_of' (d := 1) rfl) ?_
      simp only [walk, wl, rgets, retv, argsEnv, ev, cst, cst1, cstL, AEnv.get, AEnv.trim, envput, qstep, abin, aun, evs, evo, deref, qload, target, if_true, if_false, Nat.reduceEqDiff, reduceIte, Nat.reduceAdd, AV.cells, AV.isTuple, setMany, alen, aiaddr, afill, Nat.reduceLeDiff, Nat.reduceMul, Nat.reduceLT, afillE, List.replicate]
      rw [hw] at h h'
      have e : right d n = (decide (-1073741824 ≤ d.2.2) && decide (d.2.2 ≤ 1073741824)) := by
        simp only [Bool.and_eq_true, decide_eq_true_eq] at h h'
        simp only [right, show decide (0 ≤ d.1) = true by simp; omega, show decide (d.1 < n) = true by simp; omega, show decide (0 ≤ d.2.1) = true by simp; omega, show decide (d.2.1 < n) = true by simp; omega, Bool.true_and]
      rw [e]; exact out_bool
    · rw [hw] at h h'
      have e : right d n = false := by
        simp [right]
        simp at h h'
        omega
      rw [e]; exact out_bool
  · rw [hw] at h
    have e : right d n = false := by
      simp [right]
      simp at h
      omega
    rw [e]; exact out_bool
end Go.Proofs.Ytepnijjgdhldeaa
namespace Go.Proofs.Ytepnijjgdhldeaa
open Go.Awp
set_option linter.unusedSimpArgs false
set_option linter.unusedVariables false
set_option maxRecDepth 10000
def rows (ds : List Df) : List (List AV) := ds.map dc
theorem rows_simple (ds : List Df) : Simple (rows ds) := by
  intro el hel x hx
  obtain ⟨d, _, rfl⟩ := List.mem_map.1 hel
  simp [dc] at hx
  rcases hx with rfl | rfl | rfl <;> rfl
theorem rows_length (ds : List Df) : (rows ds).length = ds.length := List.length_map ..
theorem rows_get {ds : List Df} {k : Nat} (h : k < ds.length) : (rows ds)[k]? = some [I (ds[k]).1, I (ds[k]).2.1, I (ds[k]).2.2] := by
  simp [rows, h, dc]
def net (n : Int) (ds : List Df) : AV := .agg [I n, .ro false (rows ds)]
def valid (n : Int) (ds : List Df) : Bool := (decide (1 ≤ n) && decide (n ≤ 256)) && (decide (ds.length ≤ 4096) && ds.all (right · n))
def check (n : Int) (ds : List Df) : Int := if valid n ds then 0 else 40
theorem valid_iff {n : Int} {ds : List Df} : valid n ds = true ↔ (1 ≤ n ∧ n ≤ 256) ∧ ds.length ≤ 4096 ∧ ∀ d, d ∈ ds → right d n = true := by
  simp [valid]
theorem check_not {n : Int} {ds : List Df} (h : ¬ ((1 ≤ n ∧ n ≤ 256) ∧ ds.length ≤ 4096 ∧ ∀ d, d ∈ ds → right d n = true)) : check n ds = 40 := by
  unfold check
  rw [if_neg]
  rwa [valid_iff]
theorem all_take {α : Type} {p : α → Bool} {l : List α} {k : Nat} (h : (l.take k).all p = true) (hk : k < l.length) (h2 : p l[k] = true) : (l.take (k + 1)).all p = true := by
  rw [List.take_succ_eq_append_getElem hk, List.all_append, h]
  simp [h2]
theorem check_ok (n : Int) (ds : List Df) : PCall Try.prog 29 [net n ds] (I (check n ds)) := by
  refine PCall.intro text29 (by simp) ?_
  unfold ir29
  simp only [walk, wl, rgets, retv, argsEnv, ev, cst, cst1, cstL, AEnv.get, AEnv.trim, envput, qstep, abin, aun, evs, evo, deref, qload, target, if_true, if_false, Nat.reduceEqDiff, reduceIte, Nat.reduceAdd, AV.cells, AV.isTuple, setMany, alen, aiaddr, afill, Nat.reduceLeDiff, Nat.reduceMul, Nat.reduceLT, afillE, List.replicate, net]
  refine call_pure (in_ok _ _ _) (frzL_of' (d := 1) rfl) ?_
  simp only [walk, wl, rgets, retv, argsEnv, ev, cst, cst1, cstL, AEnv.get, AEnv.trim, envput, qstep, abin, aun, evs, evo, deref, qload, target, if_true, if_false, Nat.reduceEqDiff, reduceIte, Nat.reduceAdd, AV.cells, AV.isTuple, setMany, alen, aiaddr, afill, Nat.reduceLeDiff, Nat.reduceMul, Nat.reduceLT, afillE, List.replicate]
  refine withGuard_intro ?_ ?_ <;> intro h <;> simp only [walk, wl, rgets, retv, argsEnv, ev, cst, cst1, cstL, AEnv.get, AEnv.trim, envput, qstep, abin, aun, evs, evo, deref, qload, target, if_true, if_false, Nat.reduceEqDiff, reduceIte, Nat.reduceAdd, AV.cells, AV.isTuple, setMany, alen, aiaddr, afill, Nat.reduceLeDiff, Nat.reduceMul, Nat.reduceLT, afillE, List.replicate, h]
  · have hin : 1 ≤ n ∧ n ≤ 256 := by simpa using h
    rw [rows_length]
    refine withBool_intro ?_ ?_ <;> intro h2 <;> simp only [walk, wl, rgets, retv, argsEnv, ev, cst, cst1, cstL, AEnv.get, AEnv.trim, envput, qstep, abin, aun, evs, evo, deref, qload, target, if_true, if_false, Nat.reduceEqDiff, reduceIte, Nat.reduceAdd, AV.cells, AV.isTuple, setMany, alen, aiaddr, afill, Nat.reduceLeDiff, Nat.reduceMul, Nat.reduceLT, afillE, List.replicate]
    · have e : check n ds = 40 := by
        simp at h2
        exact check_not fun h => by omega
      rw [e]; exact out_int
    · have hlen : ds.length ≤ 4096 := by simp at h2; omega
      rw [rows_length]
      refine awp_loop (σ := Nat) (fun k => [(1, .ptr 0 1 0 0), (16, .ro false (rows ds)), (17, I ds.length), (18, I k)]) (fun _ H => ∃ X, H = some ⟨24, 2, [[I n, .ro false (rows ds)]]⟩ :: X) (fun k => k ≤ ds.length ∧ (ds.take k).all (right · n) = true) (fun k => ds.length - k) 0 ⟨Nat.zero_le _, rfl⟩ rfl ⟨[], rfl⟩ ?_
      rintro k H ⟨hk, hall⟩ ⟨X, rfl⟩
      simp only [walk, wl, rgets, retv, argsEnv, ev, cst, cst1, cstL, AEnv.get, AEnv.trim, envput, qstep, abin, aun, evs, evo, deref, qload, target, if_true, if_false, Nat.reduceEqDiff, reduceIte, Nat.reduceAdd, AV.cells, AV.isTuple, setMany, alen, aiaddr, afill, Nat.reduceLeDiff, Nat.reduceMul, Nat.reduceLT, afillE, List.replicate]
      refine withBool_intro ?_ ?_ <;> intro hb <;> simp only [walk, wl, rgets, retv, argsEnv, ev, cst, cst1, cstL, AEnv.get, AEnv.trim, envput, qstep, abin, aun, evs, evo, deref, qload, target, if_true, if_false, Nat.reduceEqDiff, reduceIte, Nat.reduceAdd, AV.cells, AV.isTuple, setMany, alen, aiaddr, afill, Nat.reduceLeDiff, Nat.reduceMul, Nat.reduceLT, afillE, List.replicate]
      · have hlt : k < ds.length := by simpa using hb
        simp only [walk, wl, rgets, retv, argsEnv, ev, cst, cst1, cstL, AEnv.get, AEnv.trim, envput, qstep, abin, aun, evs, evo, deref, qload, target, if_true, if_false, Nat.reduceEqDiff, reduceIte, Nat.reduceAdd, AV.cells, AV.isTuple, setMany, alen, aiaddr, afill, Nat.reduceLeDiff, Nat.reduceMul, Nat.reduceLT, afillE, List.replicate, rows_get hlt]
        refine call_pure (right_ok ds[k] n (by omega) (by omega)) (frzL_of' (d := 4) rfl) ?_
        simp only [walk, wl, rgets, retv, argsEnv, ev, cst, cst1, cstL, AEnv.get, AEnv.trim, envput, qstep, abin, aun, evs, evo, deref, qload, target, if_true, if_false, Nat.reduceEqDiff, reduceIte, Nat.reduceAdd, AV.cells, AV.isTuple, setMany, alen, aiaddr, afill, Nat.reduceLeDiff, Nat.reduceMul, Nat.reduceLT, afillE, List.replicate]
        refine withBool_intro ?_ ?_ <;> intro hr <;> simp only [walk, wl, rgets, retv, argsEnv, ev, cst, cst1, cstL, AEnv.get, AEnv.trim, envput, qstep, abin, aun, evs, evo, deref, qload, target, if_true, if_false, Nat.reduceEqDiff, reduceIte, Nat.reduceAdd, AV.cells, AV.isTuple, setMany, alen, aiaddr, afill, Nat.reduceLeDiff, Nat.reduceMul, Nat.reduceLT, afillE, List.replicate]
        · have e : check n ds = 40 := check_not fun h => by
            have := h.2.2 ds[k] (List.getElem_mem hlt)
            rw [this] at hr; cases hr
          rw [e]; exact out_int
        · have hr' : right ds[k] n = true := by simpa using hr
          rw [wrap_id (by omega) (by omega)]
          refine loop_end (k + 1) ⟨hlt, all_take hall hlt hr'⟩ (by omega) rfl ⟨_, rfl⟩
      · have hk' : k = ds.length := by simp at hb; omega
        subst hk'
        have e : check n ds = 0 := by
          unfold check
          rw [if_pos]
          refine valid_iff.2 ⟨hin, hlen, ?_⟩
          rw [List.take_length] at hall
          simpa using hall
        rw [e]; exact out_int
  · have e : check n ds = 40 := by
      simp at h
      exact check_not fun h => by omega
    rw [e]; exact out_int
end Go.Proofs.Ytepnijjgdhldeaa
namespace Go.Proofs.Ytepnijjgdhldeaa
open Go.Awp
set_option linter.unusedSimpArgs false
set_option linter.unusedVariables false
set_option maxRecDepth 10000
theorem Valid_ok (d : Df) (n : Int) : PCall Try.prog 69 [.agg (dc d), I n] (.bool (right d n)) := by
  refine PCall.intro text69 (by simp) ?_
  unfold ir69
  simp only [walk, wl, rgets, retv, argsEnv, ev, cst, cst1, cstL, AEnv.get, AEnv.trim, envput, qstep, abin, aun, evs, evo, deref, qload, target, if_true, if_false, Nat.reduceEqDiff, reduceIte, Nat.reduceAdd, AV.cells, AV.isTuple, setMany, alen, aiaddr, afill, Nat.reduceLeDiff, Nat.reduceMul, Nat.reduceLT, afillE, List.replicate, dc]
  refine call_pure (node_ok _ _) (frzL_of' (d := 1) rfl) ?_
  simp only [walk, wl, rgets, retv, argsEnv, ev, cst, cst1, cstL, AEnv.get, AEnv.trim, envput, qstep, abin, aun, evs, evo, deref, qload, target, if_true, if_false, Nat.reduceEqDiff, reduceIte, Nat.reduceAdd, AV.cells, AV.isTuple, setMany, alen, aiaddr, afill, Nat.reduceLeDiff, Nat.reduceMul, Nat.reduceLT, afillE, List.replicate]
  refine withGuard_intro ?_ ?_ <;> intro h <;> simp only [walk, wl, rgets, retv, argsEnv, ev, cst, cst1, cstL, AEnv.get, AEnv.trim, envput, qstep, abin, aun, evs, evo, deref, qload, target, if_true, if_false, Nat.reduceEqDiff, reduceIte, Nat.reduceAdd, AV.cells, AV.isTuple, setMany, alen, aiaddr, afill, Nat.reduceLeDiff, Nat.reduceMul, Nat.reduceLT, afillE, List.replicate, h]
  · refine call_pure (node_ok _ _) (frzL_of' (d := 1) rfl) ?_
    simp only [walk, wl, rgets, retv, argsEnv, ev, cst, cst1, cstL, AEnv.get, AEnv.trim, envput, qstep, abin, aun, evs, evo, deref, qload, target, if_true, if_false, Nat.reduceEqDiff, reduceIte, Nat.reduceAdd, AV.cells, AV.isTuple, setMany, alen, aiaddr, afill, Nat.reduceLeDiff, Nat.reduceMul, Nat.reduceLT, afillE, List.replicate]
    refine withGuard_intro ?_ ?_ <;> intro h' <;> simp only [walk, wl, rgets, retv, argsEnv, ev, cst, cst1, cstL, AEnv.get, AEnv.trim, envput, qstep, abin, aun, evs, evo, deref, qload, target, if_true, if_false, Nat.reduceEqDiff, reduceIte, Nat.reduceAdd, AV.cells, AV.isTuple, setMany, alen, aiaddr, afill, Nat.reduceLeDiff, Nat.reduceMul, Nat.reduceLT, afillE, List.replicate, h']
    · refine withGuard_intro ?_ ?_ <;> intro h'' <;> simp only [walk, wl, rgets, retv, argsEnv, ev, cst, cst1, cstL, AEnv.get, AEnv.trim, envput, qstep, abin, aun, evs, evo, deref, qload, target, if_true, if_false, Nat.reduceEqDiff, reduceIte, Nat.reduceAdd, AV.cells, AV.isTuple, setMany, alen, aiaddr, afill, Nat.reduceLeDiff, Nat.reduceMul, Nat.reduceLT, afillE, List.replicate, h'']
      · have e : right d n = decide (d.2.2 ≤ 1073741824) := by
          simp at h''
          simp [right, h, h', h'']
        rw [e]; exact out_bool
      · have e : right d n = false := by
          simp at h''
          simp [right, Int.not_le.2 h'']
        rw [e]; exact out_bool
    · have e : right d n = false := by
        simp only [right, h']; simp
      rw [e]; exact out_bool
  · have e : right d n = false := by
      simp only [right, h]; simp
    rw [e]; exact out_bool
theorem check_yes {n : Int} {ds : List Df} (h1 : 1 ≤ n ∧ n ≤ 256) (h2 : ds.length ≤ 4096) (h3 : ∀ d, d ∈ ds → right d n = true) : check n ds = 0 := by
  unfold check
  rw [if_pos (valid_iff.2 ⟨h1, h2, h3⟩)]
theorem refCheck_ok (n : Int) (ds : List Df) : PCall Try.prog 22 [net n ds] (I (check n ds)) := by
  refine PCall.intro text22 (by simp) ?_
  unfold ir22
  simp only [walk, wl, rgets, retv, argsEnv, ev, cst, cst1, cstL, AEnv.get, AEnv.trim, envput, qstep, abin, aun, evs, evo, deref, qload, target, if_true, if_false, Nat.reduceEqDiff, reduceIte, Nat.reduceAdd, AV.cells, AV.isTuple, setMany, alen, aiaddr, afill, Nat.reduceLeDiff, Nat.reduceMul, Nat.reduceLT, afillE, List.replicate, net]
  have key : 1 ≤ n → n ≤ 256 → ds.length ≤ 4096 → True := fun _ _ _ => trivial
  refine withGuard_intro ?_ ?_ <;> intro h <;> simp only [walk, wl, rgets, retv, argsEnv, ev, cst, cst1, cstL, AEnv.get, AEnv.trim, envput, qstep, abin, aun, evs, evo, deref, qload, target, if_true, if_false, Nat.reduceEqDiff, reduceIte, Nat.reduceAdd, AV.cells, AV.isTuple, setMany, alen, aiaddr, afill, Nat.reduceLeDiff, Nat.reduceMul, Nat.reduceLT, afillE, List.replicate, h]
  · refine withGuard_intro ?_ ?_ <;> intro h2 <;> simp only [walk, wl, rgets, retv, argsEnv, ev, cst, cst1, cstL, AEnv.get, AEnv.trim, envput, qstep, abin, aun, evs, evo, deref, qload, target, if_true, if_false, Nat.reduceEqDiff, reduceIte, Nat.reduceAdd, AV.cells, AV.isTuple, setMany, alen, aiaddr, afill, Nat.reduceLeDiff, Nat.reduceMul, Nat.reduceLT, afillE, List.replicate, h2, rows_length]
    · refine withBool_intro ?_ ?_ <;> intro h3 <;> simp only [walk, wl, rgets, retv, argsEnv, ev, cst, cst1, cstL, AEnv.get, AEnv.trim, envput, qstep, abin, aun, evs, evo, deref, qload, target, if_true, if_false, Nat.reduceEqDiff, reduceIte, Nat.reduceAdd, AV.cells, AV.isTuple, setMany, alen, aiaddr, afill, Nat.reduceLeDiff, Nat.reduceMul, Nat.reduceLT, afillE, List.replicate]
      · simp at h h2 h3
        rw [check_not (fun h => by omega)]; exact out_int
      · have hin : 1 ≤ n ∧ n ≤ 256 := by simp at h h2; omega
        have hlen : ds.length ≤ 4096 := by simp at h3; omega
        refine awp_loop (σ := Nat) (fun k => [(1, .ptr 0 1 0 0), (3, I k)]) (fun _ H => ∃ X, H = some ⟨24, 2, [[I n, .ro false (rows ds)]]⟩ :: X) (fun k => k ≤ ds.length ∧ (ds.take k).all (right · n) = true) (fun k => ds.length - k) 0 ⟨Nat.zero_le _, rfl⟩ rfl ⟨[], rfl⟩ ?_
        rintro k H ⟨hk, hall⟩ ⟨X, rfl⟩
        simp only [walk, wl, rgets, retv, argsEnv, ev, cst, cst1, cstL, AEnv.get, AEnv.trim, envput, qstep, abin, aun, evs, evo, deref, qload, target, if_true, if_false, Nat.reduceEqDiff, reduceIte, Nat.reduceAdd, AV.cells, AV.isTuple, setMany, alen, aiaddr, afill, Nat.reduceLeDiff, Nat.reduceMul, Nat.reduceLT, afillE, List.replicate, rows_length]
        refine withBool_intro ?_ ?_ <;> intro hb <;> simp only [walk, wl, rgets, retv, argsEnv, ev, cst, cst1, cstL, AEnv.get, AEnv.trim, envput, qstep, abin, aun, evs, evo, deref, qload, target, if_true, if_false, Nat.reduceEqDiff, reduceIte, Nat.reduceAdd, AV.cells, AV.isTuple, setMany, alen, aiaddr, afill, Nat.reduceLeDiff, Nat.reduceMul, Nat.reduceLT, afillE, List.replicate]
        · have hlt : k < ds.length := by simpa using hb
          simp only [walk, wl, rgets, retv, argsEnv, ev, cst, cst1, cstL, AEnv.get, AEnv.trim, envput, qstep, abin, aun, evs, evo, deref, qload, target, if_true, if_false, Nat.reduceEqDiff, reduceIte, Nat.reduceAdd, AV.cells, AV.isTuple, setMany, alen, aiaddr, afill, Nat.reduceLeDiff, Nat.reduceMul, Nat.reduceLT, afillE, List.replicate, rows_get hlt]
          refine call_pure (Valid_ok ds[k] n) (frzL_of' (d := 4) rfl) ?_
          simp only [walk, wl, rgets, retv, argsEnv, ev, cst, cst1, cstL, AEnv.get, AEnv.trim, envput, qstep, abin, aun, evs, evo, deref, qload, target, if_true, if_false, Nat.reduceEqDiff, reduceIte, Nat.reduceAdd, AV.cells, AV.isTuple, setMany, alen, aiaddr, afill, Nat.reduceLeDiff, Nat.reduceMul, Nat.reduceLT, afillE, List.replicate]
          refine withBool_intro ?_ ?_ <;> intro hr <;> simp only [walk, wl, rgets, retv, argsEnv, ev, cst, cst1, cstL, AEnv.get, AEnv.trim, envput, qstep, abin, aun, evs, evo, deref, qload, target, if_true, if_false, Nat.reduceEqDiff, reduceIte, Nat.reduceAdd, AV.cells, AV.isTuple, setMany, alen, aiaddr, afill, Nat.reduceLeDiff, Nat.reduceMul, Nat.reduceLT, afillE, List.replicate]
          · have e : check n ds = 40 := check_not fun h => by
              have := h.2.2 ds[k] (List.getElem_mem hlt)
              rw [this] at hr; cases hr
            rw [e]; exact out_int
          · have hr' : right ds[k] n = true := by simpa using hr
            rw [wrap_id (by omega) (by omega)]
            refine loop_end (k + 1) ⟨hlt, all_take hall hlt hr'⟩ (by omega) rfl ⟨_, rfl⟩
        · have hk' : k = ds.length := by simp at hb; omega
          subst hk'
          rw [check_yes hin hlen (by rw [List.take_length] at hall; simpa using hall)]
          exact out_int
    · simp at h h2
      rw [check_not (fun h => by omega)]; exact out_int
  · simp at h
    rw [check_not (fun h => by omega)]; exact out_int
end Go.Proofs.Ytepnijjgdhldeaa
namespace Go.Proofs.Ytepnijjgdhldeaa
open Go.Awp
set_option linter.unusedSimpArgs false
set_option linter.unusedVariables false
set_option maxRecDepth 10000
def ic (xs : List Int) : List (List AV) := xs.map fun x => [I x]
theorem ic_simple (xs : List Int) : Simple (ic xs) := by
  intro el hel x hx
  obtain ⟨d, _, rfl⟩ := List.mem_map.1 hel
  simp at hx
  subst hx; rfl
theorem ic_length (xs : List Int) : (ic xs).length = xs.length := List.length_map ..
theorem ic_get {xs : List Int} {k : Nat} (h : k < xs.length) : (ic xs)[k]? = some [I xs[k]] := by simp [ic, h]
theorem out_nilSlice {H : AHeap} : Out H .nilSlice .nilSlice := out_of (d := 1) rfl
theorem nout_push {H : AHeap} {e s : Nat} {els : List (List AV)} : NOut (H ++ [some ⟨e, s, els⟩]) (.own H.length els.length 0 els.length) e s els := ⟨_, rfl, AHeap.obj_push_eq⟩
theorem rows_sim (ds : List Df) : ∀ el, el ∈ rows ds → el.length = 3 ∧ ∀ x, x ∈ el → x.simple = true := by
  intro el hel
  refine ⟨?_, rows_simple ds el hel⟩
  obtain ⟨d, _, rfl⟩ := List.mem_map.1 hel
  rfl
theorem ic_sim (xs : List Int) : ∀ el, el ∈ ic xs → el.length = 1 ∧ ∀ x, x ∈ el → x.simple = true := by
  intro el hel
  refine ⟨?_, ic_simple xs el hel⟩
  obtain ⟨d, _, rfl⟩ := List.mem_map.1 hel
  rfl
theorem rows_all (ds : List Df) : ((rows ds).all fun e => e.length == 3) = true := by
  rw [List.all_eq_true]; intro el hel; simp [(rows_sim ds el hel).1]
theorem ic_all (xs : List Int) : ((ic xs).all fun e => e.length == 1) = true := by
  rw [List.all_eq_true]; intro el hel; simp [(ic_sim xs el hel).1]
theorem clone57_nil {b : Bool} : PCall Try.prog 57 [.ro b []] .nilSlice := by
  refine PCall.intro text57 (by simp) ?_
  unfold ir57
  simp only [walk, wl, rgets, retv, argsEnv, ev, cst, cst1, cstL, AEnv.get, AEnv.trim, envput, qstep, abin, aun, evs, evo, deref, qload, target, if_true, if_false, Nat.reduceEqDiff, reduceIte, Nat.reduceAdd, AV.cells, AV.isTuple, setMany, alen, aiaddr, afill, Nat.reduceLeDiff, Nat.reduceMul, Nat.reduceLT, afillE, List.replicate, sstep, asrc]
  refine acall_isnil rfl rfl (fun h => absurd h (by decide)) fun _ c => ?_
  simp only [walk, wl, rgets, retv, argsEnv, ev, cst, cst1, cstL, AEnv.get, AEnv.trim, envput, qstep, abin, aun, evs, evo, deref, qload, target, if_true, if_false, Nat.reduceEqDiff, reduceIte, Nat.reduceAdd, AV.cells, AV.isTuple, setMany, alen, aiaddr, afill, Nat.reduceLeDiff, Nat.reduceMul, Nat.reduceLT, afillE, List.replicate, sstep, asrc]
  refine withBool_intro ?_ ?_ <;> intro h <;> simp only [walk, wl, rgets, retv, argsEnv, ev, cst, cst1, cstL, AEnv.get, AEnv.trim, envput, qstep, abin, aun, evs, evo, deref, qload, target, if_true, if_false, Nat.reduceEqDiff, reduceIte, Nat.reduceAdd, AV.cells, AV.isTuple, setMany, alen, aiaddr, afill, Nat.reduceLeDiff, Nat.reduceMul, Nat.reduceLT, afillE, List.replicate, sstep, asrc]
  · exact out_nilSlice
  · simp; exact out_nilSlice
theorem clone57_new {b : Bool} {ds : List Df} (h0 : ds ≠ []) (hl : ds.length ≤ 4096) : NCall Try.prog 57 [.ro b (rows ds)] 39 3 (rows ds) := by
  refine NCall.intro text57 (by simp) (rows_sim ds) ?_
  have hp : 0 < ds.length := List.length_pos_iff.2 h0
  unfold ir57
  simp only [walk, wl, rgets, retv, argsEnv, ev, cst, cst1, cstL, AEnv.get, AEnv.trim, envput, qstep, abin, aun, evs, evo, deref, qload, target, if_true, if_false, Nat.reduceEqDiff, reduceIte, Nat.reduceAdd, AV.cells, AV.isTuple, setMany, alen, aiaddr, afill, Nat.reduceLeDiff, Nat.reduceMul, Nat.reduceLT, afillE, List.replicate, sstep, asrc]
  refine acall_isnil rfl rfl (fun _ => ?_) fun h => absurd h (by simpa [rows_length] using h0)
  simp only [walk, wl, rgets, retv, argsEnv, ev, cst, cst1, cstL, AEnv.get, AEnv.trim, envput, qstep, abin, aun, evs, evo, deref, qload, target, if_true, if_false, Nat.reduceEqDiff, reduceIte, Nat.reduceAdd, AV.cells, AV.isTuple, setMany, alen, aiaddr, afill, Nat.reduceLeDiff, Nat.reduceMul, Nat.reduceLT, afillE, List.replicate, sstep, asrc, rows_all, rows_length, if_neg (show ¬ ds.length = 0 by omega), if_pos (show ds.length ≤ 140737488355328 ∧ ds.length * 24 ≤ 140737488355328 by omega)]
  have := @nout_push [] 39 3 (rows ds)
  rwa [rows_length] at this
theorem clone91_new {b : Bool} {xs : List Int} (h0 : xs ≠ []) (hl : xs.length ≤ 1099511627776) : NCall Try.prog 91 [.ro b (ic xs)] 3 1 (ic xs) := by
  refine NCall.intro text91 (by simp) (ic_sim xs) ?_
  have hp : 0 < xs.length := List.length_pos_iff.2 h0
  unfold ir91
  simp only [walk, wl, rgets, retv, argsEnv, ev, cst, cst1, cstL, AEnv.get, AEnv.trim, envput, qstep, abin, aun, evs, evo, deref, qload, target, if_true, if_false, Nat.reduceEqDiff, reduceIte, Nat.reduceAdd, AV.cells, AV.isTuple, setMany, alen, aiaddr, afill, Nat.reduceLeDiff, Nat.reduceMul, Nat.reduceLT, afillE, List.replicate, sstep, asrc]
  refine acall_isnil rfl rfl (fun _ => ?_) fun h => absurd h (by simpa [ic_length] using h0)
  simp only [walk, wl, rgets, retv, argsEnv, ev, cst, cst1, cstL, AEnv.get, AEnv.trim, envput, qstep, abin, aun, evs, evo, deref, qload, target, if_true, if_false, Nat.reduceEqDiff, reduceIte, Nat.reduceAdd, AV.cells, AV.isTuple, setMany, alen, aiaddr, afill, Nat.reduceLeDiff, Nat.reduceMul, Nat.reduceLT, afillE, List.replicate, sstep, asrc, ic_all, ic_length, if_neg (show ¬ xs.length = 0 by omega), if_pos (show xs.length ≤ 140737488355328 ∧ xs.length * 8 ≤ 140737488355328 by omega)]
  have := @nout_push [] 3 1 (ic xs)
  rwa [ic_length] at this
end Go.Proofs.Ytepnijjgdhldeaa
namespace Go.Proofs.Ytepnijjgdhldeaa
open Go.Awp
set_option linter.unusedSimpArgs false
set_option linter.unusedVariables false
set_option maxRecDepth 10000
def big : Nat := 9223372036854775807
/-- Where the first element stands that is of a kind; -1 if none is. -/
def ix {α : Type} (p : α → Bool) (l : List α) : Int := match l.findIdx? p with | some i => i | none => -1
theorem ix_at {α : Type} {p : α → Bool} {l : List α} {k : Nat} (hk : k < l.length) (h1 : (l.take k).all (fun x => !p x) = true) (h2 : p l[k] = true) : ix p l = k := by
  have : l.findIdx? p = some k := by
    rw [List.findIdx?_eq_some_iff_getElem]
    refine ⟨hk, h2, fun j hj => ?_⟩
    have hm : l[j]'(by omega) ∈ l.take k := by
      rw [List.mem_take_iff_getElem]
      exact ⟨j, by omega, rfl⟩
    have := List.all_eq_true.1 h1 _ hm
    simpa using this
  simp [ix, this]
theorem ix_none {α : Type} {p : α → Bool} {l : List α} (h1 : l.all (fun x => !p x) = true) : ix p l = -1 := by
  have : l.findIdx? p = none := by
    rw [List.findIdx?_eq_none_iff]
    intro x hx
    have := List.all_eq_true.1 h1 x hx
    simpa using this
  simp [ix, this]
theorem ix_ge {α : Type} {p : α → Bool} {l : List α} : decide (ix p l ≥ 0) = l.any p := by
  cases h : l.findIdx? p with
  | none =>
    have h1 : ix p l = -1 := by simp [ix, h]
    rw [List.findIdx?_eq_none_iff] at h
    rw [h1]
    symm
    rw [show decide ((-1 : Int) ≥ 0) = false from rfl, List.any_eq_false]
    intro x hx; simp [h x hx]
  | some i =>
    have h1 : ix p l = i := by simp [ix, h]
    rw [List.findIdx?_eq_some_iff_getElem] at h
    obtain ⟨hi, hp, _⟩ := h
    rw [h1]
    symm
    rw [show decide ((i : Int) ≥ 0) = true by simp, List.any_eq_true]
    exact ⟨_, List.getElem_mem hi, hp⟩
theorem index98 {c : AV} {fn : FuncId} {caps : List AV} {p : Int → Bool} {xs : List Int} (hc : c = .func (.func fn) [] caps) (hcar : ∀ (H : AHeap), carL (carry false H 4) caps = some caps) (hp : ∀ x, PCall Try.prog fn (I x :: caps) (.bool (p x))) (hl : xs.length ≤ big) :
    PCall Try.prog 98 [.ro false (ic xs), c] (I (ix p xs)) := by
  subst hc
  unfold big at hl
  refine PCall.intro text98 (by simp) ?_
  unfold ir98
  simp only [walk, wl, rgets, retv, argsEnv, ev, cst, cst1, cstL, AEnv.get, AEnv.trim, envput, qstep, abin, aun, evs, evo, deref, qload, target, if_true, if_false, Nat.reduceEqDiff, reduceIte, Nat.reduceAdd, AV.cells, AV.isTuple, setMany, alen, aiaddr, afill, Nat.reduceLeDiff, Nat.reduceMul, Nat.reduceLT, afillE, List.replicate, ic_length]
  refine awp_loop (σ := Nat) (fun k => [(0, .ro false (ic xs)), (1, .func (.func fn) [] caps), (7, I xs.length), (8, I k)]) (fun _ _ => True) (fun k => k ≤ xs.length ∧ (xs.take k).all (fun x => !p x) = true) (fun k => xs.length - k) 0 ⟨Nat.zero_le _, rfl⟩ rfl trivial ?_
  rintro k H ⟨hk, hall⟩ -
  simp only [walk, wl, rgets, retv, argsEnv, ev, cst, cst1, cstL, AEnv.get, AEnv.trim, envput, qstep, abin, aun, evs, evo, deref, qload, target, if_true, if_false, Nat.reduceEqDiff, reduceIte, Nat.reduceAdd, AV.cells, AV.isTuple, setMany, alen, aiaddr, afill, Nat.reduceLeDiff, Nat.reduceMul, Nat.reduceLT, afillE, List.replicate]
  refine withBool_intro ?_ ?_ <;> intro hb <;> simp only [walk, wl, rgets, retv, argsEnv, ev, cst, cst1, cstL, AEnv.get, AEnv.trim, envput, qstep, abin, aun, evs, evo, deref, qload, target, if_true, if_false, Nat.reduceEqDiff, reduceIte, Nat.reduceAdd, AV.cells, AV.isTuple, setMany, alen, aiaddr, afill, Nat.reduceLeDiff, Nat.reduceMul, Nat.reduceLT, afillE, List.replicate]
  · have hlt : k < xs.length := by simpa using hb
    simp only [walk, wl, rgets, retv, argsEnv, ev, cst, cst1, cstL, AEnv.get, AEnv.trim, envput, qstep, abin, aun, evs, evo, deref, qload, target, if_true, if_false, Nat.reduceEqDiff, reduceIte, Nat.reduceAdd, AV.cells, AV.isTuple, setMany, alen, aiaddr, afill, Nat.reduceLeDiff, Nat.reduceMul, Nat.reduceLT, afillE, List.replicate, ic_get hlt]
    refine acall_callv ?_
    simp only [walk, wl, rgets, retv, argsEnv, ev, cst, cst1, cstL, AEnv.get, AEnv.trim, envput, qstep, abin, aun, evs, evo, deref, qload, target, if_true, if_false, Nat.reduceEqDiff, reduceIte, Nat.reduceAdd, AV.cells, AV.isTuple, setMany, alen, aiaddr, afill, Nat.reduceLeDiff, Nat.reduceMul, Nat.reduceLT, afillE, List.replicate, withFun_app, funK_app]
    refine call_pure (hp xs[k]) (frzL_of' (d := 4) ?_) ?_
    · exact carL_cons rfl (hcar H)
    simp only [walk, wl, rgets, retv, argsEnv, ev, cst, cst1, cstL, AEnv.get, AEnv.trim, envput, qstep, abin, aun, evs, evo, deref, qload, target, if_true, if_false, Nat.reduceEqDiff, reduceIte, Nat.reduceAdd, AV.cells, AV.isTuple, setMany, alen, aiaddr, afill, Nat.reduceLeDiff, Nat.reduceMul, Nat.reduceLT, afillE, List.replicate]
    refine withBool_intro ?_ ?_ <;> intro hr <;> simp only [walk, wl, rgets, retv, argsEnv, ev, cst, cst1, cstL, AEnv.get, AEnv.trim, envput, qstep, abin, aun, evs, evo, deref, qload, target, if_true, if_false, Nat.reduceEqDiff, reduceIte, Nat.reduceAdd, AV.cells, AV.isTuple, setMany, alen, aiaddr, afill, Nat.reduceLeDiff, Nat.reduceMul, Nat.reduceLT, afillE, List.replicate]
    · rw [ix_at hlt hall hr]; exact out_int
    · rw [wrap_id (by omega) (by omega)]
      refine loop_end (k + 1) ⟨hlt, all_take hall hlt (by simp [hr])⟩ (by omega) rfl trivial
  · have hk' : k = xs.length := by simp at hb; omega
    subst hk'
    rw [List.take_length] at hall
    rw [ix_none hall]; exact out_int
theorem contains52 {c : AV} {fn : FuncId} {caps : List AV} {p : Int → Bool} {xs : List Int} (hc : c = .func (.func fn) [] caps) (hcar : ∀ (H : AHeap), carL (carry false H 4) caps = some caps) (hp : ∀ x, PCall Try.prog fn (I x :: caps) (.bool (p x))) (hl : xs.length ≤ big) :
    PCall Try.prog 52 [.ro false (ic xs), c] (.bool (xs.any p)) := by
  refine PCall.intro text52 (by simp) ?_
  unfold ir52
  simp only [walk, wl, rgets, retv, argsEnv, ev, cst, cst1, cstL, AEnv.get, AEnv.trim, envput, qstep, abin, aun, evs, evo, deref, qload, target, if_true, if_false, Nat.reduceEqDiff, reduceIte, Nat.reduceAdd, AV.cells, AV.isTuple, setMany, alen, aiaddr, afill, Nat.reduceLeDiff, Nat.reduceMul, Nat.reduceLT, afillE, List.replicate]
  refine call_pure (index98 hc hcar hp hl) (frzL_of' (d := 5) ?_) ?_
  · subst hc
    exact carL_cons (car_ro_false (ic_simple xs)) (carL_cons (by rw [show carry false [] 5 (.func (.func fn) [] caps) = (match carL (carry false [] 4) [], carL (carry false [] 4) caps with | some a', some b' => some (.func (.func fn) a' b') | _, _ => none) from rfl, hcar]; rfl) rfl)
  simp only [walk, wl, rgets, retv, argsEnv, ev, cst, cst1, cstL, AEnv.get, AEnv.trim, envput, qstep, abin, aun, evs, evo, deref, qload, target, if_true, if_false, Nat.reduceEqDiff, reduceIte, Nat.reduceAdd, AV.cells, AV.isTuple, setMany, alen, aiaddr, afill, Nat.reduceLeDiff, Nat.reduceMul, Nat.reduceLT, afillE, List.replicate]
  rw [ix_ge]; exact out_bool
/-- Whether a number is too great. -/
def far (x : Int) : Bool := !(decide (-1099511627776 ≤ x) && decide (x ≤ 1099511627776))
def numbers (n : Int) (xs : List Int) : Bool := decide ((xs.length : Int) = n) && !xs.any far
end Go.Proofs.Ytepnijjgdhldeaa
