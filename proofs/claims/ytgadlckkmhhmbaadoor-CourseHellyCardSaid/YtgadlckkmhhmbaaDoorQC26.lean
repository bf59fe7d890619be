/- Contracts: lists that are searched (slices.Index, IndexFunc, Contains, ContainsFunc). -/
import Derived.Test.YtgadlckkmhhmbaaDoorQC25
import Derived.Test.YtgadlckkmhhmbaaDoorQTS
set_option linter.unusedVariables false
set_option linter.unusedSimpArgs false
set_option linter.unusedSectionVars false
namespace Go.Proofs.YtgadlckkmhhmbaaDoor
open Go.Awp Go.Grams
set_option linter.unusedSimpArgs false
set_option linter.unusedVariables false
set_option linter.unusedSectionVars false
set_option maxRecDepth 10000
/-- The first index of what is looked for, or -1. -/
def fiI {α : Type} (p : α → Bool) (l : List α) : Int := if l.any p then (l.findIdx p : Int) else -1
theorem fiI_hit {α : Type} {p : α → Bool} {l : List α} {k : Nat} (hk : k < l.length) (hno : (l.take k).any p = false) (hp : p l[k] = true) : fiI p l = k := by
  have h1 : l.any p = true := List.any_eq_true.2 ⟨l[k], List.getElem_mem hk, hp⟩
  have h2 : l.findIdx p = k := by
    rw [List.findIdx_eq hk]
    refine ⟨hp, fun j hj => ?_⟩
    have := (List.any_eq_false.1 hno) l[j] (List.mem_take_iff_getElem.2 ⟨j, by omega, rfl⟩)
    simpa using this
  unfold fiI; rw [if_pos h1, h2]
theorem fiI_miss {α : Type} {p : α → Bool} {l : List α} (h : l.any p = false) : fiI p l = -1 := by
  unfold fiI; rw [if_neg (by simp [h])]
theorem fiI_any {α : Type} {p : α → Bool} {l : List α} : decide (fiI p l ≥ 0) = l.any p := by
  unfold fiI
  cases h : l.any p
  · rw [if_neg (by simp)]; rfl
  · rw [if_pos rfl]; simp
theorem any_take {α : Type} {p : α → Bool} {l : List α} {k : Nat} (hk : k < l.length) (h : (l.take k).any p = false) (hp : ¬ p l[k] = true) : (l.take (k + 1)).any p = false := by
  rw [List.take_succ_eq_append_getElem hk, List.any_append, h]; simpa using hp
theorem index_ok (l : List Int) (n : Int) (hl : l.length ≤ 100000) : PCall Tryd.prog 105 [.ro false (ic l), I n] (I (fiI (fun x => n == x) l)) := by
  refine PCall.intro text105 (by simp) ?_
  unfold ir105
  simp only [walk, wl, rgets, retv, argsEnv, ev, cst, cst1, cstL, AEnv.get, AEnv.trim, envput, qstep, abin, aun, evs, evo, deref, qload, target, if_true, if_false, Nat.reduceEqDiff, reduceIte, Nat.reduceAdd, AV.cells, AV.isTuple, setMany, alen, aiaddr, afill, Nat.reduceLeDiff, Nat.reduceMul, Nat.reduceLT, afillE, List.replicate, ic_length]
  refine awp_loop (σ := Nat) (fun k => [(0, .ro false (ic l)), (1, I n), (7, I l.length), (8, I k)]) (fun _ _ => True) (fun k => k ≤ l.length ∧ (l.take k).any (fun x => n == x) = false) (fun k => l.length - k) 0 ⟨Nat.zero_le _, rfl⟩ rfl trivial ?_
  rintro k H ⟨hk, hno⟩ -
  simp only [walk, wl, rgets, retv, argsEnv, ev, cst, cst1, cstL, AEnv.get, AEnv.trim, envput, qstep, abin, aun, evs, evo, deref, qload, target, if_true, if_false, Nat.reduceEqDiff, reduceIte, Nat.reduceAdd, AV.cells, AV.isTuple, setMany, alen, aiaddr, afill, Nat.reduceLeDiff, Nat.reduceMul, Nat.reduceLT, afillE, List.replicate]
  refine withBool_intro ?_ ?_ <;> intro hb <;> simp only [walk, wl, rgets, retv, argsEnv, ev, cst, cst1, cstL, AEnv.get, AEnv.trim, envput, qstep, abin, aun, evs, evo, deref, qload, target, if_true, if_false, Nat.reduceEqDiff, reduceIte, Nat.reduceAdd, AV.cells, AV.isTuple, setMany, alen, aiaddr, afill, Nat.reduceLeDiff, Nat.reduceMul, Nat.reduceLT, afillE, List.replicate]
  · have hlt : k < l.length := by simpa using hb
    have w1 := w_succ (k := k) (by omega)
    simp only [walk, wl, rgets, retv, argsEnv, ev, cst, cst1, cstL, AEnv.get, AEnv.trim, envput, qstep, abin, aun, evs, evo, deref, qload, target, if_true, if_false, Nat.reduceEqDiff, reduceIte, Nat.reduceAdd, AV.cells, AV.isTuple, setMany, alen, aiaddr, afill, Nat.reduceLeDiff, Nat.reduceMul, Nat.reduceLT, afillE, List.replicate, ic_get hlt]
    refine withBool_intro ?_ ?_ <;> intro hp <;> simp only [walk, wl, rgets, retv, argsEnv, ev, cst, cst1, cstL, AEnv.get, AEnv.trim, envput, qstep, abin, aun, evs, evo, deref, qload, target, if_true, if_false, Nat.reduceEqDiff, reduceIte, Nat.reduceAdd, AV.cells, AV.isTuple, setMany, alen, aiaddr, afill, Nat.reduceLeDiff, Nat.reduceMul, Nat.reduceLT, afillE, List.replicate, w1]
    · rw [fiI_hit hlt hno hp]; exact out_int
    · exact loop_end (k + 1) ⟨hlt, any_take hlt hno (by simp [hp])⟩ (by omega) rfl trivial
  · have hk' : k = l.length := by simp at hb; omega
    subst hk'
    rw [List.take_length] at hno
    rw [fiI_miss hno]; exact out_int
theorem any_eq_contains {l : List Int} {n : Int} : l.any (fun x => n == x) = l.contains n := by
  rw [Bool.eq_iff_iff, List.any_eq_true, List.contains_iff_mem]
  constructor
  · rintro ⟨x, h1, h2⟩; have : n = x := by simpa using h2
    rw [this]; exact h1
  · intro h; exact ⟨n, h, by simp⟩
theorem contains_ok (l : List Int) (n : Int) (hl : l.length ≤ 100000) : PCall Tryd.prog 45 [.ro false (ic l), I n] (.bool (l.contains n)) := by
  refine PCall.intro text45 (by simp) ?_
  unfold ir45
  simp only [walk, wl, rgets, retv, argsEnv, ev, cst, cst1, cstL, AEnv.get, AEnv.trim, envput, qstep, abin, aun, evs, evo, deref, qload, target, if_true, if_false, Nat.reduceEqDiff, reduceIte, Nat.reduceAdd, AV.cells, AV.isTuple, setMany, alen, aiaddr, afill, Nat.reduceLeDiff, Nat.reduceMul, Nat.reduceLT, afillE, List.replicate]
  refine call_pure (index_ok l n hl) (frzL_of' (d := 5) (carL_cons car_ic rfl)) ?_
  simp only [walk, wl, rgets, retv, argsEnv, ev, cst, cst1, cstL, AEnv.get, AEnv.trim, envput, qstep, abin, aun, evs, evo, deref, qload, target, if_true, if_false, Nat.reduceEqDiff, reduceIte, Nat.reduceAdd, AV.cells, AV.isTuple, setMany, alen, aiaddr, afill, Nat.reduceLeDiff, Nat.reduceMul, Nat.reduceLT, afillE, List.replicate]
  exact out_boolE (fiI_any.trans any_eq_contains)
def shortV (l : List Sht) : Bool := decide ((l.length : Int) ≤ 300) && !(l.any fun s => decide ((s.st.length : Int) > 100))
end Go.Proofs.YtgadlckkmhhmbaaDoor
