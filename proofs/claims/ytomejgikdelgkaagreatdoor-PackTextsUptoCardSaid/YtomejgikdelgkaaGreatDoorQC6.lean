/- Contracts: something is done many times to a column; frost. -/
import Derived.Test.YtomejgikdelgkaaGreatDoorQC5
set_option linter.unusedVariables false
set_option linter.unusedSimpArgs false
set_option linter.unusedSectionVars false
namespace Go.Proofs.YtomejgikdelgkaaGreatDoor
open Go.Awp Go.Snow
set_option linter.unusedSimpArgs false
set_option linter.unusedVariables false
set_option linter.unusedSectionVars false
set_option maxRecDepth 10000
/-- What is done to a column by a function of its own. -/
structure Deed (g : FuncId) (f : List Lay → List Lay × Int) (dk : Int) : Prop where
  nil : f [] = ([], 0)
  firm : ∀ {K : Int} {ls}, Firm K ls → Firm K (f ls).1
  out : ∀ {ls}, Firm 1000000 ls → 0 ≤ (f ls).2 ∧ (f ls).2 ≤ 1000000
  k0 : 0 ≤ dk ∧ dk ≤ 1
  step : ∀ {H0 : AHeap} {h : Nat} {l : Lay} {r : List Lay} {o k : Int}, Column 0 H0 h (l :: r) o k → Firm 1000000 (l :: r) → (0 ≤ o ∧ o ≤ 1000000000000000) → (0 ≤ k ∧ k ≤ 1000000000000000) →
    ACall Tryz.prog g [.ptr h 1 0 0] H0 fun x H => x = .tuple [] ∧ Same1 H0 H h ∧ Column 0 H h (f (l :: r)).1 (o + (f (l :: r)).2) (k + dk)
theorem lose_out {K more : Int} {ls : List Lay} (hm : 0 ≤ more ∧ more ≤ 1) (hK : K ≤ 1000000) (h : Firm K ls) : 0 ≤ (lose more ls).2 ∧ (lose more ls).2 ≤ 1000000 := by
  cases ls with
  | nil => simp [lose]
  | cons l r =>
    obtain ⟨⟨h1, h2, h3, h4, h5⟩, hk⟩ := h.1.head
    have h6 := h.2 l (by simp)
    simp only [lose]
    split
    · have := pour_ran (l.2.1 + more).toNat r; omega
    · have := pour_ran (l.2.1 + more - min (l.2.1 + more) ((l.1 - 1) / 20)).toNat r; simp only; omega
theorem meltDeed : Deed 61 melt1 0 where
  nil := rfl
  firm := melt1_good
  out := fun {ls} h => by
    cases ls with
    | nil => simp [melt1]
    | cons l r =>
      simp only [melt1]
      split
      · simp
      · exact lose_out (by omega) (Int.le_refl _) h
  k0 := by omega
  step := fun hc hg ho hk => (melt_ok hc hg ho).mono fun x H ⟨a, b, c⟩ => ⟨a, b, by rw [Int.add_zero]; exact c⟩
theorem vanishDeed : Deed 63 loss1 1 where
  nil := rfl
  firm := loss1_good
  out := fun h => lose_out (by omega) (Int.le_refl _) h
  k0 := by omega
  step := fun hc hg ho hk => vanish_ok hc hg ho hk
theorem taken_nil (f : List Lay → List Lay × Int) (n : Nat) : taken f n [] = 0 := by cases n <;> rfl
theorem times_ok {g : FuncId} {f : List Lay → List Lay × Int} {dk : Int} (D : Deed g f dk) {H0 : AHeap} {h : Nat} {ls : List Lay} {o k : Int} {n : Nat} (hn : n ≤ 100000) (hc : Column 0 H0 h ls o k) (hg : Firm 1000000 ls) (ho : 0 ≤ o ∧ o ≤ 100000000000000) (hk : 0 ≤ k ∧ k ≤ 100000000000000) :
    ACall Tryz.prog 60 [.ptr h 1 0 0, I (n : Int), .func (.func g) [.ptr h 1 0 0] []] H0 fun x H => x = .tuple [] ∧ Same1 H0 H h ∧ Column 0 H h (times f n ls).1 (o + (times f n ls).2) (k + dk * taken f n ls) := by
  refine ACall.intro text60 (by simp) ?_
  unfold ir60
  simp only [walkS, wl, rgets, retv, argsEnv, ev, cst, cst1, cstL, AEnv.get, AEnv.trim, envput, qstep, abin, aun, evs, evo, deref, qload, target, if_true, if_false, Nat.reduceEqDiff, reduceIte, Nat.reduceAdd, AV.cells, AV.isTuple, setMany, alen, aiaddr, afill, Nat.reduceLeDiff, Nat.reduceMul, Nat.reduceLT, afillE, List.replicate]
  refine awp_loop (σ := Nat × List Lay × Int × Int) (fun s => [(0, .ptr h 1 0 0), (2, .func (.func g) [.ptr h 1 0 0] []), (6, I n), (7, I s.1)])
    (fun s H => Same1 H0 H h ∧ Column 0 H h s.2.1 s.2.2.1 s.2.2.2)
    (fun s => s.1 ≤ n ∧ Firm 1000000 s.2.1 ∧ (times f n ls).1 = (times f (n - s.1) s.2.1).1 ∧ o + (times f n ls).2 = s.2.2.1 + (times f (n - s.1) s.2.1).2 ∧ k + dk * taken f n ls = s.2.2.2 + dk * taken f (n - s.1) s.2.1 ∧
      (0 ≤ s.2.2.1 ∧ s.2.2.1 ≤ 100000000000000 + 1000000 * s.1) ∧ (0 ≤ s.2.2.2 ∧ s.2.2.2 ≤ 100000000000000 + s.1))
    (fun s => n - s.1) (0, ls, o, k) ⟨Nat.zero_le _, hg, rfl, rfl, rfl, by simpa using ho, by simpa using hk⟩ rfl ⟨.refl, hc⟩ ?_
  rintro ⟨i, ls', o', k'⟩ H ⟨hi, hg', e1, e2, e3, ho', hk'⟩ ⟨hs, hc'⟩
  simp only at hi hg' e1 e2 e3 ho' hk' hc'
  have hc2 := hc'
  obtain ⟨A, post, -, hlen, c⟩ := hc'
  have c' : AHeap.obj H h = some ⟨72, 199, [colC (A ++ ls' ++ post) A.length (A.length + ls'.length : Nat) o' k']⟩ := c
  obtain ⟨L, hL⟩ : ∃ L, L = A ++ ls' ++ post := ⟨_, rfl⟩
  rw [← hL] at hlen c'
  simp only [walkS, wl, rgets, retv, argsEnv, ev, cst, cst1, cstL, AEnv.get, AEnv.trim, envput, qstep, abin, aun, evs, evo, deref, qload, target, if_true, if_false, Nat.reduceEqDiff, reduceIte, Nat.reduceAdd, AV.cells, AV.isTuple, setMany, alen, aiaddr, afill, Nat.reduceLeDiff, Nat.reduceMul, Nat.reduceLT, afillE, List.replicate]
  refine withBool_intro ?_ ?_ <;> intro hb <;> simp only [walkS, wl, rgets, retv, argsEnv, ev, cst, cst1, cstL, AEnv.get, AEnv.trim, envput, qstep, abin, aun, evs, evo, deref, qload, target, if_true, if_false, Nat.reduceEqDiff, reduceIte, Nat.reduceAdd, AV.cells, AV.isTuple, setMany, alen, aiaddr, afill, Nat.reduceLeDiff, Nat.reduceMul, Nat.reduceLT, afillE, List.replicate, c', colC_195 hlen, colC_196 hlen]
  · have hlt : i < n := by simpa using hb
    have e4 : n - i = (n - (i + 1)) + 1 := by omega
    refine withBool_intro ?_ ?_ <;> intro hq <;> simp only [walkS, wl, rgets, retv, argsEnv, ev, cst, cst1, cstL, AEnv.get, AEnv.trim, envput, qstep, abin, aun, evs, evo, deref, qload, target, if_true, if_false, Nat.reduceEqDiff, reduceIte, Nat.reduceAdd, AV.cells, AV.isTuple, setMany, alen, aiaddr, afill, Nat.reduceLeDiff, Nat.reduceMul, Nat.reduceLT, afillE, List.replicate]
    · have : ls' = [] := by
        have : A.length = A.length + ls'.length := by simp at hq; omega
        exact List.eq_nil_of_length_eq_zero (by omega)
      subst this
      refine ⟨hs, ?_⟩
      rw [e1, e2, e3, times_nil D.nil, taken_nil]
      simp only [Int.mul_zero, Int.add_zero]
      exact hc2
    · cases ls' with
      | nil => simp at hq
      | cons l r =>
        refine acall_callv ?_
        simp only [walkS, wl, rgets, retv, argsEnv, ev, cst, cst1, cstL, AEnv.get, AEnv.trim, envput, qstep, abin, aun, evs, evo, deref, qload, target, if_true, if_false, Nat.reduceEqDiff, reduceIte, Nat.reduceAdd, AV.cells, AV.isTuple, setMany, alen, aiaddr, afill, Nat.reduceLeDiff, Nat.reduceMul, Nat.reduceLT, afillE, List.replicate, withFun_app, funK_app]
        refine (D.step hc2 hg' (by omega) (by omega)).mono fun x H1 ⟨v1, v2, v3⟩ => ?_
        subst v1
        have hx : IntKind.i64.wrap ((i : Int) + 1) = ((i + 1 : Nat) : Int) := by rw [wrap_id (by omega) (by omega)]; simp
        simp only [walkS, wl, rgets, retv, argsEnv, ev, cst, cst1, cstL, AEnv.get, AEnv.trim, envput, qstep, abin, aun, evs, evo, deref, qload, target, if_true, if_false, Nat.reduceEqDiff, reduceIte, Nat.reduceAdd, AV.cells, AV.isTuple, setMany, alen, aiaddr, afill, Nat.reduceLeDiff, Nat.reduceMul, Nat.reduceLT, afillE, List.replicate, hx]
        have hout := D.out hg'
        have hk0 := D.k0
        refine loop_end (i + 1, (f (l :: r)).1, o' + (f (l :: r)).2, k' + dk) ⟨hlt, D.firm hg', ?_, ?_, ?_, by simp only; omega, by simp only; omega⟩ (by simp only; omega) rfl ⟨hs.trans v2, v3⟩
        · rw [e1, e4]; simp only [times]
        · rw [e2, e4]; simp only [times]; omega
        · rw [e3, e4]; simp only [taken]; rw [Int.mul_add, Int.mul_one]; omega
  · have hin : i = n := by simp at hb; omega
    subst hin
    rw [e1, e2, e3, Nat.sub_self]
    simp only [times, taken, Int.mul_zero, Int.add_zero]
    exact ⟨hs, hc2⟩
end Go.Proofs.YtomejgikdelgkaaGreatDoor
