/- Contracts: something is done many times to a column; frost. -/
import Derived.Test.YtmcndbldbemebaaDoorQC5
set_option linter.unusedVariables false
set_option linter.unusedSimpArgs false
set_option linter.unusedSectionVars false
namespace Go.Proofs.YtmcndbldbemebaaDoor
open Go.Awp Go.Snow
set_option linter.unusedSimpArgs false
set_option linter.unusedVariables false
set_option linter.unusedSectionVars false
set_option maxRecDepth 10000
/-- What is done to a column by a function of its own. -/
structure Deed (g : FuncId) (f : List Lay → List Lay × Int) (dk : Int) : Prop where
  nil : f [] = ([], 0)
  firm : ∀ {K : Int} {ls}, Firm K ls → Firm K (f ls).1
  out : ∀ {ls}, Firm 1000000 ls → 0 ≤ (f ls).2 ∧ (f ls).2 ≤ 1000000
  k0 : 0 ≤ dk ∧ dk ≤ 1
  step : ∀ {H0 : AHeap} {h : Nat} {l : Lay} {r : List Lay} {o k : Int}, Column 0 H0 h (l :: r) o k → Firm 1000000 (l :: r) → (0 ≤ o ∧ o ≤ 1000000000000000) → (0 ≤ k ∧ k ≤ 1000000000000000) →
    ACall Tryd.prog g [.ptr h 1 0 0] H0 fun x H => x = .tuple [] ∧ Same1 H0 H h ∧ Column 0 H h (f (l :: r)).1 (o + (f (l :: r)).2) (k + dk)
theorem lose_out {K more : Int} {ls : List Lay} (hm : 0 ≤ more ∧ more ≤ 1) (hK : K ≤ 1000000) (h : Firm K ls) : 0 ≤ (lose more ls).2 ∧ (lose more ls).2 ≤ 1000000 := by
  cases ls with
  | nil => simp [lose]
  | cons l r =>
    obtain ⟨⟨h1, h2, h3, h4, h5⟩, hk⟩ := h.1.head
    have h6 := h.2 l (by simp)
    simp only [lose]
    split
    · have := pour_ran (l.2.1 + more).toNat r; omega
    · have := pour_ran (l.2.1 + more - min (l.2.1 + more) ((l.1 - 1) / 20)).toNat r; simp only; omega
theorem meltDeed : Deed 84 melt1 0 where
  nil := rfl
  firm := melt1_good
  out := fun {ls} h => by
    cases ls with
    | nil => simp [melt1]
    | cons l r =>
      simp only [melt1]
      split
      · simp
      · exact lose_out (by omega) (Int.le_refl _) h
  k0 := by omega
  step := fun hc hg ho hk => (melt_ok hc hg ho).mono fun x H ⟨a, b, c⟩ => ⟨a, b, by rw [Int.add_zero]; exact c⟩
theorem vanishDeed : Deed 83 loss1 1 where
  nil := rfl
  firm := loss1_good
  out := fun h => lose_out (by omega) (Int.le_refl _) h
  k0 := by omega
  step := fun hc hg ho hk => vanish_ok hc hg ho hk
theorem times_out {g : FuncId} {f : List Lay → List Lay × Int} {dk : Int} (D : Deed g f dk) : ∀ (n : Nat) {ls : List Lay}, Firm 1000000 ls → 0 ≤ (times f n ls).2 ∧ (times f n ls).2 ≤ 1000000 * n
  | 0, ls, h => by simp [times]
  | n + 1, ls, h => by
    have h1 := D.out h
    have h2 := times_out D n (D.firm h)
    simp only [times]; omega
theorem taken_le (f : List Lay → List Lay × Int) : ∀ (n : Nat) (ls : List Lay), 0 ≤ taken f n ls ∧ taken f n ls ≤ n
  | 0, ls => by simp [taken]
  | n + 1, [] => by simp [taken]; omega
  | n + 1, l :: r => by have := taken_le f n (f (l :: r)).1; simp only [taken]; omega
theorem taken_nil (f : List Lay → List Lay × Int) (n : Nat) : taken f n [] = 0 := by cases n <;> rfl
theorem times_ok {g : FuncId} {f : List Lay → List Lay × Int} {dk : Int} (D : Deed g f dk) {H0 : AHeap} {h : Nat} {ls : List Lay} {o k : Int} {n : Nat} (hn : n ≤ 100000) (hc : Column 0 H0 h ls o k) (hg : Firm 1000000 ls) (ho : 0 ≤ o ∧ o ≤ 100000000000000) (hk : 0 ≤ k ∧ k ≤ 100000000000000) :
    ACall Tryd.prog 82 [.ptr h 1 0 0, I (n : Int), .func (.func g) [.ptr h 1 0 0] []] H0 fun x H => x = .tuple [] ∧ Same1 H0 H h ∧ Column 0 H h (times f n ls).1 (o + (times f n ls).2) (k + dk * taken f n ls) := by
  refine ACall.intro text82 (by simp) ?_
  unfold ir82
  simp only [walkS, wl, rgets, retv, argsEnv, ev, cst, cst1, cstL, AEnv.get, AEnv.trim, envput, qstep, abin, aun, evs, evo, deref, qload, target, if_true, if_false, Nat.reduceEqDiff, reduceIte, Nat.reduceAdd, AV.cells, AV.isTuple, setMany, alen, aiaddr, afill, Nat.reduceLeDiff, Nat.reduceMul, Nat.reduceLT, afillE, List.replicate]
  refine awp_loop (σ := Nat × List Lay × Int × Int) (fun s => [(0, .ptr h 1 0 0), (2, .func (.func g) [.ptr h 1 0 0] []), (6, I n), (7, I s.1)])
    (fun s H => Same1 H0 H h ∧ Column 0 H h s.2.1 s.2.2.1 s.2.2.2)
    (fun s => s.1 ≤ n ∧ Firm 1000000 s.2.1 ∧ (times f n ls).1 = (times f (n - s.1) s.2.1).1 ∧ o + (times f n ls).2 = s.2.2.1 + (times f (n - s.1) s.2.1).2 ∧ k + dk * taken f n ls = s.2.2.2 + dk * taken f (n - s.1) s.2.1 ∧
      (0 ≤ s.2.2.1 ∧ s.2.2.1 ≤ 100000000000000 + 1000000 * s.1) ∧ (0 ≤ s.2.2.2 ∧ s.2.2.2 ≤ 100000000000000 + s.1))
    (fun s => n - s.1) (0, ls, o, k) ⟨Nat.zero_le _, hg, rfl, rfl, rfl, by simpa using ho, by simpa using hk⟩ rfl ⟨.refl, hc⟩ ?_
  rintro ⟨i, ls', o', k'⟩ H ⟨hi, hg', e1, e2, e3, ho', hk'⟩ ⟨hs, hc'⟩
  simp only at hi hg' e1 e2 e3 ho' hk' hc'
  have hc2 := hc'
  obtain ⟨A, post, -, hlen, c⟩ := hc'
  have c' : AHeap.obj H h = some ⟨80, 199, [colC (A ++ ls' ++ post) A.length (A.length + ls'.length : Nat) o' k']⟩ := c
  obtain ⟨L, hL⟩ : ∃ L, L = A ++ ls' ++ post := ⟨_, rfl⟩
  rw [← hL] at hlen c'
  simp only [walkS, wl, rgets, retv, argsEnv, ev, cst, cst1, cstL, AEnv.get, AEnv.trim, envput, qstep, abin, aun, evs, evo, deref, qload, target, if_true, if_false, Nat.reduceEqDiff, reduceIte, Nat.reduceAdd, AV.cells, AV.isTuple, setMany, alen, aiaddr, afill, Nat.reduceLeDiff, Nat.reduceMul, Nat.reduceLT, afillE, List.replicate]
  refine withBool_intro ?_ ?_ <;> intro hb <;> simp only [walkS, wl, rgets, retv, argsEnv, ev, cst, cst1, cstL, AEnv.get, AEnv.trim, envput, qstep, abin, aun, evs, evo, deref, qload, target, if_true, if_false, Nat.reduceEqDiff, reduceIte, Nat.reduceAdd, AV.cells, AV.isTuple, setMany, alen, aiaddr, afill, Nat.reduceLeDiff, Nat.reduceMul, Nat.reduceLT, afillE, List.replicate, c', colC_195 hlen, colC_196 hlen]
  · have hlt : i < n := by simpa using hb
    have e4 : n - i = (n - (i + 1)) + 1 := by omega
    refine withBool_intro ?_ ?_ <;> intro hq <;> simp only [walkS, wl, rgets, retv, argsEnv, ev, cst, cst1, cstL, AEnv.get, AEnv.trim, envput, qstep, abin, aun, evs, evo, deref, qload, target, if_true, if_false, Nat.reduceEqDiff, reduceIte, Nat.reduceAdd, AV.cells, AV.isTuple, setMany, alen, aiaddr, afill, Nat.reduceLeDiff, Nat.reduceMul, Nat.reduceLT, afillE, List.replicate]
    · have : ls' = [] := by
        have : A.length = A.length + ls'.length := by simp at hq; omega
        exact List.eq_nil_of_length_eq_zero (by omega)
      subst this
      refine ⟨hs, ?_⟩
      rw [e1, e2, e3, times_nil D.nil, taken_nil]
      simp only [Int.mul_zero, Int.add_zero]
      exact hc2
    · cases ls' with
      | nil => simp at hq
      | cons l r =>
        refine acall_callv ?_
        simp only [walkS, wl, rgets, retv, argsEnv, ev, cst, cst1, cstL, AEnv.get, AEnv.trim, envput, qstep, abin, aun, evs, evo, deref, qload, target, if_true, if_false, Nat.reduceEqDiff, reduceIte, Nat.reduceAdd, AV.cells, AV.isTuple, setMany, alen, aiaddr, afill, Nat.reduceLeDiff, Nat.reduceMul, Nat.reduceLT, afillE, List.replicate, withFun_app, funK_app]
        refine (D.step hc2 hg' (by omega) (by omega)).mono fun x H1 ⟨v1, v2, v3⟩ => ?_
        subst v1
        have hx : IntKind.i64.wrap ((i : Int) + 1) = ((i + 1 : Nat) : Int) := by rw [wrap_id (by omega) (by omega)]; simp
        simp only [walkS, wl, rgets, retv, argsEnv, ev, cst, cst1, cstL, AEnv.get, AEnv.trim, envput, qstep, abin, aun, evs, evo, deref, qload, target, if_true, if_false, Nat.reduceEqDiff, reduceIte, Nat.reduceAdd, AV.cells, AV.isTuple, setMany, alen, aiaddr, afill, Nat.reduceLeDiff, Nat.reduceMul, Nat.reduceLT, afillE, List.replicate, hx]
        have hout := D.out hg'
        have hk0 := D.k0
        refine loop_end (i + 1, (f (l :: r)).1, o' + (f (l :: r)).2, k' + dk) ⟨hlt, D.firm hg', ?_, ?_, ?_, by simp only; omega, by simp only; omega⟩ (by simp only; omega) rfl ⟨hs.trans v2, v3⟩
        · rw [e1, e4]; simp only [times]
        · rw [e2, e4]; simp only [times]; omega
        · rw [e3, e4]; simp only [taken]; rw [Int.mul_add, Int.mul_one]; omega
  · have hin : i = n := by simp at hb; omega
    subst hin
    rw [e1, e2, e3, Nat.sub_self]
    simp only [times, taken, Int.mul_zero, Int.add_zero]
    exact ⟨hs, hc2⟩
end Go.Proofs.YtmcndbldbemebaaDoor
/- Contracts: frost; a pack as a column and back. -/
namespace Go.Proofs.YtmcndbldbemebaaDoor
open Go.Awp Go.Snow
set_option linter.unusedSimpArgs false
set_option linter.unusedVariables false
set_option linter.unusedSectionVars false
set_option maxRecDepth 10000
theorem frz_length : ∀ (c : Int) (ls : List Lay), (frz c ls).1.length = ls.length
  | c, [] => rfl
  | c, l :: r => by simp only [frz, List.length_cons, frz_length]
theorem frost_length (c : Int) (ls : List Lay) : (frost c ls).length = ls.length := by
  have := frz_length c ls
  unfold frost
  cases h : (frz c ls).1 with
  | nil => rw [h] at this; simpa [chill] using this
  | cons x r => rw [h] at this; simpa [chill] using this
theorem frost_ok {H0 : AHeap} {h : Nat} {ls : List Lay} {o k c : Int} (hc : Column 0 H0 h ls o k) (hg : Nice 1000000 ls) (hcc : 0 ≤ c ∧ c ≤ 1000000) :
    ACall Tryd.prog 89 [.ptr h 1 0 0, I c] H0 fun x H => x = .tuple [] ∧ Same1 H0 H h ∧ Column 0 H h (frost c ls) o k := by
  refine ACall.intro text89 (by simp) ?_
  unfold ir89
  obtain ⟨A, post, -, hlen0, c0⟩ := hc
  have c0' : AHeap.obj H0 h = some ⟨80, 199, [colC (A ++ ls ++ post) A.length (A.length + ls.length : Nat) o k]⟩ := c0
  have hA : A.length + ls.length ≤ 65 := by rw [← hlen0]; simp
  obtain ⟨L0, hL0⟩ : ∃ L0, L0 = A ++ ls ++ post := ⟨_, rfl⟩
  rw [← hL0] at hlen0 c0'
  simp only [walkS, wl, rgets, retv, argsEnv, ev, cst, cst1, cstL, AEnv.get, AEnv.trim, envput, qstep, abin, aun, evs, evo, deref, qload, target, if_true, if_false, Nat.reduceEqDiff, reduceIte, Nat.reduceAdd, AV.cells, AV.isTuple, setMany, alen, aiaddr, afill, Nat.reduceLeDiff, Nat.reduceMul, Nat.reduceLT, afillE, List.replicate, c0', colC_195 hlen0]
  refine awp_loop (σ := List Lay × Nat × Int) (fun s => [(0, .ptr h 1 0 0), (1, I s.2.2), (4, I s.2.1)])
    (fun s H => Same1 H0 H h ∧ ColAt H h s.1 A.length (A.length + ls.length : Nat) o k)
    (fun s => ∃ d r, s.1 = A ++ d ++ r ++ post ∧ s.2.1 = A.length + d.length ∧ d.length + r.length = ls.length ∧ frz c ls = (d ++ (frz s.2.2 r).1, (frz s.2.2 r).2) ∧ Nice 1000000 r ∧ (0 ≤ s.2.2 ∧ s.2.2 ≤ c) ∧ ∀ l, l ∈ d → l.2.2 ≤ 1000000 ∧ 0 ≤ l.2.2)
    (fun s => 65 - s.2.1) (L0, A.length, c) ⟨[], ls, by simp [hL0], by simp, by simp, by simp, hg, by simp only; omega, by simp⟩ rfl ⟨.refl, by unfold ColAt; exact c0'⟩ ?_
  rintro ⟨L, i, c1⟩ H ⟨d, r, e1, e2, e3, e4, e5, e6, e7⟩ ⟨hs, c3⟩
  simp only at e1 e2 e3 e4 e5 e6 e7 c3
  have hlen : L.length = 65 := by
    rw [e1]; rw [hL0] at hlen0; simp only [List.length_append] at hlen0 ⊢; omega
  have c3' : AHeap.obj H h = some ⟨80, 199, [colC L A.length (A.length + ls.length : Nat) o k]⟩ := c3
  simp only [walkS, wl, rgets, retv, argsEnv, ev, cst, cst1, cstL, AEnv.get, AEnv.trim, envput, qstep, abin, aun, evs, evo, deref, qload, target, if_true, if_false, Nat.reduceEqDiff, reduceIte, Nat.reduceAdd, AV.cells, AV.isTuple, setMany, alen, aiaddr, afill, Nat.reduceLeDiff, Nat.reduceMul, Nat.reduceLT, afillE, List.replicate, c3', colC_196 hlen]
  refine withBool_intro ?_ ?_ <;> intro hb <;> simp only [walkS, wl, rgets, retv, argsEnv, ev, cst, cst1, cstL, AEnv.get, AEnv.trim, envput, qstep, abin, aun, evs, evo, deref, qload, target, if_true, if_false, Nat.reduceEqDiff, reduceIte, Nat.reduceAdd, AV.cells, AV.isTuple, setMany, alen, aiaddr, afill, Nat.reduceLeDiff, Nat.reduceMul, Nat.reduceLT, afillE, List.replicate]
  · have hlt : i < A.length + ls.length := by simp at hb; omega
    have hi65 : i < 65 := by omega
    cases r with
    | nil => simp at e3; omega
    | cons l r =>
      have hi : i < L.length := by omega
      have hLi : L[i] = l := by
        subst e1 e2
        exact get_mid A d r post l _
      obtain ⟨⟨f1, f2, f3, f4, f5⟩, hlK⟩ := e5.head
      have hi0 : (0 : Int) ≤ (i : Int) ∧ (i : Int) < ((65 : Nat) : Int) := ⟨by omega, by omega⟩
      simp only [walkS, wl, rgets, retv, argsEnv, ev, cst, cst1, cstL, AEnv.get, AEnv.trim, envput, qstep, abin, aun, evs, evo, deref, qload, target, if_true, if_false, Nat.reduceEqDiff, reduceIte, Nat.reduceAdd, AV.cells, AV.isTuple, setMany, alen, aiaddr, afill, Nat.reduceLeDiff, Nat.reduceMul, Nat.reduceLT, afillE, List.replicate, hi0, c3', colC_at hi, colC_at1 hi, colC_at2 hi, hLi, amm, amm.go, amin, Nat.add_zero]
      obtain ⟨fz, hfz⟩ : ∃ fz, fz = min c1 l.2.1 := ⟨_, rfl⟩
      rw [← hfz]
      refine storeR rfl rfl c3' rfl ⟨rfl, rfl, rfl, by simp only [colC_length]; omega⟩ fun H1 y1 y2 y3 => ?_
      simp only [AV.cells, setMany, List.set_cons_zero, set_at1 hi, hLi] at y2
      rw [wrap_id (by omega) (by omega)] at y2
      obtain ⟨L1, hL1⟩ : ∃ L1, L1 = L.set i (l.1, l.2.1 - fz, l.2.2) := ⟨_, rfl⟩
      rw [← hL1] at y2
      have hl1 : L1.length = 65 := by rw [hL1, List.length_set]; exact hlen
      have hi1 : i < L1.length := by omega
      have g1 : L1[i] = (l.1, l.2.1 - fz, l.2.2) := by subst hL1; simp
      simp only [walkS, wl, rgets, retv, argsEnv, ev, cst, cst1, cstL, AEnv.get, AEnv.trim, envput, qstep, abin, aun, evs, evo, deref, qload, target, if_true, if_false, Nat.reduceEqDiff, reduceIte, Nat.reduceAdd, AV.cells, AV.isTuple, setMany, alen, aiaddr, afill, Nat.reduceLeDiff, Nat.reduceMul, Nat.reduceLT, afillE, List.replicate, hi0, y2, colC_at hi1, colC_at1 hi1, colC_at2 hi1, g1, Nat.add_zero]
      refine storeR rfl rfl y2 rfl ⟨rfl, rfl, rfl, by simp only [colC_length]; omega⟩ fun H2 z1 z2 z3 => ?_
      simp only [AV.cells, setMany, List.set_cons_zero, set_at0 hi1, g1] at z2
      rw [wrap_id (by omega) (by omega)] at z2
      have hx3 : IntKind.i64.wrap (c1 - fz) = c1 - fz := wrap_id (by omega) (by omega)
      have hx4 : IntKind.i64.wrap ((i : Int) + 1) = ((i + 1 : Nat) : Int) := by rw [wrap_id (by omega) (by omega)]; simp
      simp only [walkS, wl, rgets, retv, argsEnv, ev, cst, cst1, cstL, AEnv.get, AEnv.trim, envput, qstep, abin, aun, evs, evo, deref, qload, target, if_true, if_false, Nat.reduceEqDiff, reduceIte, Nat.reduceAdd, AV.cells, AV.isTuple, setMany, alen, aiaddr, afill, Nat.reduceLeDiff, Nat.reduceMul, Nat.reduceLT, afillE, List.replicate, hx3, hx4]
      refine loop_end (L1.set i (l.1 + fz, l.2.1 - fz, l.2.2), i + 1, c1 - fz) ⟨d ++ [(l.1 + fz, l.2.1 - fz, l.2.2)], r, ?_, by simp only [List.length_append, List.length_cons, List.length_nil]; omega, by simp only [List.length_append, List.length_cons, List.length_nil] at e3 ⊢; omega, ?_, e5.tail, by simp only; omega, ?_⟩ (by simp only; omega) rfl
        ⟨⟨by rw [z1, y1]; exact hs.1, fun j hj hj2 => by rw [z3 j hj, y3 j hj]; exact hs.2 j hj hj2⟩, z2⟩
      · simp only
        rw [hL1, List.set_set, e1, e2, set_mid A d r post l _]
        simp only [List.append_assoc]
      · rw [e4]; simp only [frz, ← hfz, List.append_assoc, List.cons_append, List.nil_append]
      · intro x hx
        rcases List.mem_append.1 hx with hx | hx
        · exact e7 x hx
        · simp at hx; subst hx; simp only; omega
  · have hr : r = [] := List.eq_nil_of_length_eq_zero (by simp at hb; omega)
    subst hr
    have hd : d.length = ls.length := by simpa using e3
    simp only [frz, List.append_nil] at e4 e1
    simp only [walkS, wl, rgets, retv, argsEnv, ev, cst, cst1, cstL, AEnv.get, AEnv.trim, envput, qstep, abin, aun, evs, evo, deref, qload, target, if_true, if_false, Nat.reduceEqDiff, reduceIte, Nat.reduceAdd, AV.cells, AV.isTuple, setMany, alen, aiaddr, afill, Nat.reduceLeDiff, Nat.reduceMul, Nat.reduceLT, afillE, List.replicate, c3', colC_195 hlen, colC_196 hlen]
    have efr : frost c ls = chill c1 d := by simp only [frost, e4]
    refine withBool_intro ?_ ?_ <;> intro hq <;> simp only [walkS, wl, rgets, retv, argsEnv, ev, cst, cst1, cstL, AEnv.get, AEnv.trim, envput, qstep, abin, aun, evs, evo, deref, qload, target, if_true, if_false, Nat.reduceEqDiff, reduceIte, Nat.reduceAdd, AV.cells, AV.isTuple, setMany, alen, aiaddr, afill, Nat.reduceLeDiff, Nat.reduceMul, Nat.reduceLT, afillE, List.replicate]
    · cases d with
      | nil => simp only [List.length_nil] at hd; simp at hq; omega
      | cons l r =>
        have hA2 : A.length < 65 := by simp only [List.length_cons] at hd; omega
        have hi : A.length < L.length := by omega
        have hLi : L[A.length] = l := by subst e1; simp
        have hlc := e7 l (by simp)
        have hi0 : (0 : Int) ≤ (A.length : Int) ∧ (A.length : Int) < ((65 : Nat) : Int) := ⟨by omega, by omega⟩
        have hx : IntKind.i64.wrap (l.2.2 + c1) = l.2.2 + c1 := wrap_id (by omega) (by omega)
        simp only [walkS, wl, rgets, retv, argsEnv, ev, cst, cst1, cstL, AEnv.get, AEnv.trim, envput, qstep, abin, aun, evs, evo, deref, qload, target, if_true, if_false, Nat.reduceEqDiff, reduceIte, Nat.reduceAdd, AV.cells, AV.isTuple, setMany, alen, aiaddr, afill, Nat.reduceLeDiff, Nat.reduceMul, Nat.reduceLT, afillE, List.replicate, hi0, c3', colC_195 hlen, colC_at hi, colC_at1 hi, colC_at2 hi, hLi, Nat.add_zero, hx]
        refine storeR rfl rfl c3' rfl ⟨rfl, rfl, rfl, by simp only [colC_length]; omega⟩ fun H1 y1 y2 y3 => ?_
        simp only [AV.cells, setMany, List.set_cons_zero, set_at2 hi, hLi] at y2
        simp only [walkS, wl, rgets, retv, argsEnv, ev, cst, cst1, cstL, AEnv.get, AEnv.trim, envput, qstep, abin, aun, evs, evo, deref, qload, target, if_true, if_false, Nat.reduceEqDiff, reduceIte, Nat.reduceAdd, AV.cells, AV.isTuple, setMany, alen, aiaddr, afill, Nat.reduceLeDiff, Nat.reduceMul, Nat.reduceLT, afillE, List.replicate]
        refine ⟨⟨by rw [y1]; exact hs.1, fun j hj hj2 => by rw [y3 j hj]; exact hs.2 j hj hj2⟩, A, post, Nat.zero_le _, ?_, ?_⟩
        · rw [List.length_append, List.length_append, frost_length]; rw [hL0] at hlen0; simpa [Nat.add_assoc] using hlen0
        · rw [frost_length]
          unfold ColAt
          rw [efr, y2, e1]
          have es := set_mid A [] r post l (l.1, l.2.1, l.2.2 + c1)
          simp only [List.append_nil, List.length_nil, Nat.add_zero, List.nil_append] at es
          rw [es]
          simp only [chill, List.append_assoc, List.cons_append, List.nil_append]
    · have : ls = [] := List.eq_nil_of_length_eq_zero (by simp at hq; omega)
      subst this
      have hd0 : d = [] := List.eq_nil_of_length_eq_zero (by simpa using hd)
      subst hd0
      refine ⟨hs, A, post, Nat.zero_le _, ?_, ?_⟩
      · rw [efr]; simp only [chill]; rw [← hlen0, hL0]
      · rw [efr]; simp only [chill, List.length_nil]; rw [e1] at c3; exact c3
end Go.Proofs.YtmcndbldbemebaaDoor
/- Contracts: a pack as a column and back; what a step does. -/
namespace Go.Proofs.YtmcndbldbemebaaDoor
open Go.Awp Go.Snow
set_option linter.unusedSimpArgs false
set_option linter.unusedVariables false
set_option linter.unusedSectionVars false
set_option maxRecDepth 10000
def nils : List Lay := List.replicate 65 (0, 0, 0)
theorem nils_length : nils.length = 65 := rfl
theorem zs_nils : zs 199 (.int .i64 0) = colC nils 0 0 0 0 := rfl
theorem lenC {L : List Lay} (h : L.length = 65) {t n o k : Int} : (colC L t n o k).length = 199 := by rw [colC_length, h]
theorem columnOf_ok {H0 : AHeap} {b : Bool} {ls : List Lay} (hl : ls.length ≤ 64) :
    ACall Tryd.prog 59 [.agg [.ro b (rows ls)]] H0 fun x H => ∃ h, x = .ptr h 1 0 0 ∧ H0.length ≤ h ∧ H0.length ≤ H.length ∧ (∀ i, i < H0.length → AHeap.obj H i = AHeap.obj H0 i) ∧ Column 1 H h ls 0 0 := by
  refine ACall.intro text59 (by simp) ?_
  unfold ir59
  have hx : IntKind.i64.wrap ((ls.length : Int) + 1) = ((ls.length + 1 : Nat) : Int) := by rw [wrap_id (by omega) (by omega)]; simp
  have hn := nils_length
  have hb65 : abnds 65 (some (.int .i64 1)) none = some (1, 65) := rfl
  simp only [walkS, wl, rgets, retv, argsEnv, ev, cst, cst1, cstL, AEnv.get, AEnv.trim, envput, qstep, abin, aun, evs, evo, deref, qload, target, if_true, if_false, Nat.reduceEqDiff, reduceIte, Nat.reduceAdd, AV.cells, AV.isTuple, setMany, alen, aiaddr, afill, Nat.reduceLeDiff, Nat.reduceMul, Nat.reduceLT, afillE, List.replicate, rows_length, hx, zs_nils, lenC hn, set_195 hn, set_196 hn, asliceA, hb65]
  have ho : AHeap.obj (H0 ++ [some ⟨24, 1, [[.ro b (rows ls)]]⟩, some ⟨80, 199, [colC nils 1 (ls.length + 1 : Nat) 0 0]⟩]) (H0.length + 1) = some ⟨80, 199, [colC nils 1 (ls.length + 1 : Nat) 0 0]⟩ := by
    rw [obj_app_add]; rfl
  refine copyR rfl rfl (asrc_ro (rows_all ls)) ho rfl ⟨rfl, rfl, by rw [rows_length, lenC hn]; omega⟩ (by rw [rows_length]; omega) fun H1 y1 y2 y3 => ?_
  have es := setMany_rows (t := 1) (n := (ls.length + 1 : Nat)) (o := 0) (k := 0) ls nils 1 (by rw [nils_length]; omega)
  simp only [List.set_cons_zero] at y2
  rw [show (1 * 3 : Nat) = 3 from rfl] at es
  simp only [walkS, wl, rgets, retv, argsEnv, ev, cst, cst1, cstL, AEnv.get, AEnv.trim, envput, qstep, abin, aun, evs, evo, deref, qload, target, if_true, if_false, Nat.reduceEqDiff, reduceIte, Nat.reduceAdd, AV.cells, AV.isTuple, setMany, alen, aiaddr, afill, Nat.reduceLeDiff, Nat.reduceMul, Nat.reduceLT, afillE, List.replicate]
  refine ⟨H0.length + 1, rfl, by omega, by rw [y1]; simp, fun i hi => by rw [y3 i (by omega), AHeap.obj_push_lt hi], nils.take 1, nils.drop (1 + ls.length), by simp [nils], ?_, ?_⟩
  · simp only [List.length_append, List.length_take, List.length_drop, nils_length]; omega
  · unfold ColAt
    rw [y2, es]
    have : (nils.take 1).length = 1 := rfl
    rw [this, Nat.add_comm 1]
    rfl
theorem layers_ok {H0 : AHeap} {h : Nat} {A ls post : List Lay} {o k : Int} (hlen : (A ++ ls ++ post).length = 65) (hc : ColAt H0 h (A ++ ls ++ post) A.length (A.length + ls.length : Nat) o k) :
    ACall Tryd.prog 90 [.ptr h 1 0 0] H0 fun x H => x = .sub h 1 0 (A.length * 3) 3 ls.length ∧ H = H0 := by
  refine ACall.intro text90 (by simp) ?_
  unfold ir90
  have c' : AHeap.obj H0 h = some ⟨80, 199, [colC (A ++ ls ++ post) A.length (A.length + ls.length : Nat) o k]⟩ := hc
  have hA : A.length + ls.length ≤ 65 := by rw [← hlen]; simp
  obtain ⟨L, hL⟩ : ∃ L, L = A ++ ls ++ post := ⟨_, rfl⟩
  rw [← hL] at hlen c'
  have hb : abnds 65 (some (.int .i64 (A.length : Int))) (some (.int .i64 ((A.length + ls.length : Nat) : Int))) = some (A.length, A.length + ls.length) := abnds_h (by omega) (by omega)
  simp only [walkS, wl, rgets, retv, argsEnv, ev, cst, cst1, cstL, AEnv.get, AEnv.trim, envput, qstep, abin, aun, evs, evo, deref, qload, target, if_true, if_false, Nat.reduceEqDiff, reduceIte, Nat.reduceAdd, AV.cells, AV.isTuple, setMany, alen, aiaddr, afill, Nat.reduceLeDiff, Nat.reduceMul, Nat.reduceLT, afillE, List.replicate, c', colC_195 hlen, colC_196 hlen, asliceA, hb]
  rw [Nat.add_sub_cancel_left]
theorem pack_ok {H0 : AHeap} {h : Nat} {ls : List Lay} {o k : Int} (hc : Column 0 H0 h ls o k) :
    ACall Tryd.prog 61 [.ptr h 1 0 0] H0 fun x H => H0.length ≤ H.length ∧ (∀ i, i < H0.length → AHeap.obj H i = AHeap.obj H0 i) ∧
      ∃ a, x = .tuple [.agg [a], I (if okP ls then 0 else 2)] ∧ Acc H0.length H a 43 3 (rows (if okP ls then ls else [])) := by
  refine ACall.intro text61 (by simp) ?_
  unfold ir61
  have hh := hc.lt
  obtain ⟨A, post, -, hlen, c⟩ := hc
  have hA : A.length + ls.length ≤ 65 := by rw [← hlen]; simp
  simp only [walkS, wl, rgets, retv, argsEnv, ev, cst, cst1, cstL, AEnv.get, AEnv.trim, envput, qstep, abin, aun, evs, evo, deref, qload, target, if_true, if_false, Nat.reduceEqDiff, reduceIte, Nat.reduceAdd, AV.cells, AV.isTuple, setMany, alen, aiaddr, afill, Nat.reduceLeDiff, Nat.reduceMul, Nat.reduceLT, afillE, List.replicate]
  have c1 : ∀ X, ColAt (H0 ++ X) h (A ++ ls ++ post) A.length (A.length + ls.length : Nat) o k := fun X => by unfold ColAt; exact obj_keep c
  refine (layers_ok hlen (c1 _)).mono fun x H ⟨e1, e2⟩ => ?_
  subst e1 e2
  simp only [walkS, wl, rgets, retv, argsEnv, ev, cst, cst1, cstL, AEnv.get, AEnv.trim, envput, qstep, abin, aun, evs, evo, deref, qload, target, if_true, if_false, Nat.reduceEqDiff, reduceIte, Nat.reduceAdd, AV.cells, AV.isTuple, setMany, alen, aiaddr, afill, Nat.reduceLeDiff, Nat.reduceMul, Nat.reduceLT, afillE, List.replicate]
  have hsrc : ∀ X, asrc (H0 ++ X) 3 (.sub h 1 0 (A.length * 3) 3 ls.length) = some (rows ls) := by
    intro X
    have ho := c1 X
    unfold ColAt at ho
    simp only [asrc, ho, List.getElem?_cons_zero, List.length_cons, List.length_nil]
    rw [if_pos ⟨trivial, trivial, by rw [lenC hlen]; omega⟩, colC_drop _ _ (by simp), List.append_assoc, List.drop_append_of_le_length (Nat.le_refl _), List.drop_length, List.nil_append, chunks_col _ _ (by simp), List.take_append_of_le_length (Nat.le_refl _), List.take_length]
  refine acc_appendL (lo := H0.length + 1) (els := []) (by simp) (.inl ⟨rfl, rfl⟩) rfl rfl (hsrc _) (by simp only [rows_length, List.length_nil]; omega) fun a H1 y1 y2 y3 => ?_
  rw [List.nil_append] at y2
  simp only [List.length_append, List.length_cons, List.length_nil] at y1
  obtain ⟨hone, htup⟩ := y2.one
  have hcl : a.cells.length = 1 := by rw [hone]; rfl
  have b0 : AHeap.obj H1 H0.length = some ⟨24, 1, [[.nilSlice]]⟩ := by rw [y3 _ (by omega)]; exact AHeap.obj_push_eq
  rcases y2.form with rfl | ⟨q, n, rfl⟩
  all_goals
    simp only [walkS, wl, rgets, retv, argsEnv, ev, cst, cst1, cstL, AEnv.get, AEnv.trim, envput, qstep, abin, aun, evs, evo, deref, qload, target, if_true, if_false, Nat.reduceEqDiff, reduceIte, Nat.reduceAdd, AV.cells, AV.isTuple, setMany, alen, aiaddr, afill, Nat.reduceLeDiff, Nat.reduceMul, Nat.reduceLT, afillE, List.replicate]
    refine storeR rfl rfl AHeap.obj_push_eq rfl ⟨rfl, rfl, rfl, by simp⟩ fun H2 z1 z2 z3 => ?_
    simp only [AV.cells, setMany, List.set_cons_zero, List.set_cons_succ] at z2
    simp only [List.length_append, List.length_cons, List.length_nil] at z1
    have y2' := y2.keep (H' := H2) fun i h1 h2 => by rw [z3 i (by omega), AHeap.obj_push_lt h2]
    have b2 : AHeap.obj H2 H0.length = some ⟨24, 1, [[.nilSlice]]⟩ := by rw [z3 _ (by omega), AHeap.obj_push_lt (by omega)]; exact b0
    simp only [walkS, wl, rgets, retv, argsEnv, ev, cst, cst1, cstL, AEnv.get, AEnv.trim, envput, qstep, abin, aun, evs, evo, deref, qload, target, if_true, if_false, Nat.reduceEqDiff, reduceIte, Nat.reduceAdd, AV.cells, AV.isTuple, setMany, alen, aiaddr, afill, Nat.reduceLeDiff, Nat.reduceMul, Nat.reduceLT, afillE, List.replicate, z2]
    refine call_pure (Check_ok ls) (ys := [.agg [.ro false (rows ls)]]) (.cons ?_ .nil) ?_
    · intro w m B v st hv
      cases hv with
      | agg _ vs hl ho hh =>
        refine .agg _ _ hl (by simp [AV.one]) fun i x v e1 e2 => ?_
        cases i with
        | zero => cases e1; exact y2'.carF (d := 0) (rows_simple ls) w m B v st (hh 0 _ v rfl e2)
        | succ i => simp at e1
    simp only [walkS, wl, rgets, retv, argsEnv, ev, cst, cst1, cstL, AEnv.get, AEnv.trim, envput, qstep, abin, aun, evs, evo, deref, qload, target, if_true, if_false, Nat.reduceEqDiff, reduceIte, Nat.reduceAdd, AV.cells, AV.isTuple, setMany, alen, aiaddr, afill, Nat.reduceLeDiff, Nat.reduceMul, Nat.reduceLT, afillE, List.replicate]
    refine withBool_intro ?_ ?_ <;> intro hb <;> simp only [walkS, wl, rgets, retv, argsEnv, ev, cst, cst1, cstL, AEnv.get, AEnv.trim, envput, qstep, abin, aun, evs, evo, deref, qload, target, if_true, if_false, Nat.reduceEqDiff, reduceIte, Nat.reduceAdd, AV.cells, AV.isTuple, setMany, alen, aiaddr, afill, Nat.reduceLeDiff, Nat.reduceMul, Nat.reduceLT, afillE, List.replicate]
    · obtain ⟨h1, h2⟩ := chk_ne (ls := ls) (by simpa using hb)
      refine storeR rfl rfl b2 rfl ⟨rfl, rfl, rfl, by simp⟩ fun H3 u1 u2 u3 => ?_
      simp only [AV.cells, setMany, List.set_cons_zero, List.set_cons_succ] at u2
      simp only [walkS, wl, rgets, retv, argsEnv, ev, cst, cst1, cstL, AEnv.get, AEnv.trim, envput, qstep, abin, aun, evs, evo, deref, qload, target, if_true, if_false, Nat.reduceEqDiff, reduceIte, Nat.reduceAdd, AV.cells, AV.isTuple, setMany, alen, aiaddr, afill, Nat.reduceLeDiff, Nat.reduceMul, Nat.reduceLT, afillE, List.replicate, u2]
      simp only [h1, Bool.false_eq_true, if_false]
      exact ⟨by omega, fun i hi => by rw [u3 i (by omega), z3 i (by omega), AHeap.obj_push_lt (by omega), y3 i (by omega), AHeap.obj_push_lt hi], .nilSlice, rfl, .inl ⟨rfl, rfl⟩⟩
    · have h1 := chk_zero (ls := ls) (by simpa using hb)
      simp only [walkS, wl, rgets, retv, argsEnv, ev, cst, cst1, cstL, AEnv.get, AEnv.trim, envput, qstep, abin, aun, evs, evo, deref, qload, target, if_true, if_false, Nat.reduceEqDiff, reduceIte, Nat.reduceAdd, AV.cells, AV.isTuple, setMany, alen, aiaddr, afill, Nat.reduceLeDiff, Nat.reduceMul, Nat.reduceLT, afillE, List.replicate, z2]
      refine storeR rfl rfl b2 rfl ⟨rfl, hcl, rfl, by simp⟩ fun H3 u1 u2 u3 => ?_
      simp only [AV.cells, setMany, List.set_cons_zero, List.set_cons_succ] at u2
      simp only [walkS, wl, rgets, retv, argsEnv, ev, cst, cst1, cstL, AEnv.get, AEnv.trim, envput, qstep, abin, aun, evs, evo, deref, qload, target, if_true, if_false, Nat.reduceEqDiff, reduceIte, Nat.reduceAdd, AV.cells, AV.isTuple, setMany, alen, aiaddr, afill, Nat.reduceLeDiff, Nat.reduceMul, Nat.reduceLT, afillE, List.replicate, u2]
      simp only [h1, if_true]
      exact ⟨by omega, fun i hi => by rw [u3 i (by omega), z3 i (by omega), AHeap.obj_push_lt (by omega), y3 i (by omega), AHeap.obj_push_lt hi], _, rfl, (y2'.keep fun i h1 h2 => by rw [u3 i (by omega)]).weaken (by omega)⟩
end Go.Proofs.YtmcndbldbemebaaDoor
