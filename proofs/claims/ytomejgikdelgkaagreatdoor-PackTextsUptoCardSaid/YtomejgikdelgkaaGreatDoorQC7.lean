/- Contracts: frost; a pack as a column and back. -/
import Derived.Test.YtomejgikdelgkaaGreatDoorQC6
set_option linter.unusedVariables false
set_option linter.unusedSimpArgs false
set_option linter.unusedSectionVars false
namespace Go.Proofs.YtomejgikdelgkaaGreatDoor
open Go.Awp Go.Snow
set_option linter.unusedSimpArgs false
set_option linter.unusedVariables false
set_option linter.unusedSectionVars false
set_option maxRecDepth 10000
theorem frz_length : ∀ (c : Int) (ls : List Lay), (frz c ls).1.length = ls.length
  | c, [] => rfl
  | c, l :: r => by simp only [frz, List.length_cons, frz_length]
theorem frost_length (c : Int) (ls : List Lay) : (frost c ls).length = ls.length := by
  have := frz_length c ls
  unfold frost
  cases h : (frz c ls).1 with
  | nil => rw [h] at this; simpa [chill] using this
  | cons x r => rw [h] at this; simpa [chill] using this
theorem frost_ok {H0 : AHeap} {h : Nat} {ls : List Lay} {o k c : Int} (hc : Column 0 H0 h ls o k) (hg : Nice 1000000 ls) (hcc : 0 ≤ c ∧ c ≤ 1000000) :
    ACall Tryz.prog 62 [.ptr h 1 0 0, I c] H0 fun x H => x = .tuple [] ∧ Same1 H0 H h ∧ Column 0 H h (frost c ls) o k := by
  refine ACall.intro text62 (by simp) ?_
  unfold ir62
  obtain ⟨A, post, -, hlen0, c0⟩ := hc
  have c0' : AHeap.obj H0 h = some ⟨72, 199, [colC (A ++ ls ++ post) A.length (A.length + ls.length : Nat) o k]⟩ := c0
  have hA : A.length + ls.length ≤ 65 := by rw [← hlen0]; simp
  obtain ⟨L0, hL0⟩ : ∃ L0, L0 = A ++ ls ++ post := ⟨_, rfl⟩
  rw [← hL0] at hlen0 c0'
  simp only [walkS, wl, rgets, retv, argsEnv, ev, cst, cst1, cstL, AEnv.get, AEnv.trim, envput, qstep, abin, aun, evs, evo, deref, qload, target, if_true, if_false, Nat.reduceEqDiff, reduceIte, Nat.reduceAdd, AV.cells, AV.isTuple, setMany, alen, aiaddr, afill, Nat.reduceLeDiff, Nat.reduceMul, Nat.reduceLT, afillE, List.replicate, c0', colC_195 hlen0]
  refine awp_loop (σ := List Lay × Nat × Int) (fun s => [(0, .ptr h 1 0 0), (1, I s.2.2), (4, I s.2.1)])
    (fun s H => Same1 H0 H h ∧ ColAt H h s.1 A.length (A.length + ls.length : Nat) o k)
    (fun s => ∃ d r, s.1 = A ++ d ++ r ++ post ∧ s.2.1 = A.length + d.length ∧ d.length + r.length = ls.length ∧ frz c ls = (d ++ (frz s.2.2 r).1, (frz s.2.2 r).2) ∧ Nice 1000000 r ∧ (0 ≤ s.2.2 ∧ s.2.2 ≤ c) ∧ ∀ l, l ∈ d → l.2.2 ≤ 1000000 ∧ 0 ≤ l.2.2)
    (fun s => 65 - s.2.1) (L0, A.length, c) ⟨[], ls, by simp [hL0], by simp, by simp, by simp, hg, by simp only; omega, by simp⟩ rfl ⟨.refl, by unfold ColAt; exact c0'⟩ ?_
  rintro ⟨L, i, c1⟩ H ⟨d, r, e1, e2, e3, e4, e5, e6, e7⟩ ⟨hs, c3⟩
  simp only at e1 e2 e3 e4 e5 e6 e7 c3
  have hlen : L.length = 65 := by
    rw [e1]; rw [hL0] at hlen0; simp only [List.length_append] at hlen0 ⊢; omega
  have c3' : AHeap.obj H h = some ⟨72, 199, [colC L A.length (A.length + ls.length : Nat) o k]⟩ := c3
  simp only [walkS, wl, rgets, retv, argsEnv, ev, cst, cst1, cstL, AEnv.get, AEnv.trim, envput, qstep, abin, aun, evs, evo, deref, qload, target, if_true, if_false, Nat.reduceEqDiff, reduceIte, Nat.reduceAdd, AV.cells, AV.isTuple, setMany, alen, aiaddr, afill, Nat.reduceLeDiff, Nat.reduceMul, Nat.reduceLT, afillE, List.replicate, c3', colC_196 hlen]
  refine withBool_intro ?_ ?_ <;> intro hb <;> simp only [walkS, wl, rgets, retv, argsEnv, ev, cst, cst1, cstL, AEnv.get, AEnv.trim, envput, qstep, abin, aun, evs, evo, deref, qload, target, if_true, if_false, Nat.reduceEqDiff, reduceIte, Nat.reduceAdd, AV.cells, AV.isTuple, setMany, alen, aiaddr, afill, Nat.reduceLeDiff, Nat.reduceMul, Nat.reduceLT, afillE, List.replicate]
  · have hlt : i < A.length + ls.length := by simp at hb; omega
    have hi65 : i < 65 := by omega
    cases r with
    | nil => simp at e3; omega
    | cons l r =>
      have hi : i < L.length := by omega
      have hLi : L[i] = l := by
        subst e1 e2
        exact get_mid A d r post l _
      obtain ⟨⟨f1, f2, f3, f4, f5⟩, hlK⟩ := e5.head
      have hi0 : (0 : Int) ≤ (i : Int) ∧ (i : Int) < ((65 : Nat) : Int) := ⟨by omega, by omega⟩
      simp only [walkS, wl, rgets, retv, argsEnv, ev, cst, cst1, cstL, AEnv.get, AEnv.trim, envput, qstep, abin, aun, evs, evo, deref, qload, target, if_true, if_false, Nat.reduceEqDiff, reduceIte, Nat.reduceAdd, AV.cells, AV.isTuple, setMany, alen, aiaddr, afill, Nat.reduceLeDiff, Nat.reduceMul, Nat.reduceLT, afillE, List.replicate, hi0, c3', colC_at hi, colC_at1 hi, colC_at2 hi, hLi, amm, amm.go, amin, Nat.add_zero]
      obtain ⟨fz, hfz⟩ : ∃ fz, fz = min c1 l.2.1 := ⟨_, rfl⟩
      rw [← hfz]
      refine storeR rfl rfl c3' rfl ⟨rfl, rfl, rfl, by simp only [colC_length]; omega⟩ fun H1 y1 y2 y3 => ?_
      simp only [AV.cells, setMany, List.set_cons_zero, set_at1 hi, hLi] at y2
      rw [wrap_id (by omega) (by omega)] at y2
      obtain ⟨L1, hL1⟩ : ∃ L1, L1 = L.set i (l.1, l.2.1 - fz, l.2.2) := ⟨_, rfl⟩
      rw [← hL1] at y2
      have hl1 : L1.length = 65 := by rw [hL1, List.length_set]; exact hlen
      have hi1 : i < L1.length := by omega
      have g1 : L1[i] = (l.1, l.2.1 - fz, l.2.2) := by subst hL1; simp
      simp only [walkS, wl, rgets, retv, argsEnv, ev, cst, cst1, cstL, AEnv.get, AEnv.trim, envput, qstep, abin, aun, evs, evo, deref, qload, target, if_true, if_false, Nat.reduceEqDiff, reduceIte, Nat.reduceAdd, AV.cells, AV.isTuple, setMany, alen, aiaddr, afill, Nat.reduceLeDiff, Nat.reduceMul, Nat.reduceLT, afillE, List.replicate, hi0, y2, colC_at hi1, colC_at1 hi1, colC_at2 hi1, g1, Nat.add_zero]
      refine storeR rfl rfl y2 rfl ⟨rfl, rfl, rfl, by simp only [colC_length]; omega⟩ fun H2 z1 z2 z3 => ?_
      simp only [AV.cells, setMany, List.set_cons_zero, set_at0 hi1, g1] at z2
      rw [wrap_id (by omega) (by omega)] at z2
      have hx3 : IntKind.i64.wrap (c1 - fz) = c1 - fz := wrap_id (by omega) (by omega)
      have hx4 : IntKind.i64.wrap ((i : Int) + 1) = ((i + 1 : Nat) : Int) := by rw [wrap_id (by omega) (by omega)]; simp
      simp only [walkS, wl, rgets, retv, argsEnv, ev, cst, cst1, cstL, AEnv.get, AEnv.trim, envput, qstep, abin, aun, evs, evo, deref, qload, target, if_true, if_false, Nat.reduceEqDiff, reduceIte, Nat.reduceAdd, AV.cells, AV.isTuple, setMany, alen, aiaddr, afill, Nat.reduceLeDiff, Nat.reduceMul, Nat.reduceLT, afillE, List.replicate, hx3, hx4]
      refine loop_end (L1.set i (l.1 + fz, l.2.1 - fz, l.2.2), i + 1, c1 - fz) ⟨d ++ [(l.1 + fz, l.2.1 - fz, l.2.2)], r, ?_, by simp only [List.length_append, List.length_cons, List.length_nil]; omega, by simp only [List.length_append, List.length_cons, List.length_nil] at e3 ⊢; omega, ?_, e5.tail, by simp only; omega, ?_⟩ (by simp only; omega) rfl
        ⟨⟨by rw [z1, y1]; exact hs.1, fun j hj hj2 => by rw [z3 j hj, y3 j hj]; exact hs.2 j hj hj2⟩, z2⟩
      · simp only
        rw [hL1, List.set_set, e1, e2, set_mid A d r post l _]
        simp only [List.append_assoc]
      · rw [e4]; simp only [frz, ← hfz, List.append_assoc, List.cons_append, List.nil_append]
      · intro x hx
        rcases List.mem_append.1 hx with hx | hx
        · exact e7 x hx
        · simp at hx; subst hx; simp only; omega
  · have hr : r = [] := List.eq_nil_of_length_eq_zero (by simp at hb; omega)
    subst hr
    have hd : d.length = ls.length := by simpa using e3
    simp only [frz, List.append_nil] at e4 e1
    simp only [walkS, wl, rgets, retv, argsEnv, ev, cst, cst1, cstL, AEnv.get, AEnv.trim, envput, qstep, abin, aun, evs, evo, deref, qload, target, if_true, if_false, Nat.reduceEqDiff, reduceIte, Nat.reduceAdd, AV.cells, AV.isTuple, setMany, alen, aiaddr, afill, Nat.reduceLeDiff, Nat.reduceMul, Nat.reduceLT, afillE, List.replicate, c3', colC_195 hlen, colC_196 hlen]
    have efr : frost c ls = chill c1 d := by simp only [frost, e4]
    refine withBool_intro ?_ ?_ <;> intro hq <;> simp only [walkS, wl, rgets, retv, argsEnv, ev, cst, cst1, cstL, AEnv.get, AEnv.trim, envput, qstep, abin, aun, evs, evo, deref, qload, target, if_true, if_false, Nat.reduceEqDiff, reduceIte, Nat.reduceAdd, AV.cells, AV.isTuple, setMany, alen, aiaddr, afill, Nat.reduceLeDiff, Nat.reduceMul, Nat.reduceLT, afillE, List.replicate]
    · cases d with
      | nil => simp only [List.length_nil] at hd; simp at hq; omega
      | cons l r =>
        have hA2 : A.length < 65 := by simp only [List.length_cons] at hd; omega
        have hi : A.length < L.length := by omega
        have hLi : L[A.length] = l := by subst e1; simp
        have hlc := e7 l (by simp)
        have hi0 : (0 : Int) ≤ (A.length : Int) ∧ (A.length : Int) < ((65 : Nat) : Int) := ⟨by omega, by omega⟩
        have hx : IntKind.i64.wrap (l.2.2 + c1) = l.2.2 + c1 := wrap_id (by omega) (by omega)
        simp only [walkS, wl, rgets, retv, argsEnv, ev, cst, cst1, cstL, AEnv.get, AEnv.trim, envput, qstep, abin, aun, evs, evo, deref, qload, target, if_true, if_false, Nat.reduceEqDiff, reduceIte, Nat.reduceAdd, AV.cells, AV.isTuple, setMany, alen, aiaddr, afill, Nat.reduceLeDiff, Nat.reduceMul, Nat.reduceLT, afillE, List.replicate, hi0, c3', colC_195 hlen, colC_at hi, colC_at1 hi, colC_at2 hi, hLi, Nat.add_zero, hx]
        refine storeR rfl rfl c3' rfl ⟨rfl, rfl, rfl, by simp only [colC_length]; omega⟩ fun H1 y1 y2 y3 => ?_
        simp only [AV.cells, setMany, List.set_cons_zero, set_at2 hi, hLi] at y2
        simp only [walkS, wl, rgets, retv, argsEnv, ev, cst, cst1, cstL, AEnv.get, AEnv.trim, envput, qstep, abin, aun, evs, evo, deref, qload, target, if_true, if_false, Nat.reduceEqDiff, reduceIte, Nat.reduceAdd, AV.cells, AV.isTuple, setMany, alen, aiaddr, afill, Nat.reduceLeDiff, Nat.reduceMul, Nat.reduceLT, afillE, List.replicate]
        refine ⟨⟨by rw [y1]; exact hs.1, fun j hj hj2 => by rw [y3 j hj]; exact hs.2 j hj hj2⟩, A, post, Nat.zero_le _, ?_, ?_⟩
        · rw [List.length_append, List.length_append, frost_length]; rw [hL0] at hlen0; simpa [Nat.add_assoc] using hlen0
        · rw [frost_length]
          unfold ColAt
          rw [efr, y2, e1]
          have es := set_mid A [] r post l (l.1, l.2.1, l.2.2 + c1)
          simp only [List.append_nil, List.length_nil, Nat.add_zero, List.nil_append] at es
          rw [es]
          simp only [chill, List.append_assoc, List.cons_append, List.nil_append]
    · have : ls = [] := List.eq_nil_of_length_eq_zero (by simp at hq; omega)
      subst this
      have hd0 : d = [] := List.eq_nil_of_length_eq_zero (by simpa using hd)
      subst hd0
      refine ⟨hs, A, post, Nat.zero_le _, ?_, ?_⟩
      · rw [efr]; simp only [chill]; rw [← hlen0, hL0]
      · rw [efr]; simp only [chill, List.length_nil]; rw [e1] at c3; exact c3
end Go.Proofs.YtomejgikdelgkaaGreatDoor
