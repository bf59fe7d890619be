/- Contracts: the top of a column loses, melts, is blown away. -/
import Derived.Test.YtomejgikdelgkaaGreatDoorQC4
set_option linter.unusedVariables false
set_option linter.unusedSimpArgs false
set_option linter.unusedSectionVars false
namespace Go.Proofs.YtomejgikdelgkaaGreatDoor
open Go.Awp Go.Snow
set_option linter.unusedSimpArgs false
set_option linter.unusedVariables false
set_option linter.unusedSectionVars false
set_option maxRecDepth 10000
/-- A column of layers lies at h. -/
def Column (m : Nat) (H : AHeap) (h : Nat) (ls : List Lay) (o k : Int) : Prop :=
  ∃ A post, m ≤ A.length ∧ (A ++ ls ++ post).length = 65 ∧ ColAt H h (A ++ ls ++ post) A.length (A.length + ls.length : Nat) o k
def Same1 (H0 H : AHeap) (h : Nat) : Prop := H.length = H0.length ∧ ∀ i, i ≠ h → i < H0.length → AHeap.obj H i = AHeap.obj H0 i
theorem Same1.refl {H : AHeap} {h : Nat} : Same1 H H h := ⟨rfl, fun _ _ _ => rfl⟩
theorem Same1.trans {H0 H1 H2 : AHeap} {h : Nat} (a : Same1 H0 H1 h) (b : Same1 H1 H2 h) : Same1 H0 H2 h :=
  ⟨b.1.trans a.1, fun i hi hl => by rw [b.2 i hi (by rw [a.1]; exact hl), a.2 i hi hl]⟩
theorem Column.lt {m : Nat} {H : AHeap} {h : Nat} {ls : List Lay} {o k : Int} (c : Column m H h ls o k) : h < H.length := by
  obtain ⟨A, post, _, _, c⟩ := c; exact AHeap.obj_lt c
theorem Column.less {m : Nat} {H : AHeap} {h : Nat} {ls : List Lay} {o k : Int} (c : Column m H h ls o k) : Column 0 H h ls o k := by
  obtain ⟨A, post, _, c⟩ := c; exact ⟨A, post, Nat.zero_le _, c⟩
theorem lose_ok {H0 : AHeap} {h : Nat} {l : Lay} {r : List Lay} {o k more : Int} (hc : Column 0 H0 h (l :: r) o k) (hg : Firm 1000000 (l :: r)) (hm : 0 ≤ more ∧ more ≤ 1) (ho : 0 ≤ o ∧ o ≤ 1000000000000000) :
    ACall Tryz.prog 74 [.ptr h 1 0 0, I more] H0 fun x H => x = .tuple [] ∧ Same1 H0 H h ∧ Column 0 H h (lose more (l :: r)).1 (o + (lose more (l :: r)).2) k := by
  refine ACall.intro text74 (by simp) ?_
  unfold ir74
  have hh := hc.lt
  obtain ⟨A, post, -, hlen, c⟩ := hc
  have c' : AHeap.obj H0 h = some ⟨72, 199, [colC (A ++ l :: r ++ post) A.length (A.length + (l :: r).length : Nat) o k]⟩ := c
  obtain ⟨L, hL⟩ : ∃ L, L = A ++ l :: r ++ post := ⟨_, rfl⟩
  rw [← hL] at hlen c'
  have hA : A.length < 65 := by rw [← hlen, hL]; simp
  have hi : A.length < L.length := by omega
  have g0 : L[A.length] = l := by subst hL; simp
  obtain ⟨⟨⟨f1, f2, f3, f4, f5⟩, hlK⟩, h1⟩ := And.intro hg.1.head (hg.2 l (by simp))
  have hi0 : (0 : Int) ≤ (A.length : Int) ∧ (A.length : Int) < ((65 : Nat) : Int) := ⟨by omega, by omega⟩
  simp only [walkS, wl, rgets, retv, argsEnv, ev, cst, cst1, cstL, AEnv.get, AEnv.trim, envput, qstep, abin, aun, evs, evo, deref, qload, target, if_true, if_false, Nat.reduceEqDiff, reduceIte, Nat.reduceAdd, AV.cells, AV.isTuple, setMany, alen, aiaddr, afill, Nat.reduceLeDiff, Nat.reduceMul, Nat.reduceLT, afillE, List.replicate, c', colC_195 hlen, hi0]
  simp only [walkS, wl, rgets, retv, argsEnv, ev, cst, cst1, cstL, AEnv.get, AEnv.trim, envput, qstep, abin, aun, evs, evo, deref, qload, target, if_true, if_false, Nat.reduceEqDiff, reduceIte, Nat.reduceAdd, AV.cells, AV.isTuple, setMany, alen, aiaddr, afill, Nat.reduceLeDiff, Nat.reduceMul, Nat.reduceLT, afillE, List.replicate, c', colC_at hi, colC_at1 hi, colC_at2 hi, g0, Nat.add_zero]
  refine storeR rfl rfl c' rfl ⟨rfl, rfl, rfl, by simp only [colC_length]; omega⟩ fun H1 y1 y2 y3 => ?_
  simp only [AV.cells, setMany, List.set_cons_zero, set_at0 hi, g0] at y2
  rw [wrap_id (by omega) (by omega)] at y2
  obtain ⟨L1, hL1⟩ : ∃ L1, L1 = L.set A.length (l.1 - 1, l.2.1, l.2.2) := ⟨_, rfl⟩
  rw [← hL1] at y2
  have hl1 : L1.length = 65 := by rw [hL1, List.length_set]; exact hlen
  have hi1 : A.length < L1.length := by omega
  have g1 : L1[A.length] = (l.1 - 1, l.2.1, l.2.2) := by subst hL1; simp
  have hx : IntKind.i64.wrap (l.2.1 + more) = l.2.1 + more := wrap_id (by omega) (by omega)
  simp only [walkS, wl, rgets, retv, argsEnv, ev, cst, cst1, cstL, AEnv.get, AEnv.trim, envput, qstep, abin, aun, evs, evo, deref, qload, target, if_true, if_false, Nat.reduceEqDiff, reduceIte, Nat.reduceAdd, AV.cells, AV.isTuple, setMany, alen, aiaddr, afill, Nat.reduceLeDiff, Nat.reduceMul, Nat.reduceLT, afillE, List.replicate, y2, colC_at hi1, colC_at1 hi1, colC_at2 hi1, g1, Nat.add_zero, hx]
  refine call_pure (hold_ok (l := (l.1 - 1, l.2.1, l.2.2)) (by simp only; omega) (by simp only; omega)) (frzL_of' (d := 2) rfl) ?_
  simp only [walkS, wl, rgets, retv, argsEnv, ev, cst, cst1, cstL, AEnv.get, AEnv.trim, envput, qstep, abin, aun, evs, evo, deref, qload, target, if_true, if_false, Nat.reduceEqDiff, reduceIte, Nat.reduceAdd, AV.cells, AV.isTuple, setMany, alen, aiaddr, afill, Nat.reduceLeDiff, Nat.reduceMul, Nat.reduceLT, afillE, List.replicate, y2, amm, amm.go, amin, Nat.add_zero]
  obtain ⟨kp, hkp⟩ : ∃ kp, kp = min (l.2.1 + more) ((l.1 - 1) / 20) := ⟨_, rfl⟩
  rw [← hkp]
  refine storeR rfl rfl y2 rfl ⟨rfl, rfl, rfl, by simp only [colC_length]; omega⟩ fun H2 z1 z2 z3 => ?_
  simp only [AV.cells, setMany, List.set_cons_zero, set_at1 hi1, g1] at z2
  obtain ⟨L2, hL2⟩ : ∃ L2, L2 = L1.set A.length (l.1 - 1, kp, l.2.2) := ⟨_, rfl⟩
  rw [← hL2] at z2
  have hl2 : L2.length = 65 := by rw [hL2, List.length_set]; exact hl1
  have hi2 : A.length < L2.length := by omega
  have g2 : L2[A.length] = (l.1 - 1, kp, l.2.2) := by subst hL2; simp
  have e2 : L2 = (A ++ [(l.1 - 1, kp, l.2.2)]) ++ r ++ post := by
    rw [hL2, hL1, List.set_set, hL]
    have := set_mid A [] r post l (l.1 - 1, kp, l.2.2)
    simp only [List.append_nil, List.length_nil, Nat.add_zero, List.nil_append] at this
    exact this
  have hx1 : IntKind.i64.wrap ((A.length : Int) + 1) = (((A ++ [(l.1 - 1, kp, l.2.2)]).length : Nat) : Int) := by rw [wrap_id (by omega) (by omega)]; simp
  have hx2 : IntKind.i64.wrap (l.2.1 + more - kp) = ((l.2.1 + more - kp).toNat : Int) := by rw [wrap_id (by omega) (by omega), Int.toNat_of_nonneg (by omega)]
  simp only [walkS, wl, rgets, retv, argsEnv, ev, cst, cst1, cstL, AEnv.get, AEnv.trim, envput, qstep, abin, aun, evs, evo, deref, qload, target, if_true, if_false, Nat.reduceEqDiff, reduceIte, Nat.reduceAdd, AV.cells, AV.isTuple, setMany, alen, aiaddr, afill, Nat.reduceLeDiff, Nat.reduceMul, Nat.reduceLT, afillE, List.replicate, z2, colC_195 hl2, colC_at hi2, colC_at1 hi2, colC_at2 hi2, g2, Nat.add_zero, hx2]
  have hn : (A.length + (l :: r).length : Nat) = ((A ++ [(l.1 - 1, kp, l.2.2)]).length + r.length : Nat) := by simp; omega
  have hL2' : (A ++ [(l.1 - 1, kp, l.2.2)] ++ r ++ post).length = 65 := by rw [← e2]; exact hl2
  have hA1 : (A.length + 1 : Nat) = (A ++ [(l.1 - 1, kp, l.2.2)]).length := by simp
  refine withBool_intro ?_ ?_ <;> intro hb <;> simp only [walkS, wl, rgets, retv, argsEnv, ev, cst, cst1, cstL, AEnv.get, AEnv.trim, envput, qstep, abin, aun, evs, evo, deref, qload, target, if_true, if_false, Nat.reduceEqDiff, reduceIte, Nat.reduceAdd, AV.cells, AV.isTuple, setMany, alen, aiaddr, afill, Nat.reduceLeDiff, Nat.reduceMul, Nat.reduceLT, afillE, List.replicate]
  · have hz : l.1 - 1 = 0 := by simpa using hb
    have hk0 : kp = 0 := by omega
    have hx3 : IntKind.i64.wrap ((A.length : Int) + 1) = (((A ++ [(l.1 - 1, kp, l.2.2)]).length : Nat) : Int) := hx1
    simp only [walkS, wl, rgets, retv, argsEnv, ev, cst, cst1, cstL, AEnv.get, AEnv.trim, envput, qstep, abin, aun, evs, evo, deref, qload, target, if_true, if_false, Nat.reduceEqDiff, reduceIte, Nat.reduceAdd, AV.cells, AV.isTuple, setMany, alen, aiaddr, afill, Nat.reduceLeDiff, Nat.reduceMul, Nat.reduceLT, afillE, List.replicate, z2, colC_195 hl2, hx1]
    refine storeR rfl rfl z2 rfl ⟨rfl, rfl, rfl, by simp only [colC_length]; omega⟩ fun H3 u1 u2 u3 => ?_
    simp only [AV.cells, setMany, List.set_cons_zero, set_195 hl2] at u2
    rw [e2, hn, hA1] at u2
    simp only [walkS, wl, rgets, retv, argsEnv, ev, cst, cst1, cstL, AEnv.get, AEnv.trim, envput, qstep, abin, aun, evs, evo, deref, qload, target, if_true, if_false, Nat.reduceEqDiff, reduceIte, Nat.reduceAdd, AV.cells, AV.isTuple, setMany, alen, aiaddr, afill, Nat.reduceLeDiff, Nat.reduceMul, Nat.reduceLT, afillE, List.replicate]
    rw [hA1]
    refine (flow_ok (A := A ++ [(l.1 - 1, kp, l.2.2)]) (ls := r) (post := post) (w0 := (l.2.1 + more - kp).toNat) hL2' u2 (hg.1.tail.mono (by omega)) (by omega) ho).mono fun x H4 ⟨v1, v2, v3, v4⟩ => ?_
    subst v1
    simp only [walkS, wl, rgets, retv, argsEnv, ev, cst, cst1, cstL, AEnv.get, AEnv.trim, envput, qstep, abin, aun, evs, evo, deref, qload, target, if_true, if_false, Nat.reduceEqDiff, reduceIte, Nat.reduceAdd, AV.cells, AV.isTuple, setMany, alen, aiaddr, afill, Nat.reduceLeDiff, Nat.reduceMul, Nat.reduceLT, afillE, List.replicate]
    have e : lose more (l :: r) = pour (l.2.1 + more).toNat r := by simp only [lose, hz, if_true]
    rw [e, show (l.2.1 + more).toNat = (l.2.1 + more - kp).toNat by rw [hk0]; simp]
    refine ⟨⟨by omega, fun i hi' hl' => by rw [v3 i hi' (by omega), u3 i hi', z3 i hi', y3 i hi']⟩, ?_⟩
    refine ⟨A ++ [(l.1 - 1, kp, l.2.2)], post, Nat.zero_le _, ?_, ?_⟩
    · simp only [List.length_append, pour_length] at hL2' ⊢; exact hL2'
    · rw [pour_length]; exact v4
  · have hz : ¬ l.1 - 1 = 0 := by simpa using hb
    simp only [walkS, wl, rgets, retv, argsEnv, ev, cst, cst1, cstL, AEnv.get, AEnv.trim, envput, qstep, abin, aun, evs, evo, deref, qload, target, if_true, if_false, Nat.reduceEqDiff, reduceIte, Nat.reduceAdd, AV.cells, AV.isTuple, setMany, alen, aiaddr, afill, Nat.reduceLeDiff, Nat.reduceMul, Nat.reduceLT, afillE, List.replicate, hx1]
    rw [e2, hn] at z2
    rw [hA1]
    refine (flow_ok (A := A ++ [(l.1 - 1, kp, l.2.2)]) (ls := r) (post := post) (w0 := (l.2.1 + more - kp).toNat) hL2' z2 (hg.1.tail.mono (by omega)) (by omega) ho).mono fun x H4 ⟨v1, v2, v3, v4⟩ => ?_
    subst v1
    simp only [walkS, wl, rgets, retv, argsEnv, ev, cst, cst1, cstL, AEnv.get, AEnv.trim, envput, qstep, abin, aun, evs, evo, deref, qload, target, if_true, if_false, Nat.reduceEqDiff, reduceIte, Nat.reduceAdd, AV.cells, AV.isTuple, setMany, alen, aiaddr, afill, Nat.reduceLeDiff, Nat.reduceMul, Nat.reduceLT, afillE, List.replicate]
    have e : lose more (l :: r) = ((l.1 - 1, kp, l.2.2) :: (pour (l.2.1 + more - kp).toNat r).1, (pour (l.2.1 + more - kp).toNat r).2) := by simp only [lose, hz, if_false, ← hkp]
    rw [e]
    refine ⟨⟨by omega, fun i hi' hl' => by rw [v3 i hi' (by omega), z3 i hi', y3 i hi']⟩, ?_⟩
    refine ⟨A, post, Nat.zero_le _, ?_, ?_⟩
    · simp only [List.length_append, List.length_cons, List.length_nil, pour_length] at hL2' ⊢; omega
    · have ea : A ++ (l.1 - 1, kp, l.2.2) :: (pour (l.2.1 + more - kp).toNat r).1 ++ post = A ++ [(l.1 - 1, kp, l.2.2)] ++ (pour (l.2.1 + more - kp).toNat r).1 ++ post := by simp
      have eb : (A.length + ((l.1 - 1, kp, l.2.2) :: (pour (l.2.1 + more - kp).toNat r).1).length : Nat) = ((A ++ [(l.1 - 1, kp, l.2.2)]).length + r.length : Nat) := by simp [pour_length]; omega
      simp only [ea, eb]
      exact v4
theorem vanish_ok {H0 : AHeap} {h : Nat} {l : Lay} {r : List Lay} {o k : Int} (hc : Column 0 H0 h (l :: r) o k) (hg : Firm 1000000 (l :: r)) (ho : 0 ≤ o ∧ o ≤ 1000000000000000) (hk : 0 ≤ k ∧ k ≤ 1000000000000000) :
    ACall Tryz.prog 63 [.ptr h 1 0 0] H0 fun x H => x = .tuple [] ∧ Same1 H0 H h ∧ Column 0 H h (loss1 (l :: r)).1 (o + (loss1 (l :: r)).2) (k + 1) := by
  refine ACall.intro text63 (by simp) ?_
  unfold ir63
  simp only [walkS, wl, rgets, retv, argsEnv, ev, cst, cst1, cstL, AEnv.get, AEnv.trim, envput, qstep, abin, aun, evs, evo, deref, qload, target, if_true, if_false, Nat.reduceEqDiff, reduceIte, Nat.reduceAdd, AV.cells, AV.isTuple, setMany, alen, aiaddr, afill, Nat.reduceLeDiff, Nat.reduceMul, Nat.reduceLT, afillE, List.replicate]
  refine (lose_ok hc hg (more := 0) (by omega) ho).mono fun x H ⟨v1, v2, v3⟩ => ?_
  subst v1
  obtain ⟨A, post, -, hlen, c⟩ := v3
  have c' : AHeap.obj H h = some ⟨72, 199, [colC (A ++ (lose 0 (l :: r)).1 ++ post) A.length (A.length + (lose 0 (l :: r)).1.length : Nat) (o + (lose 0 (l :: r)).2) k]⟩ := c
  have hlen2 := hlen
  obtain ⟨L, hL⟩ : ∃ L, L = A ++ (lose 0 (l :: r)).1 ++ post := ⟨_, rfl⟩
  rw [← hL] at hlen c'
  have hx : IntKind.i64.wrap (k + 1) = k + 1 := wrap_id (by omega) (by omega)
  simp only [walkS, wl, rgets, retv, argsEnv, ev, cst, cst1, cstL, AEnv.get, AEnv.trim, envput, qstep, abin, aun, evs, evo, deref, qload, target, if_true, if_false, Nat.reduceEqDiff, reduceIte, Nat.reduceAdd, AV.cells, AV.isTuple, setMany, alen, aiaddr, afill, Nat.reduceLeDiff, Nat.reduceMul, Nat.reduceLT, afillE, List.replicate, c', colC_198 hlen, hx]
  refine storeR rfl rfl c' rfl ⟨rfl, rfl, rfl, by simp only [colC_length]; omega⟩ fun H1 y1 y2 y3 => ?_
  simp only [AV.cells, setMany, List.set_cons_zero, set_198 hlen] at y2
  simp only [walkS, wl, rgets, retv, argsEnv, ev, cst, cst1, cstL, AEnv.get, AEnv.trim, envput, qstep, abin, aun, evs, evo, deref, qload, target, if_true, if_false, Nat.reduceEqDiff, reduceIte, Nat.reduceAdd, AV.cells, AV.isTuple, setMany, alen, aiaddr, afill, Nat.reduceLeDiff, Nat.reduceMul, Nat.reduceLT, afillE, List.replicate]
  rw [hL] at y2
  exact ⟨⟨by rw [y1]; exact v2.1, fun i hi hl => by rw [y3 i hi]; exact v2.2 i hi hl⟩, A, post, Nat.zero_le _, hlen2, y2⟩
theorem melt_ok {H0 : AHeap} {h : Nat} {l : Lay} {r : List Lay} {o k : Int} (hc : Column 0 H0 h (l :: r) o k) (hg : Firm 1000000 (l :: r)) (ho : 0 ≤ o ∧ o ≤ 1000000000000000) :
    ACall Tryz.prog 61 [.ptr h 1 0 0] H0 fun x H => x = .tuple [] ∧ Same1 H0 H h ∧ Column 0 H h (melt1 (l :: r)).1 (o + (melt1 (l :: r)).2) k := by
  refine ACall.intro text61 (by simp) ?_
  unfold ir61
  have hc2 := hc
  obtain ⟨A, post, -, hlen, c⟩ := hc
  have c' : AHeap.obj H0 h = some ⟨72, 199, [colC (A ++ l :: r ++ post) A.length (A.length + (l :: r).length : Nat) o k]⟩ := c
  have hlen2 := hlen
  obtain ⟨L, hL⟩ : ∃ L, L = A ++ l :: r ++ post := ⟨_, rfl⟩
  rw [← hL] at hlen c'
  have hA : A.length < 65 := by rw [← hlen, hL]; simp
  have hi : A.length < L.length := by omega
  have g0 : L[A.length] = l := by subst hL; simp
  obtain ⟨⟨⟨f1, f2, f3, f4, f5⟩, hlK⟩, h1⟩ := And.intro hg.1.head (hg.2 l (by simp))
  have hi0 : (0 : Int) ≤ (A.length : Int) ∧ (A.length : Int) < ((65 : Nat) : Int) := ⟨by omega, by omega⟩
  simp only [walkS, wl, rgets, retv, argsEnv, ev, cst, cst1, cstL, AEnv.get, AEnv.trim, envput, qstep, abin, aun, evs, evo, deref, qload, target, if_true, if_false, Nat.reduceEqDiff, reduceIte, Nat.reduceAdd, AV.cells, AV.isTuple, setMany, alen, aiaddr, afill, Nat.reduceLeDiff, Nat.reduceMul, Nat.reduceLT, afillE, List.replicate, c', colC_195 hlen, hi0]
  simp only [walkS, wl, rgets, retv, argsEnv, ev, cst, cst1, cstL, AEnv.get, AEnv.trim, envput, qstep, abin, aun, evs, evo, deref, qload, target, if_true, if_false, Nat.reduceEqDiff, reduceIte, Nat.reduceAdd, AV.cells, AV.isTuple, setMany, alen, aiaddr, afill, Nat.reduceLeDiff, Nat.reduceMul, Nat.reduceLT, afillE, List.replicate, c', colC_at hi, colC_at1 hi, colC_at2 hi, g0, Nat.add_zero]
  refine withBool_intro ?_ ?_ <;> intro hb <;> simp only [walkS, wl, rgets, retv, argsEnv, ev, cst, cst1, cstL, AEnv.get, AEnv.trim, envput, qstep, abin, aun, evs, evo, deref, qload, target, if_true, if_false, Nat.reduceEqDiff, reduceIte, Nat.reduceAdd, AV.cells, AV.isTuple, setMany, alen, aiaddr, afill, Nat.reduceLeDiff, Nat.reduceMul, Nat.reduceLT, afillE, List.replicate]
  · have hcp : 0 < l.2.2 := by simpa using hb
    simp only [walkS, wl, rgets, retv, argsEnv, ev, cst, cst1, cstL, AEnv.get, AEnv.trim, envput, qstep, abin, aun, evs, evo, deref, qload, target, if_true, if_false, Nat.reduceEqDiff, reduceIte, Nat.reduceAdd, AV.cells, AV.isTuple, setMany, alen, aiaddr, afill, Nat.reduceLeDiff, Nat.reduceMul, Nat.reduceLT, afillE, List.replicate, c', colC_at hi, colC_at1 hi, colC_at2 hi, g0, Nat.add_zero]
    refine storeR rfl rfl c' rfl ⟨rfl, rfl, rfl, by simp only [colC_length]; omega⟩ fun H1 y1 y2 y3 => ?_
    simp only [AV.cells, setMany, List.set_cons_zero, set_at2 hi, g0] at y2
    rw [wrap_id (by omega) (by omega)] at y2
    simp only [walkS, wl, rgets, retv, argsEnv, ev, cst, cst1, cstL, AEnv.get, AEnv.trim, envput, qstep, abin, aun, evs, evo, deref, qload, target, if_true, if_false, Nat.reduceEqDiff, reduceIte, Nat.reduceAdd, AV.cells, AV.isTuple, setMany, alen, aiaddr, afill, Nat.reduceLeDiff, Nat.reduceMul, Nat.reduceLT, afillE, List.replicate]
    have e : melt1 (l :: r) = ((l.1, l.2.1, l.2.2 - 1) :: r, 0) := by simp only [melt1, hcp, if_true]
    rw [e]
    have es := set_mid A [] r post l (l.1, l.2.1, l.2.2 - 1)
    simp only [List.append_nil, List.length_nil, Nat.add_zero, List.nil_append] at es
    rw [hL, es] at y2
    simp only [Int.add_zero]
    refine ⟨⟨y1, fun i hi _ => y3 i hi⟩, A, post, Nat.zero_le _, by simp at hlen2 ⊢; exact hlen2, ?_⟩
    have ea : A ++ (l.1, l.2.1, l.2.2 - 1) :: r ++ post = A ++ [(l.1, l.2.1, l.2.2 - 1)] ++ r ++ post := by simp
    simp only [ea, List.length_cons] at y2 ⊢
    exact y2
  · have hcp : ¬ 0 < l.2.2 := by simpa using hb
    refine (lose_ok hc2 hg (more := 1) (by omega) ho).mono fun x H ⟨v1, v2, v3⟩ => ?_
    subst v1
    simp only [walkS, wl, rgets, retv, argsEnv, ev, cst, cst1, cstL, AEnv.get, AEnv.trim, envput, qstep, abin, aun, evs, evo, deref, qload, target, if_true, if_false, Nat.reduceEqDiff, reduceIte, Nat.reduceAdd, AV.cells, AV.isTuple, setMany, alen, aiaddr, afill, Nat.reduceLeDiff, Nat.reduceMul, Nat.reduceLT, afillE, List.replicate]
    have e : melt1 (l :: r) = lose 1 (l :: r) := by simp only [melt1, hcp, if_false]
    rw [e]
    exact ⟨v2, v3⟩
end Go.Proofs.YtomejgikdelgkaaGreatDoor
