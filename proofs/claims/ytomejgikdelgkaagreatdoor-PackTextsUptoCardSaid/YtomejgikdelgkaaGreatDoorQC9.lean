/- Contracts: what a step does to a column; Apply. -/
import Derived.Test.YtomejgikdelgkaaGreatDoorQC8
set_option linter.unusedVariables false
set_option linter.unusedSimpArgs false
set_option linter.unusedSectionVars false
namespace Go.Proofs.YtomejgikdelgkaaGreatDoor
open Go.Awp Go.Snow
set_option linter.unusedSimpArgs false
set_option linter.unusedVariables false
set_option linter.unusedSectionVars false
set_option maxRecDepth 10000
theorem Column.push {m : Nat} {H X : AHeap} {h : Nat} {ls : List Lay} {o k : Int} (c : Column m H h ls o k) : Column m (H ++ X) h ls o k := by
  obtain ⟨A, post, h1, h2, h3⟩ := c
  exact ⟨A, post, h1, h2, obj_keep h3⟩
theorem Column.keep {m : Nat} {H H' : AHeap} {h : Nat} {ls : List Lay} {o k : Int} (c : Column m H h ls o k) (hk : AHeap.obj H' h = AHeap.obj H h) : Column m H' h ls o k := by
  obtain ⟨A, post, h1, h2, h3⟩ := c
  refine ⟨A, post, h1, h2, ?_⟩
  unfold ColAt at h3 ⊢
  rw [hk]; exact h3
theorem firm_mono {K K' : Int} {ls : List Lay} (h : Firm K ls) (hk : K ≤ K') : Firm K' ls := ⟨h.1.mono hk, h.2⟩
theorem do_ok {H0 : AHeap} {h : Nat} {ls : List Lay} {k m c : Int} (hc : Column 1 H0 h ls 0 0) (hg : Firm 131072 ls) (hs : okS k m c = true) :
    ACall Tryz.prog 38 [.ptr h 1 0 0, .agg (dc (k, m, c))] H0 fun x H => x = .tuple [] ∧ H0.length ≤ H.length ∧ (∀ i, i ≠ h → i < H0.length → AHeap.obj H i = AHeap.obj H0 i) ∧
      Column 0 H h (doS k m c ls).1 (doS k m c ls).2.1 (doS k m c ls).2.2 := by
  refine ACall.intro text38 (by simp) ?_
  unfold ir38
  have hh := hc.lt
  have hg1 : Firm 1000000 ls := firm_mono hg (by omega)
  obtain ⟨s1, s2, s3⟩ := okS_iff.1 hs
  have bx : AHeap.obj (H0 ++ [some ⟨23, 3, [[I k, I m, I c]]⟩]) H0.length = some ⟨23, 3, [[I k, I m, I c]]⟩ := AHeap.obj_push_eq
  have fin : ∀ {H : AHeap} {o kk : Int} {ls' : List Lay}, Same1 (H0 ++ [some ⟨23, 3, [[I k, I m, I c]]⟩]) H h → Column 0 H h ls' o kk → ls' = (doS k m c ls).1 → o = (doS k m c ls).2.1 → kk = (doS k m c ls).2.2 →
      H0.length ≤ H.length ∧ (∀ i, i ≠ h → i < H0.length → AHeap.obj H i = AHeap.obj H0 i) ∧ Column 0 H h (doS k m c ls).1 (doS k m c ls).2.1 (doS k m c ls).2.2 := by
    intro H o kk ls' q1 q2 e1 e2 e3
    subst e1 e2 e3
    exact ⟨by rw [q1.1]; simp, fun i hi hl => by rw [q1.2 i hi (by simp; omega), AHeap.obj_push_lt hl], q2⟩
  have hm : ((m.toNat : Nat) : Int) = m := Int.toNat_of_nonneg s2.1
  simp only [walkS, wl, rgets, retv, argsEnv, ev, cst, cst1, cstL, AEnv.get, AEnv.trim, envput, qstep, abin, aun, evs, evo, deref, qload, target, if_true, if_false, Nat.reduceEqDiff, reduceIte, Nat.reduceAdd, AV.cells, AV.isTuple, setMany, alen, aiaddr, afill, Nat.reduceLeDiff, Nat.reduceMul, Nat.reduceLT, afillE, List.replicate, dc]
  have hk : k = 1 ∨ k = 2 ∨ k = 3 ∨ k = 4 ∨ k = 5 ∨ k = 6 := by omega
  rcases hk with rfl | rfl | rfl | rfl | rfl | rfl
  · simp only [walkS, wl, rgets, retv, argsEnv, ev, cst, cst1, cstL, AEnv.get, AEnv.trim, envput, qstep, abin, aun, evs, evo, deref, qload, target, if_true, if_false, Nat.reduceEqDiff, reduceIte, Nat.reduceAdd, AV.cells, AV.isTuple, setMany, alen, aiaddr, afill, Nat.reduceLeDiff, Nat.reduceMul, Nat.reduceLT, afillE, List.replicate, Int.reduceBEq]
    refine withBool_intro ?_ ?_ <;> intro hb <;> simp only [walkS, wl, rgets, retv, argsEnv, ev, cst, cst1, cstL, AEnv.get, AEnv.trim, envput, qstep, abin, aun, evs, evo, deref, qload, target, if_true, if_false, Nat.reduceEqDiff, reduceIte, Nat.reduceAdd, AV.cells, AV.isTuple, setMany, alen, aiaddr, afill, Nat.reduceLeDiff, Nat.reduceMul, Nat.reduceLT, afillE, List.replicate]
    · have hmp : 0 < m := by simpa using hb
      obtain ⟨A, post, hA1, hlen, c0⟩ := hc.push (X := [some ⟨23, 3, [[I 1, I m, I c]]⟩])
      obtain ⟨A', z, rfl⟩ : ∃ A' z, A = A' ++ [z] := ⟨A.dropLast, A.getLast (by intro e; subst e; simp at hA1), (List.dropLast_concat_getLast _).symm⟩
      unfold ColAt at c0
      have hL : A' ++ [z] ++ ls ++ post = A' ++ [z] ++ (ls ++ post) := by simp
      have hA65 : A'.length + 1 ≤ 65 := by rw [← hlen]; simp
      have hA2 : (((A' ++ [z]).length : Nat) : Int) = A'.length + 1 := by simp
      have hx : IntKind.i64.wrap (((A' ++ [z]).length : Nat) - 1 : Int) = (A'.length : Int) := by rw [hA2, wrap_id (by omega) (by omega)]; omega
      obtain ⟨L, hLe⟩ : ∃ L, L = A' ++ [z] ++ ls ++ post := ⟨_, rfl⟩
      obtain ⟨n, hn⟩ : ∃ n : Int, n = ((A' ++ [z]).length + ls.length : Nat) := ⟨_, rfl⟩
      obtain ⟨t, ht⟩ : ∃ t : Int, t = ((A' ++ [z]).length : Nat) := ⟨_, rfl⟩
      rw [← hLe] at hlen c0
      rw [← hn, ← ht] at c0
      rw [← ht] at hx
      have hi : A'.length < L.length := by omega
      have hi0 : (0 : Int) ≤ (A'.length : Int) ∧ (A'.length : Int) < ((65 : Nat) : Int) := ⟨by omega, by omega⟩
      simp only [walkS, wl, rgets, retv, argsEnv, ev, cst, cst1, cstL, AEnv.get, AEnv.trim, envput, qstep, abin, aun, evs, evo, deref, qload, target, if_true, if_false, Nat.reduceEqDiff, reduceIte, Nat.reduceAdd, AV.cells, AV.isTuple, setMany, alen, aiaddr, afill, Nat.reduceLeDiff, Nat.reduceMul, Nat.reduceLT, afillE, List.replicate, c0, colC_195 hlen, hx]
      refine storeR rfl rfl c0 rfl ⟨rfl, rfl, rfl, by rw [lenC hlen]; simp⟩ fun H1 y1 y2 y3 => ?_
      simp only [AV.cells, setMany, List.set_cons_zero, set_195 hlen] at y2
      have b1 : AHeap.obj H1 H0.length = some ⟨23, 3, [[I 1, I m, I c]]⟩ := by rw [y3 _ (by omega)]; exact AHeap.obj_push_eq
      simp only [walkS, wl, rgets, retv, argsEnv, ev, cst, cst1, cstL, AEnv.get, AEnv.trim, envput, qstep, abin, aun, evs, evo, deref, qload, target, if_true, if_false, Nat.reduceEqDiff, reduceIte, Nat.reduceAdd, AV.cells, AV.isTuple, setMany, alen, aiaddr, afill, Nat.reduceLeDiff, Nat.reduceMul, Nat.reduceLT, afillE, List.replicate, y2, b1, colC_195 hlen, hi0]
      refine storeR rfl rfl y2 rfl ⟨rfl, rfl, rfl, by rw [lenC hlen]; omega⟩ fun H2 z1 z2 z3 => ?_
      simp only [AV.cells, List.set_cons_zero] at z2
      have es := setMany_rows (t := (A'.length : Int)) (n := n) (o := 0) (k := 0) [(m, 0, c)] L A'.length (by simp only [List.length_cons, List.length_nil]; omega)
      rw [show (rows [(m, 0, c)]).flatten = [I m, I 0, I c] from rfl] at es
      rw [es] at z2
      simp only [walkS, wl, rgets, retv, argsEnv, ev, cst, cst1, cstL, AEnv.get, AEnv.trim, envput, qstep, abin, aun, evs, evo, deref, qload, target, if_true, if_false, Nat.reduceEqDiff, reduceIte, Nat.reduceAdd, AV.cells, AV.isTuple, setMany, alen, aiaddr, afill, Nat.reduceLeDiff, Nat.reduceMul, Nat.reduceLT, afillE, List.replicate]
      have e0 : doS 1 m c ls = ((m, 0, c) :: ls, 0, 0) := by simp only [doS, if_true, hmp]
      refine fin ⟨by rw [z1, y1], fun i hi hl => by rw [z3 i hi, y3 i hi]⟩ (ls' := (m, 0, c) :: ls) (o := 0) (kk := 0) ⟨A', post, Nat.zero_le _, ?_, ?_⟩ (by rw [e0]) (by rw [e0]) (by rw [e0])
      · rw [hLe] at hlen; simp at hlen ⊢; omega
      · unfold ColAt
        rw [z2]
        have q1 : L.take A'.length ++ [(m, 0, c)] ++ L.drop (A'.length + ([(m, 0, c)] : List Lay).length) = A' ++ (m, 0, c) :: ls ++ post := by
          subst hLe; simp [List.drop_append]
        have q2 : n = (A'.length + ((m, 0, c) :: ls).length : Nat) := by rw [hn]; simp; omega
        rw [q1, q2]
    · have hmp : ¬ 0 < m := by simpa using hb
      have e0 : doS 1 m c ls = (ls, 0, 0) := by simp only [doS, if_true, hmp, if_false]
      have q := fin .refl hc.push.less (by rw [e0]) (by rw [e0]) (by rw [e0])
      exact ⟨by simp, q.2⟩
  · have e0 : doS 2 m c ls = ((pour m.toNat ls).1, (pour m.toNat ls).2, 0) := rfl
    obtain ⟨A, post, hA1, hlen, c0⟩ := hc.push (X := [some ⟨23, 3, [[I 2, I m, I c]]⟩])
    have c0' := c0
    unfold ColAt at c0'
    have hf := flow_ok (w0 := m.toNat) hlen c0 (hg.1.mono (by omega)) (by omega) (by omega)
    rw [hm] at hf
    obtain ⟨L, hLe⟩ : ∃ L, L = A ++ ls ++ post := ⟨_, rfl⟩
    have hlen' := hlen
    rw [← hLe] at hlen' c0'
    simp only [walkS, wl, rgets, retv, argsEnv, ev, cst, cst1, cstL, AEnv.get, AEnv.trim, envput, qstep, abin, aun, evs, evo, deref, qload, target, if_true, if_false, Nat.reduceEqDiff, reduceIte, Nat.reduceAdd, AV.cells, AV.isTuple, setMany, alen, aiaddr, afill, Nat.reduceLeDiff, Nat.reduceMul, Nat.reduceLT, afillE, List.replicate, Int.reduceBEq, c0', colC_195 hlen']
    refine hf.mono fun x H ⟨v1, v2, v3, v4⟩ => ?_
    subst v1
    simp only [walkS, wl, rgets, retv, argsEnv, ev, cst, cst1, cstL, AEnv.get, AEnv.trim, envput, qstep, abin, aun, evs, evo, deref, qload, target, if_true, if_false, Nat.reduceEqDiff, reduceIte, Nat.reduceAdd, AV.cells, AV.isTuple, setMany, alen, aiaddr, afill, Nat.reduceLeDiff, Nat.reduceMul, Nat.reduceLT, afillE, List.replicate]
    refine fin ⟨v2, v3⟩ (ls' := (pour m.toNat ls).1) (o := 0 + (pour m.toNat ls).2) (kk := 0) ⟨A, post, Nat.zero_le _, ?_, ?_⟩ (by rw [e0]) (by rw [e0]; simp) (by rw [e0])
    · simp only [List.length_append, pour_length] at hlen ⊢; exact hlen
    · rw [pour_length]; exact v4
  · have e0 : doS 3 m c ls = ((times melt1 m.toNat ls).1, (times melt1 m.toNat ls).2, 0) := rfl
    have hf := times_ok meltDeed (n := m.toNat) (by omega) (hc.push (X := [some ⟨23, 3, [[I 3, I m, I c]]⟩])).less hg1 (by omega) (by omega)
    rw [hm] at hf
    simp only [walkS, wl, rgets, retv, argsEnv, ev, cst, cst1, cstL, AEnv.get, AEnv.trim, envput, qstep, abin, aun, evs, evo, deref, qload, target, if_true, if_false, Nat.reduceEqDiff, reduceIte, Nat.reduceAdd, AV.cells, AV.isTuple, setMany, alen, aiaddr, afill, Nat.reduceLeDiff, Nat.reduceMul, Nat.reduceLT, afillE, List.replicate, Int.reduceBEq]
    refine hf.mono fun x H ⟨v1, v2, v3⟩ => ?_
    subst v1
    simp only [walkS, wl, rgets, retv, argsEnv, ev, cst, cst1, cstL, AEnv.get, AEnv.trim, envput, qstep, abin, aun, evs, evo, deref, qload, target, if_true, if_false, Nat.reduceEqDiff, reduceIte, Nat.reduceAdd, AV.cells, AV.isTuple, setMany, alen, aiaddr, afill, Nat.reduceLeDiff, Nat.reduceMul, Nat.reduceLT, afillE, List.replicate]
    exact fin v2 v3 (by rw [e0]) (by rw [e0]; simp) (by rw [e0]; simp)
  · have e0 : doS 4 m c ls = (frost m ls, 0, 0) := rfl
    have hf := frost_ok (c := m) (hc.push (X := [some ⟨23, 3, [[I 4, I m, I c]]⟩])).less hg1.1 (by omega)
    simp only [walkS, wl, rgets, retv, argsEnv, ev, cst, cst1, cstL, AEnv.get, AEnv.trim, envput, qstep, abin, aun, evs, evo, deref, qload, target, if_true, if_false, Nat.reduceEqDiff, reduceIte, Nat.reduceAdd, AV.cells, AV.isTuple, setMany, alen, aiaddr, afill, Nat.reduceLeDiff, Nat.reduceMul, Nat.reduceLT, afillE, List.replicate, Int.reduceBEq]
    refine hf.mono fun x H ⟨v1, v2, v3⟩ => ?_
    subst v1
    simp only [walkS, wl, rgets, retv, argsEnv, ev, cst, cst1, cstL, AEnv.get, AEnv.trim, envput, qstep, abin, aun, evs, evo, deref, qload, target, if_true, if_false, Nat.reduceEqDiff, reduceIte, Nat.reduceAdd, AV.cells, AV.isTuple, setMany, alen, aiaddr, afill, Nat.reduceLeDiff, Nat.reduceMul, Nat.reduceLT, afillE, List.replicate]
    exact fin v2 v3 (by rw [e0]) (by rw [e0]) (by rw [e0])
  · have e0 : doS 5 m c ls = ((times loss1 m.toNat ls).1, (times loss1 m.toNat ls).2, taken loss1 m.toNat ls) := rfl
    have hf := times_ok vanishDeed (n := m.toNat) (by omega) (hc.push (X := [some ⟨23, 3, [[I 5, I m, I c]]⟩])).less hg1 (by omega) (by omega)
    rw [hm] at hf
    simp only [walkS, wl, rgets, retv, argsEnv, ev, cst, cst1, cstL, AEnv.get, AEnv.trim, envput, qstep, abin, aun, evs, evo, deref, qload, target, if_true, if_false, Nat.reduceEqDiff, reduceIte, Nat.reduceAdd, AV.cells, AV.isTuple, setMany, alen, aiaddr, afill, Nat.reduceLeDiff, Nat.reduceMul, Nat.reduceLT, afillE, List.replicate, Int.reduceBEq]
    refine hf.mono fun x H ⟨v1, v2, v3⟩ => ?_
    subst v1
    simp only [walkS, wl, rgets, retv, argsEnv, ev, cst, cst1, cstL, AEnv.get, AEnv.trim, envput, qstep, abin, aun, evs, evo, deref, qload, target, if_true, if_false, Nat.reduceEqDiff, reduceIte, Nat.reduceAdd, AV.cells, AV.isTuple, setMany, alen, aiaddr, afill, Nat.reduceLeDiff, Nat.reduceMul, Nat.reduceLT, afillE, List.replicate]
    exact fin v2 v3 (by rw [e0]) (by rw [e0]; simp) (by rw [e0]; simp)
  · have e0 : doS 6 m c ls = ((times loss1 m.toNat ls).1, (times loss1 m.toNat ls).2, taken loss1 m.toNat ls) := rfl
    have hf := times_ok vanishDeed (n := m.toNat) (by omega) (hc.push (X := [some ⟨23, 3, [[I 6, I m, I c]]⟩])).less hg1 (by omega) (by omega)
    rw [hm] at hf
    simp only [walkS, wl, rgets, retv, argsEnv, ev, cst, cst1, cstL, AEnv.get, AEnv.trim, envput, qstep, abin, aun, evs, evo, deref, qload, target, if_true, if_false, Nat.reduceEqDiff, reduceIte, Nat.reduceAdd, AV.cells, AV.isTuple, setMany, alen, aiaddr, afill, Nat.reduceLeDiff, Nat.reduceMul, Nat.reduceLT, afillE, List.replicate, Int.reduceBEq]
    refine hf.mono fun x H ⟨v1, v2, v3⟩ => ?_
    subst v1
    simp only [walkS, wl, rgets, retv, argsEnv, ev, cst, cst1, cstL, AEnv.get, AEnv.trim, envput, qstep, abin, aun, evs, evo, deref, qload, target, if_true, if_false, Nat.reduceEqDiff, reduceIte, Nat.reduceAdd, AV.cells, AV.isTuple, setMany, alen, aiaddr, afill, Nat.reduceLeDiff, Nat.reduceMul, Nat.reduceLT, afillE, List.replicate]
    exact fin v2 v3 (by rw [e0]) (by rw [e0]; simp) (by rw [e0]; simp)
theorem out_three {H : AHeap} {x y z x' y' z' : AV} (hx : Out H x x') (hy : Out H y y') (hz : Out H z z') : Out H (.tuple [x, y, z]) (.tuple [x', y', z']) := out_tuple (.cons hx (.cons hy (.cons hz .nil)))
theorem out_agg1 {H : AHeap} {x x' : AV} (hx : Out H x x') (h1 : x'.one = true) : Out H (.agg [x]) (.agg [x']) := fun w m B v st hv m' H' B' hB hm => by
  cases hv with
  | agg _ vs hl ho hh =>
    refine .agg _ _ hl (by simp [h1]) fun i z v' e1 e2 => ?_
    rcases i with _ | i
    · cases e1; exact hx w m B v' st (hh 0 x v' rfl e2) m' H' B' hB hm
    · simp at e1
theorem out_nopk {H : AHeap} : Out H (.agg [.nilSlice]) (.agg [.ro true (rows [])]) := out_agg1 out_nil rfl
/-- A pack and a number and an error, as they are handed back. -/
def pkV (r : List Lay × Int × Int) : AV := .tuple [.agg [.ro true (rows r.1)], I r.2.1, I r.2.2]
theorem Apply_ok (ls : List Lay) (k m c : Int) : PCall Tryz.prog 18 [.agg [.ro false (rows ls)], .agg (dc (k, m, c))] (pkV (applyV ls k m c)) := by
  refine PCall.intro text18 (by simp) ?_
  unfold ir18 pkV
  simp only [walkS, wl, rgets, retv, argsEnv, ev, cst, cst1, cstL, AEnv.get, AEnv.trim, envput, qstep, abin, aun, evs, evo, deref, qload, target, if_true, if_false, Nat.reduceEqDiff, reduceIte, Nat.reduceAdd, AV.cells, AV.isTuple, setMany, alen, aiaddr, afill, Nat.reduceLeDiff, Nat.reduceMul, Nat.reduceLT, afillE, List.replicate, dc]
  refine call_pure (Check_ok ls) (frzL_of' (d := 4) car_pkL) ?_
  simp only [walkS, wl, rgets, retv, argsEnv, ev, cst, cst1, cstL, AEnv.get, AEnv.trim, envput, qstep, abin, aun, evs, evo, deref, qload, target, if_true, if_false, Nat.reduceEqDiff, reduceIte, Nat.reduceAdd, AV.cells, AV.isTuple, setMany, alen, aiaddr, afill, Nat.reduceLeDiff, Nat.reduceMul, Nat.reduceLT, afillE, List.replicate]
  refine withBool_intro ?_ ?_ <;> intro h <;> simp only [walkS, wl, rgets, retv, argsEnv, ev, cst, cst1, cstL, AEnv.get, AEnv.trim, envput, qstep, abin, aun, evs, evo, deref, qload, target, if_true, if_false, Nat.reduceEqDiff, reduceIte, Nat.reduceAdd, AV.cells, AV.isTuple, setMany, alen, aiaddr, afill, Nat.reduceLeDiff, Nat.reduceMul, Nat.reduceLT, afillE, List.replicate]
  · obtain ⟨h1, h2⟩ := chk_ne (ls := ls) (by simpa using h)
    refine storeR rfl rfl rfl rfl ⟨rfl, rfl, rfl, by simp⟩ fun H1 y1 y2 y3 => ?_
    simp only [AV.cells, setMany, List.set_cons_zero, List.set_cons_succ] at y2
    simp only [walkS, wl, rgets, retv, argsEnv, ev, cst, cst1, cstL, AEnv.get, AEnv.trim, envput, qstep, abin, aun, evs, evo, deref, qload, target, if_true, if_false, Nat.reduceEqDiff, reduceIte, Nat.reduceAdd, AV.cells, AV.isTuple, setMany, alen, aiaddr, afill, Nat.reduceLeDiff, Nat.reduceMul, Nat.reduceLT, afillE, List.replicate, y2]
    simp only [applyV, h1, h2, Bool.false_eq_true, if_false]
    exact out_three out_nopk out_int out_int
  · have h1 := chk_zero (ls := ls) (by simpa using h)
    refine call_pure (CheckStep_ok k m c) (frzL_of' (d := 4) rfl) ?_
    simp only [walkS, wl, rgets, retv, argsEnv, ev, cst, cst1, cstL, AEnv.get, AEnv.trim, envput, qstep, abin, aun, evs, evo, deref, qload, target, if_true, if_false, Nat.reduceEqDiff, reduceIte, Nat.reduceAdd, AV.cells, AV.isTuple, setMany, alen, aiaddr, afill, Nat.reduceLeDiff, Nat.reduceMul, Nat.reduceLT, afillE, List.replicate]
    refine withBool_intro ?_ ?_ <;> intro h <;> simp only [walkS, wl, rgets, retv, argsEnv, ev, cst, cst1, cstL, AEnv.get, AEnv.trim, envput, qstep, abin, aun, evs, evo, deref, qload, target, if_true, if_false, Nat.reduceEqDiff, reduceIte, Nat.reduceAdd, AV.cells, AV.isTuple, setMany, alen, aiaddr, afill, Nat.reduceLeDiff, Nat.reduceMul, Nat.reduceLT, afillE, List.replicate]
    · have h2 : okS k m c = false ∧ chkS k m c = 21 := by
        unfold chkS at h ⊢
        cases hs : okS k m c with
        | true => rw [hs] at h; simp at h
        | false => exact ⟨rfl, rfl⟩
      refine storeR rfl rfl rfl rfl ⟨rfl, rfl, rfl, by simp⟩ fun H1 y1 y2 y3 => ?_
      simp only [AV.cells, setMany, List.set_cons_zero, List.set_cons_succ] at y2
      simp only [walkS, wl, rgets, retv, argsEnv, ev, cst, cst1, cstL, AEnv.get, AEnv.trim, envput, qstep, abin, aun, evs, evo, deref, qload, target, if_true, if_false, Nat.reduceEqDiff, reduceIte, Nat.reduceAdd, AV.cells, AV.isTuple, setMany, alen, aiaddr, afill, Nat.reduceLeDiff, Nat.reduceMul, Nat.reduceLT, afillE, List.replicate, y2]
      simp only [applyV, h1, h2, Bool.false_eq_true, if_false, if_true]
      exact out_three out_nopk out_int out_int
    · have h2 : okS k m c = true := by
        unfold chkS at h
        cases hs : okS k m c with
        | true => rfl
        | false => rw [hs] at h; simp at h
      refine (columnOf_ok (okP_iff.1 h1).1).mono fun x H ⟨hh, e, q1, q2, q3, q4⟩ => ?_
      subst e
      have o1 : AHeap.obj H 1 = some ⟨23, 3, [[I k, I m, I c]]⟩ := by rw [q3 1 (by simp)]; rfl
      have o2 : AHeap.obj H 2 = some ⟨26, 1, [[.nilSlice]]⟩ := by rw [q3 2 (by simp)]; rfl
      simp only [List.length_cons, List.length_nil] at q1 q2
      simp only [walkS, wl, rgets, retv, argsEnv, ev, cst, cst1, cstL, AEnv.get, AEnv.trim, envput, qstep, abin, aun, evs, evo, deref, qload, target, if_true, if_false, Nat.reduceEqDiff, reduceIte, Nat.reduceAdd, AV.cells, AV.isTuple, setMany, alen, aiaddr, afill, Nat.reduceLeDiff, Nat.reduceMul, Nat.reduceLT, afillE, List.replicate, o1]
      refine (do_ok q4 (okP_good h1) h2).mono fun x H1 ⟨e, r1, r2, r3⟩ => ?_
      subst e
      have o2' : AHeap.obj H1 2 = some ⟨26, 1, [[.nilSlice]]⟩ := by rw [r2 2 (by omega) (by omega)]; exact o2
      simp only [walkS, wl, rgets, retv, argsEnv, ev, cst, cst1, cstL, AEnv.get, AEnv.trim, envput, qstep, abin, aun, evs, evo, deref, qload, target, if_true, if_false, Nat.reduceEqDiff, reduceIte, Nat.reduceAdd, AV.cells, AV.isTuple, setMany, alen, aiaddr, afill, Nat.reduceLeDiff, Nat.reduceMul, Nat.reduceLT, afillE, List.replicate]
      refine (pack_ok r3).mono fun x H2 ⟨s1, s2, a, e, s3⟩ => ?_
      subst e
      obtain ⟨hone, htup⟩ := s3.one
      simp only [walkS, wl, rgets, retv, argsEnv, ev, cst, cst1, cstL, AEnv.get, AEnv.trim, envput, qstep, abin, aun, evs, evo, deref, qload, target, if_true, if_false, Nat.reduceEqDiff, reduceIte, Nat.reduceAdd, AV.cells, AV.isTuple, setMany, alen, aiaddr, afill, Nat.reduceLeDiff, Nat.reduceMul, Nat.reduceLT, afillE, List.replicate]
      refine storeR rfl rfl AHeap.obj_push_eq rfl ⟨rfl, rfl, rfl, by simp⟩ fun H3 u1 u2 u3 => ?_
      simp only [AV.cells, setMany, List.set_cons_zero, List.set_cons_succ] at u2
      simp only [List.length_append, List.length_cons, List.length_nil] at u1
      have o2'' : AHeap.obj H3 2 = some ⟨26, 1, [[.nilSlice]]⟩ := by rw [u3 2 (by omega), AHeap.obj_push_lt (by omega), s2 2 (by omega)]; exact o2'
      have s3' := s3.keep (H' := H3) fun i h1 h2 => by rw [u3 i (by omega), AHeap.obj_push_lt h2]
      have c3 : Column 0 H3 hh (doS k m c ls).1 (doS k m c ls).2.1 (doS k m c ls).2.2 := r3.keep (by rw [u3 hh (by have := r3.lt; omega), AHeap.obj_push_lt (by have := r3.lt; omega), s2 hh r3.lt])
      simp only [walkS, wl, rgets, retv, argsEnv, ev, cst, cst1, cstL, AEnv.get, AEnv.trim, envput, qstep, abin, aun, evs, evo, deref, qload, target, if_true, if_false, Nat.reduceEqDiff, reduceIte, Nat.reduceAdd, AV.cells, AV.isTuple, setMany, alen, aiaddr, afill, Nat.reduceLeDiff, Nat.reduceMul, Nat.reduceLT, afillE, List.replicate]
      cases h3 : okP (doS k m c ls).1 with
      | false =>
        simp only [h3, Bool.false_eq_true, if_false] at s3 s3' u2
        simp only [walkS, wl, rgets, retv, argsEnv, ev, cst, cst1, cstL, AEnv.get, AEnv.trim, envput, qstep, abin, aun, evs, evo, deref, qload, target, if_true, if_false, Nat.reduceEqDiff, reduceIte, Nat.reduceAdd, AV.cells, AV.isTuple, setMany, alen, aiaddr, afill, Nat.reduceLeDiff, Nat.reduceMul, Nat.reduceLT, afillE, List.replicate, Int.reduceBNe]
        refine storeR rfl rfl o2'' rfl ⟨rfl, rfl, rfl, by simp⟩ fun H4 z1 z2 z3 => ?_
        simp only [AV.cells, setMany, List.set_cons_zero, List.set_cons_succ] at z2
        simp only [walkS, wl, rgets, retv, argsEnv, ev, cst, cst1, cstL, AEnv.get, AEnv.trim, envput, qstep, abin, aun, evs, evo, deref, qload, target, if_true, if_false, Nat.reduceEqDiff, reduceIte, Nat.reduceAdd, AV.cells, AV.isTuple, setMany, alen, aiaddr, afill, Nat.reduceLeDiff, Nat.reduceMul, Nat.reduceLT, afillE, List.replicate, z2]
        simp only [applyV, h1, h2, h3, Bool.false_eq_true, if_false, if_true]
        exact out_three out_nopk out_int out_int
      | true =>
        simp only [h3, if_true] at s3 s3' u2
        obtain ⟨A, post, -, hlen, c0⟩ := c3
        unfold ColAt at c0
        obtain ⟨L, hLe⟩ : ∃ L, L = A ++ (doS k m c ls).1 ++ post := ⟨_, rfl⟩
        rw [← hLe] at hlen c0
        have hne : hh ≠ 2 := by omega
        have hv : applyV ls k m c = ((doS k m c ls).1, (doS k m c ls).2.1, 0) := by simp only [applyV, h1, h2, h3, if_true]
        rw [hv]
        simp only [walkS, wl, rgets, retv, argsEnv, ev, cst, cst1, cstL, AEnv.get, AEnv.trim, envput, qstep, abin, aun, evs, evo, deref, qload, target, if_true, if_false, Nat.reduceEqDiff, reduceIte, Nat.reduceAdd, AV.cells, AV.isTuple, setMany, alen, aiaddr, afill, Nat.reduceLeDiff, Nat.reduceMul, Nat.reduceLT, afillE, List.replicate, bne_self_eq_false, u2, c0, colC_197 hlen]
        rcases s3'.form with rfl | ⟨q, n, rfl⟩
        all_goals
          refine storeW rfl rfl o2'' rfl ⟨rfl, rfl, rfl, by simp⟩ fun H4 z1 z2 z3 => ?_
          simp only [AV.cells, setMany, List.set_cons_zero, List.set_cons_succ] at z2
          have c4 : AHeap.obj H4 hh = some ⟨72, 199, [colC L A.length (A.length + (doS k m c ls).1.length : Nat) (doS k m c ls).2.1 (doS k m c ls).2.2]⟩ := by rw [z3 _ hne]; exact c0
          have s4 := s3'.keep (H' := H4) fun i h1 h2 => z3 i (by omega)
          simp only [walkS, wl, rgets, retv, argsEnv, ev, cst, cst1, cstL, AEnv.get, AEnv.trim, envput, qstep, abin, aun, evs, evo, deref, qload, target, if_true, if_false, Nat.reduceEqDiff, reduceIte, Nat.reduceAdd, AV.cells, AV.isTuple, setMany, alen, aiaddr, afill, Nat.reduceLeDiff, Nat.reduceMul, Nat.reduceLT, afillE, List.replicate, z2, c4, colC_197 hlen]
          exact out_three (out_agg1 (s4.out (rows_simple _)) rfl) out_int out_int
end Go.Proofs.YtomejgikdelgkaaGreatDoor
