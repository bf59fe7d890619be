/- Best and Flow: what they hand back. -/
import Derived.Test.YtepnijjgdhldeaaQX1
import Derived.Test.YtepnijjgdhldeaaQG7
namespace Go.Proofs.Ytepnijjgdhldeaa
open Go.Awp
set_option linter.unusedSimpArgs false
set_option linter.unusedVariables false
set_option maxRecDepth 10000
set_option maxHeartbeats 4000000
theorem fulf_sub {n : Int} {ds es : List Df} {xs : List Int} (hs : ∀ d, d ∈ ds → d ∈ es) (h : fulf n es xs = true) : fulf n ds xs = true := by
  obtain ⟨a, b, c, d⟩ := fulf_iff.1 h
  exact fulf_iff.2 ⟨a, b, c, fun x hx => d x (hs x hx)⟩
/-- What Flow hands back. -/
structure Flowed (n : Int) (ds : List Df) (ws : List Int) (H0 : AHeap) (x : AV) (H' : AHeap) : Prop where
  len : H0.length ≤ H'.length
  same : ∀ i, i < H0.length → AHeap.obj H' i = AHeap.obj H0 i
  cas : (bestE n ds ws ≠ 0 ∧ x = .tuple [.nilSlice, .bool false, I (bestE n ds ws)]) ∨
    (bestE n ds ws = 0 ∧ ∃ m : Nat, n = m ∧ Sol m ds ∧ ((x = .tuple [.nilSlice, .bool false, I 0] ∧ ∃ y, Ray m ds (wg ws) y) ∨
      ∃ (h : Nat) (F : Nat → Int), x = .tuple [.own h ds.length 0 ds.length, .bool true, I 0] ∧ H0.length ≤ h ∧ AHeap.obj H' h = some ⟨3, 1, ic (li ds.length F)⟩ ∧ Opt m ds (wg ws) F ∧ ∀ k, k < ds.length → 0 ≤ F k ∧ F k ≤ 65536))
theorem bestE_iff {n : Int} {ds : List Df} {ws : List Int} (h : bestE n ds ws = 0) : valid n ds = true ∧ weightyB n ws = true ∧ (lens n.toNat ds (everyone n.toNat)).2 = true := by
  unfold bestE at h
  split at h
  · split at h
    · split at h
      · exact ⟨‹_›, ‹_›, ‹_›⟩
      · cases h
    · cases h
  · cases h
theorem Flow_at {n : Int} {ds : List Df} {ws : List Int} (hl : ws.length ≤ big) (hs : valid n ds = true → n ≤ 16 ∧ ds.length ≤ 60) (H0 : AHeap) : ACall Try.prog 48 [.agg [I n, .ro false (rows ds)], .ro false (ic ws)] H0 (Flowed n ds ws H0) := by
  refine ACall.intro text48 (by simp) ?_
  unfold ir48
  simp only [walkS, wl, rgets, retv, argsEnv, ev, cst, cst1, cstL, AEnv.get, AEnv.trim, envput, qstep, abin, aun, evs, evo, deref, qload, target, if_true, if_false, Nat.reduceEqDiff, reduceIte, Nat.reduceAdd, AV.cells, AV.isTuple, setMany, alen, aiaddr, afill, Nat.reduceLeDiff, Nat.reduceMul, Nat.reduceLT, afillE, List.replicate]
  refine (best_at hl hs _).mono fun x H1 hx => ?_
  obtain ⟨l1, l2, l3⟩ := hx
  simp only [List.length_append, List.length_cons, List.length_nil] at l1 l2
  have same : ∀ i, i < H0.length → AHeap.obj H1 i = AHeap.obj H0 i := fun i hi => by rw [l2 i (by omega), AHeap.obj_push_lt hi]
  rcases l3 with ⟨he, rfl⟩ | ⟨he, m, hu, hf, hw, F, W, T, ok, rfl, sol, hT, rfl, g1, g2, g3, uf, inv, hc⟩
  · have e1 : (bestE n ds ws != 0) = true := by simp [he]
    simp only [walkS, wl, rgets, retv, argsEnv, ev, cst, cst1, cstL, AEnv.get, AEnv.trim, envput, qstep, abin, aun, evs, evo, deref, qload, target, if_true, if_false, Nat.reduceEqDiff, reduceIte, Nat.reduceAdd, AV.cells, AV.isTuple, setMany, alen, aiaddr, afill, Nat.reduceLeDiff, Nat.reduceMul, Nat.reduceLT, afillE, List.replicate, e1]
    exact ⟨by omega, same, .inl ⟨he, rfl⟩⟩
  · rcases hc with ⟨rfl, ho⟩ | ⟨rfl, hy⟩
    · have hph := phi_nonneg (n := m) (W := W)
      simp only [walkS, wl, rgets, retv, argsEnv, ev, cst, cst1, cstL, AEnv.get, AEnv.trim, envput, qstep, abin, aun, evs, evo, deref, qload, target, if_true, if_false, Nat.reduceEqDiff, reduceIte, Nat.reduceAdd, AV.cells, AV.isTuple, setMany, alen, aiaddr, afill, Nat.reduceLeDiff, Nat.reduceMul, Nat.reduceLT, afillE, List.replicate, Int.reduceBNe, Bool.not_true, uf.ou]
      exact ⟨by omega, same, .inr ⟨he, m, rfl, sol, .inr ⟨hf, F, rfl, by simp at g2; omega, uf.of, ho, fun k hk => ⟨inv.nonneg k hk, by have := inv.cap k hk; omega⟩⟩⟩⟩
    · simp only [walkS, wl, rgets, retv, argsEnv, ev, cst, cst1, cstL, AEnv.get, AEnv.trim, envput, qstep, abin, aun, evs, evo, deref, qload, target, if_true, if_false, Nat.reduceEqDiff, reduceIte, Nat.reduceAdd, AV.cells, AV.isTuple, setMany, alen, aiaddr, afill, Nat.reduceLeDiff, Nat.reduceMul, Nat.reduceLT, afillE, List.replicate, Int.reduceBNe, Bool.not_false]
      exact ⟨by omega, same, .inr ⟨he, m, rfl, sol, .inl ⟨rfl, hy⟩⟩⟩
/-- What Best hands back. -/
structure Bests (n : Int) (ds : List Df) (ws : List Int) (H0 : AHeap) (x : AV) (H' : AHeap) : Prop where
  len : H0.length ≤ H'.length
  same : ∀ i, i < H0.length → AHeap.obj H' i = AHeap.obj H0 i
  cas : (bestE n ds ws ≠ 0 ∧ x = .tuple [.nilSlice, .bool false, I (bestE n ds ws)]) ∨
    (bestE n ds ws = 0 ∧ ∃ m : Nat, n = m ∧ Sol m ds ∧ ((x = .tuple [.nilSlice, .bool false, I 0] ∧ ∃ y, Ray m ds (wg ws) y) ∨
      ∃ f : Nat → Int, x = .tuple [.ro true (ic (li m f)), .bool true, I 0] ∧ fulf m ds (li m f) = true ∧ f 0 = 0 ∧ (mostN m ds (wg ws)).2 = true ∧ dot m (wg ws) f = (mostN m ds (wg ws)).1))
theorem Best_at {n : Int} {ds : List Df} {ws : List Int} (hl : ws.length ≤ big) (hs : valid n ds = true → n ≤ 16 ∧ ds.length ≤ 60) (H0 : AHeap) : ACall Try.prog 47 [.agg [I n, .ro false (rows ds)], .ro false (ic ws)] H0 (Bests n ds ws H0) := by
  refine ACall.intro text47 (by simp) ?_
  unfold ir47
  simp only [walkS, wl, rgets, retv, argsEnv, ev, cst, cst1, cstL, AEnv.get, AEnv.trim, envput, qstep, abin, aun, evs, evo, deref, qload, target, if_true, if_false, Nat.reduceEqDiff, reduceIte, Nat.reduceAdd, AV.cells, AV.isTuple, setMany, alen, aiaddr, afill, Nat.reduceLeDiff, Nat.reduceMul, Nat.reduceLT, afillE, List.replicate]
  refine (best_at hl hs _).mono fun x H1 hx => ?_
  obtain ⟨l1, l2, l3⟩ := hx
  simp only [List.length_append, List.length_cons, List.length_nil] at l1 l2
  have same : ∀ i, i < H0.length → AHeap.obj H1 i = AHeap.obj H0 i := fun i hi => by rw [l2 i (by omega), AHeap.obj_push_lt hi]
  rcases l3 with ⟨he, rfl⟩ | ⟨he, m, hu, hf, hw, F, W, T, ok, rfl, sol, hT, rfl, g1, g2, g3, uf, inv, hc⟩
  · have e1 : (bestE n ds ws != 0) = true := by simp [he]
    simp only [walkS, wl, rgets, retv, argsEnv, ev, cst, cst1, cstL, AEnv.get, AEnv.trim, envput, qstep, abin, aun, evs, evo, deref, qload, target, if_true, if_false, Nat.reduceEqDiff, reduceIte, Nat.reduceAdd, AV.cells, AV.isTuple, setMany, alen, aiaddr, afill, Nat.reduceLeDiff, Nat.reduceMul, Nat.reduceLT, afillE, List.replicate, e1]
    exact ⟨by omega, same, .inl ⟨he, rfl⟩⟩
  · rcases hc with ⟨rfl, ho⟩ | ⟨rfl, hy⟩
    · have hv := (bestE_iff he).1
      have hsm := hs hv
      have hK : ds.length ≤ 2048 := by omega
      have hsolr : Sol m (lns ds F) := inv.sol sol.good hK
      have hgl := lns_good (F := F) sol.good hK
      obtain ⟨se, sf⟩ := solved_fulf hsolr
      have hcalm := (lens_grown hgl hsolr.sol).2
      simp only [walkS, wl, rgets, retv, argsEnv, ev, cst, cst1, cstL, AEnv.get, AEnv.trim, envput, qstep, abin, aun, evs, evo, deref, qload, target, if_true, if_false, Nat.reduceEqDiff, reduceIte, Nat.reduceAdd, AV.cells, AV.isTuple, setMany, alen, aiaddr, afill, Nat.reduceLeDiff, Nat.reduceMul, Nat.reduceLT, afillE, List.replicate, Int.reduceBNe, Bool.not_true]
      refine call_pure (solve_ok hgl (use_graph (W := W) hK sol.good.w) (fun H => by
        exact car_ropF (d := 3) (carL_cons rfl (carL_cons (car_rowsF (d := 1)) (carL_cons (car_icF (d := 1)) (carL_cons (car_icF (d := 1)) rfl)))))) (frzL_of' (d := 6) (carL_cons (car_iface uf.car) rfl)) ?_
      unfold treeV
      simp only [walkS, wl, rgets, retv, argsEnv, ev, cst, cst1, cstL, AEnv.get, AEnv.trim, envput, qstep, abin, aun, evs, evo, deref, qload, target, if_true, if_false, Nat.reduceEqDiff, reduceIte, Nat.reduceAdd, AV.cells, AV.isTuple, setMany, alen, aiaddr, afill, Nat.reduceLeDiff, Nat.reduceMul, Nat.reduceLT, afillE, List.replicate]
      refine storeR rfl rfl AHeap.obj_push_eq rfl ⟨rfl, rfl, rfl, by simp⟩ fun H2 y1 y2 y3 => ?_
      have hL2 : H2.length = H1.length + 1 := by rw [y1]; simp
      simp only [walkS, wl, rgets, retv, argsEnv, ev, cst, cst1, cstL, AEnv.get, AEnv.trim, envput, qstep, abin, aun, evs, evo, deref, qload, target, if_true, if_false, Nat.reduceEqDiff, reduceIte, Nat.reduceAdd, AV.cells, AV.isTuple, setMany, alen, aiaddr, afill, Nat.reduceLeDiff, Nat.reduceMul, Nat.reduceLT, afillE, List.replicate]
      have hf' : ∀ d, d ∈ ds → fr d < m ∧ to d < m := fun d hd => ⟨sol.good.fit.fr d hd, sol.good.fit.to d hd⟩
      have hall : Calm (lns ds F) (fun _ => True) (lens m (lns ds F) (everyone m)).1.long := fun d hd _ => ⟨trivial, hsolr.calm_all d hd⟩
      obtain ⟨hfe, hti⟩ := lns_calm hall
      have hst := ho.brings.strong hf' (x := fun v => (lens m (lns ds F) (everyone m)).1.long v - (lens m (lns ds F) (everyone m)).1.long 0) (Int.sub_self _) (hfe.shift _) (hti.shift _)
      have hmo := mostN_t hf' ho
      rw [se]
      refine ⟨by omega, fun i hi => by rw [y3 i (by omega), AHeap.obj_push_lt (by omega), same i hi], .inr ⟨he, m, rfl, sol, .inr ⟨_, rfl, fulf_sub (fun d hd => List.mem_append_left _ hd) sf, Int.sub_self _, by rw [hmo], by rw [hst, hmo]⟩⟩⟩
    · simp only [walkS, wl, rgets, retv, argsEnv, ev, cst, cst1, cstL, AEnv.get, AEnv.trim, envput, qstep, abin, aun, evs, evo, deref, qload, target, if_true, if_false, Nat.reduceEqDiff, reduceIte, Nat.reduceAdd, AV.cells, AV.isTuple, setMany, alen, aiaddr, afill, Nat.reduceLeDiff, Nat.reduceMul, Nat.reduceLT, afillE, List.replicate, Int.reduceBNe, Bool.not_false]
      exact ⟨by omega, same, .inr ⟨he, m, rfl, sol, .inl ⟨rfl, hy⟩⟩⟩
end Go.Proofs.Ytepnijjgdhldeaa
