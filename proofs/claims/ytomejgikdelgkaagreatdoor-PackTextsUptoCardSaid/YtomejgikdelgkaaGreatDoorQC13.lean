/- Contracts: Weakest, Breaks, Steepest. -/
import Derived.Test.YtomejgikdelgkaaGreatDoorQC12
set_option linter.unusedVariables false
set_option linter.unusedSimpArgs false
set_option linter.unusedSectionVars false
namespace Go.Proofs.YtomejgikdelgkaaGreatDoor
open Go.Awp Go.Snow
set_option linter.unusedSimpArgs false
set_option linter.unusedVariables false
set_option linter.unusedSectionVars false
set_option maxRecDepth 10000
def str (l : Lay) : Int := 10 * l.1 + l.2.2 - 40 * l.2.1
def layAt (ls : List Lay) (k : Nat) : Lay := ls.getD k (0, 0, 0)
theorem layAt_lt {ls : List Lay} {k : Nat} (h : k < ls.length) : layAt ls k = ls[k] := by simp [layAt, h]
def loadAt (ls : List Lay) (k : Nat) : Int := water (ls.take k)
theorem loadAt_succ {ls : List Lay} {k : Nat} (h : k < ls.length) : loadAt ls (k + 1) = loadAt ls k + (ls[k].1 + ls[k].2.1) := water_take h
theorem loadAt_le {ls : List Lay} (h : ∀ l, l ∈ ls → right l = true) : ∀ k, k ≤ ls.length → 0 ≤ loadAt ls k ∧ loadAt ls k ≤ 100000 * k
  | 0, _ => by simp [loadAt, water]
  | k + 1, hk => by
    have := loadAt_le h k (by omega)
    have := right_iff.1 (h ls[k] (List.getElem_mem _))
    rw [loadAt_succ (by omega)]; omega
theorem str_small {l : Lay} (h : right l = true) : -1000000 ≤ str l ∧ str l ≤ 1000000 := by
  have := right_iff.1 h
  unfold str; omega
theorem mul_small {a b : Int} {A B : Nat} (ha : -(A : Int) ≤ a ∧ a ≤ A) (hb : -(B : Int) ≤ b ∧ b ≤ B) : -((A * B : Nat) : Int) ≤ a * b ∧ a * b ≤ ((A * B : Nat) : Int) := by
  have h1 : (a * b).natAbs ≤ A * B := by
    rw [Int.natAbs_mul]
    exact Nat.mul_le_mul (by omega) (by omega)
  omega
theorem strength_ok {l : Lay} (h : right l = true) : PCall Tryz.prog 42 [.agg (dc l)] (I (str l)) := by
  have hr := right_iff.1 h
  refine PCall.intro text42 (by simp) ?_
  unfold ir42
  have e1 : IntKind.i64.wrap (10 * l.1) = 10 * l.1 := wrap_id (by omega) (by omega)
  have e2 : IntKind.i64.wrap (10 * l.1 + l.2.2) = 10 * l.1 + l.2.2 := wrap_id (by omega) (by omega)
  have e3 : IntKind.i64.wrap (40 * l.2.1) = 40 * l.2.1 := wrap_id (by omega) (by omega)
  have e4 : IntKind.i64.wrap (10 * l.1 + l.2.2 - 40 * l.2.1) = str l := by rw [wrap_id (by omega) (by omega)]; rfl
  simp only [walk, wl, rgets, retv, argsEnv, ev, cst, cst1, cstL, AEnv.get, AEnv.trim, envput, qstep, abin, aun, evs, evo, deref, qload, target, if_true, if_false, Nat.reduceEqDiff, reduceIte, Nat.reduceAdd, AV.cells, AV.isTuple, setMany, alen, aiaddr, afill, Nat.reduceLeDiff, Nat.reduceMul, Nat.reduceLT, afillE, List.replicate, dc, e1, e2, e3, e4]
  exact out_int
/-- What holds while the layers are visited leans on the objects below N alone. -/
def Low (N : Nat) (J : Nat → AHeap → Prop) : Prop := ∀ k H H', N ≤ H'.length → (∀ i, i < N → AHeap.obj H' i = AHeap.obj H i) → J k H → J k H'
theorem each_ok {H0 : AHeap} {b : Bool} {ls : List Lay} (hR : ∀ l, l ∈ ls → right l = true) (hlen : ls.length ≤ 64) {g : FuncId} {caps : List AV} {J Stop : Nat → AHeap → Prop} (hJ : Low H0.length J) (h0 : J 0 H0)
    (step : ∀ k H (hk : k < ls.length), H0.length ≤ H.length → J k H → ACall Tryz.prog g ([I (k : Int), I (loadAt ls k), .agg (dc ls[k])] ++ caps) H fun x H' => H.length ≤ H'.length ∧ (∀ i, H0.length ≤ i → i < H.length → AHeap.obj H' i = AHeap.obj H i) ∧
      ((x = .bool true ∧ J (k + 1) H') ∨ (x = .bool false ∧ Stop k H'))) :
    ACall Tryz.prog 40 [.agg [.ro b (rows ls)], .func (.func g) [] caps] H0 fun x H => x = .tuple [] ∧ H0.length ≤ H.length ∧ (J ls.length H ∨ ∃ k, k < ls.length ∧ Stop k H) := by
  refine ACall.intro text40 (by simp) ?_
  unfold ir40
  simp only [walkS, wl, rgets, retv, argsEnv, ev, cst, cst1, cstL, AEnv.get, AEnv.trim, envput, qstep, abin, aun, evs, evo, deref, qload, target, if_true, if_false, Nat.reduceEqDiff, reduceIte, Nat.reduceAdd, AV.cells, AV.isTuple, setMany, alen, aiaddr, afill, Nat.reduceLeDiff, Nat.reduceMul, Nat.reduceLT, afillE, List.replicate, rows_length]
  refine awp_loop (σ := Nat) (fun k => [(1, .func (.func g) [] caps), (4, I (loadAt ls k)), (8, .ro b (rows ls)), (9, I ls.length), (10, I k)]) (fun k H => H0.length ≤ H.length ∧ J k H) (fun k => k ≤ ls.length) (fun k => ls.length - k) 0 (Nat.zero_le _) rfl
    ⟨by simp, hJ 0 H0 _ (by simp) (fun i hi => AHeap.obj_push_lt hi) h0⟩ ?_
  rintro k H hk ⟨hH, hj⟩
  simp only [walkS, wl, rgets, retv, argsEnv, ev, cst, cst1, cstL, AEnv.get, AEnv.trim, envput, qstep, abin, aun, evs, evo, deref, qload, target, if_true, if_false, Nat.reduceEqDiff, reduceIte, Nat.reduceAdd, AV.cells, AV.isTuple, setMany, alen, aiaddr, afill, Nat.reduceLeDiff, Nat.reduceMul, Nat.reduceLT, afillE, List.replicate]
  refine withBool_intro ?_ ?_ <;> intro hb <;> simp only [walkS, wl, rgets, retv, argsEnv, ev, cst, cst1, cstL, AEnv.get, AEnv.trim, envput, qstep, abin, aun, evs, evo, deref, qload, target, if_true, if_false, Nat.reduceEqDiff, reduceIte, Nat.reduceAdd, AV.cells, AV.isTuple, setMany, alen, aiaddr, afill, Nat.reduceLeDiff, Nat.reduceMul, Nat.reduceLT, afillE, List.replicate]
  · have hlt : k < ls.length := by simpa using hb
    have hld := loadAt_le hR k hk
    have hr := right_iff.1 (hR ls[k] (List.getElem_mem hlt))
    simp only [walkS, wl, rgets, retv, argsEnv, ev, cst, cst1, cstL, AEnv.get, AEnv.trim, envput, qstep, abin, aun, evs, evo, deref, qload, target, if_true, if_false, Nat.reduceEqDiff, reduceIte, Nat.reduceAdd, AV.cells, AV.isTuple, setMany, alen, aiaddr, afill, Nat.reduceLeDiff, Nat.reduceMul, Nat.reduceLT, afillE, List.replicate, rows_get hlt]
    refine storeR rfl rfl AHeap.obj_push_eq rfl ⟨rfl, rfl, rfl, by simp⟩ fun H1 y1 y2 y3 => ?_
    simp only [AV.cells, setMany, List.set_cons_zero, List.set_cons_succ] at y2
    simp only [List.length_append, List.length_cons, List.length_nil] at y1
    have hj1 : J k H1 := hJ k H H1 (by omega) (fun i hi => by rw [y3 i (by omega), AHeap.obj_push_lt (by omega)]) hj
    simp only [walkS, wl, rgets, retv, argsEnv, ev, cst, cst1, cstL, AEnv.get, AEnv.trim, envput, qstep, abin, aun, evs, evo, deref, qload, target, if_true, if_false, Nat.reduceEqDiff, reduceIte, Nat.reduceAdd, AV.cells, AV.isTuple, setMany, alen, aiaddr, afill, Nat.reduceLeDiff, Nat.reduceMul, Nat.reduceLT, afillE, List.replicate, y2]
    refine acall_callv ?_
    simp only [walkS, wl, rgets, retv, argsEnv, ev, cst, cst1, cstL, AEnv.get, AEnv.trim, envput, qstep, abin, aun, evs, evo, deref, qload, target, if_true, if_false, Nat.reduceEqDiff, reduceIte, Nat.reduceAdd, AV.cells, AV.isTuple, setMany, alen, aiaddr, afill, Nat.reduceLeDiff, Nat.reduceMul, Nat.reduceLT, afillE, List.replicate, withFun_app, funK_app]
    refine (step k H1 hlt (by omega) hj1).mono fun x H2 ⟨z1, z2, z3⟩ => ?_
    have y2' : AHeap.obj H2 H.length = some ⟨47, 3, [[I ls[k].1, I ls[k].2.1, I ls[k].2.2]]⟩ := by rw [z2 _ hH (by omega)]; exact y2
    rcases z3 with ⟨rfl, z3⟩ | ⟨rfl, z3⟩
    · have e1 : IntKind.i64.wrap (ls[k].1 + ls[k].2.1) = ls[k].1 + ls[k].2.1 := wrap_id (by omega) (by omega)
      have e2 : IntKind.i64.wrap (loadAt ls k + (ls[k].1 + ls[k].2.1)) = loadAt ls (k + 1) := by rw [wrap_id (by omega) (by omega), loadAt_succ hlt]
      have e5 : IntKind.i64.wrap ((k : Int) + 1) = ((k + 1 : Nat) : Int) := by rw [wrap_id (by omega) (by omega)]; simp
      simp only [walkS, wl, rgets, retv, argsEnv, ev, cst, cst1, cstL, AEnv.get, AEnv.trim, envput, qstep, abin, aun, evs, evo, deref, qload, target, if_true, if_false, Nat.reduceEqDiff, reduceIte, Nat.reduceAdd, AV.cells, AV.isTuple, setMany, alen, aiaddr, afill, Nat.reduceLeDiff, Nat.reduceMul, Nat.reduceLT, afillE, List.replicate, y2', e1, e2, e5]
      exact loop_end (k + 1) hlt (by omega) rfl ⟨by omega, z3⟩
    · simp only [walkS, wl, rgets, retv, argsEnv, ev, cst, cst1, cstL, AEnv.get, AEnv.trim, envput, qstep, abin, aun, evs, evo, deref, qload, target, if_true, if_false, Nat.reduceEqDiff, reduceIte, Nat.reduceAdd, AV.cells, AV.isTuple, setMany, alen, aiaddr, afill, Nat.reduceLeDiff, Nat.reduceMul, Nat.reduceLT, afillE, List.replicate]
      exact ⟨by omega, .inr ⟨k, hlt, z3⟩⟩
  · have hk' : k = ls.length := by simp at hb; omega
    subst hk'
    exact ⟨hH, .inl hj⟩
/-- The weakest layer among the first ones, and its load. -/
def wk (ls : List Lay) : Nat → Nat × Int
  | 0 => (0, 0)
  | k + 1 => if (wk ls k).2 * str (layAt ls k) < loadAt ls k * str (layAt ls (wk ls k).1) then (k, loadAt ls k) else wk ls k
theorem wk_lt {ls : List Lay} (h0 : 0 < ls.length) : ∀ k, k ≤ ls.length → (wk ls k).1 < ls.length ∧ (wk ls k).2 = loadAt ls (wk ls k).1
  | 0, _ => ⟨h0, rfl⟩
  | k + 1, hk => by
    simp only [wk]
    split
    · exact ⟨by simp only; omega, rfl⟩
    · exact wk_lt h0 k (by omega)
def weakestV (ls : List Lay) : Int × Int × Int := if okP ls then (if ls.length = 0 then (0, 0, 4) else (((wk ls ls.length).1 : Int), (wk ls ls.length).2, 0)) else (0, 0, 20)
theorem weak1_ok {N h1 h2 h3 k : Nat} {H : AHeap} {ls : List Lay} (hN : N ≤ H.length) (hl : h1 < N ∧ h2 < N ∧ h3 < N) (hd : h1 ≠ h2 ∧ h1 ≠ h3 ∧ h2 ≠ h3) (hk : k < ls.length) (hR : ∀ l, l ∈ ls → right l = true) (hlen : ls.length ≤ 64)
    (o1 : AHeap.obj H h1 = some ⟨26, 1, [[.ro false (rows ls)]]⟩) (o2 : AHeap.obj H h2 = some ⟨3, 1, [[I ((wk ls k).1 : Int)]]⟩) (o3 : AHeap.obj H h3 = some ⟨3, 1, [[I (wk ls k).2]]⟩) :
    ACall Tryz.prog 41 [I (k : Int), I (loadAt ls k), .agg (dc ls[k]), .ptr h1 1 0 0, .ptr h2 1 0 0, .ptr h3 1 0 0] H fun x H' => H.length ≤ H'.length ∧ (∀ i, N ≤ i → i < H.length → AHeap.obj H' i = AHeap.obj H i) ∧
      x = .bool true ∧ AHeap.obj H' h1 = some ⟨26, 1, [[.ro false (rows ls)]]⟩ ∧ AHeap.obj H' h2 = some ⟨3, 1, [[I ((wk ls (k + 1)).1 : Int)]]⟩ ∧ AHeap.obj H' h3 = some ⟨3, 1, [[I (wk ls (k + 1)).2]]⟩ := by
  refine ACall.intro text41 (by simp) ?_
  unfold ir41
  obtain ⟨w1, w2⟩ := wk_lt (ls := ls) (by omega) k (by omega)
  have p1 : ∀ X, AHeap.obj (H ++ X) h1 = some ⟨26, 1, [[.ro false (rows ls)]]⟩ := fun X => obj_keep o1
  have p2 : ∀ X, AHeap.obj (H ++ X) h2 = some ⟨3, 1, [[I ((wk ls k).1 : Int)]]⟩ := fun X => obj_keep o2
  have p3 : ∀ X, AHeap.obj (H ++ X) h3 = some ⟨3, 1, [[I (wk ls k).2]]⟩ := fun X => obj_keep o3
  have l1 := loadAt_le hR k (by omega)
  have l2 := loadAt_le hR (wk ls k).1 (by omega)
  have s1 := str_small (hR ls[k] (List.getElem_mem hk))
  have s2 := str_small (hR ls[(wk ls k).1] (List.getElem_mem w1))
  have m1 := mul_small (A := 10000000) (B := 1000000) (a := loadAt ls k) (b := str ls[(wk ls k).1]) (by omega) (by omega)
  have m2 := mul_small (A := 10000000) (B := 1000000) (a := (wk ls k).2) (b := str ls[k]) (by omega) (by omega)
  have e1 : IntKind.i64.wrap (loadAt ls k * str ls[(wk ls k).1]) = loadAt ls k * str ls[(wk ls k).1] := wrap_id (by omega) (by omega)
  have e2 : IntKind.i64.wrap ((wk ls k).2 * str ls[k]) = (wk ls k).2 * str ls[k] := wrap_id (by omega) (by omega)
  simp only [walkS, wl, rgets, retv, argsEnv, ev, cst, cst1, cstL, AEnv.get, AEnv.trim, envput, qstep, abin, aun, evs, evo, deref, qload, target, if_true, if_false, Nat.reduceEqDiff, reduceIte, Nat.reduceAdd, AV.cells, AV.isTuple, setMany, alen, aiaddr, afill, Nat.reduceLeDiff, Nat.reduceMul, Nat.reduceLT, afillE, List.replicate, dc, p1, p2, p3, rows_get w1]
  refine dcall_pure (strength_ok (hR ls[(wk ls k).1] (List.getElem_mem w1))) (frzL_of (d := 4) rfl) ?_
  simp only [walkS, wl, rgets, retv, argsEnv, ev, cst, cst1, cstL, AEnv.get, AEnv.trim, envput, qstep, abin, aun, evs, evo, deref, qload, target, if_true, if_false, Nat.reduceEqDiff, reduceIte, Nat.reduceAdd, AV.cells, AV.isTuple, setMany, alen, aiaddr, afill, Nat.reduceLeDiff, Nat.reduceMul, Nat.reduceLT, afillE, List.replicate, dc, p1, p2, p3, e1]
  refine dcall_pure (strength_ok (hR ls[k] (List.getElem_mem hk))) (frzL_of (d := 4) rfl) ?_
  simp only [walkS, wl, rgets, retv, argsEnv, ev, cst, cst1, cstL, AEnv.get, AEnv.trim, envput, qstep, abin, aun, evs, evo, deref, qload, target, if_true, if_false, Nat.reduceEqDiff, reduceIte, Nat.reduceAdd, AV.cells, AV.isTuple, setMany, alen, aiaddr, afill, Nat.reduceLeDiff, Nat.reduceMul, Nat.reduceLT, afillE, List.replicate, dc, p1, p2, p3, e2]
  have hw : wk ls (k + 1) = if (wk ls k).2 * str ls[k] < loadAt ls k * str ls[(wk ls k).1] then (k, loadAt ls k) else wk ls k := by
    simp only [wk, layAt_lt hk, layAt_lt w1]
  refine withBool_intro ?_ ?_ <;> intro hb <;> simp only [walkS, wl, rgets, retv, argsEnv, ev, cst, cst1, cstL, AEnv.get, AEnv.trim, envput, qstep, abin, aun, evs, evo, deref, qload, target, if_true, if_false, Nat.reduceEqDiff, reduceIte, Nat.reduceAdd, AV.cells, AV.isTuple, setMany, alen, aiaddr, afill, Nat.reduceLeDiff, Nat.reduceMul, Nat.reduceLT, afillE, List.replicate]
  · have hlt : (wk ls k).2 * str ls[k] < loadAt ls k * str ls[(wk ls k).1] := by simpa using hb
    rw [if_pos hlt] at hw
    refine storeR rfl rfl (p2 _) rfl ⟨rfl, rfl, rfl, by simp⟩ fun H1 y1 y2 y3 => ?_
    simp only [AV.cells, setMany, List.set_cons_zero, List.set_cons_succ] at y2
    simp only [List.length_append, List.length_cons, List.length_nil] at y1
    simp only [walkS, wl, rgets, retv, argsEnv, ev, cst, cst1, cstL, AEnv.get, AEnv.trim, envput, qstep, abin, aun, evs, evo, deref, qload, target, if_true, if_false, Nat.reduceEqDiff, reduceIte, Nat.reduceAdd, AV.cells, AV.isTuple, setMany, alen, aiaddr, afill, Nat.reduceLeDiff, Nat.reduceMul, Nat.reduceLT, afillE, List.replicate]
    refine storeR rfl rfl ((y3 h3 (by omega)).trans (p3 _)) rfl ⟨rfl, rfl, rfl, by simp⟩ fun H2 z1 z2 z3 => ?_
    simp only [AV.cells, setMany, List.set_cons_zero, List.set_cons_succ] at z2
    simp only [walkS, wl, rgets, retv, argsEnv, ev, cst, cst1, cstL, AEnv.get, AEnv.trim, envput, qstep, abin, aun, evs, evo, deref, qload, target, if_true, if_false, Nat.reduceEqDiff, reduceIte, Nat.reduceAdd, AV.cells, AV.isTuple, setMany, alen, aiaddr, afill, Nat.reduceLeDiff, Nat.reduceMul, Nat.reduceLT, afillE, List.replicate]
    rw [hw]
    exact ⟨by omega, fun i hi hl' => by rw [z3 i (by omega), y3 i (by omega), AHeap.obj_push_lt hl'], by rw [z3 h1 (by omega), y3 h1 (by omega)]; exact p1 _, by rw [z3 h2 (by omega)]; exact y2, z2⟩
  · have hlt : ¬ (wk ls k).2 * str ls[k] < loadAt ls k * str ls[(wk ls k).1] := by simpa using hb
    rw [if_neg hlt] at hw
    rw [hw]
    exact ⟨by omega, fun i hi hl' => AHeap.obj_push_lt hl', p1 _, p2 _, p3 _⟩
theorem Weakest_ok (ls : List Lay) : PCall Tryz.prog 19 [.agg [.ro false (rows ls)]] (.tuple [I (weakestV ls).1, I (weakestV ls).2.1, I (weakestV ls).2.2]) := by
  refine PCall.intro text19 (by simp) ?_
  unfold ir19
  simp only [walkS, wl, rgets, retv, argsEnv, ev, cst, cst1, cstL, AEnv.get, AEnv.trim, envput, qstep, abin, aun, evs, evo, deref, qload, target, if_true, if_false, Nat.reduceEqDiff, reduceIte, Nat.reduceAdd, AV.cells, AV.isTuple, setMany, alen, aiaddr, afill, Nat.reduceLeDiff, Nat.reduceMul, Nat.reduceLT, afillE, List.replicate]
  refine call_pure (Check_ok ls) (frzL_of' (d := 4) car_pkL) ?_
  simp only [walkS, wl, rgets, retv, argsEnv, ev, cst, cst1, cstL, AEnv.get, AEnv.trim, envput, qstep, abin, aun, evs, evo, deref, qload, target, if_true, if_false, Nat.reduceEqDiff, reduceIte, Nat.reduceAdd, AV.cells, AV.isTuple, setMany, alen, aiaddr, afill, Nat.reduceLeDiff, Nat.reduceMul, Nat.reduceLT, afillE, List.replicate]
  refine withBool_intro ?_ ?_ <;> intro h <;> simp only [walkS, wl, rgets, retv, argsEnv, ev, cst, cst1, cstL, AEnv.get, AEnv.trim, envput, qstep, abin, aun, evs, evo, deref, qload, target, if_true, if_false, Nat.reduceEqDiff, reduceIte, Nat.reduceAdd, AV.cells, AV.isTuple, setMany, alen, aiaddr, afill, Nat.reduceLeDiff, Nat.reduceMul, Nat.reduceLT, afillE, List.replicate, rows_length]
  · obtain ⟨h1, h2⟩ := chk_ne (ls := ls) (by simpa using h)
    simp only [h2, weakestV, h1, Bool.false_eq_true, if_false]; exact out_three out_int out_int out_int
  · have h1 := chk_zero (ls := ls) (by simpa using h)
    obtain ⟨hlen, hR, -, -⟩ := okP_iff.1 h1
    refine withBool_intro ?_ ?_ <;> intro h2 <;> simp only [walkS, wl, rgets, retv, argsEnv, ev, cst, cst1, cstL, AEnv.get, AEnv.trim, envput, qstep, abin, aun, evs, evo, deref, qload, target, if_true, if_false, Nat.reduceEqDiff, reduceIte, Nat.reduceAdd, AV.cells, AV.isTuple, setMany, alen, aiaddr, afill, Nat.reduceLeDiff, Nat.reduceMul, Nat.reduceLT, afillE, List.replicate]
    · have h2' : ls.length = 0 := by simp at h2; simp [h2]
      simp only [weakestV, h1, h2', if_true]; exact out_three out_int out_int out_int
    · have h2' : ¬ ls.length = 0 := by simp at h2; simpa using h2
      refine storeR rfl rfl rfl rfl ⟨rfl, rfl, rfl, by simp⟩ fun H1 y1 y2 y3 => ?_
      simp only [AV.cells, setMany, List.set_cons_zero, List.set_cons_succ] at y2
      simp only [walkS, wl, rgets, retv, argsEnv, ev, cst, cst1, cstL, AEnv.get, AEnv.trim, envput, qstep, abin, aun, evs, evo, deref, qload, target, if_true, if_false, Nat.reduceEqDiff, reduceIte, Nat.reduceAdd, AV.cells, AV.isTuple, setMany, alen, aiaddr, afill, Nat.reduceLeDiff, Nat.reduceMul, Nat.reduceLT, afillE, List.replicate]
      refine storeR rfl rfl (o := ⟨3, 1, [[I 0]]⟩) (by rw [y3 2 (by omega)]; rfl) rfl ⟨rfl, rfl, rfl, by simp⟩ fun H2 z1 z2 z3 => ?_
      simp only [AV.cells, setMany, List.set_cons_zero, List.set_cons_succ] at z2
      have hl2 : H2.length = 3 := by rw [z1, y1]; rfl
      have o0 : AHeap.obj H2 0 = some ⟨26, 1, [[.ro false (rows ls)]]⟩ := by rw [z3 0 (by omega), y3 0 (by omega)]; rfl
      have o1 : AHeap.obj H2 1 = some ⟨3, 1, [[I 0]]⟩ := by rw [z3 1 (by omega)]; exact y2
      simp only [walkS, wl, rgets, retv, argsEnv, ev, cst, cst1, cstL, AEnv.get, AEnv.trim, envput, qstep, abin, aun, evs, evo, deref, qload, target, if_true, if_false, Nat.reduceEqDiff, reduceIte, Nat.reduceAdd, AV.cells, AV.isTuple, setMany, alen, aiaddr, afill, Nat.reduceLeDiff, Nat.reduceMul, Nat.reduceLT, afillE, List.replicate, o0]
      refine (each_ok (J := fun k H => AHeap.obj H 0 = some ⟨26, 1, [[.ro false (rows ls)]]⟩ ∧ AHeap.obj H 1 = some ⟨3, 1, [[I ((wk ls k).1 : Int)]]⟩ ∧ AHeap.obj H 2 = some ⟨3, 1, [[I (wk ls k).2]]⟩) (Stop := fun _ _ => False) hR hlen
        (fun k H H' _ hk ⟨a, b, c⟩ => ⟨by rw [hk 0 (by omega)]; exact a, by rw [hk 1 (by omega)]; exact b, by rw [hk 2 (by omega)]; exact c⟩) ⟨o0, o1, z2⟩
        (fun k H hk hN ⟨a, b, c⟩ => (weak1_ok (N := H2.length) hN (by omega) (by omega) hk hR hlen a b c).mono fun x H' ⟨u1, u2, u3, u4⟩ => ⟨u1, u2, .inl ⟨u3, u4⟩⟩)).mono fun x H ⟨v1, v2, v3⟩ => ?_
      rcases v3 with ⟨a, b, c⟩ | ⟨k, _, hf⟩
      · subst v1
        simp only [walkS, wl, rgets, retv, argsEnv, ev, cst, cst1, cstL, AEnv.get, AEnv.trim, envput, qstep, abin, aun, evs, evo, deref, qload, target, if_true, if_false, Nat.reduceEqDiff, reduceIte, Nat.reduceAdd, AV.cells, AV.isTuple, setMany, alen, aiaddr, afill, Nat.reduceLeDiff, Nat.reduceMul, Nat.reduceLT, afillE, List.replicate, b, c]
        simp only [weakestV, h1, h2', if_true, if_false]; exact out_three out_int out_int out_int
      · exact hf.elim
def bAt (ls : List Lay) (s : Int) (k : Nat) : Bool := decide (3 * str (layAt ls k) < loadAt ls k * (s - 25))
def brk (ls : List Lay) (s : Int) : Bool := (List.range ls.length).any (bAt ls s)
theorem breaks1_ok {N h1 h2 k : Nat} {H : AHeap} {ls : List Lay} {s : Int} (hN : N ≤ H.length) (hl : h1 < N ∧ h2 < N) (hd : h1 ≠ h2) (hk : k < ls.length) (hR : ∀ l, l ∈ ls → right l = true) (hlen : ls.length ≤ 64) (hs : 0 ≤ s ∧ s ≤ 60)
    (o1 : AHeap.obj H h1 = some ⟨3, 1, [[I s]]⟩) {b : Bool} (o2 : AHeap.obj H h2 = some ⟨4, 1, [[.bool b]]⟩) :
    ACall Tryz.prog 65 [I (k : Int), I (loadAt ls k), .agg (dc ls[k]), .ptr h1 1 0 0, .ptr h2 1 0 0] H fun x H' => H.length ≤ H'.length ∧ (∀ i, N ≤ i → i < H.length → AHeap.obj H' i = AHeap.obj H i) ∧
      x = .bool (!bAt ls s k) ∧ AHeap.obj H' h1 = some ⟨3, 1, [[I s]]⟩ ∧ AHeap.obj H' h2 = some ⟨4, 1, [[.bool (bAt ls s k)]]⟩ := by
  refine ACall.intro text65 (by simp) ?_
  unfold ir65
  have p1 : ∀ X, AHeap.obj (H ++ X) h1 = some ⟨3, 1, [[I s]]⟩ := fun X => obj_keep o1
  have p2 : ∀ X, AHeap.obj (H ++ X) h2 = some ⟨4, 1, [[.bool b]]⟩ := fun X => obj_keep o2
  have l1 := loadAt_le hR k (by omega)
  have s1 := str_small (hR ls[k] (List.getElem_mem hk))
  have m1 := mul_small (A := 10000000) (B := 100) (a := loadAt ls k) (b := s - 25) (by omega) (by omega)
  have e1 : IntKind.i64.wrap (s - 25) = s - 25 := wrap_id (by omega) (by omega)
  have e2 : IntKind.i64.wrap (loadAt ls k * (s - 25)) = loadAt ls k * (s - 25) := wrap_id (by omega) (by omega)
  have e3 : IntKind.i64.wrap (3 * str ls[k]) = 3 * str ls[k] := wrap_id (by omega) (by omega)
  simp only [walkS, wl, rgets, retv, argsEnv, ev, cst, cst1, cstL, AEnv.get, AEnv.trim, envput, qstep, abin, aun, evs, evo, deref, qload, target, if_true, if_false, Nat.reduceEqDiff, reduceIte, Nat.reduceAdd, AV.cells, AV.isTuple, setMany, alen, aiaddr, afill, Nat.reduceLeDiff, Nat.reduceMul, Nat.reduceLT, afillE, List.replicate, dc, p1, p2, e1, e2]
  refine dcall_pure (strength_ok (hR ls[k] (List.getElem_mem hk))) (frzL_of (d := 4) rfl) ?_
  have eb : decide (loadAt ls k * (s - 25) > 3 * str ls[k]) = bAt ls s k := by simp only [bAt, layAt_lt hk, gt_iff_lt]
  simp only [walkS, wl, rgets, retv, argsEnv, ev, cst, cst1, cstL, AEnv.get, AEnv.trim, envput, qstep, abin, aun, evs, evo, deref, qload, target, if_true, if_false, Nat.reduceEqDiff, reduceIte, Nat.reduceAdd, AV.cells, AV.isTuple, setMany, alen, aiaddr, afill, Nat.reduceLeDiff, Nat.reduceMul, Nat.reduceLT, afillE, List.replicate, dc, p1, p2, e3, eb]
  refine storeR rfl rfl (p2 _) rfl ⟨rfl, rfl, rfl, by simp⟩ fun H1 y1 y2 y3 => ?_
  simp only [AV.cells, setMany, List.set_cons_zero, List.set_cons_succ] at y2
  simp only [List.length_append, List.length_cons, List.length_nil] at y1
  simp only [walkS, wl, rgets, retv, argsEnv, ev, cst, cst1, cstL, AEnv.get, AEnv.trim, envput, qstep, abin, aun, evs, evo, deref, qload, target, if_true, if_false, Nat.reduceEqDiff, reduceIte, Nat.reduceAdd, AV.cells, AV.isTuple, setMany, alen, aiaddr, afill, Nat.reduceLeDiff, Nat.reduceMul, Nat.reduceLT, afillE, List.replicate, y2]
  exact ⟨by omega, fun i hi hl' => by rw [y3 i (by omega), AHeap.obj_push_lt hl'], by rw [y3 h1 (by omega)]; exact p1 _⟩
theorem breaks_ok {ls : List Lay} {s : Int} (hp : okP ls = true) (hs : 0 ≤ s ∧ s ≤ 60) : PCall Tryz.prog 43 [.agg [.ro false (rows ls)], I s] (.bool (brk ls s)) := by
  obtain ⟨hlen, hR, -, -⟩ := okP_iff.1 hp
  refine PCall.intro text43 (by simp) ?_
  unfold ir43
  simp only [walkS, wl, rgets, retv, argsEnv, ev, cst, cst1, cstL, AEnv.get, AEnv.trim, envput, qstep, abin, aun, evs, evo, deref, qload, target, if_true, if_false, Nat.reduceEqDiff, reduceIte, Nat.reduceAdd, AV.cells, AV.isTuple, setMany, alen, aiaddr, afill, Nat.reduceLeDiff, Nat.reduceMul, Nat.reduceLT, afillE, List.replicate]
  refine (each_ok (H0 := [some ⟨26, 1, [[.ro false (rows ls)]]⟩, some ⟨3, 1, [[I s]]⟩, some ⟨4, 1, [[.bool false]]⟩]) (J := fun k H => AHeap.obj H 1 = some ⟨3, 1, [[I s]]⟩ ∧ AHeap.obj H 2 = some ⟨4, 1, [[.bool false]]⟩ ∧ ∀ j, j < k → bAt ls s j = false) (Stop := fun k H => AHeap.obj H 2 = some ⟨4, 1, [[.bool true]]⟩ ∧ bAt ls s k = true) hR hlen
    (fun k H H' _ hk ⟨a, b, c⟩ => ⟨by rw [hk 1 (by simp)]; exact a, by rw [hk 2 (by simp)]; exact b, c⟩) ⟨rfl, rfl, fun j hj => absurd hj (Nat.not_lt_zero _)⟩
    (fun k H hk hN ⟨a, b, c⟩ => (breaks1_ok (N := 3) hN (by omega) (by omega) hk hR hlen hs a b).mono fun x H' ⟨u1, u2, u3, u4, u5⟩ => ⟨u1, u2, ?_⟩)).mono fun x H ⟨v1, v2, v3⟩ => ?_
  · cases hb : bAt ls s k with
    | true => rw [hb] at u3 u5; exact .inr ⟨u3, u5, rfl⟩
    | false =>
      rw [hb] at u3 u5
      refine .inl ⟨u3, u4, u5, fun j hj => ?_⟩
      rcases Nat.lt_or_ge j k with h | h
      · exact c j h
      · obtain rfl : j = k := by omega
        exact hb
  · subst v1
    have key : AHeap.obj H 2 = some ⟨4, 1, [[.bool (brk ls s)]]⟩ := by
      rcases v3 with ⟨a, b, c⟩ | ⟨k, hk, hf, hb⟩
      · have : brk ls s = false := by
          rw [brk, List.any_eq_false]
          intro j hj
          rw [c j (List.mem_range.1 hj)]; simp
        rw [this]; exact b
      · have : brk ls s = true := by
          rw [brk, List.any_eq_true]
          exact ⟨k, List.mem_range.2 hk, hb⟩
        rw [this]; exact hf
    simp only [walkS, wl, rgets, retv, argsEnv, ev, cst, cst1, cstL, AEnv.get, AEnv.trim, envput, qstep, abin, aun, evs, evo, deref, qload, target, if_true, if_false, Nat.reduceEqDiff, reduceIte, Nat.reduceAdd, AV.cells, AV.isTuple, setMany, alen, aiaddr, afill, Nat.reduceLeDiff, Nat.reduceMul, Nat.reduceLT, afillE, List.replicate, key]
    refine storeR rfl rfl key rfl ⟨rfl, rfl, rfl, by simp⟩ fun H1 y1 y2 y3 => ?_
    simp only [AV.cells, setMany, List.set_cons_zero, List.set_cons_succ] at y2
    simp only [walkS, wl, rgets, retv, argsEnv, ev, cst, cst1, cstL, AEnv.get, AEnv.trim, envput, qstep, abin, aun, evs, evo, deref, qload, target, if_true, if_false, Nat.reduceEqDiff, reduceIte, Nat.reduceAdd, AV.cells, AV.isTuple, setMany, alen, aiaddr, afill, Nat.reduceLeDiff, Nat.reduceMul, Nat.reduceLT, afillE, List.replicate, y2]
    exact out_bool
def breaksV (ls : List Lay) (s : Int) : Bool × Int := if okP ls then (if 0 ≤ s ∧ s ≤ 60 then (brk ls s, 0) else (false, 1)) else (false, 20)
def down (f : Nat → Bool) : Nat → Nat
  | 0 => 0
  | n + 1 => if f (n + 1) then down f n else n + 1
def steepV (ls : List Lay) : Int × Int := if okP ls then ((down (fun n => brk ls n) 60 : Nat), 0) else (0, 20)
theorem Steepest_ok (ls : List Lay) : PCall Tryz.prog 20 [.agg [.ro false (rows ls)]] (.tuple [I (steepV ls).1, I (steepV ls).2]) := by
  refine PCall.intro text20 (by simp) ?_
  unfold ir20
  simp only [walkS, wl, rgets, retv, argsEnv, ev, cst, cst1, cstL, AEnv.get, AEnv.trim, envput, qstep, abin, aun, evs, evo, deref, qload, target, if_true, if_false, Nat.reduceEqDiff, reduceIte, Nat.reduceAdd, AV.cells, AV.isTuple, setMany, alen, aiaddr, afill, Nat.reduceLeDiff, Nat.reduceMul, Nat.reduceLT, afillE, List.replicate]
  refine call_pure (Check_ok ls) (frzL_of' (d := 4) car_pkL) ?_
  simp only [walkS, wl, rgets, retv, argsEnv, ev, cst, cst1, cstL, AEnv.get, AEnv.trim, envput, qstep, abin, aun, evs, evo, deref, qload, target, if_true, if_false, Nat.reduceEqDiff, reduceIte, Nat.reduceAdd, AV.cells, AV.isTuple, setMany, alen, aiaddr, afill, Nat.reduceLeDiff, Nat.reduceMul, Nat.reduceLT, afillE, List.replicate]
  refine withBool_intro ?_ ?_ <;> intro h <;> simp only [walkS, wl, rgets, retv, argsEnv, ev, cst, cst1, cstL, AEnv.get, AEnv.trim, envput, qstep, abin, aun, evs, evo, deref, qload, target, if_true, if_false, Nat.reduceEqDiff, reduceIte, Nat.reduceAdd, AV.cells, AV.isTuple, setMany, alen, aiaddr, afill, Nat.reduceLeDiff, Nat.reduceMul, Nat.reduceLT, afillE, List.replicate]
  · obtain ⟨h1, h2⟩ := chk_ne (ls := ls) (by simpa using h)
    simp only [h2, steepV, h1, Bool.false_eq_true, if_false]; exact out_two out_int out_int
  · have h1 := chk_zero (ls := ls) (by simpa using h)
    obtain ⟨F, hF⟩ : ∃ F : Nat, F = 60 := ⟨_, rfl⟩
    refine awp_loop (σ := Nat) (fun n => [(1, .ptr 0 1 0 0), (5, I n)]) (fun _ H => AHeap.obj H 0 = some ⟨26, 1, [[.ro false (rows ls)]]⟩) (fun n => n ≤ 60 ∧ down (fun n => brk ls n) F = down (fun n => brk ls n) n) (fun n => n) F ⟨by omega, rfl⟩ (by rw [hF]; rfl) rfl ?_
    rintro n H ⟨hn, hd⟩ o0
    have hv : steepV ls = (((down (fun n => brk ls n) F : Nat) : Int), 0) := by simp only [steepV, h1, if_true, hF]
    simp only [walkS, wl, rgets, retv, argsEnv, ev, cst, cst1, cstL, AEnv.get, AEnv.trim, envput, qstep, abin, aun, evs, evo, deref, qload, target, if_true, if_false, Nat.reduceEqDiff, reduceIte, Nat.reduceAdd, AV.cells, AV.isTuple, setMany, alen, aiaddr, afill, Nat.reduceLeDiff, Nat.reduceMul, Nat.reduceLT, afillE, List.replicate, o0]
    cases n with
    | zero =>
      refine withGuard_intro ?_ ?_ <;> intro hg <;> simp only [walkS, wl, rgets, retv, argsEnv, ev, cst, cst1, cstL, AEnv.get, AEnv.trim, envput, qstep, abin, aun, evs, evo, deref, qload, target, if_true, if_false, Nat.reduceEqDiff, reduceIte, Nat.reduceAdd, AV.cells, AV.isTuple, setMany, alen, aiaddr, afill, Nat.reduceLeDiff, Nat.reduceMul, Nat.reduceLT, afillE, List.replicate, hg]
      · simp at hg
      · rw [hv, hd]; exact out_two out_int out_int
    | succ n =>
      refine withGuard_intro ?_ ?_ <;> intro hg <;> simp only [walkS, wl, rgets, retv, argsEnv, ev, cst, cst1, cstL, AEnv.get, AEnv.trim, envput, qstep, abin, aun, evs, evo, deref, qload, target, if_true, if_false, Nat.reduceEqDiff, reduceIte, Nat.reduceAdd, AV.cells, AV.isTuple, setMany, alen, aiaddr, afill, Nat.reduceLeDiff, Nat.reduceMul, Nat.reduceLT, afillE, List.replicate, hg]
      · simp only [walkS, wl, rgets, retv, argsEnv, ev, cst, cst1, cstL, AEnv.get, AEnv.trim, envput, qstep, abin, aun, evs, evo, deref, qload, target, if_true, if_false, Nat.reduceEqDiff, reduceIte, Nat.reduceAdd, AV.cells, AV.isTuple, setMany, alen, aiaddr, afill, Nat.reduceLeDiff, Nat.reduceMul, Nat.reduceLT, afillE, List.replicate, o0]
        refine call_pure (breaks_ok h1 (s := ((n + 1 : Nat) : Int)) (by omega)) (frzL_of' (d := 4) (carL_cons car_pk rfl)) ?_
        simp only [walkS, wl, rgets, retv, argsEnv, ev, cst, cst1, cstL, AEnv.get, AEnv.trim, envput, qstep, abin, aun, evs, evo, deref, qload, target, if_true, if_false, Nat.reduceEqDiff, reduceIte, Nat.reduceAdd, AV.cells, AV.isTuple, setMany, alen, aiaddr, afill, Nat.reduceLeDiff, Nat.reduceMul, Nat.reduceLT, afillE, List.replicate]
        refine withBool_intro ?_ ?_ <;> intro hb <;> simp only [walkS, wl, rgets, retv, argsEnv, ev, cst, cst1, cstL, AEnv.get, AEnv.trim, envput, qstep, abin, aun, evs, evo, deref, qload, target, if_true, if_false, Nat.reduceEqDiff, reduceIte, Nat.reduceAdd, AV.cells, AV.isTuple, setMany, alen, aiaddr, afill, Nat.reduceLeDiff, Nat.reduceMul, Nat.reduceLT, afillE, List.replicate]
        · have e5 : IntKind.i64.wrap (((n + 1 : Nat) : Int) - 1) = (n : Int) := by rw [wrap_id (by omega) (by omega)]; omega
          simp only [walkS, wl, rgets, retv, argsEnv, ev, cst, cst1, cstL, AEnv.get, AEnv.trim, envput, qstep, abin, aun, evs, evo, deref, qload, target, if_true, if_false, Nat.reduceEqDiff, reduceIte, Nat.reduceAdd, AV.cells, AV.isTuple, setMany, alen, aiaddr, afill, Nat.reduceLeDiff, Nat.reduceMul, Nat.reduceLT, afillE, List.replicate, e5]
          refine loop_end n ⟨by omega, by rw [hd]; simp only [down]; rw [if_pos hb]⟩ (by omega) rfl o0
        · rw [hv, hd]
          simp only [down]
          rw [if_neg (by rw [hb]; simp)]
          exact out_two out_int out_int
      · simp at hg
end Go.Proofs.YtomejgikdelgkaaGreatDoor
