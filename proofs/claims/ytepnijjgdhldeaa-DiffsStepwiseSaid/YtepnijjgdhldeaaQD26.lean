/- Contracts: Narrow of the package. -/
import Derived.Test.YtepnijjgdhldeaaQD23
import Derived.Test.YtepnijjgdhldeaaProg
import Derived.Test.YtepnijjgdhldeaaA4
import Derived.Test.YtepnijjgdhldeaaA1
import Derived.KernelRfl
import Derived.Test.YtepnijjgdhldeaaQD20
namespace Go.Proofs.Ytepnijjgdhldeaa
open Go.Awp
set_option linter.unusedSimpArgs false
set_option linter.unusedVariables false
set_option linter.unusedSectionVars false
set_option maxRecDepth 10000
theorem set105 {N i j p K : Nat} {f : Nat → Int} {x : Int} {H0 : AHeap} (hN : N ≤ 1024) (hi : i ≤ 1024) (hj : j ≤ 1024) (hx : i * N + j < K) (ho : AHeap.obj H0 p = some ⟨3, 1, ic (li K f)⟩) :
    ACall Try.prog 105 [.agg [I N, .own p K 0 K], I i, I j, I x] H0 fun _ H =>
      H0.length ≤ H.length ∧ (∀ q, q < H0.length → q ≠ p → AHeap.obj H q = AHeap.obj H0 q) ∧ AHeap.obj H p = some ⟨3, 1, ic (li K (upd f (i * N + j) x))⟩ := by
  have hp := AHeap.obj_lt ho
  have hm : i * N ≤ 1024 * 1024 := Nat.mul_le_mul hi hN
  refine ACall.intro text105 (by simp) ?_
  unfold ir105
  have e1 : IntKind.i64.wrap ((i : Int) * (N : Int)) = ((i * N : Nat) : Int) := by rw [wrap_id (by have := Int.natCast_mul i N; omega) (by have := Int.natCast_mul i N; omega)]; simp
  have e2 : IntKind.i64.wrap (((i * N : Nat) : Int) + (j : Int)) = ((i * N + j : Nat) : Int) := by rw [wrap_id (by omega) (by omega)]; simp
  have o' : AHeap.obj (H0 ++ [some ⟨116, 2, [[I N, .own p K 0 K]]⟩]) p = some ⟨3, 1, ic (li K f)⟩ := by rw [AHeap.obj_push_lt hp]; exact ho
  simp only [walkS, wl, rgets, retv, argsEnv, ev, cst, cst1, cstL, AEnv.get, AEnv.trim, envput, qstep, abin, aun, evs, evo, deref, qload, target, if_true, if_false, Nat.reduceEqDiff, reduceIte, Nat.reduceAdd, AV.cells, AV.isTuple, setMany, alen, aiaddr, afill, Nat.reduceLeDiff, Nat.reduceMul, Nat.reduceLT, afillE, List.replicate, e1, e2, o', ic_length, li_length, li_get hx, if_pos (show ((i * N + j : Nat) : Int) < (K : Int) by omega)]
  refine storeR rfl rfl o' (li_get hx) ⟨by simp [ic_length,  li_length], rfl, rfl, by simp⟩ fun H1 z1 z2 z3 => ?_
  simp only [AV.cells, setMany, List.set_cons_zero, List.set_cons_succ, Nat.zero_add, Nat.reduceAdd, li_set] at z2
  simp only [walkS, wl, rgets, retv, argsEnv, ev, cst, cst1, cstL, AEnv.get, AEnv.trim, envput, qstep, abin, aun, evs, evo, deref, qload, target, if_true, if_false, Nat.reduceEqDiff, reduceIte, Nat.reduceAdd, AV.cells, AV.isTuple, setMany, alen, aiaddr, afill, Nat.reduceLeDiff, Nat.reduceMul, Nat.reduceLT, afillE, List.replicate]
  exact ⟨by rw [z1]; simp, fun q hq hne => by rw [z3 q hne, AHeap.obj_push_lt hq], z2⟩
theorem set106 {N i j p K : Nat} {f : Nat → Bool} {x : Bool} {H0 : AHeap} (hN : N ≤ 1024) (hi : i ≤ 1024) (hj : j ≤ 1024) (hx : i * N + j < K) (ho : AHeap.obj H0 p = some ⟨4, 1, bc (lb K f)⟩) :
    ACall Try.prog 106 [.agg [I N, .own p K 0 K], I i, I j, .bool x] H0 fun _ H =>
      H0.length ≤ H.length ∧ (∀ q, q < H0.length → q ≠ p → AHeap.obj H q = AHeap.obj H0 q) ∧ AHeap.obj H p = some ⟨4, 1, bc (lb K (upd f (i * N + j) x))⟩ := by
  have hp := AHeap.obj_lt ho
  have hm : i * N ≤ 1024 * 1024 := Nat.mul_le_mul hi hN
  refine ACall.intro text106 (by simp) ?_
  unfold ir106
  have e1 : IntKind.i64.wrap ((i : Int) * (N : Int)) = ((i * N : Nat) : Int) := by rw [wrap_id (by have := Int.natCast_mul i N; omega) (by have := Int.natCast_mul i N; omega)]; simp
  have e2 : IntKind.i64.wrap (((i * N : Nat) : Int) + (j : Int)) = ((i * N + j : Nat) : Int) := by rw [wrap_id (by omega) (by omega)]; simp
  have o' : AHeap.obj (H0 ++ [some ⟨118, 2, [[I N, .own p K 0 K]]⟩]) p = some ⟨4, 1, bc (lb K f)⟩ := by rw [AHeap.obj_push_lt hp]; exact ho
  simp only [walkS, wl, rgets, retv, argsEnv, ev, cst, cst1, cstL, AEnv.get, AEnv.trim, envput, qstep, abin, aun, evs, evo, deref, qload, target, if_true, if_false, Nat.reduceEqDiff, reduceIte, Nat.reduceAdd, AV.cells, AV.isTuple, setMany, alen, aiaddr, afill, Nat.reduceLeDiff, Nat.reduceMul, Nat.reduceLT, afillE, List.replicate, e1, e2, o', bc_length, lb_length, lb_get hx, if_pos (show ((i * N + j : Nat) : Int) < (K : Int) by omega)]
  refine storeR rfl rfl o' (lb_get hx) ⟨by simp [bc_length,  lb_length], rfl, rfl, by simp⟩ fun H1 z1 z2 z3 => ?_
  simp only [AV.cells, setMany, List.set_cons_zero, List.set_cons_succ, Nat.zero_add, Nat.reduceAdd, lb_set] at z2
  simp only [walkS, wl, rgets, retv, argsEnv, ev, cst, cst1, cstL, AEnv.get, AEnv.trim, envput, qstep, abin, aun, evs, evo, deref, qload, target, if_true, if_false, Nat.reduceEqDiff, reduceIte, Nat.reduceAdd, AV.cells, AV.isTuple, setMany, alen, aiaddr, afill, Nat.reduceLeDiff, Nat.reduceMul, Nat.reduceLT, afillE, List.replicate]
  exact ⟨by rw [z1]; simp, fun q hq hne => by rw [z3 q hne, AHeap.obj_push_lt hq], z2⟩
/-- Narrow: whether a cell of the table changes, and to what. -/
def nC (N : Nat) (l : List Int) (m : List Bool) (u v : Nat) (w : Int) (x : Nat) : Bool :=
  hq m (x / N * N + u) && (hq m (v * N + x % N) && (!(hq m x) || decide (mg l (x / N * N + u) + w + mg l (v * N + x % N) < mg l x)))
def nM (N : Nat) (l : List Int) (m : List Bool) (u v : Nat) (w : Int) (x : Nat) : Int := if nC N l m u v w x then mg l (x / N * N + u) + w + mg l (v * N + x % N) else mg l x
def nH (N : Nat) (l : List Int) (m : List Bool) (u v : Nat) (w : Int) (x : Nat) : Bool := nC N l m u v w x || hq m x
def upM (N : Nat) (l : List Int) (m : List Bool) (u v : Nat) (w : Int) (k x : Nat) : Int := if x < k then nM N l m u v w x else mg l x
def upH (N : Nat) (l : List Int) (m : List Bool) (u v : Nat) (w : Int) (k x : Nat) : Bool := if x < k then nH N l m u v w x else hq m x
section
variable {N : Nat} {l : List Int} {m : List Bool} {u v : Nat} {w : Int}
theorem nC_at {i j : Nat} (hj : j < N) : nC N l m u v w (i * N + j) = (hq m (i * N + u) && (hq m (v * N + j) && (!(hq m (i * N + j)) || decide (mg l (i * N + u) + w + mg l (v * N + j) < mg l (i * N + j))))) := by
  unfold nC; rw [(divmod hj).1, (divmod hj).2]
theorem nM_at {i j : Nat} (hj : j < N) (h : nC N l m u v w (i * N + j) = true) : nM N l m u v w (i * N + j) = mg l (i * N + u) + w + mg l (v * N + j) := by
  unfold nM; rw [h, (divmod hj).1, (divmod hj).2]; rfl
theorem upM_set {k : Nat} (h : nC N l m u v w k = true) : upd (upM N l m u v w k) k (nM N l m u v w k) = upM N l m u v w (k + 1) := by
  funext x
  unfold upd upM
  by_cases e : x = k
  · subst e; simp
  · rw [if_neg e]
    by_cases e2 : x < k
    · rw [if_pos e2, if_pos (by omega)]
    · rw [if_neg e2, if_neg (by omega)]
theorem upM_not {k : Nat} (h : nC N l m u v w k = false) : upM N l m u v w k = upM N l m u v w (k + 1) := by
  funext x
  unfold upM
  by_cases e : x = k
  · subst e; simp [nM, h]
  · by_cases e2 : x < k
    · rw [if_pos e2, if_pos (by omega)]
    · rw [if_neg e2, if_neg (by omega)]
theorem upH_set {k : Nat} (h : nC N l m u v w k = true) : upd (upH N l m u v w k) k true = upH N l m u v w (k + 1) := by
  funext x
  unfold upd upH
  by_cases e : x = k
  · subst e; simp [nH, h]
  · rw [if_neg e]
    by_cases e2 : x < k
    · rw [if_pos e2, if_pos (by omega)]
    · rw [if_neg e2, if_neg (by omega)]
theorem upH_not {k : Nat} (h : nC N l m u v w k = false) : upH N l m u v w k = upH N l m u v w (k + 1) := by
  funext x
  unfold upH
  by_cases e : x = k
  · subst e; simp [nH, h]
  · by_cases e2 : x < k
    · rw [if_pos e2, if_pos (by omega)]
    · rw [if_neg e2, if_neg (by omega)]
theorem up_row {i : Nat} (h : hq m (i * N + u) = false) : ∀ j, j ≤ N → upM N l m u v w (i * N + j) = upM N l m u v w (i * N + 0) ∧ upH N l m u v w (i * N + j) = upH N l m u v w (i * N + 0)
  | 0, _ => ⟨rfl, rfl⟩
  | j + 1, hj => by
    have ih := up_row h j (by omega)
    have hn : nC N l m u v w (i * N + j) = false := by rw [nC_at (by omega), h]; rfl
    exact ⟨(upM_not hn).symm.trans ih.1, (upH_not hn).symm.trans ih.2⟩
end
structure NF (N : Nat) (l : List Int) (m : List Bool) (u v : Nat) (w : Int) (p1 q1 p2 q2 g6 g7 k : Nat) (H : AHeap) : Prop where
  o0 : AHeap.obj H 0 = some ⟨73, 3, [[I N, .ro false (ic l), .ro false (bc m)]]⟩
  o1 : AHeap.obj H 1 = some ⟨39, 3, [[I u, I v, I w]]⟩
  o2 : AHeap.obj H 2 = some ⟨73, 3, [[I 0, .nilSlice, .nilSlice]]⟩
  w1 : AHeap.obj H p1 = some ⟨3, 1, ic l⟩
  w2 : AHeap.obj H q1 = some ⟨4, 1, bc m⟩
  x1 : AHeap.obj H p2 = some ⟨3, 1, ic (li (N * N) (upM N l m u v w k))⟩
  x2 : AHeap.obj H q2 = some ⟨4, 1, bc (lb (N * N) (upH N l m u v w k))⟩
  g6 : AHeap.obj H g6 = some ⟨120, 4, [[I N, .own p1 l.length 0 l.length, I N, .own q1 m.length 0 m.length]]⟩
  g7 : AHeap.obj H g7 = some ⟨120, 4, [[I N, .own p2 (N * N) 0 (N * N), I N, .own q2 (N * N) 0 (N * N)]]⟩
structure NI (p1 q1 p2 q2 g6 g7 : Nat) : Prop where
  a : 3 ≤ p2 ∧ 3 ≤ q2 ∧ p2 ≠ p1 ∧ p2 ≠ q1 ∧ p2 ≠ q2 ∧ p2 ≠ g6 ∧ p2 ≠ g7 ∧ q2 ≠ p1 ∧ q2 ≠ q1 ∧ q2 ≠ g6 ∧ q2 ≠ g7
theorem NF.car {N : Nat} {l : List Int} {m : List Bool} {u v : Nat} {w : Int} {p1 q1 p2 q2 g6 g7 k : Nat} {H : AHeap} (h : NF N l m u v w p1 q1 p2 q2 g6 g7 k H) : carry false H 4 (.agg [I N, .own p1 l.length 0 l.length, I N, .own q1 m.length 0 m.length]) = some (.agg [I N, .ro false (ic l), I N, .ro false (bc m)]) :=
  car_agg (d := 3) (carL_cons rfl (carL_cons (car_ownN (d := 1) h.w1 (ic_length _) (ic_simple _)) (carL_cons rfl (carL_cons (car_ownN (d := 1) h.w2 (bc_length _) (bc_simple _)) rfl))))
theorem narrow_loop {N : Nat} {l : List Int} {m : List Bool} {u v : Nat} {w : Int} {p1 q1 p2 q2 g6 g7 : Nat} {H : AHeap} {Q : AX → AEnv → AHeap → Prop} (hN0 : 0 < N) (hN : N ≤ 64) (h1 : l.length = N * N) (h2 : m.length = N * N) (hT : Tab N l m) (hu : u < N) (hv : v < N) (hw : -1073741824 ≤ w ∧ w ≤ 1073741824)
    (ni : NI p1 q1 p2 q2 g6 g7) (nf : NF N l m u v w p1 q1 p2 q2 g6 g7 0 H)
    (hDone : ∀ H, AHeap.obj H 2 = some ⟨73, 3, [[I N, .own p2 (N * N) 0 (N * N), .own q2 (N * N) 0 (N * N)]]⟩ → AHeap.obj H p2 = some ⟨3, 1, ic (li (N * N) (nM N l m u v w))⟩ → AHeap.obj H q2 = some ⟨4, 1, bc (lb (N * N) (nH N l m u v w))⟩ → Q .ret [(4, .ptr 2 1 0 0), (5, I 0)] H) :
    awp Try.prog ir65s Q [(2, .ptr 0 1 0 0), (3, .ptr 1 1 0 0), (4, .ptr 2 1 0 0), (6, .ptr g6 1 0 0), (7, .ptr g7 1 0 0), (48, .bool false)] H := by
  have bound : ∀ i j, i < N → j < N → -68719476736 ≤ mg l (i * N + j) ∧ mg l (i * N + j) ≤ 68719476736 := fun i j hi hj => by
    have := (hT.cell i j hi hj).2.1
    omega
  have hNN : N * N ≤ 64 * 64 := Nat.mul_le_mul hN hN
  obtain ⟨d1, d2, d3, d4, d5, d6, d7, d8, d9, d10, d11⟩ := ni.a
  unfold ir65s
  simp only [walkS, wl, rgets, retv, argsEnv, ev, cst, cst1, cstL, AEnv.get, AEnv.trim, envput, qstep, abin, aun, evs, evo, deref, qload, target, if_true, if_false, Nat.reduceEqDiff, reduceIte, Nat.reduceAdd, AV.cells, AV.isTuple, setMany, alen, aiaddr, afill, Nat.reduceLeDiff, Nat.reduceMul, Nat.reduceLT, afillE, List.replicate, nf.o0]
  refine awp_loop (σ := Nat) (fun i => [(2, .ptr 0 1 0 0), (3, .ptr 1 1 0 0), (4, .ptr 2 1 0 0), (6, .ptr g6 1 0 0), (7, .ptr g7 1 0 0), (51, I N), (52, I i)]) (fun i H => NF N l m u v w p1 q1 p2 q2 g6 g7 (i * N + 0) H) (fun i => i ≤ N) (fun i => N - i) 0 (Nat.zero_le _) rfl (by simpa using nf) ?_
  clear nf H
  intro i H hi nf
  simp only [walkS, wl, rgets, retv, argsEnv, ev, cst, cst1, cstL, AEnv.get, AEnv.trim, envput, qstep, abin, aun, evs, evo, deref, qload, target, if_true, if_false, Nat.reduceEqDiff, reduceIte, Nat.reduceAdd, AV.cells, AV.isTuple, setMany, alen, aiaddr, afill, Nat.reduceLeDiff, Nat.reduceMul, Nat.reduceLT, afillE, List.replicate]
  refine withBool_intro ?_ ?_ <;> intro hb <;> simp only [walkS, wl, rgets, retv, argsEnv, ev, cst, cst1, cstL, AEnv.get, AEnv.trim, envput, qstep, abin, aun, evs, evo, deref, qload, target, if_true, if_false, Nat.reduceEqDiff, reduceIte, Nat.reduceAdd, AV.cells, AV.isTuple, setMany, alen, aiaddr, afill, Nat.reduceLeDiff, Nat.reduceMul, Nat.reduceLT, afillE, List.replicate, nf.g6, nf.o1]
  · have hlt : i < N := by simpa using hb
    refine call_pure (get_g (b := false) (c := false) hN hlt hu h1 h2) (frzL_of' (d := 4) (carL_cons nf.car rfl)) ?_
    have ba := bound i u hlt hu
    simp only [walkS, wl, rgets, retv, argsEnv, ev, cst, cst1, cstL, AEnv.get, AEnv.trim, envput, qstep, abin, aun, evs, evo, deref, qload, target, if_true, if_false, Nat.reduceEqDiff, reduceIte, Nat.reduceAdd, AV.cells, AV.isTuple, setMany, alen, aiaddr, afill, Nat.reduceLeDiff, Nat.reduceMul, Nat.reduceLT, afillE, List.replicate]
    refine awp_loop (σ := Nat) (fun j => [(2, .ptr 0 1 0 0), (3, .ptr 1 1 0 0), (4, .ptr 2 1 0 0), (6, .ptr g6 1 0 0), (7, .ptr g7 1 0 0), (10, I i), (11, I (mg l (i * N + u))), (12, .bool (hq m (i * N + u))), (13, I j), (51, I N), (52, I i)]) (fun j H => NF N l m u v w p1 q1 p2 q2 g6 g7 (i * N + j) H) (fun j => j ≤ N) (fun j => N - j) 0 (Nat.zero_le _) rfl nf ?_
    clear nf H
    intro j H hj nf
    have out : (hq m (i * N + u) = false ∨ ¬ j < N) → NF N l m u v w p1 q1 p2 q2 g6 g7 ((i + 1) * N + 0) H := fun h => by
      have e : upM N l m u v w (i * N + j) = upM N l m u v w ((i + 1) * N + 0) ∧ upH N l m u v w (i * N + j) = upH N l m u v w ((i + 1) * N + 0) := by
        have e0 : (i + 1) * N + 0 = i * N + N := by rw [Nat.add_mul]; omega
        rw [e0]
        rcases h with h | h
        · have r1 := up_row (l := l) (v := v) (w := w) h j hj
          have r2 := up_row (l := l) (v := v) (w := w) h N (Nat.le_refl N)
          exact ⟨r1.1.trans r2.1.symm, r1.2.trans r2.2.symm⟩
        · rw [show j = N by omega]; exact ⟨rfl, rfl⟩
      exact ⟨nf.o0, nf.o1, nf.o2, nf.w1, nf.w2, by rw [← e.1]; exact nf.x1, by rw [← e.2]; exact nf.x2, nf.g6, nf.g7⟩
    have hwi : IntKind.i64.wrap ((i : Int) + 1) = ((i + 1 : Nat) : Int) := by rw [wrap_id (by omega) (by omega)]; simp
    have hwj : IntKind.i64.wrap ((j : Int) + 1) = ((j + 1 : Nat) : Int) := by rw [wrap_id (by omega) (by omega)]; simp
    simp only [walkS, wl, rgets, retv, argsEnv, ev, cst, cst1, cstL, AEnv.get, AEnv.trim, envput, qstep, abin, aun, evs, evo, deref, qload, target, if_true, if_false, Nat.reduceEqDiff, reduceIte, Nat.reduceAdd, AV.cells, AV.isTuple, setMany, alen, aiaddr, afill, Nat.reduceLeDiff, Nat.reduceMul, Nat.reduceLT, afillE, List.replicate, nf.o0]
    refine withGuard_intro ?_ ?_ <;> intro hb2 <;> simp only [walkS, wl, rgets, retv, argsEnv, ev, cst, cst1, cstL, AEnv.get, AEnv.trim, envput, qstep, abin, aun, evs, evo, deref, qload, target, if_true, if_false, Nat.reduceEqDiff, reduceIte, Nat.reduceAdd, AV.cells, AV.isTuple, setMany, alen, aiaddr, afill, Nat.reduceLeDiff, Nat.reduceMul, Nat.reduceLT, afillE, List.replicate, hb2]
    · have hjl : j < N := by simpa using hb2
      cases hah : hq m (i * N + u) with
      | false =>
        rw [hah] at out
        simp only [walkS, wl, rgets, retv, argsEnv, ev, cst, cst1, cstL, AEnv.get, AEnv.trim, envput, qstep, abin, aun, evs, evo, deref, qload, target, if_true, if_false, Nat.reduceEqDiff, reduceIte, Nat.reduceAdd, AV.cells, AV.isTuple, setMany, alen, aiaddr, afill, Nat.reduceLeDiff, Nat.reduceMul, Nat.reduceLT, afillE, List.replicate, hwi]
        exact loop_end (i + 1) (by omega) (by omega) rfl (out (.inl rfl))
      | true =>
        simp only [walkS, wl, rgets, retv, argsEnv, ev, cst, cst1, cstL, AEnv.get, AEnv.trim, envput, qstep, abin, aun, evs, evo, deref, qload, target, if_true, if_false, Nat.reduceEqDiff, reduceIte, Nat.reduceAdd, AV.cells, AV.isTuple, setMany, alen, aiaddr, afill, Nat.reduceLeDiff, Nat.reduceMul, Nat.reduceLT, afillE, List.replicate, nf.g6, nf.o1]
        refine call_pure (get_g (b := false) (c := false) hN hv hjl h1 h2) (frzL_of' (d := 4) (carL_cons nf.car rfl)) ?_
        simp only [walkS, wl, rgets, retv, argsEnv, ev, cst, cst1, cstL, AEnv.get, AEnv.trim, envput, qstep, abin, aun, evs, evo, deref, qload, target, if_true, if_false, Nat.reduceEqDiff, reduceIte, Nat.reduceAdd, AV.cells, AV.isTuple, setMany, alen, aiaddr, afill, Nat.reduceLeDiff, Nat.reduceMul, Nat.reduceLT, afillE, List.replicate, nf.g6, nf.o1]
        refine call_pure (get_g (b := false) (c := false) hN hlt hjl h1 h2) (frzL_of' (d := 4) (carL_cons nf.car rfl)) ?_
        have bb := bound v j hv hjl
        have hat := nC_at (l := l) (m := m) (u := u) (v := v) (w := w) (i := i) hjl
        have hMat := nM_at (l := l) (m := m) (u := u) (v := v) (w := w) (i := i) hjl
        rw [hah] at hat
        have w1 : IntKind.i64.wrap (mg l (i * N + u) + w) = mg l (i * N + u) + w := wrap_id (by omega) (by omega)
        have w2 : IntKind.i64.wrap (mg l (i * N + u) + w + mg l (v * N + j)) = mg l (i * N + u) + w + mg l (v * N + j) := wrap_id (by omega) (by omega)
        have stay : nC N l m u v w (i * N + j) = false → NF N l m u v w p1 q1 p2 q2 g6 g7 (i * N + (j + 1)) H := fun h =>
          ⟨nf.o0, nf.o1, nf.o2, nf.w1, nf.w2, by rw [← Nat.add_assoc, ← upM_not h]; exact nf.x1, by rw [← Nat.add_assoc, ← upH_not h]; exact nf.x2, nf.g6, nf.g7⟩
        cases hbe : hq m (v * N + j) with
        | false =>
          rw [hbe] at hat
          simp only [walkS, wl, rgets, retv, argsEnv, ev, cst, cst1, cstL, AEnv.get, AEnv.trim, envput, qstep, abin, aun, evs, evo, deref, qload, target, if_true, if_false, Nat.reduceEqDiff, reduceIte, Nat.reduceAdd, AV.cells, AV.isTuple, setMany, alen, aiaddr, afill, Nat.reduceLeDiff, Nat.reduceMul, Nat.reduceLT, afillE, List.replicate, nf.g6, nf.o1, hwj]
          exact loop_end (j + 1) (by omega) (by omega) rfl (stay hat)
        | true =>
          rw [hbe] at hat
          cases hha : hq m (i * N + j) with
          | false =>
            rw [hha] at hat
            simp only [walkS, wl, rgets, retv, argsEnv, ev, cst, cst1, cstL, AEnv.get, AEnv.trim, envput, qstep, abin, aun, evs, evo, deref, qload, target, if_true, if_false, Nat.reduceEqDiff, reduceIte, Nat.reduceAdd, AV.cells, AV.isTuple, setMany, alen, aiaddr, afill, Nat.reduceLeDiff, Nat.reduceMul, Nat.reduceLT, afillE, List.replicate, nf.g6, nf.g7, nf.o1, hwj, w1, w2, Bool.not_false, Bool.not_true]
            have hc : nC N l m u v w (i * N + j) = true := by rw [hat]; simp
            refine (set105 (by omega) (by omega) (by omega) (cell_lt hlt hjl) nf.x1).mono fun y1 H1 ⟨s1, s2, s3⟩ => ?_
            have k7 := (s2 g7 (AHeap.obj_lt nf.g7) (by omega)).trans nf.g7
            simp only [walkS, wl, rgets, retv, argsEnv, ev, cst, cst1, cstL, AEnv.get, AEnv.trim, envput, qstep, abin, aun, evs, evo, deref, qload, target, if_true, if_false, Nat.reduceEqDiff, reduceIte, Nat.reduceAdd, AV.cells, AV.isTuple, setMany, alen, aiaddr, afill, Nat.reduceLeDiff, Nat.reduceMul, Nat.reduceLT, afillE, List.replicate, k7]
            refine (set106 (x := true) (by omega) (by omega) (by omega) (cell_lt hlt hjl) ((s2 q2 (AHeap.obj_lt nf.x2) (by omega)).trans nf.x2)).mono fun y2 H2 ⟨t1, t2, t3⟩ => ?_
            have keep : ∀ a o, AHeap.obj H a = some o → a ≠ p2 → a ≠ q2 → AHeap.obj H2 a = some o := fun a o h e1 e2 => by
              have := AHeap.obj_lt h
              rw [t2 a (by omega) e2, s2 a this e1]; exact h
            rw [← hMat hc, upM_set hc] at s3
            rw [upH_set hc] at t3
            simp only [walkS, wl, rgets, retv, argsEnv, ev, cst, cst1, cstL, AEnv.get, AEnv.trim, envput, qstep, abin, aun, evs, evo, deref, qload, target, if_true, if_false, Nat.reduceEqDiff, reduceIte, Nat.reduceAdd, AV.cells, AV.isTuple, setMany, alen, aiaddr, afill, Nat.reduceLeDiff, Nat.reduceMul, Nat.reduceLT, afillE, List.replicate, hwj]
            exact loop_end (j + 1) (by omega) (by omega) rfl ⟨keep _ _ nf.o0 (by omega) (by omega), keep _ _ nf.o1 (by omega) (by omega), keep _ _ nf.o2 (by omega) (by omega), keep _ _ nf.w1 (by omega) (by omega), keep _ _ nf.w2 (by omega) (by omega), by rw [t2 p2 (by have := AHeap.obj_lt nf.x1; omega) (by omega)]; exact s3, t3, keep _ _ nf.g6 (by omega) (by omega), keep _ _ nf.g7 (by omega) (by omega)⟩
          | true =>
            rw [hha] at hat
            simp only [walkS, wl, rgets, retv, argsEnv, ev, cst, cst1, cstL, AEnv.get, AEnv.trim, envput, qstep, abin, aun, evs, evo, deref, qload, target, if_true, if_false, Nat.reduceEqDiff, reduceIte, Nat.reduceAdd, AV.cells, AV.isTuple, setMany, alen, aiaddr, afill, Nat.reduceLeDiff, Nat.reduceMul, Nat.reduceLT, afillE, List.replicate, nf.g6, nf.g7, nf.o1, hwj, w1, w2, Bool.not_false, Bool.not_true]
            refine withBool_intro ?_ ?_ <;> intro hlt3
            · rw [hlt3] at hat
              simp only [walkS, wl, rgets, retv, argsEnv, ev, cst, cst1, cstL, AEnv.get, AEnv.trim, envput, qstep, abin, aun, evs, evo, deref, qload, target, if_true, if_false, Nat.reduceEqDiff, reduceIte, Nat.reduceAdd, AV.cells, AV.isTuple, setMany, alen, aiaddr, afill, Nat.reduceLeDiff, Nat.reduceMul, Nat.reduceLT, afillE, List.replicate, nf.g6, nf.g7, nf.o1, hwj, w1, w2, Bool.not_false, Bool.not_true]
              have hc : nC N l m u v w (i * N + j) = true := by rw [hat]; simp
              refine (set105 (by omega) (by omega) (by omega) (cell_lt hlt hjl) nf.x1).mono fun y1 H1 ⟨s1, s2, s3⟩ => ?_
              have k7 := (s2 g7 (AHeap.obj_lt nf.g7) (by omega)).trans nf.g7
              simp only [walkS, wl, rgets, retv, argsEnv, ev, cst, cst1, cstL, AEnv.get, AEnv.trim, envput, qstep, abin, aun, evs, evo, deref, qload, target, if_true, if_false, Nat.reduceEqDiff, reduceIte, Nat.reduceAdd, AV.cells, AV.isTuple, setMany, alen, aiaddr, afill, Nat.reduceLeDiff, Nat.reduceMul, Nat.reduceLT, afillE, List.replicate, k7]
              refine (set106 (x := true) (by omega) (by omega) (by omega) (cell_lt hlt hjl) ((s2 q2 (AHeap.obj_lt nf.x2) (by omega)).trans nf.x2)).mono fun y2 H2 ⟨t1, t2, t3⟩ => ?_
              have keep : ∀ a o, AHeap.obj H a = some o → a ≠ p2 → a ≠ q2 → AHeap.obj H2 a = some o := fun a o h e1 e2 => by
                have := AHeap.obj_lt h
                rw [t2 a (by omega) e2, s2 a this e1]; exact h
              rw [← hMat hc, upM_set hc] at s3
              rw [upH_set hc] at t3
              simp only [walkS, wl, rgets, retv, argsEnv, ev, cst, cst1, cstL, AEnv.get, AEnv.trim, envput, qstep, abin, aun, evs, evo, deref, qload, target, if_true, if_false, Nat.reduceEqDiff, reduceIte, Nat.reduceAdd, AV.cells, AV.isTuple, setMany, alen, aiaddr, afill, Nat.reduceLeDiff, Nat.reduceMul, Nat.reduceLT, afillE, List.replicate, hwj]
              exact loop_end (j + 1) (by omega) (by omega) rfl ⟨keep _ _ nf.o0 (by omega) (by omega), keep _ _ nf.o1 (by omega) (by omega), keep _ _ nf.o2 (by omega) (by omega), keep _ _ nf.w1 (by omega) (by omega), keep _ _ nf.w2 (by omega) (by omega), by rw [t2 p2 (by have := AHeap.obj_lt nf.x1; omega) (by omega)]; exact s3, t3, keep _ _ nf.g6 (by omega) (by omega), keep _ _ nf.g7 (by omega) (by omega)⟩
            · rw [hlt3] at hat
              simp only [walkS, wl, rgets, retv, argsEnv, ev, cst, cst1, cstL, AEnv.get, AEnv.trim, envput, qstep, abin, aun, evs, evo, deref, qload, target, if_true, if_false, Nat.reduceEqDiff, reduceIte, Nat.reduceAdd, AV.cells, AV.isTuple, setMany, alen, aiaddr, afill, Nat.reduceLeDiff, Nat.reduceMul, Nat.reduceLT, afillE, List.replicate, hwj]
              exact loop_end (j + 1) (by omega) (by omega) rfl (stay hat)
    · simp only [walkS, wl, rgets, retv, argsEnv, ev, cst, cst1, cstL, AEnv.get, AEnv.trim, envput, qstep, abin, aun, evs, evo, deref, qload, target, if_true, if_false, Nat.reduceEqDiff, reduceIte, Nat.reduceAdd, AV.cells, AV.isTuple, setMany, alen, aiaddr, afill, Nat.reduceLeDiff, Nat.reduceMul, Nat.reduceLT, afillE, List.replicate, hwi]
      exact loop_end (i + 1) (by omega) (by omega) rfl (out (.inr (by simpa using hb2)))
  · have hk : i = N := by simp at hb; omega
    subst hk
    simp only [walkS, wl, rgets, retv, argsEnv, ev, cst, cst1, cstL, AEnv.get, AEnv.trim, envput, qstep, abin, aun, evs, evo, deref, qload, target, if_true, if_false, Nat.reduceEqDiff, reduceIte, Nat.reduceAdd, AV.cells, AV.isTuple, setMany, alen, aiaddr, afill, Nat.reduceLeDiff, Nat.reduceMul, Nat.reduceLT, afillE, List.replicate, nf.o0, nf.g7]
    refine storeR rfl rfl nf.o2 rfl ⟨rfl, rfl, rfl, by simp⟩ fun H3 z1 z2 z3 => ?_
    simp only [AV.cells, setMany, List.set_cons_zero, List.set_cons_succ, Nat.zero_add, Nat.reduceAdd] at z2
    simp only [walkS, wl, rgets, retv, argsEnv, ev, cst, cst1, cstL, AEnv.get, AEnv.trim, envput, qstep, abin, aun, evs, evo, deref, qload, target, if_true, if_false, Nat.reduceEqDiff, reduceIte, Nat.reduceAdd, AV.cells, AV.isTuple, setMany, alen, aiaddr, afill, Nat.reduceLeDiff, Nat.reduceMul, Nat.reduceLT, afillE, List.replicate]
    have eM : ic (li (i * i) (upM i l m u v w (i * i + 0))) = ic (li (i * i) (nM i l m u v w)) := by
      unfold li
      rw [List.map_congr_left fun x hx => ?_]
      have := List.mem_range.1 hx
      unfold upM; rw [if_pos (by omega)]
    have eH : bc (lb (i * i) (upH i l m u v w (i * i + 0))) = bc (lb (i * i) (nH i l m u v w)) := by
      unfold lb
      rw [List.map_congr_left fun x hx => ?_]
      have := List.mem_range.1 hx
      unfold upH; rw [if_pos (by omega)]
    exact hDone H3 z2 (by rw [z3 _ (by omega), nf.x1, eM]) (by rw [z3 _ (by omega), nf.x2, eH])
theorem narrow_rest {N : Nat} {l : List Int} {m : List Bool} {u v : Nat} {w : Int} {p1 q1 p2 q2 g6 g7 : Nat} {H : AHeap} {Q : AX → AEnv → AHeap → Prop} (hN0 : 0 < N) (hN : N ≤ 64) (h1 : l.length = N * N) (h2 : m.length = N * N) (hT : Tab N l m) (hu : u < N) (hv : v < N) (hw : -1073741824 ≤ w ∧ w ≤ 1073741824)
    (ni : NI p1 q1 p2 q2 g6 g7) (nf : NF N l m u v w p1 q1 p2 q2 g6 g7 0 H)
    (hClash : hq m (v * N + u) = true → mg l (v * N + u) + w < 0 → ∀ H, AHeap.obj H 2 = some ⟨73, 3, [[I 0, .nilSlice, .nilSlice]]⟩ → Q .ret [(4, .ptr 2 1 0 0), (5, I 41)] H)
    (hDone : ¬ (hq m (v * N + u) = true ∧ mg l (v * N + u) + w < 0) → ∀ H, AHeap.obj H 2 = some ⟨73, 3, [[I N, .own p2 (N * N) 0 (N * N), .own q2 (N * N) 0 (N * N)]]⟩ → AHeap.obj H p2 = some ⟨3, 1, ic (li (N * N) (nM N l m u v w))⟩ → AHeap.obj H q2 = some ⟨4, 1, bc (lb (N * N) (nH N l m u v w))⟩ → Q .ret [(4, .ptr 2 1 0 0), (5, I 0)] H) :
    awp Try.prog ir65r Q [(2, .ptr 0 1 0 0), (3, .ptr 1 1 0 0), (4, .ptr 2 1 0 0), (6, .ptr g6 1 0 0), (7, .ptr g7 1 0 0)] H := by
  have bound : ∀ i j, i < N → j < N → -68719476736 ≤ mg l (i * N + j) ∧ mg l (i * N + j) ≤ 68719476736 := fun i j hi hj => by
    have := (hT.cell i j hi hj).2.1
    omega
  unfold ir65r
  simp only [walkS, wl, rgets, retv, argsEnv, ev, cst, cst1, cstL, AEnv.get, AEnv.trim, envput, qstep, abin, aun, evs, evo, deref, qload, target, if_true, if_false, Nat.reduceEqDiff, reduceIte, Nat.reduceAdd, AV.cells, AV.isTuple, setMany, alen, aiaddr, afill, Nat.reduceLeDiff, Nat.reduceMul, Nat.reduceLT, afillE, List.replicate, nf.g6, nf.o1]
  refine call_pure (get_g (b := false) (c := false) hN hv hu h1 h2) (frzL_of' (d := 4) (carL_cons nf.car rfl)) ?_
  have bv := bound v u hv hu
  have w1 : IntKind.i64.wrap (mg l (v * N + u) + w) = mg l (v * N + u) + w := wrap_id (by omega) (by omega)
  cases hb : hq m (v * N + u) with
  | false =>
    simp only [walkS, wl, rgets, retv, argsEnv, ev, cst, cst1, cstL, AEnv.get, AEnv.trim, envput, qstep, abin, aun, evs, evo, deref, qload, target, if_true, if_false, Nat.reduceEqDiff, reduceIte, Nat.reduceAdd, AV.cells, AV.isTuple, setMany, alen, aiaddr, afill, Nat.reduceLeDiff, Nat.reduceMul, Nat.reduceLT, afillE, List.replicate, nf.o1]
    exact narrow_loop hN0 hN h1 h2 hT hu hv hw ni nf (hDone (by rw [hb]; simp))
  | true =>
    simp only [walkS, wl, rgets, retv, argsEnv, ev, cst, cst1, cstL, AEnv.get, AEnv.trim, envput, qstep, abin, aun, evs, evo, deref, qload, target, if_true, if_false, Nat.reduceEqDiff, reduceIte, Nat.reduceAdd, AV.cells, AV.isTuple, setMany, alen, aiaddr, afill, Nat.reduceLeDiff, Nat.reduceMul, Nat.reduceLT, afillE, List.replicate, nf.o1, w1]
    refine withBool_intro ?_ ?_ <;> intro hlt
    · rw [hlt]
      simp only [walkS, wl, rgets, retv, argsEnv, ev, cst, cst1, cstL, AEnv.get, AEnv.trim, envput, qstep, abin, aun, evs, evo, deref, qload, target, if_true, if_false, Nat.reduceEqDiff, reduceIte, Nat.reduceAdd, AV.cells, AV.isTuple, setMany, alen, aiaddr, afill, Nat.reduceLeDiff, Nat.reduceMul, Nat.reduceLT, afillE, List.replicate]
      refine storeR rfl rfl nf.o2 rfl ⟨rfl, rfl, rfl, by simp⟩ fun H3 z1 z2 z3 => ?_
      simp only [AV.cells, setMany, List.set_cons_zero, List.set_cons_succ, Nat.zero_add, Nat.reduceAdd] at z2
      simp only [walkS, wl, rgets, retv, argsEnv, ev, cst, cst1, cstL, AEnv.get, AEnv.trim, envput, qstep, abin, aun, evs, evo, deref, qload, target, if_true, if_false, Nat.reduceEqDiff, reduceIte, Nat.reduceAdd, AV.cells, AV.isTuple, setMany, alen, aiaddr, afill, Nat.reduceLeDiff, Nat.reduceMul, Nat.reduceLT, afillE, List.replicate]
      exact hClash hb (by simpa using hlt) H3 z2
    · rw [hlt]
      simp only [walkS, wl, rgets, retv, argsEnv, ev, cst, cst1, cstL, AEnv.get, AEnv.trim, envput, qstep, abin, aun, evs, evo, deref, qload, target, if_true, if_false, Nat.reduceEqDiff, reduceIte, Nat.reduceAdd, AV.cells, AV.isTuple, setMany, alen, aiaddr, afill, Nat.reduceLeDiff, Nat.reduceMul, Nat.reduceLT, afillE, List.replicate]
      exact narrow_loop hN0 hN h1 h2 hT hu hv hw ni nf (hDone (by rintro ⟨_, h⟩; simp at hlt; omega))
end Go.Proofs.Ytepnijjgdhldeaa
