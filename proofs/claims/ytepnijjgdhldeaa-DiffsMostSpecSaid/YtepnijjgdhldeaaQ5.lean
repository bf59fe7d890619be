/- solve: what it hands back. -/
import Derived.Test.YtepnijjgdhldeaaQ4
import Derived.Test.YtepnijjgdhldeaaQT2
namespace Go.Proofs.Ytepnijjgdhldeaa
open Go.Awp
set_option linter.unusedSimpArgs false
set_option linter.unusedVariables false
set_option maxRecDepth 10000
def everyone (n : Nat) : Nat → Bool := fun v => decide (v < n)
def grown (n : Nat) (ds : List Df) (S : Nat → Bool) : Gs × Int := growR ds n (startL S) n 0
theorem marks_all (n : Nat) : marksOf (li n fun i => i) = everyone n := by
  funext x
  unfold marksOf everyone li
  rw [Bool.eq_iff_iff]
  simp only [List.any_map, List.any_eq_true, List.mem_range, Function.comp, beq_iff_eq, decide_eq_true_eq]
  constructor
  · rintro ⟨i, hi, e⟩; omega
  · intro h; exact ⟨x, h, rfl⟩
theorem marks_one (i : Nat) : marksOf [(i : Int)] = fun x => decide (x = i) := by
  funext x
  unfold marksOf
  rw [Bool.eq_iff_iff]
  simp
  omega
theorem car_iface {out : Bool} {H : AHeap} {d : Nat} {t : TypeId} {v y : AV} (h : carry out H d v = some y) : carry out H (d + 1) (.iface t v) = some (.iface t y) := by
  show (match carry out H d v with | some y => some (AV.iface t y) | none => none) = _
  rw [h]
inductive OutL (H : AHeap) : List AV → List AV → Prop
  | nil : OutL H [] []
  | cons {x y : AV} {xs ys : List AV} (h : Out H x y) (t : OutL H xs ys) : OutL H (x :: xs) (y :: ys)
theorem OutL.length {H : AHeap} {xs ys : List AV} (h : OutL H xs ys) : ys.length = xs.length := by
  induction h with
  | nil => rfl
  | cons _ _ ih => simp [ih]
theorem OutL.get {H : AHeap} {xs ys : List AV} (h : OutL H xs ys) : ∀ {i : Nat} {y : AV}, ys[i]? = some y → ∃ x, xs[i]? = some x ∧ Out H x y := by
  induction h with
  | nil => intro i y h; simp at h
  | cons h _ ih =>
    intro i y hy
    cases i with
    | zero => cases hy; exact ⟨_, rfl, h⟩
    | succ i => exact ih hy
theorem out_tuple {H : AHeap} {xs ys : List AV} (h : OutL H xs ys) : Out H (.tuple xs) (.tuple ys) := fun w m B v st hv m' H' B' hB hm => by
  cases hv with
  | tuple _ vs hl hh =>
    refine .tuple _ _ (by rw [h.length]; exact hl) fun i z v' e1 e2 => ?_
    obtain ⟨x, hx, ho⟩ := h.get e1
    exact ho w m B v' st (hh i x v' hx e2) m' H' B' hB hm
theorem car_tree {out : Bool} {H : AHeap} {d h1 h2 h3 n : Nat} {s : Gs} (o1 : AHeap.obj H h1 = some ⟨3, 1, ic (li n s.long)⟩) (o2 : AHeap.obj H h2 = some ⟨4, 1, bc (lb n s.has)⟩) (o3 : AHeap.obj H h3 = some ⟨3, 1, ic (li n s.last)⟩) :
    carry out H (d + 3) (.agg [.own h1 n 0 n, .own h2 n 0 n, .own h3 n 0 n]) = some (.agg [.ro out (ic (li n s.long)), .ro out (bc (lb n s.has)), .ro out (ic (li n s.last))]) :=
  car_agg (carL_cons (car_ownN o1 (by rw [ic_length, li_length]) (ic_simple _)) (carL_cons (car_ownN o2 (by rw [bc_length, lb_length]) (bc_simple _)) (carL_cons (car_ownN o3 (by rw [ic_length, li_length]) (ic_simple _)) rfl)))
def treeV (b : Bool) (n : Nat) (t : Gs) : AV := .agg [.ro b (ic (li n t.long)), .ro b (bc (lb n t.has)), .ro b (ic (li n t.last))]
theorem growR_bad {ds : List Df} {n : Nat} {s : Gs} : ∀ f r, (growR ds n s f r).2 = -1 ∨ 0 ≤ (growR ds n s f r).2
  | 0, r => .inl rfl
  | f + 1, r => by
    unfold growR
    split
    · exact .inl rfl
    · split
      · exact .inr ‹_›
      · exact growR_bad f (r + 1)
/-- solve, as the program answers. -/
def solved (n : Nat) (ds : List Df) : List Int := if 0 ≤ (grown n ds (everyone n)).2 then [] else li n fun i => (grown n ds (everyone n)).1.long i - (grown n ds (everyone n)).1.long 0
theorem solve_ok {t : TypeId} {v : AV} {n : Nat} {ds : List Df} (hg : Good n ds) (hG : IsGraph t v n ds) (hs : ∀ H : AHeap, carry false H 4 v = some v) :
    PCall Try.prog 85 [.iface t v] (.tuple [.ro true (ic (solved n ds)), treeV true n (grown n ds (everyone n)).1, I (grown n ds (everyone n)).2]) := by
  have hn1 := hg.pos
  have hn2 := hg.small
  refine PCall.intro text85 (by simp) ?_
  unfold ir85
  simp only [walkS, wl, rgets, retv, argsEnv, ev, cst, cst1, cstL, AEnv.get, AEnv.trim, envput, qstep, abin, aun, evs, evo, deref, qload, target, if_true, if_false, Nat.reduceEqDiff, reduceIte, Nat.reduceAdd, AV.cells, AV.isTuple, setMany, alen, aiaddr, afill, Nat.reduceLeDiff, Nat.reduceMul, Nat.reduceLT, afillE, List.replicate]
  refine call_pure (all112 hG (by omega)) (frzL_of' (d := 5) (carL_cons (car_iface (hs _)) rfl)) ?_
  simp only [walkS, wl, rgets, retv, argsEnv, ev, cst, cst1, cstL, AEnv.get, AEnv.trim, envput, qstep, abin, aun, evs, evo, deref, qload, target, if_true, if_false, Nat.reduceEqDiff, reduceIte, Nat.reduceAdd, AV.cells, AV.isTuple, setMany, alen, aiaddr, afill, Nat.reduceLeDiff, Nat.reduceMul, Nat.reduceLT, afillE, List.replicate]
  refine (grow_at hg hG (l := li n fun i => i) (fun i hi => by
    obtain ⟨j, hj, rfl⟩ := List.mem_map.1 hi
    have := List.mem_range.1 hj; omega) (by rw [li_length]; omega) (.inl ⟨_, rfl⟩)).mono fun x H' hx => ?_
  rw [marks_all] at hx
  obtain ⟨h1, h2, h3, rfl, g1, g2, g3, o1, o2, o3, hl, kp⟩ := hx
  have hgr : growR ds n (startL (everyone n)) n 0 = grown n ds (everyone n) := rfl
  rw [hgr] at o1 o2 o3
  rw [hgr]
  generalize hG2 : grown n ds (everyone n) = g at o1 o2 o3 ⊢
  obtain ⟨s, bad⟩ := g
  simp only [walkS, wl, rgets, retv, argsEnv, ev, cst, cst1, cstL, AEnv.get, AEnv.trim, envput, qstep, abin, aun, evs, evo, deref, qload, target, if_true, if_false, Nat.reduceEqDiff, reduceIte, Nat.reduceAdd, AV.cells, AV.isTuple, setMany, alen, aiaddr, afill, Nat.reduceLeDiff, Nat.reduceMul, Nat.reduceLT, afillE, List.replicate]
  have k0 := kp 0 (by simp)
  have hlt := AHeap.obj_lt o3
  have hl0 : 1 ≤ H'.length := by simpa using hl
  have g1' : 1 ≤ h1 := by simpa using g1
  refine storeR rfl rfl AHeap.obj_push_eq rfl ⟨rfl, rfl, rfl, by simp⟩ fun H2 y1 y2 y3 => ?_
  simp only [AV.cells, setMany, List.set_cons_zero, List.set_cons_succ, Nat.zero_add, Nat.reduceAdd] at y2
  have hL : H2.length = H'.length + 1 := by rw [y1]; simp
  have back : ∀ q, q < H'.length → AHeap.obj H2 q = AHeap.obj H' q := fun q hq => by rw [y3 q (by omega), AHeap.obj_push_lt hq]
  have p0 : AHeap.obj H2 0 = some ⟨88, 3, [[.nilSlice, .nilSlice, .nilSlice]]⟩ := by rw [back 0 (by omega), k0]; rfl
  have p1 := (back h1 (by omega)).trans o1
  have p2 := (back h2 (by omega)).trans o2
  have p3 := (back h3 (by omega)).trans o3
  simp only [walkS, wl, rgets, retv, argsEnv, ev, cst, cst1, cstL, AEnv.get, AEnv.trim, envput, qstep, abin, aun, evs, evo, deref, qload, target, if_true, if_false, Nat.reduceEqDiff, reduceIte, Nat.reduceAdd, AV.cells, AV.isTuple, setMany, alen, aiaddr, afill, Nat.reduceLeDiff, Nat.reduceMul, Nat.reduceLT, afillE, List.replicate]
  refine withBool_intro ?_ ?_ <;> intro hb <;> simp only [walkS, wl, rgets, retv, argsEnv, ev, cst, cst1, cstL, AEnv.get, AEnv.trim, envput, qstep, abin, aun, evs, evo, deref, qload, target, if_true, if_false, Nat.reduceEqDiff, reduceIte, Nat.reduceAdd, AV.cells, AV.isTuple, setMany, alen, aiaddr, afill, Nat.reduceLeDiff, Nat.reduceMul, Nat.reduceLT, afillE, List.replicate, y2]
  · have hpos : 0 ≤ bad := by simpa using hb
    refine storeW rfl rfl p0 rfl ⟨rfl, rfl, rfl, by simp⟩ fun H3 z1 z2 z3 => ?_
    simp only [AV.cells, setMany, List.set_cons_zero, List.set_cons_succ, Nat.zero_add, Nat.reduceAdd] at z2
    simp only [walkS, wl, rgets, retv, argsEnv, ev, cst, cst1, cstL, AEnv.get, AEnv.trim, envput, qstep, abin, aun, evs, evo, deref, qload, target, if_true, if_false, Nat.reduceEqDiff, reduceIte, Nat.reduceAdd, AV.cells, AV.isTuple, setMany, alen, aiaddr, afill, Nat.reduceLeDiff, Nat.reduceMul, Nat.reduceLT, afillE, List.replicate, z2]
    have e : solved n ds = [] := by simp [solved, hG2, hpos]
    rw [e]
    exact out_tuple (.cons out_nil (.cons (out_of (d := 6) (car_tree ((z3 _ (by omega)).trans p1) ((z3 _ (by omega)).trans p2) ((z3 _ (by omega)).trans p3))) (.cons out_int .nil)))
  · have hneg : ¬ 0 ≤ bad := by simpa using hb
    have e : solved n ds = li n fun i => s.long i - s.long 0 := by simp [solved, hG2, hneg]
    have hne : li n s.long ≠ [] := by intro h; have := congrArg List.length h; rw [li_length] at this; simp at this; omega
    refine call_new (clone91_new (b := false) hne (by rw [li_length]; omega)) (frzL_of' (d := 4) (carL_cons (car_ownN p1 (by rw [ic_length, li_length]) (ic_simple _)) rfl)) ?_
    simp only [walkS, wl, rgets, retv, argsEnv, ev, cst, cst1, cstL, AEnv.get, AEnv.trim, envput, qstep, abin, aun, evs, evo, deref, qload, target, if_true, if_false, Nat.reduceEqDiff, reduceIte, Nat.reduceAdd, AV.cells, AV.isTuple, setMany, alen, aiaddr, afill, Nat.reduceLeDiff, Nat.reduceMul, Nat.reduceLT, afillE, List.replicate, li_length, ic_length]
    have bd : ∀ v, -175921860444160 ≤ s.long v ∧ s.long v ≤ 175921860444160 := fun v => by
      have := grown_bound hg (s := startL (everyone n)) (fun _ => rfl) v
      rw [hgr, hG2] at this; exact this
    have hxL : ∀ i, i < H2.length → i ≠ H2.length := fun i hi => by omega
    refine awp_loop (σ := Nat) (fun k => [(3, .ptr 0 1 0 0), (5, .ptr H'.length 1 0 0), (7, .own H2.length n 0 n), (24, I n), (25, I k)])
      (fun k H => AHeap.obj H 0 = some ⟨88, 3, [[.nilSlice, .nilSlice, .nilSlice]]⟩ ∧ AHeap.obj H H'.length = some ⟨88, 3, [[.own h1 n 0 n, .own h2 n 0 n, .own h3 n 0 n]]⟩ ∧ AHeap.obj H h1 = some ⟨3, 1, ic (li n s.long)⟩ ∧ AHeap.obj H h2 = some ⟨4, 1, bc (lb n s.has)⟩ ∧ AHeap.obj H h3 = some ⟨3, 1, ic (li n s.last)⟩ ∧ AHeap.obj H H2.length = some ⟨3, 1, ic (li n fun i => if i < k then s.long i - s.long 0 else s.long i)⟩)
      (fun k => k ≤ n) (fun k => n - k) 0 (Nat.zero_le _) rfl ⟨obj_keep p0, obj_keep y2, obj_keep p1, obj_keep p2, obj_keep p3, by rw [AHeap.obj_push_eq]; simp⟩ ?_
    rintro k H hk ⟨w0, w5, w1, w2, w3, wx⟩
    simp only [walkS, wl, rgets, retv, argsEnv, ev, cst, cst1, cstL, AEnv.get, AEnv.trim, envput, qstep, abin, aun, evs, evo, deref, qload, target, if_true, if_false, Nat.reduceEqDiff, reduceIte, Nat.reduceAdd, AV.cells, AV.isTuple, setMany, alen, aiaddr, afill, Nat.reduceLeDiff, Nat.reduceMul, Nat.reduceLT, afillE, List.replicate]
    refine withBool_intro ?_ ?_ <;> intro hb <;> simp only [walkS, wl, rgets, retv, argsEnv, ev, cst, cst1, cstL, AEnv.get, AEnv.trim, envput, qstep, abin, aun, evs, evo, deref, qload, target, if_true, if_false, Nat.reduceEqDiff, reduceIte, Nat.reduceAdd, AV.cells, AV.isTuple, setMany, alen, aiaddr, afill, Nat.reduceLeDiff, Nat.reduceMul, Nat.reduceLT, afillE, List.replicate]
    · have hlt' : k < n := by simpa using hb
      simp only [walkS, wl, rgets, retv, argsEnv, ev, cst, cst1, cstL, AEnv.get, AEnv.trim, envput, qstep, abin, aun, evs, evo, deref, qload, target, if_true, if_false, Nat.reduceEqDiff, reduceIte, Nat.reduceAdd, AV.cells, AV.isTuple, setMany, alen, aiaddr, afill, Nat.reduceLeDiff, Nat.reduceMul, Nat.reduceLT, afillE, List.replicate, w5, w1, wx, li_get hlt', li_get hn1, ic_length, li_length, if_pos (show (k : Int) < n by omega), if_pos (show (0 : Int) ≤ 0 ∧ (0 : Int) < n by omega), Int.toNat_zero, if_neg (Nat.lt_irrefl k)]
      have bk := bd k
      have b0 := bd 0
      rw [wrap_id (by omega) (by omega)]
      refine storeR rfl rfl wx (li_get hlt') ⟨by simp [ic_length, li_length], rfl, rfl, by simp⟩ fun H3 z1 z2 z3 => ?_
      simp only [AV.cells, setMany, List.set_cons_zero, li_set] at z2
      simp only [walkS, wl, rgets, retv, argsEnv, ev, cst, cst1, cstL, AEnv.get, AEnv.trim, envput, qstep, abin, aun, evs, evo, deref, qload, target, if_true, if_false, Nat.reduceEqDiff, reduceIte, Nat.reduceAdd, AV.cells, AV.isTuple, setMany, alen, aiaddr, afill, Nat.reduceLeDiff, Nat.reduceMul, Nat.reduceLT, afillE, List.replicate]
      rw [wrap_id (by omega) (by omega)]
      refine loop_end (k + 1) hlt' (by omega) rfl ⟨(z3 _ (by omega)).trans w0, (z3 _ (by omega)).trans w5, (z3 _ (by omega)).trans w1, (z3 _ (by omega)).trans w2, (z3 _ (by omega)).trans w3, ?_⟩
      rw [z2]
      have : upd (fun i => if i < k then s.long i - s.long 0 else s.long i) k (s.long k - s.long 0) = fun i => if i < k + 1 then s.long i - s.long 0 else s.long i := by
        funext i
        by_cases e : i = k
        · subst e; rw [upd_eq, if_pos (by omega)]
        · rw [upd_ne e]
          by_cases h : i < k
          · rw [if_pos h, if_pos (by omega)]
          · rw [if_neg h, if_neg (by omega)]
      rw [this]
    · have hk' : k = n := by simp at hb; omega
      subst hk'
      have hxe : li k (fun i => if i < k then s.long i - s.long 0 else s.long i) = li k fun i => s.long i - s.long 0 := by
        unfold li
        exact List.map_congr_left fun i hi => if_pos (List.mem_range.1 hi)
      rw [hxe] at wx
      simp only [walkS, wl, rgets, retv, argsEnv, ev, cst, cst1, cstL, AEnv.get, AEnv.trim, envput, qstep, abin, aun, evs, evo, deref, qload, target, if_true, if_false, Nat.reduceEqDiff, reduceIte, Nat.reduceAdd, AV.cells, AV.isTuple, setMany, alen, aiaddr, afill, Nat.reduceLeDiff, Nat.reduceMul, Nat.reduceLT, afillE, List.replicate, w5, w0]
      refine storeR rfl rfl w0 rfl ⟨rfl, rfl, rfl, by simp⟩ fun H3 z1 z2 z3 => ?_
      simp only [AV.cells, setMany, List.set_cons_zero, List.set_cons_succ, Nat.zero_add, Nat.reduceAdd] at z2
      simp only [walkS, wl, rgets, retv, argsEnv, ev, cst, cst1, cstL, AEnv.get, AEnv.trim, envput, qstep, abin, aun, evs, evo, deref, qload, target, if_true, if_false, Nat.reduceEqDiff, reduceIte, Nat.reduceAdd, AV.cells, AV.isTuple, setMany, alen, aiaddr, afill, Nat.reduceLeDiff, Nat.reduceMul, Nat.reduceLT, afillE, List.replicate, z2]
      rw [e]
      have hbad : bad = -1 := by
        have := growR_bad (ds := ds) (n := k) (s := startL (everyone k)) k 0
        rw [hgr, hG2] at this
        exact this.resolve_right hneg
      subst hbad
      exact out_tuple (.cons (out_of (d := 2) (car_ownN ((z3 _ (by omega)).trans wx) (by rw [ic_length, li_length]) (ic_simple _))) (.cons (out_of (d := 6) (car_tree ((z3 _ (by omega)).trans w1) ((z3 _ (by omega)).trans w2) ((z3 _ (by omega)).trans w3))) (.cons out_int .nil)))
end Go.Proofs.Ytepnijjgdhldeaa
/- reach and ends: what they hand back. -/
namespace Go.Proofs.Ytepnijjgdhldeaa
open Go.Awp
set_option linter.unusedSimpArgs false
set_option linter.unusedVariables false
set_option maxRecDepth 10000
def Kept (H0 H : AHeap) : Prop := H0.length ≤ H.length ∧ ∀ i, i < H0.length → AHeap.obj H i = AHeap.obj H0 i
/-- What reach hands back. -/
def Reached (H0 : AHeap) (n : Nat) (ds : List Df) (i : Nat) (x : AV) (H : AHeap) : Prop :=
  Kept H0 H ∧ ((0 ≤ (grown n ds (everyone n)).2 ∧ x = .tuple [.agg [.nilSlice, .nilSlice, .nilSlice], I 41]) ∨
    (¬ 0 ≤ (grown n ds (everyone n)).2 ∧ ∃ h1 h2 h3, x = .tuple [.agg [.own h1 n 0 n, .own h2 n 0 n, .own h3 n 0 n], I 0] ∧ H0.length ≤ h1 ∧ h1 < h2 ∧ h2 < h3 ∧
      AHeap.obj H h1 = some ⟨3, 1, ic (li n (grown n ds (fun x => decide (x = i))).1.long)⟩ ∧ AHeap.obj H h2 = some ⟨4, 1, bc (lb n (grown n ds (fun x => decide (x = i))).1.has)⟩ ∧ AHeap.obj H h3 = some ⟨3, 1, ic (li n (grown n ds (fun x => decide (x = i))).1.last)⟩))
end Go.Proofs.Ytepnijjgdhldeaa
/- marks and Lengths of the specification: what they hand back. -/
namespace Go.Proofs.Ytepnijjgdhldeaa
open Go.Awp
set_option linter.unusedSimpArgs false
set_option linter.unusedVariables false
set_option maxRecDepth 10000
-- growing slices, with their places
def AccS (H : AHeap) (a : AV) (e s : Nat) (els : List (List AV)) (ho : Option Nat) : Prop := (ho = none ∧ els = [] ∧ a = .nilSlice) ∨ ∃ h, ho = some h ∧ a = .own h els.length 0 els.length ∧ AHeap.obj H h = some ⟨e, s, els⟩
theorem accS_append {H : AHeap} {a : AV} {e s bytes hl : Nat} {els : List (List AV)} {ho : Option Nat} {r : List AV} {env : AEnv} {x y : Operand} {K : AV → AHeap → Prop} (hacc : AccS H a e s els ho) (hx : ev env x = some a) (hy : ev env y = some (.own hl 1 0 1)) (hobj : AHeap.obj H hl = some ⟨e, s, [r]⟩)
    (hb : els.length + 1 ≤ 140737488355328 ∧ (els.length + 1) * bytes ≤ 140737488355328) (hk : ∀ h' H', H.length ≤ H'.length → AHeap.obj H' h' = some ⟨e, s, els ++ [r]⟩ → (ho = some h' ∨ (ho = none ∧ H.length ≤ h')) → (∀ i, i < H.length → i ≠ h' → AHeap.obj H' i = AHeap.obj H i) → K (.own h' (els.length + 1) 0 (els.length + 1)) H') : withRes (sstep (.append e s bytes x y) env H) K := by
  have hs : asrc H s (.own hl 1 0 1) = some [r] := by
    simp only [asrc, hobj, List.length_cons, List.length_nil, and_self, if_true]
    rfl
  have hb1 : bytes ≤ 140737488355328 := by
    have := hb.2
    rw [Nat.add_mul] at this; omega
  rcases hacc with ⟨rfl, rfl, rfl⟩ | ⟨h, rfl, rfl, h3⟩
  · simp only [sstep, hx, hy, hs]
    rw [if_neg (by simp), if_pos ⟨by simp, by simpa using hb1⟩]
    exact hk H.length _ (by simp) AHeap.obj_push_eq (.inr ⟨rfl, Nat.le_refl _⟩) fun i hi _ => AHeap.obj_push_lt hi
  · simp only [sstep, hx, hy, hs, h3]
    rw [if_pos ⟨trivial, trivial, trivial, trivial, trivial, by simpa using hb.1, by simpa using hb.2⟩]
    have key := hk h (H.set h (some ⟨e, s, els ++ [r]⟩)) (by simp) (AHeap.obj_set_eq (AHeap.obj_lt h3)) (.inl rfl) fun i hi hne => AHeap.obj_set_ne (Ne.symm hne)
    exact key
theorem AccS.keep {H H' : AHeap} {a : AV} {e s : Nat} {els : List (List AV)} {ho : Option Nat} (h : AccS H a e s els ho) (hk : ∀ i, ho = some i → i < H.length → AHeap.obj H' i = AHeap.obj H i) : AccS H' a e s els ho := by
  rcases h with h | ⟨q, h1, h2, h3⟩
  · exact .inl h
  · exact .inr ⟨q, h1, h2, by rw [hk q h1 (AHeap.obj_lt h3)]; exact h3⟩
theorem li_snoc {k : Nat} {f : Nat → Int} : ic (li k f) ++ [[I (f k)]] = ic (li (k + 1) f) := by
  simp only [li, List.range_succ, List.map_append, List.map_cons, List.map_nil, ic_snoc]
theorem lb_snoc {k : Nat} {f : Nat → Bool} : bc (lb k f) ++ [[.bool (f k)]] = bc (lb (k + 1) f) := by
  simp only [lb, List.range_succ, List.map_append, List.map_cons, List.map_nil, bc]
theorem marks_ok {n : Nat} {ds : List Df} {all : Bool} {one : Int} (hn : n ≤ 1048576) : PCall Try.prog 72 [.agg [I n, .ro false (rows ds)], .bool all, I one] (.ro true (bc (lb n fun v => all || ((v : Int) == one)))) := by
  cases all
  · refine PCall.intro text72 (by simp) ?_
    unfold ir72
    simp only [walkS, wl, rgets, retv, argsEnv, ev, cst, cst1, cstL, AEnv.get, AEnv.trim, envput, qstep, abin, aun, evs, evo, deref, qload, target, if_true, if_false, Nat.reduceEqDiff, reduceIte, Nat.reduceAdd, AV.cells, AV.isTuple, setMany, alen, aiaddr, afill, Nat.reduceLeDiff, Nat.reduceMul, Nat.reduceLT, afillE, List.replicate]
    refine awp_loop (σ := Nat × AV) (fun s => [(1, .bool false), (2, I one), (3, .ptr 0 1 0 0), (7, s.2), (8, I s.1)]) (fun s H => AHeap.obj H 0 = some ⟨24, 2, [[I n, .ro false (rows ds)]]⟩ ∧ 1 ≤ H.length ∧ Acc 1 H s.2 4 1 (bc (lb s.1 fun v => false || ((v : Int) == one)))) (fun s => s.1 ≤ n) (fun s => n - s.1) (0, .nilSlice) (Nat.zero_le _) rfl ⟨rfl, by simp, .inl ⟨rfl, rfl⟩⟩ ?_
    rintro ⟨k, a⟩ H hk ⟨o0, hlen, hacc⟩
    simp only at hk hacc
    simp only [walkS, wl, rgets, retv, argsEnv, ev, cst, cst1, cstL, AEnv.get, AEnv.trim, envput, qstep, abin, aun, evs, evo, deref, qload, target, if_true, if_false, Nat.reduceEqDiff, reduceIte, Nat.reduceAdd, AV.cells, AV.isTuple, setMany, alen, aiaddr, afill, Nat.reduceLeDiff, Nat.reduceMul, Nat.reduceLT, afillE, List.replicate, o0]
    refine withBool_intro ?_ ?_ <;> intro hb <;> simp only [walkS, wl, rgets, retv, argsEnv, ev, cst, cst1, cstL, AEnv.get, AEnv.trim, envput, qstep, abin, aun, evs, evo, deref, qload, target, if_true, if_false, Nat.reduceEqDiff, reduceIte, Nat.reduceAdd, AV.cells, AV.isTuple, setMany, alen, aiaddr, afill, Nat.reduceLeDiff, Nat.reduceMul, Nat.reduceLT, afillE, List.replicate]
    · have hlt : k < n := by simpa using hb
      refine acc_append (lo := 1) (by simp) (hacc.push _) rfl rfl AHeap.obj_push_eq (by simp [bc_length, lb_length]; omega) fun a' H' hl' hacc' hkeep => ?_
      simp only [walkS, wl, rgets, retv, argsEnv, ev, cst, cst1, cstL, AEnv.get, AEnv.trim, envput, qstep, abin, aun, evs, evo, deref, qload, target, if_true, if_false, Nat.reduceEqDiff, reduceIte, Nat.reduceAdd, AV.cells, AV.isTuple, setMany, alen, aiaddr, afill, Nat.reduceLeDiff, Nat.reduceMul, Nat.reduceLT, afillE, List.replicate]
      rw [wrap_id (by omega) (by omega)]
      refine loop_end (k + 1, a') hlt (by simp only; omega) rfl ⟨by rw [hkeep 0 (by omega), AHeap.obj_push_lt (by omega)]; exact o0, by simp at hl'; omega, ?_⟩
      simp only
      rw [← lb_snoc]
      exact hacc'
    · have hk' : k = n := by simp at hb; omega
      subst hk'
      exact hacc.out (bc_simple _)
  · refine PCall.intro text72 (by simp) ?_
    unfold ir72
    simp only [walkS, wl, rgets, retv, argsEnv, ev, cst, cst1, cstL, AEnv.get, AEnv.trim, envput, qstep, abin, aun, evs, evo, deref, qload, target, if_true, if_false, Nat.reduceEqDiff, reduceIte, Nat.reduceAdd, AV.cells, AV.isTuple, setMany, alen, aiaddr, afill, Nat.reduceLeDiff, Nat.reduceMul, Nat.reduceLT, afillE, List.replicate]
    refine awp_loop (σ := Nat × AV) (fun s => [(1, .bool true), (2, I one), (3, .ptr 0 1 0 0), (7, s.2), (8, I s.1)]) (fun s H => AHeap.obj H 0 = some ⟨24, 2, [[I n, .ro false (rows ds)]]⟩ ∧ 1 ≤ H.length ∧ Acc 1 H s.2 4 1 (bc (lb s.1 fun v => true || ((v : Int) == one)))) (fun s => s.1 ≤ n) (fun s => n - s.1) (0, .nilSlice) (Nat.zero_le _) rfl ⟨rfl, by simp, .inl ⟨rfl, rfl⟩⟩ ?_
    rintro ⟨k, a⟩ H hk ⟨o0, hlen, hacc⟩
    simp only at hk hacc
    simp only [walkS, wl, rgets, retv, argsEnv, ev, cst, cst1, cstL, AEnv.get, AEnv.trim, envput, qstep, abin, aun, evs, evo, deref, qload, target, if_true, if_false, Nat.reduceEqDiff, reduceIte, Nat.reduceAdd, AV.cells, AV.isTuple, setMany, alen, aiaddr, afill, Nat.reduceLeDiff, Nat.reduceMul, Nat.reduceLT, afillE, List.replicate, o0]
    refine withBool_intro ?_ ?_ <;> intro hb <;> simp only [walkS, wl, rgets, retv, argsEnv, ev, cst, cst1, cstL, AEnv.get, AEnv.trim, envput, qstep, abin, aun, evs, evo, deref, qload, target, if_true, if_false, Nat.reduceEqDiff, reduceIte, Nat.reduceAdd, AV.cells, AV.isTuple, setMany, alen, aiaddr, afill, Nat.reduceLeDiff, Nat.reduceMul, Nat.reduceLT, afillE, List.replicate]
    · have hlt : k < n := by simpa using hb
      refine acc_append (lo := 1) (by simp) (hacc.push _) rfl rfl AHeap.obj_push_eq (by simp [bc_length, lb_length]; omega) fun a' H' hl' hacc' hkeep => ?_
      simp only [walkS, wl, rgets, retv, argsEnv, ev, cst, cst1, cstL, AEnv.get, AEnv.trim, envput, qstep, abin, aun, evs, evo, deref, qload, target, if_true, if_false, Nat.reduceEqDiff, reduceIte, Nat.reduceAdd, AV.cells, AV.isTuple, setMany, alen, aiaddr, afill, Nat.reduceLeDiff, Nat.reduceMul, Nat.reduceLT, afillE, List.replicate]
      rw [wrap_id (by omega) (by omega)]
      refine loop_end (k + 1, a') hlt (by simp only; omega) rfl ⟨by rw [hkeep 0 (by omega), AHeap.obj_push_lt (by omega)]; exact o0, by simp at hl'; omega, ?_⟩
      simp only
      rw [← lb_snoc]
      exact hacc'
    · have hk' : k = n := by simp at hb; omega
      subst hk'
      exact hacc.out (bc_simple _)
end Go.Proofs.Ytepnijjgdhldeaa
