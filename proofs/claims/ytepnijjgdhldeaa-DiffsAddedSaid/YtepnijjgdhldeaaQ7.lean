/- Top and Bottom: what they hand back. -/
import Derived.Test.YtepnijjgdhldeaaQ6
namespace Go.Proofs.Ytepnijjgdhldeaa
open Go.Awp
set_option linter.unusedSimpArgs false
set_option linter.unusedVariables false
set_option maxRecDepth 10000
def one (i : Nat) : Nat → Bool := fun x => decide (x = i)
/-- The greatest numbers of all, of a net that is valid. -/
def top (n : Nat) (ds : List Df) : List Int × Int :=
  if 0 ≤ (grown n ds (everyone n)).2 then ([], 41) else if (lb n (grown n ds (one 0)).1.has).all id then (li n (grown n ds (one 0)).1.long, 0) else ([], 42)
def Ended (H0 : AHeap) (n : Nat) (ds : List Df) (x : AV) (H : AHeap) : Prop :=
  Kept H0 H ∧ (((top n ds).2 ≠ 0 ∧ (top n ds).1 = [] ∧ x = .tuple [.nilSlice, I (top n ds).2]) ∨
    ((top n ds).2 = 0 ∧ (top n ds).1 = li n (grown n ds (one 0)).1.long ∧ ∃ h, H0.length ≤ h ∧ x = .tuple [.own h n 0 n, I 0] ∧ AHeap.obj H h = some ⟨3, 1, ic (li n (grown n ds (one 0)).1.long)⟩))
theorem any_false (bs : List Bool) : (bs.any fun x => false == x) = !bs.all id := by
  induction bs with
  | nil => rfl
  | cons b bs ih =>
    simp only [List.any_cons, List.all_cons, ih]
    cases b <;> simp
theorem ends_at {n : Nat} {ds : List Df} (hg : Good n ds) {b : Bool} {H0 : AHeap} : ACall Try.prog 70 [.agg [I n, .ro b (rows ds)]] H0 (Ended H0 n ds) := by
  have hn1 := hg.pos
  refine ACall.intro text70 (by simp) ?_
  unfold ir70
  simp only [walkS, wl, rgets, retv, argsEnv, ev, cst, cst1, cstL, AEnv.get, AEnv.trim, envput, qstep, abin, aun, evs, evo, deref, qload, target, if_true, if_false, Nat.reduceEqDiff, reduceIte, Nat.reduceAdd, AV.cells, AV.isTuple, setMany, alen, aiaddr, afill, Nat.reduceLeDiff, Nat.reduceMul, Nat.reduceLT, afillE, List.replicate]
  refine (reach_at hg (b := b) (i := 0) hn1).mono fun x H1 hx => ?_
  obtain ⟨⟨hl, kp⟩, hx⟩ := hx
  simp only [List.length_append, List.length_cons, List.length_nil] at hl kp
  have kp0 : ∀ i, i < H0.length → AHeap.obj H1 i = AHeap.obj H0 i := fun i hi => by rw [kp i (by omega), AHeap.obj_push_lt hi]
  rcases hx with ⟨hbad, rfl⟩ | ⟨hbad, h1, h2, h3, rfl, g1, g2, g3, o1, o2, o3⟩
  · have e : top n ds = ([], 41) := by unfold top; rw [if_pos hbad]
    simp only [walkS, wl, rgets, retv, argsEnv, ev, cst, cst1, cstL, AEnv.get, AEnv.trim, envput, qstep, abin, aun, evs, evo, deref, qload, target, if_true, if_false, Nat.reduceEqDiff, reduceIte, Nat.reduceAdd, AV.cells, AV.isTuple, setMany, alen, aiaddr, afill, Nat.reduceLeDiff, Nat.reduceMul, Nat.reduceLT, afillE, List.replicate]
    refine storeR rfl rfl AHeap.obj_push_eq rfl ⟨rfl, rfl, rfl, by simp⟩ fun H2 z1 z2 z3 => ?_
    simp only [walkS, wl, rgets, retv, argsEnv, ev, cst, cst1, cstL, AEnv.get, AEnv.trim, envput, qstep, abin, aun, evs, evo, deref, qload, target, if_true, if_false, Nat.reduceEqDiff, reduceIte, Nat.reduceAdd, AV.cells, AV.isTuple, setMany, alen, aiaddr, afill, Nat.reduceLeDiff, Nat.reduceMul, Nat.reduceLT, afillE, List.replicate, Int.reduceBNe]
    exact ⟨⟨by rw [z1]; simp; omega, fun i hi => by rw [z3 i (by omega), AHeap.obj_push_lt (by omega)]; exact kp0 i hi⟩, .inl ⟨by rw [e]; decide, by rw [e], by rw [e]⟩⟩
  · have hl3 := AHeap.obj_lt o3
    simp only [List.length_append, List.length_cons, List.length_nil] at g1
    simp only [walkS, wl, rgets, retv, argsEnv, ev, cst, cst1, cstL, AEnv.get, AEnv.trim, envput, qstep, abin, aun, evs, evo, deref, qload, target, if_true, if_false, Nat.reduceEqDiff, reduceIte, Nat.reduceAdd, AV.cells, AV.isTuple, setMany, alen, aiaddr, afill, Nat.reduceLeDiff, Nat.reduceMul, Nat.reduceLT, afillE, List.replicate]
    refine storeR rfl rfl AHeap.obj_push_eq rfl ⟨rfl, rfl, rfl, by simp⟩ fun H2 z1 z2 z3 => ?_
    simp only [AV.cells, setMany, List.set_cons_zero, List.set_cons_succ, Nat.zero_add, Nat.reduceAdd] at z2
    have z4 : ∀ q, q < H1.length → AHeap.obj H2 q = AHeap.obj H1 q := fun q hq => by rw [z3 q (by omega), AHeap.obj_push_lt hq]
    have kept : Kept H0 H2 := ⟨by rw [z1]; simp; omega, fun i hi => by rw [z4 i (by omega)]; exact kp0 i hi⟩
    have p1 := (z4 h1 (by omega)).trans o1
    have p2 := (z4 h2 (by omega)).trans o2
    simp only [walkS, wl, rgets, retv, argsEnv, ev, cst, cst1, cstL, AEnv.get, AEnv.trim, envput, qstep, abin, aun, evs, evo, deref, qload, target, if_true, if_false, Nat.reduceEqDiff, reduceIte, Nat.reduceAdd, AV.cells, AV.isTuple, setMany, alen, aiaddr, afill, Nat.reduceLeDiff, Nat.reduceMul, Nat.reduceLT, afillE, List.replicate, z2, Int.reduceBNe]
    refine call_pure (contains109 (b := false) (bs := lb n (grown n ds (fun x => decide (x = 0))).1.has) (by rw [lb_length]; have := hg.small; unfold big; omega)) (frzL_of' (d := 4) (carL_cons (car_ownN p2 (by rw [bc_length, lb_length]) (bc_simple _)) (carL_cons rfl rfl))) ?_
    rw [any_false]
    simp only [walkS, wl, rgets, retv, argsEnv, ev, cst, cst1, cstL, AEnv.get, AEnv.trim, envput, qstep, abin, aun, evs, evo, deref, qload, target, if_true, if_false, Nat.reduceEqDiff, reduceIte, Nat.reduceAdd, AV.cells, AV.isTuple, setMany, alen, aiaddr, afill, Nat.reduceLeDiff, Nat.reduceMul, Nat.reduceLT, afillE, List.replicate]
    refine withBool_intro ?_ ?_ <;> intro hb <;> simp only [walkS, wl, rgets, retv, argsEnv, ev, cst, cst1, cstL, AEnv.get, AEnv.trim, envput, qstep, abin, aun, evs, evo, deref, qload, target, if_true, if_false, Nat.reduceEqDiff, reduceIte, Nat.reduceAdd, AV.cells, AV.isTuple, setMany, alen, aiaddr, afill, Nat.reduceLeDiff, Nat.reduceMul, Nat.reduceLT, afillE, List.replicate, z2]
    · have e : top n ds = ([], 42) := by
        unfold top
        rw [if_neg hbad, if_neg]
        intro h
        have : (lb n (grown n ds (fun x => decide (x = 0))).1.has).all id = true := h
        rw [this] at hb; cases hb
      exact ⟨kept, .inl ⟨by rw [e]; decide, by rw [e], by rw [e]⟩⟩
    · have e : top n ds = (li n (grown n ds (one 0)).1.long, 0) := by
        unfold top
        rw [if_neg hbad, if_pos]
        show (lb n (grown n ds (fun x => decide (x = 0))).1.has).all id = true
        simpa using hb
      exact ⟨kept, .inr ⟨by rw [e], by rw [e], h1, by omega, rfl, p1⟩⟩
theorem good_of {n : Int} {ds : List Df} (hv : valid n ds = true) (hn : n ≤ 16) : ∃ m : Nat, n = m ∧ Good m ds ∧ m ≤ 16 := by
  obtain ⟨h1, h2, h3⟩ := valid_iff.1 hv
  have key : ∀ d, d ∈ ds → (0 ≤ d.1 ∧ d.1 < n) ∧ (0 ≤ d.2.1 ∧ d.2.1 < n) ∧ (-1073741824 ≤ d.2.2 ∧ d.2.2 ≤ 1073741824) := fun d hd => by
    have := h3 d hd
    simp [right] at this
    omega
  refine ⟨n.toNat, (Int.toNat_of_nonneg (by omega)).symm, ⟨by omega, by omega, by omega, ⟨fun d hd => (key d hd).1.1, fun d hd => (key d hd).2.1.1, fun d hd => ?_, fun d hd => ?_⟩, fun d hd => (key d hd).2.2⟩, by omega⟩
  · have := (key d hd).1; unfold fr; omega
  · have := (key d hd).2.1; unfold to; omega
def topV (n : Int) (ds : List Df) : List Int × Int := if valid n ds then top n.toNat ds else ([], 40)
theorem Top_ok {n : Int} {ds : List Df} (hs : valid n ds = true → n ≤ 16) : PCall Try.prog 24 [.agg [I n, .ro false (rows ds)]] (.tuple [.ro true (ic (topV n ds).1), I (topV n ds).2]) := by
  refine PCall.intro text24 (by simp) ?_
  unfold ir24
  simp only [walkS, wl, rgets, retv, argsEnv, ev, cst, cst1, cstL, AEnv.get, AEnv.trim, envput, qstep, abin, aun, evs, evo, deref, qload, target, if_true, if_false, Nat.reduceEqDiff, reduceIte, Nat.reduceAdd, AV.cells, AV.isTuple, setMany, alen, aiaddr, afill, Nat.reduceLeDiff, Nat.reduceMul, Nat.reduceLT, afillE, List.replicate]
  refine call_pure (check_ok n ds) (frzL_of' (d := 4) (carL_cons car_netF rfl)) ?_
  simp only [walkS, wl, rgets, retv, argsEnv, ev, cst, cst1, cstL, AEnv.get, AEnv.trim, envput, qstep, abin, aun, evs, evo, deref, qload, target, if_true, if_false, Nat.reduceEqDiff, reduceIte, Nat.reduceAdd, AV.cells, AV.isTuple, setMany, alen, aiaddr, afill, Nat.reduceLeDiff, Nat.reduceMul, Nat.reduceLT, afillE, List.replicate]
  refine withBool_intro ?_ ?_ <;> intro h <;> simp only [walkS, wl, rgets, retv, argsEnv, ev, cst, cst1, cstL, AEnv.get, AEnv.trim, envput, qstep, abin, aun, evs, evo, deref, qload, target, if_true, if_false, Nat.reduceEqDiff, reduceIte, Nat.reduceAdd, AV.cells, AV.isTuple, setMany, alen, aiaddr, afill, Nat.reduceLeDiff, Nat.reduceMul, Nat.reduceLT, afillE, List.replicate]
  · have hv := check_ne (by simpa using h)
    have e : topV n ds = ([], 40) := by simp [topV, hv]
    have e2 : check n ds = 40 := by simp [check, hv]
    rw [e, e2]; exact out_noneL
  · have hv := check_eq (by simpa using h)
    obtain ⟨m, rfl, hg, hm⟩ := good_of hv (hs hv)
    have e : topV m ds = top m ds := by simp [topV, hv]
    rw [e]
    refine (ends_at hg (b := false)).mono fun x H1 hx => ?_
    obtain ⟨_, ⟨e1, e2, rfl⟩ | ⟨e1, e2, q, hq, rfl, o1⟩⟩ := hx
    · simp only [walkS, wl, rgets, retv, argsEnv, ev, cst, cst1, cstL, AEnv.get, AEnv.trim, envput, qstep, abin, aun, evs, evo, deref, qload, target, if_true, if_false, Nat.reduceEqDiff, reduceIte, Nat.reduceAdd, AV.cells, AV.isTuple, setMany, alen, aiaddr, afill, Nat.reduceLeDiff, Nat.reduceMul, Nat.reduceLT, afillE, List.replicate]
      rw [e2]; exact out_noneL
    · simp only [walkS, wl, rgets, retv, argsEnv, ev, cst, cst1, cstL, AEnv.get, AEnv.trim, envput, qstep, abin, aun, evs, evo, deref, qload, target, if_true, if_false, Nat.reduceEqDiff, reduceIte, Nat.reduceAdd, AV.cells, AV.isTuple, setMany, alen, aiaddr, afill, Nat.reduceLeDiff, Nat.reduceMul, Nat.reduceLT, afillE, List.replicate]
      rw [e1, e2]
      exact out_two (out_of (d := 2) (car_ownN o1 (by rw [ic_length, li_length]) (ic_simple _))) out_int
end Go.Proofs.Ytepnijjgdhldeaa
/- Nets turned round. -/
namespace Go.Proofs.Ytepnijjgdhldeaa
open Go.Awp
set_option linter.unusedSimpArgs false
set_option linter.unusedVariables false
set_option maxRecDepth 10000
def turn (ds : List Df) : List Df := ds.map fun d => (d.2.1, d.1, d.2.2)
theorem turn_length {ds : List Df} : (turn ds).length = ds.length := by simp [turn]
theorem turn_take {ds : List Df} {k : Nat} (h : k < ds.length) : rows (turn (ds.take (k + 1))) = rows (turn (ds.take k)) ++ [[I ds[k].2.1, I ds[k].1, I ds[k].2.2]] := by
  rw [List.take_succ_eq_append_getElem h]
  unfold turn
  rw [List.map_append]
  exact rows_snoc _ _
theorem right_turn {d : Df} {n : Int} : right (d.2.1, d.1, d.2.2) n = right d n := by
  simp only [right]
  rw [Bool.eq_iff_iff]
  simp
  omega
theorem valid_turn {n : Int} {ds : List Df} : valid n (turn ds) = valid n ds := by
  simp only [valid, turn_length]
  congr 2
  simp only [turn, List.all_map]
  congr 1
  funext d
  exact right_turn
theorem turned_ok {n : Int} {ds : List Df} {b : Bool} (hb0 : ds.length * 24 ≤ 140737488355328) : PCall Try.prog 73 [.agg [I n, .ro b (rows ds)]] (.agg [I n, .ro true (rows (turn ds))]) := by
  refine PCall.intro text73 (by simp) ?_
  unfold ir73
  simp only [walkS, wl, rgets, retv, argsEnv, ev, cst, cst1, cstL, AEnv.get, AEnv.trim, envput, qstep, abin, aun, evs, evo, deref, qload, target, if_true, if_false, Nat.reduceEqDiff, reduceIte, Nat.reduceAdd, AV.cells, AV.isTuple, setMany, alen, aiaddr, afill, Nat.reduceLeDiff, Nat.reduceMul, Nat.reduceLT, afillE, List.replicate]
  refine storeR rfl rfl rfl rfl ⟨rfl, rfl, rfl, by simp⟩ fun H0 y1 y2 y3 => ?_
  have a0 : AHeap.obj H0 0 = some ⟨24, 2, [[I n, .ro b (rows ds)]]⟩ := by rw [y3 _ (by omega)]; rfl
  have a1 : AHeap.obj H0 1 = some ⟨24, 2, [[I 0, .nilSlice]]⟩ := by rw [y3 _ (by omega)]; rfl
  have hl0 : H0.length = 3 := by rw [y1]; rfl
  simp only [AV.cells, setMany, List.set_cons_zero, List.set_cons_succ, Nat.zero_add, Nat.reduceAdd] at y2
  clear y1 y3
  simp only [walkS, wl, rgets, retv, argsEnv, ev, cst, cst1, cstL, AEnv.get, AEnv.trim, envput, qstep, abin, aun, evs, evo, deref, qload, target, if_true, if_false, Nat.reduceEqDiff, reduceIte, Nat.reduceAdd, AV.cells, AV.isTuple, setMany, alen, aiaddr, afill, Nat.reduceLeDiff, Nat.reduceMul, Nat.reduceLT, afillE, List.replicate, a0, rows_length]
  refine awp_loop (σ := Nat × AV) (fun s => [(2, .ptr 1 1 0 0), (3, .ptr 2 1 0 0), (10, .ro b (rows ds)), (11, I ds.length), (12, I s.1)])
    (fun s H => AHeap.obj H 0 = some ⟨24, 2, [[I n, .ro b (rows ds)]]⟩ ∧ AHeap.obj H 1 = some ⟨24, 2, [[I 0, .nilSlice]]⟩ ∧ AHeap.obj H 2 = some ⟨24, 2, [[I n, s.2]]⟩ ∧ 3 ≤ H.length ∧ Acc 3 H s.2 39 3 (rows (turn (ds.take s.1))))
    (fun s => s.1 ≤ ds.length) (fun s => ds.length - s.1) (0, .nilSlice) (Nat.zero_le _) rfl ⟨a0, a1, y2, by omega, .inl ⟨rfl, rfl⟩⟩ ?_
  clear a0 a1 y2 hl0 H0
  rintro ⟨k, a⟩ H hk ⟨o0, o1, o2, hlen, hacc⟩
  simp only at hk o2 hacc
  simp only [walkS, wl, rgets, retv, argsEnv, ev, cst, cst1, cstL, AEnv.get, AEnv.trim, envput, qstep, abin, aun, evs, evo, deref, qload, target, if_true, if_false, Nat.reduceEqDiff, reduceIte, Nat.reduceAdd, AV.cells, AV.isTuple, setMany, alen, aiaddr, afill, Nat.reduceLeDiff, Nat.reduceMul, Nat.reduceLT, afillE, List.replicate, o0, rows_length]
  refine withBool_intro ?_ ?_ <;> intro hb <;> simp only [walkS, wl, rgets, retv, argsEnv, ev, cst, cst1, cstL, AEnv.get, AEnv.trim, envput, qstep, abin, aun, evs, evo, deref, qload, target, if_true, if_false, Nat.reduceEqDiff, reduceIte, Nat.reduceAdd, AV.cells, AV.isTuple, setMany, alen, aiaddr, afill, Nat.reduceLeDiff, Nat.reduceMul, Nat.reduceLT, afillE, List.replicate]
  · have hlt : k < ds.length := by simpa using hb
    simp only [walkS, wl, rgets, retv, argsEnv, ev, cst, cst1, cstL, AEnv.get, AEnv.trim, envput, qstep, abin, aun, evs, evo, deref, qload, target, if_true, if_false, Nat.reduceEqDiff, reduceIte, Nat.reduceAdd, AV.cells, AV.isTuple, setMany, alen, aiaddr, afill, Nat.reduceLeDiff, Nat.reduceMul, Nat.reduceLT, afillE, List.replicate, o0, rows_length, rows_get hlt, if_pos (show (k : Int) < ds.length by omega)]
    refine storeR rfl rfl AHeap.obj_push_eq rfl ⟨rfl, rfl, rfl, by simp⟩ fun H1 q1 q2 q3 => ?_
    have hL1 : H1.length = H.length + 1 := by rw [q1]; simp
    have back : ∀ q, q < H.length → AHeap.obj H1 q = AHeap.obj H q := fun q hq => by rw [q3 q (by omega), AHeap.obj_push_lt hq]
    simp only [List.set_cons_zero, List.set_cons_succ, setMany, AV.cells, Nat.zero_add, Nat.reduceAdd] at q2
    have o0' := (back 0 (by omega)).trans o0
    have o1' := (back 1 (by omega)).trans o1
    have o2' := (back 2 (by omega)).trans o2
    have hacc1 : Acc 3 H1 a 39 3 (rows (turn (ds.take k))) := by
      rcases hacc with h | ⟨q, h1, h2, h3⟩
      · exact .inl h
      · exact .inr ⟨q, h1, h2, by rw [back q (AHeap.obj_lt h3)]; exact h3⟩
    simp only [walkS, wl, rgets, retv, argsEnv, ev, cst, cst1, cstL, AEnv.get, AEnv.trim, envput, qstep, abin, aun, evs, evo, deref, qload, target, if_true, if_false, Nat.reduceEqDiff, reduceIte, Nat.reduceAdd, AV.cells, AV.isTuple, setMany, alen, aiaddr, afill, Nat.reduceLeDiff, Nat.reduceMul, Nat.reduceLT, afillE, List.replicate, o2', q2]
    refine acc_append (lo := 3) (by simp; omega) (hacc1.push _) rfl rfl AHeap.obj_push_eq (by simp only [rows_length, turn_length, List.length_take]; omega) fun a' H2 hl' hacc' hkeep => ?_
    simp only [List.length_append, List.length_cons, List.length_nil] at hl'
    have e : ∀ i, i < 3 → AHeap.obj H2 i = AHeap.obj H1 i := fun i hi => by rw [hkeep i hi, AHeap.obj_push_lt (by omega)]
    simp only [walkS, wl, rgets, retv, argsEnv, ev, cst, cst1, cstL, AEnv.get, AEnv.trim, envput, qstep, abin, aun, evs, evo, deref, qload, target, if_true, if_false, Nat.reduceEqDiff, reduceIte, Nat.reduceAdd, AV.cells, AV.isTuple, setMany, alen, aiaddr, afill, Nat.reduceLeDiff, Nat.reduceMul, Nat.reduceLT, afillE, List.replicate]
    have hone : a'.cells.length = 1 ∧ a'.isTuple = false ∧ a'.cells = [a'] := by
      obtain ⟨q, q1, rfl, q3⟩ := hacc'.resolve_left (by simp)
      exact ⟨rfl, rfl, rfl⟩
    refine storeR rfl rfl ((e 2 (by omega)).trans o2') rfl ⟨rfl, hone.1, hone.2.1, by simp⟩ fun H3 z1 z2 z3 => ?_
    simp only [hone.2.2, List.set_cons_zero, List.set_cons_succ, setMany, Nat.zero_add, Nat.reduceAdd] at z2
    simp only [walkS, wl, rgets, retv, argsEnv, ev, cst, cst1, cstL, AEnv.get, AEnv.trim, envput, qstep, abin, aun, evs, evo, deref, qload, target, if_true, if_false, Nat.reduceEqDiff, reduceIte, Nat.reduceAdd, AV.cells, AV.isTuple, setMany, alen, aiaddr, afill, Nat.reduceLeDiff, Nat.reduceMul, Nat.reduceLT, afillE, List.replicate]
    rw [wrap_id (by omega) (by omega)]
    refine loop_end (k + 1, a') hlt (by simp only; omega) rfl ⟨by rw [z3 0 (by omega), e 0 (by omega)]; exact o0', by rw [z3 1 (by omega), e 1 (by omega)]; exact o1', z2, by omega, ?_⟩
    simp only [turn_take hlt]
    obtain ⟨q, q1, h2, h3⟩ := hacc'.resolve_left (by simp)
    exact .inr ⟨q, q1, h2, by rw [z3 q (by omega)]; exact h3⟩
  · have hk' : k = ds.length := by simp at hb; omega
    subst hk'
    rw [List.take_length] at hacc
    simp only [walkS, wl, rgets, retv, argsEnv, ev, cst, cst1, cstL, AEnv.get, AEnv.trim, envput, qstep, abin, aun, evs, evo, deref, qload, target, if_true, if_false, Nat.reduceEqDiff, reduceIte, Nat.reduceAdd, AV.cells, AV.isTuple, setMany, alen, aiaddr, afill, Nat.reduceLeDiff, Nat.reduceMul, Nat.reduceLT, afillE, List.replicate, o2]
    have hone : a.cells = [a] ∧ a.isTuple = false := by
      rcases hacc with ⟨_, rfl⟩ | ⟨q, q1, rfl, q3⟩ <;> exact ⟨rfl, rfl⟩
    refine storeR rfl rfl o1 rfl ⟨rfl, rfl, rfl, by simp⟩ fun H3 z1 z2 z3 => ?_
    simp only [AV.cells, List.set_cons_zero, List.set_cons_succ, setMany, Nat.zero_add, Nat.reduceAdd] at z2
    simp only [walkS, wl, rgets, retv, argsEnv, ev, cst, cst1, cstL, AEnv.get, AEnv.trim, envput, qstep, abin, aun, evs, evo, deref, qload, target, if_true, if_false, Nat.reduceEqDiff, reduceIte, Nat.reduceAdd, AV.cells, AV.isTuple, setMany, alen, aiaddr, afill, Nat.reduceLeDiff, Nat.reduceMul, Nat.reduceLT, afillE, List.replicate, z2]
    refine out_agg2 out_int ?_ rfl rfl
    refine Acc.out (lo := 3) (e := 39) (s := 3) ?_ (rows_simple _)
    rcases hacc with h | ⟨q, h1, h2, h3⟩
    · exact .inl h
    · exact .inr ⟨q, h1, h2, by rw [z3 q (by omega)]; exact h3⟩
theorem Turned_ok {n : Int} {ds : List Df} {b : Bool} (hb0 : ds.length * 24 ≤ 140737488355328) : PCall Try.prog 74 [.agg [I n, .ro b (rows ds)]] (.agg [I n, .ro true (rows (turn ds))]) := by
  refine PCall.intro text74 (by simp) ?_
  unfold ir74
  simp only [walkS, wl, rgets, retv, argsEnv, ev, cst, cst1, cstL, AEnv.get, AEnv.trim, envput, qstep, abin, aun, evs, evo, deref, qload, target, if_true, if_false, Nat.reduceEqDiff, reduceIte, Nat.reduceAdd, AV.cells, AV.isTuple, setMany, alen, aiaddr, afill, Nat.reduceLeDiff, Nat.reduceMul, Nat.reduceLT, afillE, List.replicate]
  refine storeR rfl rfl rfl rfl ⟨rfl, rfl, rfl, by simp⟩ fun H0 y1 y2 y3 => ?_
  have a0 : AHeap.obj H0 0 = some ⟨24, 2, [[I n, .ro b (rows ds)]]⟩ := by rw [y3 _ (by omega)]; rfl
  have a1 : AHeap.obj H0 1 = some ⟨24, 2, [[I 0, .nilSlice]]⟩ := by rw [y3 _ (by omega)]; rfl
  have hl0 : H0.length = 3 := by rw [y1]; rfl
  simp only [AV.cells, setMany, List.set_cons_zero, List.set_cons_succ, Nat.zero_add, Nat.reduceAdd] at y2
  clear y1 y3
  simp only [walkS, wl, rgets, retv, argsEnv, ev, cst, cst1, cstL, AEnv.get, AEnv.trim, envput, qstep, abin, aun, evs, evo, deref, qload, target, if_true, if_false, Nat.reduceEqDiff, reduceIte, Nat.reduceAdd, AV.cells, AV.isTuple, setMany, alen, aiaddr, afill, Nat.reduceLeDiff, Nat.reduceMul, Nat.reduceLT, afillE, List.replicate, a0, rows_length]
  refine awp_loop (σ := Nat × AV) (fun s => [(1, .ptr 0 1 0 0), (2, .ptr 1 1 0 0), (3, .ptr 2 1 0 0), (4, I s.1)])
    (fun s H => AHeap.obj H 0 = some ⟨24, 2, [[I n, .ro b (rows ds)]]⟩ ∧ AHeap.obj H 1 = some ⟨24, 2, [[I 0, .nilSlice]]⟩ ∧ AHeap.obj H 2 = some ⟨24, 2, [[I n, s.2]]⟩ ∧ 3 ≤ H.length ∧ Acc 3 H s.2 39 3 (rows (turn (ds.take s.1))))
    (fun s => s.1 ≤ ds.length) (fun s => ds.length - s.1) (0, .nilSlice) (Nat.zero_le _) rfl ⟨a0, a1, y2, by omega, .inl ⟨rfl, rfl⟩⟩ ?_
  clear a0 a1 y2 hl0 H0
  rintro ⟨k, a⟩ H hk ⟨o0, o1, o2, hlen, hacc⟩
  simp only at hk o2 hacc
  simp only [walkS, wl, rgets, retv, argsEnv, ev, cst, cst1, cstL, AEnv.get, AEnv.trim, envput, qstep, abin, aun, evs, evo, deref, qload, target, if_true, if_false, Nat.reduceEqDiff, reduceIte, Nat.reduceAdd, AV.cells, AV.isTuple, setMany, alen, aiaddr, afill, Nat.reduceLeDiff, Nat.reduceMul, Nat.reduceLT, afillE, List.replicate, o0, rows_length]
  refine withBool_intro ?_ ?_ <;> intro hb <;> simp only [walkS, wl, rgets, retv, argsEnv, ev, cst, cst1, cstL, AEnv.get, AEnv.trim, envput, qstep, abin, aun, evs, evo, deref, qload, target, if_true, if_false, Nat.reduceEqDiff, reduceIte, Nat.reduceAdd, AV.cells, AV.isTuple, setMany, alen, aiaddr, afill, Nat.reduceLeDiff, Nat.reduceMul, Nat.reduceLT, afillE, List.replicate]
  · have hlt : k < ds.length := by simpa using hb
    simp only [walkS, wl, rgets, retv, argsEnv, ev, cst, cst1, cstL, AEnv.get, AEnv.trim, envput, qstep, abin, aun, evs, evo, deref, qload, target, if_true, if_false, Nat.reduceEqDiff, reduceIte, Nat.reduceAdd, AV.cells, AV.isTuple, setMany, alen, aiaddr, afill, Nat.reduceLeDiff, Nat.reduceMul, Nat.reduceLT, afillE, List.replicate, o0, rows_length, rows_get hlt, if_pos (show (k : Int) < ds.length by omega)]
    refine storeR rfl rfl AHeap.obj_push_eq rfl ⟨rfl, rfl, rfl, by simp⟩ fun H1 q1 q2 q3 => ?_
    have hL1 : H1.length = H.length + 1 := by rw [q1]; simp
    have back : ∀ q, q < H.length → AHeap.obj H1 q = AHeap.obj H q := fun q hq => by rw [q3 q (by omega), AHeap.obj_push_lt hq]
    simp only [List.set_cons_zero, List.set_cons_succ, setMany, AV.cells, Nat.zero_add, Nat.reduceAdd] at q2
    have o0' := (back 0 (by omega)).trans o0
    have o1' := (back 1 (by omega)).trans o1
    have o2' := (back 2 (by omega)).trans o2
    have hacc1 : Acc 3 H1 a 39 3 (rows (turn (ds.take k))) := by
      rcases hacc with h | ⟨q, h1, h2, h3⟩
      · exact .inl h
      · exact .inr ⟨q, h1, h2, by rw [back q (AHeap.obj_lt h3)]; exact h3⟩
    simp only [walkS, wl, rgets, retv, argsEnv, ev, cst, cst1, cstL, AEnv.get, AEnv.trim, envput, qstep, abin, aun, evs, evo, deref, qload, target, if_true, if_false, Nat.reduceEqDiff, reduceIte, Nat.reduceAdd, AV.cells, AV.isTuple, setMany, alen, aiaddr, afill, Nat.reduceLeDiff, Nat.reduceMul, Nat.reduceLT, afillE, List.replicate, o2', q2]
    refine acc_append (lo := 3) (by simp; omega) (hacc1.push _) rfl rfl AHeap.obj_push_eq (by simp only [rows_length, turn_length, List.length_take]; omega) fun a' H2 hl' hacc' hkeep => ?_
    simp only [List.length_append, List.length_cons, List.length_nil] at hl'
    have e : ∀ i, i < 3 → AHeap.obj H2 i = AHeap.obj H1 i := fun i hi => by rw [hkeep i hi, AHeap.obj_push_lt (by omega)]
    simp only [walkS, wl, rgets, retv, argsEnv, ev, cst, cst1, cstL, AEnv.get, AEnv.trim, envput, qstep, abin, aun, evs, evo, deref, qload, target, if_true, if_false, Nat.reduceEqDiff, reduceIte, Nat.reduceAdd, AV.cells, AV.isTuple, setMany, alen, aiaddr, afill, Nat.reduceLeDiff, Nat.reduceMul, Nat.reduceLT, afillE, List.replicate]
    have hone : a'.cells.length = 1 ∧ a'.isTuple = false ∧ a'.cells = [a'] := by
      obtain ⟨q, q1, rfl, q3⟩ := hacc'.resolve_left (by simp)
      exact ⟨rfl, rfl, rfl⟩
    refine storeR rfl rfl ((e 2 (by omega)).trans o2') rfl ⟨rfl, hone.1, hone.2.1, by simp⟩ fun H3 z1 z2 z3 => ?_
    simp only [hone.2.2, List.set_cons_zero, List.set_cons_succ, setMany, Nat.zero_add, Nat.reduceAdd] at z2
    simp only [walkS, wl, rgets, retv, argsEnv, ev, cst, cst1, cstL, AEnv.get, AEnv.trim, envput, qstep, abin, aun, evs, evo, deref, qload, target, if_true, if_false, Nat.reduceEqDiff, reduceIte, Nat.reduceAdd, AV.cells, AV.isTuple, setMany, alen, aiaddr, afill, Nat.reduceLeDiff, Nat.reduceMul, Nat.reduceLT, afillE, List.replicate]
    rw [wrap_id (by omega) (by omega)]
    refine loop_end (k + 1, a') hlt (by simp only; omega) rfl ⟨by rw [z3 0 (by omega), e 0 (by omega)]; exact o0', by rw [z3 1 (by omega), e 1 (by omega)]; exact o1', z2, by omega, ?_⟩
    simp only [turn_take hlt]
    obtain ⟨q, q1, h2, h3⟩ := hacc'.resolve_left (by simp)
    exact .inr ⟨q, q1, h2, by rw [z3 q (by omega)]; exact h3⟩
  · have hk' : k = ds.length := by simp at hb; omega
    subst hk'
    rw [List.take_length] at hacc
    simp only [walkS, wl, rgets, retv, argsEnv, ev, cst, cst1, cstL, AEnv.get, AEnv.trim, envput, qstep, abin, aun, evs, evo, deref, qload, target, if_true, if_false, Nat.reduceEqDiff, reduceIte, Nat.reduceAdd, AV.cells, AV.isTuple, setMany, alen, aiaddr, afill, Nat.reduceLeDiff, Nat.reduceMul, Nat.reduceLT, afillE, List.replicate, o2]
    have hone : a.cells = [a] ∧ a.isTuple = false := by
      rcases hacc with ⟨_, rfl⟩ | ⟨q, q1, rfl, q3⟩ <;> exact ⟨rfl, rfl⟩
    refine storeR rfl rfl o1 rfl ⟨rfl, rfl, rfl, by simp⟩ fun H3 z1 z2 z3 => ?_
    simp only [AV.cells, List.set_cons_zero, List.set_cons_succ, setMany, Nat.zero_add, Nat.reduceAdd] at z2
    simp only [walkS, wl, rgets, retv, argsEnv, ev, cst, cst1, cstL, AEnv.get, AEnv.trim, envput, qstep, abin, aun, evs, evo, deref, qload, target, if_true, if_false, Nat.reduceEqDiff, reduceIte, Nat.reduceAdd, AV.cells, AV.isTuple, setMany, alen, aiaddr, afill, Nat.reduceLeDiff, Nat.reduceMul, Nat.reduceLT, afillE, List.replicate, z2]
    refine out_agg2 out_int ?_ rfl rfl
    refine Acc.out (lo := 3) (e := 39) (s := 3) ?_ (rows_simple _)
    rcases hacc with h | ⟨q, h1, h2, h3⟩
    · exact .inl h
    · exact .inr ⟨q, h1, h2, by rw [z3 q (by omega)]; exact h3⟩
/-- Bottom, of a net that is valid. -/
def botV (n : Int) (ds : List Df) : List Int × Int := ((topV n (turn ds)).1.map (- ·), (topV n (turn ds)).2)
theorem good_turn {n : Nat} {ds : List Df} (hg : Good n ds) : Good n (turn ds) :=
  ⟨hg.pos, hg.small, by rw [turn_length]; exact hg.len, ⟨fun d hd => by
      obtain ⟨e, he, rfl⟩ := List.mem_map.1 hd; exact hg.fit.ge e he, fun d hd => by
      obtain ⟨e, he, rfl⟩ := List.mem_map.1 hd; exact hg.fit.ge1 e he, fun d hd => by
      obtain ⟨e, he, rfl⟩ := List.mem_map.1 hd; exact hg.fit.to e he, fun d hd => by
      obtain ⟨e, he, rfl⟩ := List.mem_map.1 hd; exact hg.fit.fr e he⟩, fun d hd => by
      obtain ⟨e, he, rfl⟩ := List.mem_map.1 hd; exact hg.w e he⟩
theorem li_neg {n : Nat} {f : Nat → Int} : (li n f).map (- ·) = li n fun i => - f i := by simp [li]
theorem Bottom_ok {n : Int} {ds : List Df} (hs : valid n ds = true → n ≤ 16) : PCall Try.prog 26 [.agg [I n, .ro false (rows ds)]] (.tuple [.ro true (ic (botV n ds).1), I (botV n ds).2]) := by
  refine PCall.intro text26 (by simp) ?_
  unfold ir26
  simp only [walkS, wl, rgets, retv, argsEnv, ev, cst, cst1, cstL, AEnv.get, AEnv.trim, envput, qstep, abin, aun, evs, evo, deref, qload, target, if_true, if_false, Nat.reduceEqDiff, reduceIte, Nat.reduceAdd, AV.cells, AV.isTuple, setMany, alen, aiaddr, afill, Nat.reduceLeDiff, Nat.reduceMul, Nat.reduceLT, afillE, List.replicate]
  refine call_pure (check_ok n ds) (frzL_of' (d := 4) (carL_cons car_netF rfl)) ?_
  simp only [walkS, wl, rgets, retv, argsEnv, ev, cst, cst1, cstL, AEnv.get, AEnv.trim, envput, qstep, abin, aun, evs, evo, deref, qload, target, if_true, if_false, Nat.reduceEqDiff, reduceIte, Nat.reduceAdd, AV.cells, AV.isTuple, setMany, alen, aiaddr, afill, Nat.reduceLeDiff, Nat.reduceMul, Nat.reduceLT, afillE, List.replicate]
  refine withBool_intro ?_ ?_ <;> intro h <;> simp only [walkS, wl, rgets, retv, argsEnv, ev, cst, cst1, cstL, AEnv.get, AEnv.trim, envput, qstep, abin, aun, evs, evo, deref, qload, target, if_true, if_false, Nat.reduceEqDiff, reduceIte, Nat.reduceAdd, AV.cells, AV.isTuple, setMany, alen, aiaddr, afill, Nat.reduceLeDiff, Nat.reduceMul, Nat.reduceLT, afillE, List.replicate]
  · have hv := check_ne (by simpa using h)
    have e : botV n ds = ([], 40) := by simp [botV, topV, valid_turn, hv]
    have e2 : check n ds = 40 := by simp [check, hv]
    rw [e, e2]; exact out_noneL
  · have hv := check_eq (by simpa using h)
    have hl := (valid_iff.1 hv).2.1
    obtain ⟨m, rfl, hg, hm⟩ := good_of hv (hs hv)
    have e : topV m (turn ds) = top m (turn ds) := by simp [topV, valid_turn, hv]
    refine call_pure (turned_ok (n := m) (ds := ds) (b := false) (by omega)) (frzL_of' (d := 4) (carL_cons car_netF rfl)) ?_
    simp only [walkS, wl, rgets, retv, argsEnv, ev, cst, cst1, cstL, AEnv.get, AEnv.trim, envput, qstep, abin, aun, evs, evo, deref, qload, target, if_true, if_false, Nat.reduceEqDiff, reduceIte, Nat.reduceAdd, AV.cells, AV.isTuple, setMany, alen, aiaddr, afill, Nat.reduceLeDiff, Nat.reduceMul, Nat.reduceLT, afillE, List.replicate]
    refine (ends_at (good_turn hg) (b := true)).mono fun x H1 hx => ?_
    obtain ⟨_, ⟨e1, e2, rfl⟩ | ⟨e1, e2, q, hq, rfl, o1⟩⟩ := hx
    · have e3 : botV m ds = ([], (top m (turn ds)).2) := by simp [botV, e, e2]
      simp only [walkS, wl, rgets, retv, argsEnv, ev, cst, cst1, cstL, AEnv.get, AEnv.trim, envput, qstep, abin, aun, evs, evo, deref, qload, target, if_true, if_false, Nat.reduceEqDiff, reduceIte, Nat.reduceAdd, AV.cells, AV.isTuple, setMany, alen, aiaddr, afill, Nat.reduceLeDiff, Nat.reduceMul, Nat.reduceLT, afillE, List.replicate]
      refine awp_loop (σ := Unit) (fun _ => [(5, .nilSlice), (6, I (top m (turn ds)).2), (20, I 0), (21, I 0)]) (fun _ _ => True) (fun _ => True) (fun _ => 0) () trivial rfl trivial ?_
      rintro _ H _ _
      simp only [walkS, wl, rgets, retv, argsEnv, ev, cst, cst1, cstL, AEnv.get, AEnv.trim, envput, qstep, abin, aun, evs, evo, deref, qload, target, if_true, if_false, Nat.reduceEqDiff, reduceIte, Nat.reduceAdd, AV.cells, AV.isTuple, setMany, alen, aiaddr, afill, Nat.reduceLeDiff, Nat.reduceMul, Nat.reduceLT, afillE, List.replicate]
      refine withBool_intro ?_ ?_ <;> intro hb <;> simp only [walkS, wl, rgets, retv, argsEnv, ev, cst, cst1, cstL, AEnv.get, AEnv.trim, envput, qstep, abin, aun, evs, evo, deref, qload, target, if_true, if_false, Nat.reduceEqDiff, reduceIte, Nat.reduceAdd, AV.cells, AV.isTuple, setMany, alen, aiaddr, afill, Nat.reduceLeDiff, Nat.reduceMul, Nat.reduceLT, afillE, List.replicate]
      · simp at hb
      · rw [e3]; exact out_noneL
    · have e3 : botV m ds = (li m fun i => - (grown m (turn ds) (one 0)).1.long i, 0) := by simp [botV, e, e1, e2, li_neg]
      have bd : ∀ v, -175921860444160 ≤ (grown m (turn ds) (one 0)).1.long v ∧ (grown m (turn ds) (one 0)).1.long v ≤ 175921860444160 := fun v => grown_bound (good_turn hg) (s := startL (one 0)) (fun _ => rfl) v
      rw [e3]
      generalize (grown m (turn ds) (one 0)).1.long = f at o1 bd ⊢
      simp only [walkS, wl, rgets, retv, argsEnv, ev, cst, cst1, cstL, AEnv.get, AEnv.trim, envput, qstep, abin, aun, evs, evo, deref, qload, target, if_true, if_false, Nat.reduceEqDiff, reduceIte, Nat.reduceAdd, AV.cells, AV.isTuple, setMany, alen, aiaddr, afill, Nat.reduceLeDiff, Nat.reduceMul, Nat.reduceLT, afillE, List.replicate, o1, ic_length, li_length]
      refine awp_loop (σ := Nat) (fun k => [(5, .own q m 0 m), (6, I 0), (20, I m), (21, I k)]) (fun k H => AHeap.obj H q = some ⟨3, 1, ic (li m fun i => if i < k then - f i else f i)⟩) (fun k => k ≤ m) (fun k => m - k) 0 (Nat.zero_le _) rfl (by rw [o1]; simp) ?_
      rintro k H hk wx
      simp only [walkS, wl, rgets, retv, argsEnv, ev, cst, cst1, cstL, AEnv.get, AEnv.trim, envput, qstep, abin, aun, evs, evo, deref, qload, target, if_true, if_false, Nat.reduceEqDiff, reduceIte, Nat.reduceAdd, AV.cells, AV.isTuple, setMany, alen, aiaddr, afill, Nat.reduceLeDiff, Nat.reduceMul, Nat.reduceLT, afillE, List.replicate]
      refine withBool_intro ?_ ?_ <;> intro hb <;> simp only [walkS, wl, rgets, retv, argsEnv, ev, cst, cst1, cstL, AEnv.get, AEnv.trim, envput, qstep, abin, aun, evs, evo, deref, qload, target, if_true, if_false, Nat.reduceEqDiff, reduceIte, Nat.reduceAdd, AV.cells, AV.isTuple, setMany, alen, aiaddr, afill, Nat.reduceLeDiff, Nat.reduceMul, Nat.reduceLT, afillE, List.replicate]
      · have hlt : k < m := by simpa using hb
        simp only [walkS, wl, rgets, retv, argsEnv, ev, cst, cst1, cstL, AEnv.get, AEnv.trim, envput, qstep, abin, aun, evs, evo, deref, qload, target, if_true, if_false, Nat.reduceEqDiff, reduceIte, Nat.reduceAdd, AV.cells, AV.isTuple, setMany, alen, aiaddr, afill, Nat.reduceLeDiff, Nat.reduceMul, Nat.reduceLT, afillE, List.replicate, wx, li_get hlt, ic_length, li_length, if_pos (show (k : Int) < m by omega), if_neg (Nat.lt_irrefl k)]
        have b := bd k
        rw [wrap_id (by omega) (by omega)]
        refine storeR rfl rfl wx (li_get hlt) ⟨by simp [ic_length, li_length], rfl, rfl, by simp⟩ fun H3 z1 z2 z3 => ?_
        simp only [AV.cells, setMany, List.set_cons_zero, li_set] at z2
        simp only [walkS, wl, rgets, retv, argsEnv, ev, cst, cst1, cstL, AEnv.get, AEnv.trim, envput, qstep, abin, aun, evs, evo, deref, qload, target, if_true, if_false, Nat.reduceEqDiff, reduceIte, Nat.reduceAdd, AV.cells, AV.isTuple, setMany, alen, aiaddr, afill, Nat.reduceLeDiff, Nat.reduceMul, Nat.reduceLT, afillE, List.replicate]
        rw [wrap_id (by omega) (by omega)]
        refine loop_end (k + 1) hlt (by omega) rfl ?_
        rw [z2]
        have : upd (fun i => if i < k then - f i else f i) k (0 - f k) = fun i => if i < k + 1 then - f i else f i := by
          funext i
          by_cases e : i = k
          · subst e; rw [upd_eq, if_pos (by omega)]; omega
          · rw [upd_ne e]
            by_cases h : i < k
            · rw [if_pos h, if_pos (by omega)]
            · rw [if_neg h, if_neg (by omega)]
        rw [this]
      · have hk' : k = m := by simp at hb; omega
        subst hk'
        have hxe : li k (fun i => if i < k then - f i else f i) = li k fun i => - f i := by
          unfold li
          exact List.map_congr_left fun i hi => if_pos (List.mem_range.1 hi)
        rw [hxe] at wx
        exact out_two (out_of (d := 2) (car_ownN wx (by rw [ic_length, li_length]) (ic_simple _))) out_int
end Go.Proofs.Ytepnijjgdhldeaa
