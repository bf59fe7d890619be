/- Contracts: shortest of the specification. -/
import Derived.Test.YtepnijjgdhldeaaQD30
import Derived.Test.YtepnijjgdhldeaaQV1
namespace Go.Proofs.Ytepnijjgdhldeaa
open Go.Awp
set_option linter.unusedSimpArgs false
set_option linter.unusedVariables false
set_option linter.unusedSectionVars false
set_option maxRecDepth 10000
set_option maxHeartbeats 8000000
/-- The way back from a node, as the specification lists it. -/
def wayL (ls : List Df) (s : Gs) (a q : Nat) : List Int := li q fun u => s.last (itp ls s u a)
theorem back_rest {n : Nat} {ls : List Df} {f a q h7 : Nat} {s : Gs} {H : AHeap} {Q : AX → AEnv → AHeap → Prop} {x8 x9 x11 x38 : AV} (hg : Good n ls) (hw : Way n ls s (one f) a q) (hf : f < n)
    (o0 : AHeap.obj H 0 = some ⟨24, 2, [[I n, .ro false (rows ls)]]⟩) (o7 : AHeap.obj H h7 = some ⟨3, 1, ic (li n s.last)⟩)
    (hQ : ∀ H x, Out H x (.ro true (ic (wayL ls s a q))) → Q .ret [(6, x)] H) :
    awp Try.prog ir116c Q [(1, I f), (2, I a), (3, .ptr 0 1 0 0), (7, .own h7 n 0 n), (8, x8), (9, x9), (11, x11), (38, x38)] H := by
  unfold ir116c
  have hn2 := hg.small
  have hdl := hg.len
  have hroot : itp ls s q a = f := by have := hw.root; simpa [one] using this
  have hq := hw.lt
  simp only [walkS, wl, rgets, retv, argsEnv, ev, cst, cst1, cstL, AEnv.get, AEnv.trim, envput, qstep, abin, aun, evs, evo, deref, qload, target, if_true, if_false, Nat.reduceEqDiff, reduceIte, Nat.reduceAdd, AV.cells, AV.isTuple, setMany, alen, aiaddr, afill, Nat.reduceLeDiff, Nat.reduceMul, Nat.reduceLT, afillE, List.replicate]
  refine awp_loop (σ := Nat × AV) (fun t => [(1, I f), (3, .ptr 0 1 0 0), (7, .own h7 n 0 n), (14, t.2), (15, I (itp ls s t.1 a))])
    (fun t H => AHeap.obj H 0 = some ⟨24, 2, [[I n, .ro false (rows ls)]]⟩ ∧ AHeap.obj H h7 = some ⟨3, 1, ic (li n s.last)⟩ ∧ h7 < H.length ∧ Acc (h7 + 1) H t.2 3 1 (ic (li t.1 fun u => s.last (itp ls s u a))))
    (fun t => t.1 ≤ q) (fun t => q - t.1) (0, .nilSlice) (Nat.zero_le _) rfl ⟨o0, o7, AHeap.obj_lt o7, .inl ⟨rfl, rfl⟩⟩ ?_
  clear o0 o7 H
  rintro ⟨t, x⟩ H ht ⟨o0, o7, h7l, hacc⟩
  simp only at ht hacc
  have hlt := hw.itp_lt hg t ht
  by_cases he : t = q
  · subst he
    have e1 : (((itp ls s t a : Nat) : Int) != (f : Int)) = false := by simp [hroot]
    simp only [walkS, wl, rgets, retv, argsEnv, ev, cst, cst1, cstL, AEnv.get, AEnv.trim, envput, qstep, abin, aun, evs, evo, deref, qload, target, if_true, if_false, Nat.reduceEqDiff, reduceIte, Nat.reduceAdd, AV.cells, AV.isTuple, setMany, alen, aiaddr, afill, Nat.reduceLeDiff, Nat.reduceMul, Nat.reduceLT, afillE, List.replicate, e1]
    exact hQ _ _ (hacc.out (ic_simple _))
  · obtain ⟨j, d, p1, p2, p3, p4, p5⟩ := hw.led t (by omega)
    have hne : itp ls s t a ≠ f := fun e => by
      have := hw.stop
      rw [hroot, ← e, p1] at this
      omega
    have e1 : (((itp ls s t a : Nat) : Int) != (f : Int)) = true := by simp; omega
    have hj : j < ls.length := by
      rw [List.getElem?_eq_some_iff] at p2
      exact p2.1
    have hge := hg.fit.ge1 d (List.mem_of_getElem? p2)
    have hd1 : d.1 = ((itp ls s (t + 1) a : Nat) : Int) := by rw [← p4]; unfold fr; omega
    have hrow : (rows ls)[j]? = some [I d.1, I d.2.1, I d.2.2] := by simp [rows, p2, dc]
    simp only [walkS, wl, rgets, retv, argsEnv, ev, cst, cst1, cstL, AEnv.get, AEnv.trim, envput, qstep, abin, aun, evs, evo, deref, qload, target, if_true, if_false, Nat.reduceEqDiff, reduceIte, Nat.reduceAdd, AV.cells, AV.isTuple, setMany, alen, aiaddr, afill, Nat.reduceLeDiff, Nat.reduceMul, Nat.reduceLT, afillE, List.replicate, e1, o7, ic_length, li_length, li_get hlt, if_pos (show ((itp ls s t a : Nat) : Int) < (n : Int) by omega), p1]
    refine acc_append (lo := h7 + 1) (by simp; omega) (hacc.push _) rfl rfl AHeap.obj_push_eq (by simp only [ic_length, li_length]; omega) fun a' H2 hl' hacc' hkeep => ?_
    simp only [List.length_append, List.length_cons, List.length_nil] at hl'
    have e : ∀ i, i < h7 + 1 → AHeap.obj H2 i = AHeap.obj H i := fun i hi => by rw [hkeep i hi, AHeap.obj_push_lt (by omega)]
    have o0' := (e 0 (by omega)).trans o0
    have o7' := (e h7 (by omega)).trans o7
    simp only [walkS, wl, rgets, retv, argsEnv, ev, cst, cst1, cstL, AEnv.get, AEnv.trim, envput, qstep, abin, aun, evs, evo, deref, qload, target, if_true, if_false, Nat.reduceEqDiff, reduceIte, Nat.reduceAdd, AV.cells, AV.isTuple, setMany, alen, aiaddr, afill, Nat.reduceLeDiff, Nat.reduceMul, Nat.reduceLT, afillE, List.replicate, o0', hrow, rows_length, if_pos (show (j : Int) < (ls.length : Int) by omega), hd1]
    refine loop_end (t + 1, a') (by simp only; omega) (by simp only; omega) rfl ⟨o0', o7', by omega, ?_⟩
    have := hacc'
    rw [← p1, li_snoc (f := fun u => s.last (itp ls s u a))] at this
    exact this
structure SF (h7 h8 h9 n : Nat) (ls : List Df) (s : Gs) (H : AHeap) : Prop where
  o0 : AHeap.obj H 0 = some ⟨24, 2, [[I n, .ro false (rows ls)]]⟩
  o7 : AHeap.obj H h7 = some ⟨3, 1, ic (li n s.last)⟩
  o8 : AHeap.obj H h8 = some ⟨3, 1, ic (li n s.long)⟩
  o9 : AHeap.obj H h9 = some ⟨4, 1, bc (lb n s.has)⟩
theorem SF.other {h7 h8 h9 n : Nat} {ls : List Df} {s : Gs} {H H1 : AHeap} (h : SF h7 h8 h9 n ls s H) (hk : ∀ q, q < H.length → AHeap.obj H1 q = AHeap.obj H q) : SF h7 h8 h9 n ls s H1 :=
  ⟨by rw [hk _ (AHeap.obj_lt h.o0)]; exact h.o0, by rw [hk _ (AHeap.obj_lt h.o7)]; exact h.o7, by rw [hk _ (AHeap.obj_lt h.o8)]; exact h.o8, by rw [hk _ (AHeap.obj_lt h.o9)]; exact h.o9⟩
theorem rounds_rest {n : Nat} {ls : List Df} {f a q h7 h8 h9 : Nat} {H : AHeap} {Q : AX → AEnv → AHeap → Prop} {x10 x20 : AV} (hg : Good n ls) (hf : f < n) (hw : Way n ls (iter ls (startL (one f)) n) (one f) a q)
    (g7 : h7 ≠ 0) (g8 : h8 ≠ 0) (g9 : h9 ≠ 0) (g78 : h7 ≠ h8) (g79 : h7 ≠ h9) (g89 : h8 ≠ h9) (sf : SF h7 h8 h9 n ls (startL (one f)) H)
    (hQ : ∀ H x, Out H x (.ro true (ic (wayL ls (iter ls (startL (one f)) n) a q))) → Q .ret [(6, x)] H) :
    awp Try.prog ir116b Q [(1, I f), (2, I a), (3, .ptr 0 1 0 0), (7, .own h7 n 0 n), (8, .own h8 n 0 n), (9, .own h9 n 0 n), (10, x10), (20, x20)] H := by
  unfold ir116b
  have hn1 := hg.pos
  have hn2 := hg.small
  have hdl := hg.len
  simp only [walkS, wl, rgets, retv, argsEnv, ev, cst, cst1, cstL, AEnv.get, AEnv.trim, envput, qstep, abin, aun, evs, evo, deref, qload, target, if_true, if_false, Nat.reduceEqDiff, reduceIte, Nat.reduceAdd, AV.cells, AV.isTuple, setMany, alen, aiaddr, afill, Nat.reduceLeDiff, Nat.reduceMul, Nat.reduceLT, afillE, List.replicate]
  refine awp_loop (σ := Nat) (fun r => [(1, I f), (2, I a), (3, .ptr 0 1 0 0), (7, .own h7 n 0 n), (8, .own h8 n 0 n), (9, .own h9 n 0 n), (11, I r)]) (fun r H => SF h7 h8 h9 n ls (iter ls (startL (one f)) r) H) (fun r => r ≤ n) (fun r => n - r) 0 (Nat.zero_le _) rfl sf ?_
  clear sf H
  intro r H hr sf
  simp only [walkS, wl, rgets, retv, argsEnv, ev, cst, cst1, cstL, AEnv.get, AEnv.trim, envput, qstep, abin, aun, evs, evo, deref, qload, target, if_true, if_false, Nat.reduceEqDiff, reduceIte, Nat.reduceAdd, AV.cells, AV.isTuple, setMany, alen, aiaddr, afill, Nat.reduceLeDiff, Nat.reduceMul, Nat.reduceLT, afillE, List.replicate, sf.o0]
  refine withBool_intro ?_ ?_ <;> intro hb <;> simp only [walkS, wl, rgets, retv, argsEnv, ev, cst, cst1, cstL, AEnv.get, AEnv.trim, envput, qstep, abin, aun, evs, evo, deref, qload, target, if_true, if_false, Nat.reduceEqDiff, reduceIte, Nat.reduceAdd, AV.cells, AV.isTuple, setMany, alen, aiaddr, afill, Nat.reduceLeDiff, Nat.reduceMul, Nat.reduceLT, afillE, List.replicate, sf.o0]
  · have hrk : r < n := by simpa using hb
    refine awp_loop (σ := Nat) (fun k => [(1, I f), (2, I a), (3, .ptr 0 1 0 0), (7, .own h7 n 0 n), (8, .own h8 n 0 n), (9, .own h9 n 0 n), (11, I r), (12, I k)]) (fun k H => SF h7 h8 h9 n ls (part ls (iter ls (startL (one f)) r) k).1 H) (fun k => k ≤ ls.length) (fun k => ls.length - k) 0 (Nat.zero_le _) rfl sf ?_
    clear sf hb H
    intro k H hk sf
    simp only [walkS, wl, rgets, retv, argsEnv, ev, cst, cst1, cstL, AEnv.get, AEnv.trim, envput, qstep, abin, aun, evs, evo, deref, qload, target, if_true, if_false, Nat.reduceEqDiff, reduceIte, Nat.reduceAdd, AV.cells, AV.isTuple, setMany, alen, aiaddr, afill, Nat.reduceLeDiff, Nat.reduceMul, Nat.reduceLT, afillE, List.replicate, sf.o0, rows_length]
    refine withBool_intro ?_ ?_ <;> intro hb <;> simp only [walkS, wl, rgets, retv, argsEnv, ev, cst, cst1, cstL, AEnv.get, AEnv.trim, envput, qstep, abin, aun, evs, evo, deref, qload, target, if_true, if_false, Nat.reduceEqDiff, reduceIte, Nat.reduceAdd, AV.cells, AV.isTuple, setMany, alen, aiaddr, afill, Nat.reduceLeDiff, Nat.reduceMul, Nat.reduceLT, afillE, List.replicate, sf.o0]
    · have hlt : k < ls.length := by simpa using hb
      have hd : ls[k]? = some ls[k] := List.getElem?_eq_getElem hlt
      obtain ⟨u, v, w, hdw⟩ := trip ls[k] (hg.fit.ge1 _ (List.getElem_mem hlt)) (hg.fit.ge _ (List.getElem_mem hlt))
      have hfu := hg.fit.fr _ (List.getElem_mem hlt)
      have hfv := hg.fit.to _ (List.getElem_mem hlt)
      have hww := hg.w _ (List.getElem_mem hlt)
      rw [hdw] at hfu hfv hww hd
      simp only [fr, to, Int.toNat_natCast] at hfu hfv hww
      have hrow : (rows ls)[k]? = some [I u, I v, I w] := by simp [rows, hd, dc]
      have hwk : IntKind.i64.wrap ((k : Int) + 1) = ((k + 1 : Nat) : Int) := by rw [wrap_id (by omega) (by omega)]; simp
      simp only [walkS, wl, rgets, retv, argsEnv, ev, cst, cst1, cstL, AEnv.get, AEnv.trim, envput, qstep, abin, aun, evs, evo, deref, qload, target, if_true, if_false, Nat.reduceEqDiff, reduceIte, Nat.reduceAdd, AV.cells, AV.isTuple, setMany, alen, aiaddr, afill, Nat.reduceLeDiff, Nat.reduceMul, Nat.reduceLT, afillE, List.replicate, sf.o0, hrow, rows_length, if_pos (show (k : Int) < ls.length by omega)]
      have hh7 := AHeap.obj_lt sf.o7
      have hh8 := AHeap.obj_lt sf.o8
      have hh9 := AHeap.obj_lt sf.o9
      have hh0 := AHeap.obj_lt sf.o0
      refine storeR rfl rfl AHeap.obj_push_eq rfl ⟨rfl, rfl, rfl, by simp⟩ fun H1 q1 q2 q3 => ?_
      have sf1 := sf.other (H1 := H1) fun q hq => by rw [q3 q (by omega), AHeap.obj_push_lt hq]
      have hL1 : H1.length = H.length + 1 := by rw [q1]; simp
      simp only [List.set_cons_zero, List.set_cons_succ, setMany, AV.cells, Nat.zero_add, Nat.reduceAdd] at q2
      have hbd := part_bound hg.w (iter_bound hg.w (s := startL (one f)) (fun _ => rfl) r) k
      have hsteps : r * ls.length + k ≤ 180224 := by
        have : r * ls.length ≤ 21 * 8192 := Nat.mul_le_mul (by omega) hg.len
        omega
      have hps := part_succ (s := iter ls (startL (one f)) r) hd
      generalize hp : part ls (iter ls (startL (one f)) r) k = p at sf1 hbd hps ⊢
      obtain ⟨p, c⟩ := p
      simp only at sf1 hbd hps
      have b1 := hbd u
      have b2 := hbd v
      obtain ⟨o0, o7, o8, o9⟩ := sf1
      have hu' : (u : Int) < n := by omega
      have hv' : (v : Int) < n := by omega
      have hwl : IntKind.i64.wrap (p.long u + w) = p.long u + w := wrap_id (by omega) (by omega)
      have no : better p ((u : Int), (v : Int), w) = false → SF h7 h8 h9 n ls (part ls (iter ls (startL (one f)) r) (k + 1)).1 H1 := fun hbf => by
        rw [hbf] at hps
        simp only [Bool.false_eq_true, if_false] at hps
        rw [hps]; exact ⟨o0, o7, o8, o9⟩
      simp only [walkS, wl, rgets, retv, argsEnv, ev, cst, cst1, cstL, AEnv.get, AEnv.trim, envput, qstep, abin, aun, evs, evo, deref, qload, target, if_true, if_false, Nat.reduceEqDiff, reduceIte, Nat.reduceAdd, AV.cells, AV.isTuple, setMany, alen, aiaddr, afill, Nat.reduceLeDiff, Nat.reduceMul, Nat.reduceLT, afillE, List.replicate, o0, o7, o8, o9, q2, lb_get hfu, lb_get hfv, li_get hfu, li_get hfv, lb_length, bc_length, li_length, ic_length, if_pos hu', if_pos hv']
      have bd : ∀ b, better p ((u : Int), (v : Int), w) = b ↔ (p.has u && (!p.has v || decide (p.long u + w < p.long v))) = b := fun b => Iff.rfl
      cases hcu : p.has u with
      | false =>
        simp only [walkS, wl, rgets, retv, argsEnv, ev, cst, cst1, cstL, AEnv.get, AEnv.trim, envput, qstep, abin, aun, evs, evo, deref, qload, target, if_true, if_false, Nat.reduceEqDiff, reduceIte, Nat.reduceAdd, AV.cells, AV.isTuple, setMany, alen, aiaddr, afill, Nat.reduceLeDiff, Nat.reduceMul, Nat.reduceLT, afillE, List.replicate, hwk]
        exact loop_end (k + 1) hlt (by omega) rfl (no ((bd _).2 (by rw [hcu]; rfl)))
      | true =>
        simp only [walkS, wl, rgets, retv, argsEnv, ev, cst, cst1, cstL, AEnv.get, AEnv.trim, envput, qstep, abin, aun, evs, evo, deref, qload, target, if_true, if_false, Nat.reduceEqDiff, reduceIte, Nat.reduceAdd, AV.cells, AV.isTuple, setMany, alen, aiaddr, afill, Nat.reduceLeDiff, Nat.reduceMul, Nat.reduceLT, afillE, List.replicate, o0, o7, o8, o9, q2, lb_get hfu, lb_get hfv, li_get hfu, li_get hfv, lb_length, bc_length, li_length, ic_length, if_pos hu', if_pos hv']
        cases hcv : p.has v with
        | false =>
          simp only [walkS, wl, rgets, retv, argsEnv, ev, cst, cst1, cstL, AEnv.get, AEnv.trim, envput, qstep, abin, aun, evs, evo, deref, qload, target, if_true, if_false, Nat.reduceEqDiff, reduceIte, Nat.reduceAdd, AV.cells, AV.isTuple, setMany, alen, aiaddr, afill, Nat.reduceLeDiff, Nat.reduceMul, Nat.reduceLT, afillE, List.replicate, o0, o7, o8, o9, q2, hwl, Bool.not_false, lb_get hfu, lb_get hfv, li_get hfu, li_get hfv, lb_length, bc_length, li_length, ic_length, if_pos hu', if_pos hv']
          refine storeR rfl rfl o8 (li_get hfv) ⟨by simp [ic_length, li_length], rfl, rfl, by simp⟩ fun H2 r1 r2 r3 => ?_
          have o0a := (r3 0 (by omega)).trans o0
          have o7a := (r3 h7 (by omega)).trans o7
          have o9a := (r3 h9 (by omega)).trans o9
          have q2a := (r3 H.length (by omega)).trans q2
          simp only [AV.cells, setMany, List.set_cons_zero, li_set] at r2
          simp only [walkS, wl, rgets, retv, argsEnv, ev, cst, cst1, cstL, AEnv.get, AEnv.trim, envput, qstep, abin, aun, evs, evo, deref, qload, target, if_true, if_false, Nat.reduceEqDiff, reduceIte, Nat.reduceAdd, AV.cells, AV.isTuple, setMany, alen, aiaddr, afill, Nat.reduceLeDiff, Nat.reduceMul, Nat.reduceLT, afillE, List.replicate, o0a, o7a, o9a, r2, q2a, lb_get hfu, lb_get hfv, li_get hfu, li_get hfv, lb_length, bc_length, li_length, ic_length, if_pos hu', if_pos hv']
          refine storeR rfl rfl o9a (lb_get hfv) ⟨by simp [bc_length, lb_length], rfl, rfl, by simp⟩ fun H3 x1 x2 x3 => ?_
          simp only [AV.cells, setMany, List.set_cons_zero, lb_set] at x2
          have o7b := (x3 h7 (by omega)).trans o7a
          have q2b := (x3 H.length (by omega)).trans q2a
          simp only [walkS, wl, rgets, retv, argsEnv, ev, cst, cst1, cstL, AEnv.get, AEnv.trim, envput, qstep, abin, aun, evs, evo, deref, qload, target, if_true, if_false, Nat.reduceEqDiff, reduceIte, Nat.reduceAdd, AV.cells, AV.isTuple, setMany, alen, aiaddr, afill, Nat.reduceLeDiff, Nat.reduceMul, Nat.reduceLT, afillE, List.replicate, o7b, x2, q2b, lb_get hfu, lb_get hfv, li_get hfu, li_get hfv, lb_length, bc_length, li_length, ic_length, if_pos hu', if_pos hv']
          refine storeR rfl rfl o7b (li_get hfv) ⟨by simp [ic_length, li_length], rfl, rfl, by simp⟩ fun H4 v1 v2 v3 => ?_
          simp only [AV.cells, setMany, List.set_cons_zero, li_set] at v2
          have hbt : better p ((u : Int), (v : Int), w) = true := (bd _).2 (by rw [hcu, hcv]; rfl)
          rw [hbt, if_pos rfl] at hps
          simp only [walkS, wl, rgets, retv, argsEnv, ev, cst, cst1, cstL, AEnv.get, AEnv.trim, envput, qstep, abin, aun, evs, evo, deref, qload, target, if_true, if_false, Nat.reduceEqDiff, reduceIte, Nat.reduceAdd, AV.cells, AV.isTuple, setMany, alen, aiaddr, afill, Nat.reduceLeDiff, Nat.reduceMul, Nat.reduceLT, afillE, List.replicate, hwk]
          refine loop_end (k + 1) hlt (by omega) rfl ?_
          simp only [hps]
          exact ⟨(v3 0 (by omega)).trans ((x3 0 (by omega)).trans o0a), v2, (v3 h8 (by omega)).trans ((x3 h8 (by omega)).trans r2), (v3 h9 (by omega)).trans x2⟩
        | true =>
          simp only [walkS, wl, rgets, retv, argsEnv, ev, cst, cst1, cstL, AEnv.get, AEnv.trim, envput, qstep, abin, aun, evs, evo, deref, qload, target, if_true, if_false, Nat.reduceEqDiff, reduceIte, Nat.reduceAdd, AV.cells, AV.isTuple, setMany, alen, aiaddr, afill, Nat.reduceLeDiff, Nat.reduceMul, Nat.reduceLT, afillE, List.replicate, o0, o7, o8, o9, q2, hwl, Bool.not_true, lb_get hfu, lb_get hfv, li_get hfu, li_get hfv, lb_length, bc_length, li_length, ic_length, if_pos hu', if_pos hv']
          refine withBool_intro ?_ ?_ <;> intro hc
          · simp only [walkS, wl, rgets, retv, argsEnv, ev, cst, cst1, cstL, AEnv.get, AEnv.trim, envput, qstep, abin, aun, evs, evo, deref, qload, target, if_true, if_false, Nat.reduceEqDiff, reduceIte, Nat.reduceAdd, AV.cells, AV.isTuple, setMany, alen, aiaddr, afill, Nat.reduceLeDiff, Nat.reduceMul, Nat.reduceLT, afillE, List.replicate, o0, o7, o8, o9, q2, hwl, hc, lb_get hfu, lb_get hfv, li_get hfu, li_get hfv, lb_length, bc_length, li_length, ic_length, if_pos hu', if_pos hv']
            refine storeR rfl rfl o8 (li_get hfv) ⟨by simp [ic_length, li_length], rfl, rfl, by simp⟩ fun H2 r1 r2 r3 => ?_
            have o0a := (r3 0 (by omega)).trans o0
            have o7a := (r3 h7 (by omega)).trans o7
            have o9a := (r3 h9 (by omega)).trans o9
            have q2a := (r3 H.length (by omega)).trans q2
            simp only [AV.cells, setMany, List.set_cons_zero, li_set] at r2
            simp only [walkS, wl, rgets, retv, argsEnv, ev, cst, cst1, cstL, AEnv.get, AEnv.trim, envput, qstep, abin, aun, evs, evo, deref, qload, target, if_true, if_false, Nat.reduceEqDiff, reduceIte, Nat.reduceAdd, AV.cells, AV.isTuple, setMany, alen, aiaddr, afill, Nat.reduceLeDiff, Nat.reduceMul, Nat.reduceLT, afillE, List.replicate, o0a, o7a, o9a, r2, q2a, lb_get hfu, lb_get hfv, li_get hfu, li_get hfv, lb_length, bc_length, li_length, ic_length, if_pos hu', if_pos hv']
            refine storeR rfl rfl o9a (lb_get hfv) ⟨by simp [bc_length, lb_length], rfl, rfl, by simp⟩ fun H3 x1 x2 x3 => ?_
            simp only [AV.cells, setMany, List.set_cons_zero, lb_set] at x2
            have o7b := (x3 h7 (by omega)).trans o7a
            have q2b := (x3 H.length (by omega)).trans q2a
            simp only [walkS, wl, rgets, retv, argsEnv, ev, cst, cst1, cstL, AEnv.get, AEnv.trim, envput, qstep, abin, aun, evs, evo, deref, qload, target, if_true, if_false, Nat.reduceEqDiff, reduceIte, Nat.reduceAdd, AV.cells, AV.isTuple, setMany, alen, aiaddr, afill, Nat.reduceLeDiff, Nat.reduceMul, Nat.reduceLT, afillE, List.replicate, o7b, x2, q2b, lb_get hfu, lb_get hfv, li_get hfu, li_get hfv, lb_length, bc_length, li_length, ic_length, if_pos hu', if_pos hv']
            refine storeR rfl rfl o7b (li_get hfv) ⟨by simp [ic_length, li_length], rfl, rfl, by simp⟩ fun H4 v1 v2 v3 => ?_
            simp only [AV.cells, setMany, List.set_cons_zero, li_set] at v2
            have hbt : better p ((u : Int), (v : Int), w) = true := (bd _).2 (by rw [hcu, hcv, hc]; rfl)
            rw [hbt, if_pos rfl] at hps
            simp only [walkS, wl, rgets, retv, argsEnv, ev, cst, cst1, cstL, AEnv.get, AEnv.trim, envput, qstep, abin, aun, evs, evo, deref, qload, target, if_true, if_false, Nat.reduceEqDiff, reduceIte, Nat.reduceAdd, AV.cells, AV.isTuple, setMany, alen, aiaddr, afill, Nat.reduceLeDiff, Nat.reduceMul, Nat.reduceLT, afillE, List.replicate, hwk]
            refine loop_end (k + 1) hlt (by omega) rfl ?_
            simp only [hps]
            exact ⟨(v3 0 (by omega)).trans ((x3 0 (by omega)).trans o0a), v2, (v3 h8 (by omega)).trans ((x3 h8 (by omega)).trans r2), (v3 h9 (by omega)).trans x2⟩
          · simp only [walkS, wl, rgets, retv, argsEnv, ev, cst, cst1, cstL, AEnv.get, AEnv.trim, envput, qstep, abin, aun, evs, evo, deref, qload, target, if_true, if_false, Nat.reduceEqDiff, reduceIte, Nat.reduceAdd, AV.cells, AV.isTuple, setMany, alen, aiaddr, afill, Nat.reduceLeDiff, Nat.reduceMul, Nat.reduceLT, afillE, List.replicate, hwk, hc]
            exact loop_end (k + 1) hlt (by omega) rfl (no ((bd _).2 (by rw [hcu, hcv, hc]; rfl)))
    · have hk' : k = ls.length := by simp at hb; omega
      subst hk'
      have hwr : IntKind.i64.wrap ((r : Int) + 1) = ((r + 1 : Nat) : Int) := by rw [wrap_id (by omega) (by omega)]; simp
      rw [hwr]
      exact loop_end (r + 1) hrk (by omega) rfl sf
  · have hr' : r = n := by simp at hb; omega
    subst hr'
    exact back_rest hg hw hf sf.o0 sf.o7 hQ
theorem accS_lt {H : AHeap} {a : AV} {e s : Nat} {els : List (List AV)} {ho : Option Nat} (h : AccS H a e s els ho) : ∀ q, ho = some q → q < H.length := fun q hq => by
  rcases h with ⟨e, _⟩ | ⟨c, e, _, e3⟩
  · rw [e] at hq; cases hq
  · rw [e] at hq; cases hq; exact AHeap.obj_lt e3
theorem one_eq {k f : Nat} : ((k : Int) == (f : Int)) = one f k := by
  rw [Bool.eq_iff_iff]; simp [one]; omega
theorem shortest_ok {n : Nat} {ls : List Df} {f a q : Nat} (hg : Good n ls) (hf : f < n) (hw : Way n ls (iter ls (startL (one f)) n) (one f) a q) :
    PCall Try.prog 116 [.agg [I n, .ro false (rows ls)], I f, I a] (.ro true (ic (wayL ls (iter ls (startL (one f)) n) a q))) := by
  have hn1 := hg.pos
  have hn2 := hg.small
  refine PCall.intro text116 (by simp) ?_
  unfold ir116
  simp only [walkS, wl, rgets, retv, argsEnv, ev, cst, cst1, cstL, AEnv.get, AEnv.trim, envput, qstep, abin, aun, evs, evo, deref, qload, target, if_true, if_false, Nat.reduceEqDiff, reduceIte, Nat.reduceAdd, AV.cells, AV.isTuple, setMany, alen, aiaddr, afill, Nat.reduceLeDiff, Nat.reduceMul, Nat.reduceLT, afillE, List.replicate]
  refine awp_loop (σ := Nat × (AV × Option Nat) × (AV × Option Nat) × (AV × Option Nat)) (fun s => [(1, I f), (2, I a), (3, .ptr 0 1 0 0), (7, s.2.1.1), (8, s.2.2.1.1), (9, s.2.2.2.1), (10, I s.1)])
    (fun s H => AHeap.obj H 0 = some ⟨24, 2, [[I n, .ro false (rows ls)]]⟩ ∧ AccS H s.2.1.1 3 1 (ic (li s.1 fun _ => -1)) s.2.1.2 ∧ AccS H s.2.2.1.1 3 1 (ic (li s.1 fun _ => 0)) s.2.2.1.2 ∧ AccS H s.2.2.2.1 4 1 (bc (lb s.1 (one f))) s.2.2.2.2)
    (fun s => s.1 ≤ n ∧ (∀ h, s.2.1.2 = some h → h ≠ 0 ∧ s.2.2.1.2 ≠ some h ∧ s.2.2.2.2 ≠ some h) ∧ (∀ h, s.2.2.1.2 = some h → h ≠ 0 ∧ s.2.2.2.2 ≠ some h) ∧ ∀ h, s.2.2.2.2 = some h → h ≠ 0) (fun s => n - s.1) (0, (.nilSlice, none), (.nilSlice, none), (.nilSlice, none)) ⟨Nat.zero_le _, by simp, by simp, by simp⟩ rfl ⟨rfl, .inl ⟨rfl, rfl, rfl⟩, .inl ⟨rfl, rfl, rfl⟩, .inl ⟨rfl, rfl, rfl⟩⟩ ?_
  rintro ⟨k, ⟨a1, p1⟩, ⟨a2, p2⟩, a3, p3⟩ H ⟨hk, z1, z2, z3⟩ ⟨o0, acc1, acc2, acc3⟩
  simp only at hk z1 z2 z3 acc1 acc2 acc3
  simp only [walkS, wl, rgets, retv, argsEnv, ev, cst, cst1, cstL, AEnv.get, AEnv.trim, envput, qstep, abin, aun, evs, evo, deref, qload, target, if_true, if_false, Nat.reduceEqDiff, reduceIte, Nat.reduceAdd, AV.cells, AV.isTuple, setMany, alen, aiaddr, afill, Nat.reduceLeDiff, Nat.reduceMul, Nat.reduceLT, afillE, List.replicate, o0]
  refine withBool_intro ?_ ?_ <;> intro hb <;> simp only [walkS, wl, rgets, retv, argsEnv, ev, cst, cst1, cstL, AEnv.get, AEnv.trim, envput, qstep, abin, aun, evs, evo, deref, qload, target, if_true, if_false, Nat.reduceEqDiff, reduceIte, Nat.reduceAdd, AV.cells, AV.isTuple, setMany, alen, aiaddr, afill, Nat.reduceLeDiff, Nat.reduceMul, Nat.reduceLT, afillE, List.replicate]
  · have hlt : k < n := by simpa using hb
    have h0 := AHeap.obj_lt o0
    have hwk : IntKind.i64.wrap ((k : Int) + 1) = ((k + 1 : Nat) : Int) := by rw [wrap_id (by omega) (by omega)]; simp
    refine accS_append (acc1.keep fun i _ hi => AHeap.obj_push_lt hi) rfl rfl AHeap.obj_push_eq (by simp [ic_length, li_length]; omega) fun q1 H1 l1 e1 w1 kp1 => ?_
    simp only [List.length_append, List.length_cons, List.length_nil] at l1 w1 kp1
    have d1 : q1 ≠ 0 ∧ p2 ≠ some q1 ∧ p3 ≠ some q1 := by
      rcases w1 with w1 | ⟨_, w1⟩
      · exact z1 q1 w1
      · exact ⟨by omega, fun e => by have := accS_lt acc2 q1 e; omega, fun e => by have := accS_lt acc3 q1 e; omega⟩
    have k1 : ∀ i, i < H.length → i ≠ q1 → AHeap.obj H1 i = AHeap.obj H i := fun i hi hne => by rw [kp1 i (by omega) hne, AHeap.obj_push_lt hi]
    have acc2a : AccS H1 a2 3 1 (ic (li k fun _ => 0)) p2 := acc2.keep fun i hi hil => k1 i hil fun e => d1.2.1 (by rw [← e]; exact hi)
    have acc3a : AccS H1 a3 4 1 (bc (lb k (one f))) p3 := acc3.keep fun i hi hil => k1 i hil fun e => d1.2.2 (by rw [← e]; exact hi)
    have o0a := (k1 0 h0 (Ne.symm d1.1)).trans o0
    have lq1 := AHeap.obj_lt e1
    rw [show (-1 : Int) = (fun _ : Nat => (-1 : Int)) k from rfl, li_snoc] at e1
    simp only [walkS, wl, rgets, retv, argsEnv, ev, cst, cst1, cstL, AEnv.get, AEnv.trim, envput, qstep, abin, aun, evs, evo, deref, qload, target, if_true, if_false, Nat.reduceEqDiff, reduceIte, Nat.reduceAdd, AV.cells, AV.isTuple, setMany, alen, aiaddr, afill, Nat.reduceLeDiff, Nat.reduceMul, Nat.reduceLT, afillE, List.replicate]
    refine accS_append (acc2a.keep fun i _ hi => AHeap.obj_push_lt hi) rfl rfl AHeap.obj_push_eq (by simp [ic_length, li_length]; omega) fun q2 H2 l2 e2 w2 kp2 => ?_
    simp only [List.length_append, List.length_cons, List.length_nil] at l2 w2 kp2
    have d2 : q2 ≠ 0 ∧ q2 ≠ q1 ∧ p3 ≠ some q2 := by
      rcases w2 with w2 | ⟨_, w2⟩
      · exact ⟨(z2 q2 w2).1, fun e => d1.2.1 (by rw [← e]; exact w2), (z2 q2 w2).2⟩
      · exact ⟨by omega, by omega, fun e => by have := accS_lt acc3a q2 e; omega⟩
    have k2 : ∀ i, i < H1.length → i ≠ q2 → AHeap.obj H2 i = AHeap.obj H1 i := fun i hi hne => by rw [kp2 i (by omega) hne, AHeap.obj_push_lt hi]
    have acc3b : AccS H2 a3 4 1 (bc (lb k (one f))) p3 := acc3a.keep fun i hi hil => k2 i hil fun e => d2.2.2 (by rw [← e]; exact hi)
    have o0b := (k2 0 (by omega) (Ne.symm d2.1)).trans o0a
    have e1b := (k2 q1 lq1 (Ne.symm d2.2.1)).trans e1
    have lq2 := AHeap.obj_lt e2
    rw [show (0 : Int) = (fun _ : Nat => (0 : Int)) k from rfl, li_snoc] at e2
    simp only [walkS, wl, rgets, retv, argsEnv, ev, cst, cst1, cstL, AEnv.get, AEnv.trim, envput, qstep, abin, aun, evs, evo, deref, qload, target, if_true, if_false, Nat.reduceEqDiff, reduceIte, Nat.reduceAdd, AV.cells, AV.isTuple, setMany, alen, aiaddr, afill, Nat.reduceLeDiff, Nat.reduceMul, Nat.reduceLT, afillE, List.replicate, one_eq]
    refine accS_append (acc3b.keep fun i _ hi => AHeap.obj_push_lt hi) rfl rfl AHeap.obj_push_eq (by simp [bc_length, lb_length]; omega) fun q3 H3 l3 e3 w3 kp3 => ?_
    simp only [List.length_append, List.length_cons, List.length_nil] at l3 w3 kp3
    have d3 : q3 ≠ 0 ∧ q3 ≠ q1 ∧ q3 ≠ q2 := by
      rcases w3 with w3 | ⟨_, w3⟩
      · exact ⟨z3 q3 w3, fun e => d1.2.2 (by rw [← e]; exact w3), fun e => d2.2.2 (by rw [← e]; exact w3)⟩
      · exact ⟨by omega, by omega, by omega⟩
    have k3 : ∀ i, i < H2.length → i ≠ q3 → AHeap.obj H3 i = AHeap.obj H2 i := fun i hi hne => by rw [kp3 i (by omega) hne, AHeap.obj_push_lt hi]
    rw [lb_snoc] at e3
    simp only [walkS, wl, rgets, retv, argsEnv, ev, cst, cst1, cstL, AEnv.get, AEnv.trim, envput, qstep, abin, aun, evs, evo, deref, qload, target, if_true, if_false, Nat.reduceEqDiff, reduceIte, Nat.reduceAdd, AV.cells, AV.isTuple, setMany, alen, aiaddr, afill, Nat.reduceLeDiff, Nat.reduceMul, Nat.reduceLT, afillE, List.replicate, hwk]
    refine loop_end (k + 1, (_, some q1), (_, some q2), (_, some q3)) ⟨hlt, fun h hh => ?_, fun h hh => ?_, fun h hh => ?_⟩ (by simp only; omega) rfl ⟨(k3 0 (by omega) (Ne.symm d3.1)).trans o0b, .inr ⟨q1, rfl, ?_, (k3 q1 (by omega) (Ne.symm d3.2.1)).trans e1b⟩, .inr ⟨q2, rfl, ?_, (k3 q2 lq2 (Ne.symm d3.2.2)).trans e2⟩, .inr ⟨q3, rfl, ?_, e3⟩⟩
    · cases hh; exact ⟨d1.1, fun e => by cases e; exact d2.2.1 rfl, fun e => by cases e; exact d3.2.1 rfl⟩
    · cases hh; exact ⟨d2.1, fun e => by cases e; exact d3.2.2 rfl⟩
    · cases hh; exact d3.1
    · simp [ic_length, li_length]
    · simp [ic_length, li_length]
    · simp [bc_length, lb_length]
  · have hk' : k = n := by simp at hb; omega
    subst hk'
    obtain ⟨h7, rfl, rfl, o7⟩ := acc1.resolve_left (by intro h; have := congrArg List.length h.2.1; rw [ic_length, li_length] at this; simp at this; omega)
    obtain ⟨h8, rfl, rfl, o8⟩ := acc2.resolve_left (by intro h; have := congrArg List.length h.2.1; rw [ic_length, li_length] at this; simp at this; omega)
    obtain ⟨h9, rfl, rfl, o9⟩ := acc3.resolve_left (by intro h; have := congrArg List.length h.2.1; rw [bc_length, lb_length] at this; simp at this; omega)
    have y1 := z1 h7 rfl
    have y2 := z2 h8 rfl
    have y3 := z3 h9 rfl
    simp only [ic_length, li_length, bc_length, lb_length]
    exact rounds_rest hg hf hw y1.1 y2.1 y3 (fun e => y1.2.1 (by rw [e])) (fun e => y1.2.2 (by rw [e])) (fun e => y2.2 (by rw [e])) ⟨o0, o7, o8, o9⟩ fun H x hx => hx
end Go.Proofs.Ytepnijjgdhldeaa
