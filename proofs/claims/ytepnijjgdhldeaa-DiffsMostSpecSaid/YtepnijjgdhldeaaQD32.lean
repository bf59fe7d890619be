/- The flow of the specification: what one way changes. -/
import Derived.Test.YtepnijjgdhldeaaQD31
import Derived.Test.YtepnijjgdhldeaaQW7
import Derived.Test.YtepnijjgdhldeaaQD11
namespace Go.Proofs.Ytepnijjgdhldeaa
open Go.Awp
set_option linter.unusedSimpArgs false
set_option linter.unusedVariables false
set_option linter.unusedSectionVars false
set_option maxRecDepth 10000
set_option maxHeartbeats 8000000
theorem ic_some {xs : List Int} {k : Nat} {v : Int} (h : xs[k]? = some v) : (ic xs)[k]? = some [I v] := by simp [ic, h]
theorem way_get {n : Nat} {ds : List Df} {F : Nat → Int} {s : Gs} {S : Nat → Bool} {a q t : Nat} (hw : Way n (lns ds F) s S a q) (ht : t < q) : (ic (wayL (lns ds F) s a q))[t]? = some [I (pth (lns ds F) s a t : Nat)] := by
  have := li_get (f := fun u => s.last (itp (lns ds F) s u a)) ht
  rw [(hw.hop ht).last] at this
  exact this
theorem augs_succ {ds : List Df} {F : Nat → Int} {s : Gs} {a t : Nat} {c : Int} : augs ds F s a c (t + 1) = upd (augs ds F s a c t) (jx ds F (pth (lns ds F) s a t)) (augs ds F s a c t (jx ds F (pth (lns ds F) s a t)) + if pth (lns ds F) s a t < ds.length then c else -c) := rfl
theorem lacks_rest {n f a : Nat} {L : Nat → Int} {c : Int} {L0 h7 : Nat} {x6 x20 x21 x24 x178 : AV} {H : AHeap} {Q : AX → AEnv → AHeap → Prop} (hf : f < n) (ha : a < n) (hne : f ≠ a) (hL : ∀ v, v < n → -65536 ≤ L v ∧ L v ≤ 65536) (hc : 0 ≤ c ∧ c ≤ 65536)
    (o7 : AHeap.obj H h7 = some ⟨3, 1, ic (li n L)⟩)
    (hQ : ∀ H', H'.length = H.length → AHeap.obj H' h7 = some ⟨3, 1, ic (li n (upd (upd L f (L f + c)) a (upd L f (L f + c) a - c)))⟩ → (∀ q, q ≠ h7 → AHeap.obj H' q = AHeap.obj H q) → Q .normal [(2, .ptr L0 1 0 0), (6, x6), (7, .own h7 n 0 n)] H') :
    awp Try.prog ir95g Q [(2, .ptr L0 1 0 0), (6, x6), (7, .own h7 n 0 n), (12, I f), (18, I a), (20, x20), (21, x21), (22, I c), (24, x24), (178, x178)] H := by
  unfold ir95g
  have hf' : (f : Int) < n := by omega
  have ha' : (a : Int) < n := by omega
  have b1 := hL f hf
  have b2 := hL a ha
  have w1 : IntKind.i64.wrap (L f + c) = L f + c := wrap_id (by omega) (by omega)
  have e2 : upd L f (L f + c) a = L a := upd_ne (Ne.symm hne)
  have w2 : IntKind.i64.wrap (L a - c) = L a - c := wrap_id (by omega) (by omega)
  simp only [walkS, wl, rgets, retv, argsEnv, ev, cst, cst1, cstL, AEnv.get, AEnv.trim, envput, qstep, abin, aun, evs, evo, deref, qload, target, if_true, if_false, Nat.reduceEqDiff, reduceIte, Nat.reduceAdd, AV.cells, AV.isTuple, setMany, alen, aiaddr, afill, Nat.reduceLeDiff, Nat.reduceMul, Nat.reduceLT, afillE, List.replicate, o7, li_get hf, li_length, ic_length, if_pos hf', w1]
  refine storeR rfl rfl o7 (li_get hf) ⟨by simp [ic_length, li_length], rfl, rfl, by simp⟩ fun H1 x1 x2 x3 => ?_
  simp only [AV.cells, setMany, List.set_cons_zero, li_set] at x2
  simp only [walkS, wl, rgets, retv, argsEnv, ev, cst, cst1, cstL, AEnv.get, AEnv.trim, envput, qstep, abin, aun, evs, evo, deref, qload, target, if_true, if_false, Nat.reduceEqDiff, reduceIte, Nat.reduceAdd, AV.cells, AV.isTuple, setMany, alen, aiaddr, afill, Nat.reduceLeDiff, Nat.reduceMul, Nat.reduceLT, afillE, List.replicate, x2, li_get ha, li_length, ic_length, if_pos ha', e2, w2]
  refine storeR rfl rfl x2 (li_get ha) ⟨by simp [ic_length, li_length], rfl, rfl, by simp⟩ fun H2 y1 y2 y3 => ?_
  simp only [AV.cells, setMany, List.set_cons_zero, li_set] at y2
  simp only [walkS, wl, rgets, retv, argsEnv, ev, cst, cst1, cstL, AEnv.get, AEnv.trim, envput, qstep, abin, aun, evs, evo, deref, qload, target, if_true, if_false, Nat.reduceEqDiff, reduceIte, Nat.reduceAdd, AV.cells, AV.isTuple, setMany, alen, aiaddr, afill, Nat.reduceLeDiff, Nat.reduceMul, Nat.reduceLT, afillE, List.replicate]
  exact hQ H2 (by omega) (by rw [e2]; exact y2) fun q hq => (y3 q hq).trans (x3 q hq)
/-- The flow's change along the way. -/
theorem use_rest {n f a q : Nat} {ds : List Df} {F L : Nat → Int} {s : Gs} {c : Int} {L0 h6 h7 : Nat} {x23 x148 : AV} {H : AHeap} {Q : AX → AEnv → AHeap → Prop} (hn : n ≤ 20) (hK : ds.length ≤ 60) (hw : Way n (lns ds F) s (one f) a q)
    (hf : f < n) (ha : a < n) (hne : f ≠ a) (hL : ∀ v, v < n → -65536 ≤ L v ∧ L v ≤ 65536) (hc : 0 ≤ c ∧ c ≤ 65536) (hF : ∀ k, k < ds.length → 0 ≤ F k ∧ F k ≤ 65536) (h67 : h6 ≠ h7)
    (o0 : AHeap.obj H L0 = some ⟨24, 2, [[I n, .ro false (rows ds)]]⟩) (g6 : h6 ≠ L0)
    (o6 : AHeap.obj H h6 = some ⟨3, 1, ic (li ds.length F)⟩) (o7 : AHeap.obj H h7 = some ⟨3, 1, ic (li n L)⟩)
    (hQ : ∀ H', H'.length = H.length → AHeap.obj H' h6 = some ⟨3, 1, ic (li ds.length (augs ds F s a c q))⟩ → AHeap.obj H' h7 = some ⟨3, 1, ic (li n (upd (upd L f (L f + c)) a (upd L f (L f + c) a - c)))⟩ → (∀ i, i ≠ h6 → i ≠ h7 → AHeap.obj H' i = AHeap.obj H i) → Q .normal [(2, .ptr L0 1 0 0), (6, .own h6 ds.length 0 ds.length), (7, .own h7 n 0 n)] H') :
    awp Try.prog ir95f Q [(2, .ptr L0 1 0 0), (6, .own h6 ds.length 0 ds.length), (7, .own h7 n 0 n), (12, I f), (18, I a), (20, .ro true (ic (usedL F ds.length))), (21, .ro true (ic (wayL (lns ds F) s a q))), (22, I c), (23, x23), (148, x148)] H := by
  unfold ir95f
  have hq := hw.lt
  simp only [walkS, wl, rgets, retv, argsEnv, ev, cst, cst1, cstL, AEnv.get, AEnv.trim, envput, qstep, abin, aun, evs, evo, deref, qload, target, if_true, if_false, Nat.reduceEqDiff, reduceIte, Nat.reduceAdd, AV.cells, AV.isTuple, setMany, alen, aiaddr, afill, Nat.reduceLeDiff, Nat.reduceMul, Nat.reduceLT, afillE, List.replicate]
  refine awp_loop (σ := Nat) (fun t => [(2, .ptr L0 1 0 0), (6, .own h6 ds.length 0 ds.length), (7, .own h7 n 0 n), (12, I f), (18, I a), (20, .ro true (ic (usedL F ds.length))), (21, .ro true (ic (wayL (lns ds F) s a q))), (22, I c), (24, I t)])
    (fun t H1 => H1.length = H.length ∧ AHeap.obj H1 h6 = some ⟨3, 1, ic (li ds.length (augs ds F s a c t))⟩ ∧ ∀ i, i ≠ h6 → AHeap.obj H1 i = AHeap.obj H i) (fun t => t ≤ q) (fun t => q - t) 0 (Nat.zero_le _) rfl ⟨rfl, o6, fun _ _ => rfl⟩ ?_
  rintro t H1 ht ⟨l1, p6, pk⟩
  have p0 := (pk L0 (Ne.symm g6)).trans o0
  have p7 := (pk h7 (Ne.symm h67)).trans o7
  simp only [walkS, wl, rgets, retv, argsEnv, ev, cst, cst1, cstL, AEnv.get, AEnv.trim, envput, qstep, abin, aun, evs, evo, deref, qload, target, if_true, if_false, Nat.reduceEqDiff, reduceIte, Nat.reduceAdd, AV.cells, AV.isTuple, setMany, alen, aiaddr, afill, Nat.reduceLeDiff, Nat.reduceMul, Nat.reduceLT, afillE, List.replicate, ic_length, wayL, li_length]
  refine withBool_intro ?_ ?_ <;> intro hb <;> simp only [walkS, wl, rgets, retv, argsEnv, ev, cst, cst1, cstL, AEnv.get, AEnv.trim, envput, qstep, abin, aun, evs, evo, deref, qload, target, if_true, if_false, Nat.reduceEqDiff, reduceIte, Nat.reduceAdd, AV.cells, AV.isTuple, setMany, alen, aiaddr, afill, Nat.reduceLeDiff, Nat.reduceMul, Nat.reduceLT, afillE, List.replicate]
  · have hlt : t < q := by simpa using hb
    have hop := hw.hop hlt
    have hwt : IntKind.i64.wrap ((t : Int) + 1) = ((t + 1 : Nat) : Int) := by rw [wrap_id (by omega) (by omega)]; simp
    have hg := way_get hw hlt
    unfold wayL at hg
    have bd := augs_bound hw hc.1 (jx ds F (pth (lns ds F) s a t)) t (by omega)
    have hFj := hF _ hop.jlt
    have bd1 := bd.2.1
    have bd2 := bd.2.2.2
    have hj' : ((jx ds F (pth (lns ds F) s a t) : Nat) : Int) < ds.length := by have := hop.jlt; omega
    simp only [walkS, wl, rgets, retv, argsEnv, ev, cst, cst1, cstL, AEnv.get, AEnv.trim, envput, qstep, abin, aun, evs, evo, deref, qload, target, if_true, if_false, Nat.reduceEqDiff, reduceIte, Nat.reduceAdd, AV.cells, AV.isTuple, setMany, alen, aiaddr, afill, Nat.reduceLeDiff, Nat.reduceMul, Nat.reduceLT, afillE, List.replicate, p0, hg, ic_length, li_length, if_pos (show (t : Int) < (q : Int) by omega), rows_length]
    refine withBool_intro ?_ ?_ <;> intro hge
    · have hnl : ¬ pth (lns ds F) s a t < ds.length := by simp at hge; omega
      rcases hop.cas with k | k
      · exact absurd k.1 hnl
      · have hu := ic_some k.2.2.2.2
        have hul : pth (lns ds F) s a t - ds.length < (usedL F ds.length).length := (List.getElem?_eq_some_iff.1 k.2.2.2.2).1
        have hplt := hop.lt
        rw [lns_length] at hplt
        have hwp : IntKind.i64.wrap (((pth (lns ds F) s a t : Nat) : Int) - (ds.length : Int)) = ((pth (lns ds F) s a t - ds.length : Nat) : Int) := by
          have := usedL_length (F := F) ds.length
          rw [wrap_id (by omega) (by omega)]; omega
        have w1 : IntKind.i64.wrap (augs ds F s a c t (jx ds F (pth (lns ds F) s a t)) - c) = augs ds F s a c t (jx ds F (pth (lns ds F) s a t)) - c := wrap_id (by omega) (by omega)
        simp only [walkS, wl, rgets, retv, argsEnv, ev, cst, cst1, cstL, AEnv.get, AEnv.trim, envput, qstep, abin, aun, evs, evo, deref, qload, target, if_true, if_false, Nat.reduceEqDiff, reduceIte, Nat.reduceAdd, AV.cells, AV.isTuple, setMany, alen, aiaddr, afill, Nat.reduceLeDiff, Nat.reduceMul, Nat.reduceLT, afillE, List.replicate, hge, p0, p6, hg, hu, ic_length, li_length, if_pos (show (t : Int) < (q : Int) by omega), rows_length, hwp, if_pos (show ((pth (lns ds F) s a t - ds.length : Nat) : Int) < ((usedL F ds.length).length : Int) by omega), if_pos hj', li_get hop.jlt, w1]
        refine storeR rfl rfl p6 (li_get hop.jlt) ⟨by simp [ic_length, li_length], rfl, rfl, by simp⟩ fun H2 x1 x2 x3 => ?_
        simp only [AV.cells, setMany, List.set_cons_zero, li_set] at x2
        simp only [walkS, wl, rgets, retv, argsEnv, ev, cst, cst1, cstL, AEnv.get, AEnv.trim, envput, qstep, abin, aun, evs, evo, deref, qload, target, if_true, if_false, Nat.reduceEqDiff, reduceIte, Nat.reduceAdd, AV.cells, AV.isTuple, setMany, alen, aiaddr, afill, Nat.reduceLeDiff, Nat.reduceMul, Nat.reduceLT, afillE, List.replicate, hwt]
        refine loop_end (t + 1) hlt (by omega) rfl ⟨by omega, ?_, fun i hi => (x3 i hi).trans (pk i hi)⟩
        rw [x2, augs_succ, if_neg hnl, Int.sub_eq_add_neg]
    · have hnl : pth (lns ds F) s a t < ds.length := by simp at hge; omega
      have hjp : jx ds F (pth (lns ds F) s a t) = pth (lns ds F) s a t := by unfold jx; rw [if_pos hnl]
      rw [hjp] at bd1 bd2 hFj
      have w1 : IntKind.i64.wrap (augs ds F s a c t (pth (lns ds F) s a t) + c) = augs ds F s a c t (pth (lns ds F) s a t) + c := wrap_id (by omega) (by omega)
      simp only [walkS, wl, rgets, retv, argsEnv, ev, cst, cst1, cstL, AEnv.get, AEnv.trim, envput, qstep, abin, aun, evs, evo, deref, qload, target, if_true, if_false, Nat.reduceEqDiff, reduceIte, Nat.reduceAdd, AV.cells, AV.isTuple, setMany, alen, aiaddr, afill, Nat.reduceLeDiff, Nat.reduceMul, Nat.reduceLT, afillE, List.replicate, hge, p0, p6, hg, ic_length, li_length, if_pos (show (t : Int) < (q : Int) by omega), rows_length, if_pos (show ((pth (lns ds F) s a t : Nat) : Int) < (ds.length : Int) by omega), li_get hnl, w1]
      refine storeR rfl rfl p6 (li_get hnl) ⟨by simp [ic_length, li_length], rfl, rfl, by simp⟩ fun H2 x1 x2 x3 => ?_
      simp only [AV.cells, setMany, List.set_cons_zero, li_set] at x2
      simp only [walkS, wl, rgets, retv, argsEnv, ev, cst, cst1, cstL, AEnv.get, AEnv.trim, envput, qstep, abin, aun, evs, evo, deref, qload, target, if_true, if_false, Nat.reduceEqDiff, reduceIte, Nat.reduceAdd, AV.cells, AV.isTuple, setMany, alen, aiaddr, afill, Nat.reduceLeDiff, Nat.reduceMul, Nat.reduceLT, afillE, List.replicate, hwt]
      refine loop_end (t + 1) hlt (by omega) rfl ⟨by omega, ?_, fun i hi => (x3 i hi).trans (pk i hi)⟩
      rw [x2, augs_succ, if_pos hnl, hjp]
  · have ht' : t = q := by simp at hb; omega
    subst ht'
    refine lacks_rest hf ha hne hL hc p7 fun H' y1 y2 y3 => hQ H' (by omega) ((y3 h6 h67).trans p6) y2 fun i hi6 hi7 => (y3 i hi7).trans (pk i hi6)
/-- How much goes along the way, and then the change. -/
theorem much_rest {n f a q : Nat} {ds : List Df} {F L : Nat → Int} {s : Gs} {c0 : Int} {L0 h6 h7 : Nat} {H : AHeap} {Q : AX → AEnv → AHeap → Prop} (hn : n ≤ 20) (hK : ds.length ≤ 60) (hw : Way n (lns ds F) s (one f) a q)
    (hf : f < n) (ha : a < n) (hne : f ≠ a) (hL : ∀ v, v < n → -65536 ≤ L v ∧ L v ≤ 65536) (hc : 0 < c0 ∧ c0 ≤ 65536) (hF : ∀ k, k < ds.length → 0 ≤ F k ∧ F k ≤ 65536) (h67 : h6 ≠ h7)
    (o0 : AHeap.obj H L0 = some ⟨24, 2, [[I n, .ro false (rows ds)]]⟩) (g6 : h6 ≠ L0)
    (o6 : AHeap.obj H h6 = some ⟨3, 1, ic (li ds.length F)⟩) (o7 : AHeap.obj H h7 = some ⟨3, 1, ic (li n L)⟩)
    (hQ : ∀ H', H'.length = H.length → AHeap.obj H' h6 = some ⟨3, 1, ic (li ds.length (augs ds F s a (muchR ds F s a c0 q) q))⟩ → AHeap.obj H' h7 = some ⟨3, 1, ic (li n (upd (upd L f (L f + muchR ds F s a c0 q)) a (upd L f (L f + muchR ds F s a c0 q) a - muchR ds F s a c0 q)))⟩ → (∀ i, i ≠ h6 → i ≠ h7 → AHeap.obj H' i = AHeap.obj H i) → Q .normal [(2, .ptr L0 1 0 0), (6, .own h6 ds.length 0 ds.length), (7, .own h7 n 0 n)] H') :
    awp Try.prog ir95e Q [(2, .ptr L0 1 0 0), (6, .own h6 ds.length 0 ds.length), (7, .own h7 n 0 n), (12, I f), (18, I a), (20, .ro true (ic (usedL F ds.length))), (21, .ro true (ic (wayL (lns ds F) s a q))), (22, I c0)] H := by
  unfold ir95e
  have hq := hw.lt
  simp only [walkS, wl, rgets, retv, argsEnv, ev, cst, cst1, cstL, AEnv.get, AEnv.trim, envput, qstep, abin, aun, evs, evo, deref, qload, target, if_true, if_false, Nat.reduceEqDiff, reduceIte, Nat.reduceAdd, AV.cells, AV.isTuple, setMany, alen, aiaddr, afill, Nat.reduceLeDiff, Nat.reduceMul, Nat.reduceLT, afillE, List.replicate]
  refine awp_loop (σ := Nat) (fun t => [(2, .ptr L0 1 0 0), (6, .own h6 ds.length 0 ds.length), (7, .own h7 n 0 n), (12, I f), (18, I a), (20, .ro true (ic (usedL F ds.length))), (21, .ro true (ic (wayL (lns ds F) s a q))), (22, I (muchR ds F s a c0 t)), (23, I t)])
    (fun t H1 => H1 = H) (fun t => t ≤ q) (fun t => q - t) 0 (Nat.zero_le _) rfl rfl ?_
  rintro t H1 ht rfl
  simp only [walkS, wl, rgets, retv, argsEnv, ev, cst, cst1, cstL, AEnv.get, AEnv.trim, envput, qstep, abin, aun, evs, evo, deref, qload, target, if_true, if_false, Nat.reduceEqDiff, reduceIte, Nat.reduceAdd, AV.cells, AV.isTuple, setMany, alen, aiaddr, afill, Nat.reduceLeDiff, Nat.reduceMul, Nat.reduceLT, afillE, List.replicate, ic_length, wayL, li_length]
  refine withBool_intro ?_ ?_ <;> intro hb <;> simp only [walkS, wl, rgets, retv, argsEnv, ev, cst, cst1, cstL, AEnv.get, AEnv.trim, envput, qstep, abin, aun, evs, evo, deref, qload, target, if_true, if_false, Nat.reduceEqDiff, reduceIte, Nat.reduceAdd, AV.cells, AV.isTuple, setMany, alen, aiaddr, afill, Nat.reduceLeDiff, Nat.reduceMul, Nat.reduceLT, afillE, List.replicate]
  · have hlt : t < q := by simpa using hb
    have hop := hw.hop hlt
    have hwt : IntKind.i64.wrap ((t : Int) + 1) = ((t + 1 : Nat) : Int) := by rw [wrap_id (by omega) (by omega)]; simp
    have hg := way_get hw hlt
    unfold wayL at hg
    have hj' : ((jx ds F (pth (lns ds F) s a t) : Nat) : Int) < ds.length := by have := hop.jlt; omega
    simp only [walkS, wl, rgets, retv, argsEnv, ev, cst, cst1, cstL, AEnv.get, AEnv.trim, envput, qstep, abin, aun, evs, evo, deref, qload, target, if_true, if_false, Nat.reduceEqDiff, reduceIte, Nat.reduceAdd, AV.cells, AV.isTuple, setMany, alen, aiaddr, afill, Nat.reduceLeDiff, Nat.reduceMul, Nat.reduceLT, afillE, List.replicate, o0, hg, ic_length, li_length, if_pos (show (t : Int) < (q : Int) by omega), rows_length]
    refine withBool_intro ?_ ?_ <;> intro hge
    · have hnl : ¬ pth (lns ds F) s a t < ds.length := by simp at hge; omega
      rcases hop.cas with k | k
      · exact absurd k.1 hnl
      · have hu := ic_some k.2.2.2.2
        have hul : pth (lns ds F) s a t - ds.length < (usedL F ds.length).length := (List.getElem?_eq_some_iff.1 k.2.2.2.2).1
        have hplt := hop.lt
        rw [lns_length] at hplt
        have hwp : IntKind.i64.wrap (((pth (lns ds F) s a t : Nat) : Int) - (ds.length : Int)) = ((pth (lns ds F) s a t - ds.length : Nat) : Int) := by
          have := usedL_length (F := F) ds.length
          rw [wrap_id (by omega) (by omega)]; omega
        simp only [walkS, wl, rgets, retv, argsEnv, ev, cst, cst1, cstL, AEnv.get, AEnv.trim, envput, qstep, abin, aun, evs, evo, deref, qload, target, if_true, if_false, Nat.reduceEqDiff, reduceIte, Nat.reduceAdd, AV.cells, AV.isTuple, setMany, alen, aiaddr, afill, Nat.reduceLeDiff, Nat.reduceMul, Nat.reduceLT, afillE, List.replicate, hge, o0, o6, hg, hu, ic_length, li_length, if_pos (show (t : Int) < (q : Int) by omega), rows_length, hwp, if_pos (show ((pth (lns ds F) s a t - ds.length : Nat) : Int) < ((usedL F ds.length).length : Int) by omega), if_pos hj', li_get hop.jlt, amm_min, hwt]
        refine loop_end (t + 1) hlt (by omega) ?_ rfl
        rw [muchR_succ, if_neg hnl]
    · have hnl : pth (lns ds F) s a t < ds.length := by simp at hge; omega
      simp only [walkS, wl, rgets, retv, argsEnv, ev, cst, cst1, cstL, AEnv.get, AEnv.trim, envput, qstep, abin, aun, evs, evo, deref, qload, target, if_true, if_false, Nat.reduceEqDiff, reduceIte, Nat.reduceAdd, AV.cells, AV.isTuple, setMany, alen, aiaddr, afill, Nat.reduceLeDiff, Nat.reduceMul, Nat.reduceLT, afillE, List.replicate, hge, hwt]
      refine loop_end (t + 1) hlt (by omega) ?_ rfl
      rw [muchR_succ, if_pos hnl]
  · have ht' : t = q := by simp at hb; omega
    subst ht'
    have hp := muchR_pos hw hc.1 t (Nat.le_refl _)
    have hle := (muchR_le (ds := ds) (F := F) (s := s) (a := a) (c0 := c0) t).1
    exact use_rest hn hK hw hf ha hne hL ⟨by omega, by omega⟩ hF h67 o0 g6 o6 o7 hQ
theorem way_rest {n f a q : Nat} {ds : List Df} {F L : Nat → Int} {L0 h6 h7 g14 : Nat} {H : AHeap} {Q : AX → AEnv → AHeap → Prop} {x128 : AV} (hn : n ≤ 20) (hK : ds.length ≤ 60) (hgl : Good n (lns ds F)) (hw : Way n (lns ds F) (iter (lns ds F) (startL (one f)) n) (one f) a q)
    (hf : f < n) (ha : a < n) (hne : f ≠ a) (hL : ∀ v, v < n → -65536 ≤ L v ∧ L v ≤ 65536) (hLf : L f < 0) (hLa : 0 < L a) (hF : ∀ k, k < ds.length → 0 ≤ F k ∧ F k ≤ 65536) (h67 : h6 ≠ h7)
    (o0 : AHeap.obj H L0 = some ⟨24, 2, [[I n, .ro false (rows ds)]]⟩) (g6 : h6 ≠ L0) (o14 : AHeap.obj H g14 = some ⟨24, 2, [[I n, .ro true (rows (lns ds F))]]⟩)
    (o6 : AHeap.obj H h6 = some ⟨3, 1, ic (li ds.length F)⟩) (o7 : AHeap.obj H h7 = some ⟨3, 1, ic (li n L)⟩)
    (hQ : ∀ c, c = muchR ds F (iter (lns ds F) (startL (one f)) n) a (min (- L f) (L a)) q → ∀ H', H'.length = H.length → AHeap.obj H' h6 = some ⟨3, 1, ic (li ds.length (augs ds F (iter (lns ds F) (startL (one f)) n) a c q))⟩ → AHeap.obj H' h7 = some ⟨3, 1, ic (li n (upd (upd L f (L f + c)) a (upd L f (L f + c) a - c)))⟩ → (∀ i, i ≠ h6 → i ≠ h7 → AHeap.obj H' i = AHeap.obj H i) → Q .normal [(2, .ptr L0 1 0 0), (6, .own h6 ds.length 0 ds.length), (7, .own h7 n 0 n)] H') :
    awp Try.prog ir95d Q [(2, .ptr L0 1 0 0), (6, .own h6 ds.length 0 ds.length), (7, .own h7 n 0 n), (12, I f), (14, .ptr g14 1 0 0), (18, I a), (128, x128)] H := by
  unfold ir95d
  have hf' : (f : Int) < n := by omega
  have ha' : (a : Int) < n := by omega
  have b1 := hL f hf
  have b2 := hL a ha
  simp only [walkS, wl, rgets, retv, argsEnv, ev, cst, cst1, cstL, AEnv.get, AEnv.trim, envput, qstep, abin, aun, evs, evo, deref, qload, target, if_true, if_false, Nat.reduceEqDiff, reduceIte, Nat.reduceAdd, AV.cells, AV.isTuple, setMany, alen, aiaddr, afill, Nat.reduceLeDiff, Nat.reduceMul, Nat.reduceLT, afillE, List.replicate]
  refine call_pure (used_ok (b := false) (by omega)) (frzL_of' (d := 4) (carL_cons (car_ownN (d := 2) o6 (by rw [ic_length, li_length]) (ic_simple _)) rfl)) ?_
  simp only [walkS, wl, rgets, retv, argsEnv, ev, cst, cst1, cstL, AEnv.get, AEnv.trim, envput, qstep, abin, aun, evs, evo, deref, qload, target, if_true, if_false, Nat.reduceEqDiff, reduceIte, Nat.reduceAdd, AV.cells, AV.isTuple, setMany, alen, aiaddr, afill, Nat.reduceLeDiff, Nat.reduceMul, Nat.reduceLT, afillE, List.replicate, o14]
  refine call_pure (shortest_ok hgl hf hw) (frzL_of' (d := 4) (carL_cons (car_agg (carL_cons rfl (carL_cons (car_ro_false (rows_simple _)) rfl))) rfl)) ?_
  have w1 : IntKind.i64.wrap (- L f) = - L f := wrap_id (by omega) (by omega)
  have w2 : IntKind.i64.wrap (0 - L f) = - L f := by rw [wrap_id (by omega) (by omega)]; omega
  simp only [walkS, wl, rgets, retv, argsEnv, ev, cst, cst1, cstL, AEnv.get, AEnv.trim, envput, qstep, abin, aun, evs, evo, deref, qload, target, if_true, if_false, Nat.reduceEqDiff, reduceIte, Nat.reduceAdd, AV.cells, AV.isTuple, setMany, alen, aiaddr, afill, Nat.reduceLeDiff, Nat.reduceMul, Nat.reduceLT, afillE, List.replicate, o7, li_get hf, li_get ha, ic_length, li_length, if_pos hf', if_pos ha', w1, w2, amm_min]
  exact much_rest hn hK hw hf ha hne hL ⟨by omega, by omega⟩ hF h67 o0 g6 o6 o7 (hQ _ rfl)
end Go.Proofs.Ytepnijjgdhldeaa
/- The flow of the specification: where it goes. -/
namespace Go.Proofs.Ytepnijjgdhldeaa
open Go.Awp
set_option linter.unusedSimpArgs false
set_option linter.unusedVariables false
set_option linter.unusedSectionVars false
set_option maxRecDepth 10000
set_option maxHeartbeats 8000000
theorem to_rest {n f : Nat} {ds : List Df} {F L : Nat → Int} {L0 h7 g14 : Nat} {x6 : AV} {p6 : Option Nat} {H : AHeap} {Q : AX → AEnv → AHeap → Prop} (hn1 : 0 < n) (hn : n ≤ 20) (hK : ds.length ≤ 60) (sol : Sol n (lns ds F))
    (hf : f < n) (hL : ∀ v, v < n → -65536 ≤ L v ∧ L v ≤ 65536) (hLf : L f < 0) (hF : ∀ k, k < ds.length → 0 ≤ F k ∧ F k ≤ 65536)
    (o0 : AHeap.obj H L0 = some ⟨24, 2, [[I n, .ro false (rows ds)]]⟩) (o14 : AHeap.obj H g14 = some ⟨24, 2, [[I n, .ro true (rows (lns ds F))]]⟩)
    (a6 : AccS H x6 3 1 (ic (li ds.length F)) p6) (z6 : ∀ h, p6 = some h → h ≠ L0 ∧ h ≠ h7) (o7 : AHeap.obj H h7 = some ⟨3, 1, ic (li n L)⟩)
    (hRay : (∀ v, v < n → (lens n (lns ds F) (one f)).1.has v = true → L v ≤ 0) → Q .ret [(4, .nilSlice), (5, .bool false)] H)
    (hGo : ∀ a q c h6, p6 = some h6 → Way n (lns ds F) (lens n (lns ds F) (one f)).1 (one f) a q → 0 < L a → c = muchR ds F (lens n (lns ds F) (one f)).1 a (min (- L f) (L a)) q → ∀ H', H'.length = H.length → AHeap.obj H' h6 = some ⟨3, 1, ic (li ds.length (augs ds F (lens n (lns ds F) (one f)).1 a c q))⟩ → AHeap.obj H' h7 = some ⟨3, 1, ic (li n (upd (upd L f (L f + c)) a (upd L f (L f + c) a - c)))⟩ → (∀ i, i ≠ h6 → i ≠ h7 → AHeap.obj H' i = AHeap.obj H i) → Q .normal [(2, .ptr L0 1 0 0), (6, .own h6 ds.length 0 ds.length), (7, .own h7 n 0 n)] H') :
    awp Try.prog ir95h Q [(2, .ptr L0 1 0 0), (6, x6), (7, .own h7 n 0 n), (12, I f), (14, .ptr g14 1 0 0), (15, .ro true (ic (li n (lens n (lns ds F) (one f)).1.long))), (16, .ro true (bc (lb n (lens n (lns ds F) (one f)).1.has)))] H := by
  unfold ir95h
  have heq := iter_lens sol.good (solvable_one sol.good sol.sol hf)
  have hcalm := sol.calm1 hf
  generalize hs : (lens n (lns ds F) (one f)).1 = s at heq hRay hGo ⊢
  simp only [walkS, wl, rgets, retv, argsEnv, ev, cst, cst1, cstL, AEnv.get, AEnv.trim, envput, qstep, abin, aun, evs, evo, deref, qload, target, if_true, if_false, Nat.reduceEqDiff, reduceIte, Nat.reduceAdd, AV.cells, AV.isTuple, setMany, alen, aiaddr, afill, Nat.reduceLeDiff, Nat.reduceMul, Nat.reduceLT, afillE, List.replicate]
  refine awp_loop (σ := Nat × Int) (fun t => [(2, .ptr L0 1 0 0), (6, x6), (7, .own h7 n 0 n), (12, I f), (14, .ptr g14 1 0 0), (15, .ro true (ic (li n s.long))), (16, .ro true (bc (lb n s.has))), (18, I t.2), (19, I t.1)])
    (fun _ H1 => H1 = H) (fun t => t.1 ≤ n ∧ ((t.2 = -1 ∧ ∀ v, v < t.1 → s.has v = true → L v ≤ 0) ∨ ∃ a : Nat, t.2 = a ∧ a < t.1 ∧ s.has a = true ∧ 0 < L a)) (fun t => n - t.1) (0, -1) ⟨Nat.zero_le _, .inl ⟨rfl, fun v hv => by omega⟩⟩ rfl rfl ?_
  rintro ⟨k, b⟩ H1 ⟨hk, hc⟩ rfl
  simp only at hk hc
  simp only [walkS, wl, rgets, retv, argsEnv, ev, cst, cst1, cstL, AEnv.get, AEnv.trim, envput, qstep, abin, aun, evs, evo, deref, qload, target, if_true, if_false, Nat.reduceEqDiff, reduceIte, Nat.reduceAdd, AV.cells, AV.isTuple, setMany, alen, aiaddr, afill, Nat.reduceLeDiff, Nat.reduceMul, Nat.reduceLT, afillE, List.replicate, o0]
  refine withBool_intro ?_ ?_ <;> intro hb <;> simp only [walkS, wl, rgets, retv, argsEnv, ev, cst, cst1, cstL, AEnv.get, AEnv.trim, envput, qstep, abin, aun, evs, evo, deref, qload, target, if_true, if_false, Nat.reduceEqDiff, reduceIte, Nat.reduceAdd, AV.cells, AV.isTuple, setMany, alen, aiaddr, afill, Nat.reduceLeDiff, Nat.reduceMul, Nat.reduceLT, afillE, List.replicate]
  · have hlt : k < n := by simpa using hb
    have hk' : (k : Int) < n := by omega
    have hwk : IntKind.i64.wrap ((k : Int) + 1) = ((k + 1 : Nat) : Int) := by rw [wrap_id (by omega) (by omega)]; simp
    have old : (L k ≤ 0 ∨ s.has k = false ∨ 0 ≤ b) → (b = -1 ∧ ∀ v, v < k + 1 → s.has v = true → L v ≤ 0) ∨ ∃ a : Nat, b = a ∧ a < k + 1 ∧ s.has a = true ∧ 0 < L a := fun h => by
      rcases hc with ⟨c1, c2⟩ | ⟨a, c1, c2, c3, c4⟩
      · left
        refine ⟨c1, fun v hv hh => ?_⟩
        by_cases e : v = k
        · subst e
          rcases h with h | h | h
          · exact h
          · rw [h] at hh; cases hh
          · omega
        · exact c2 v (by omega) hh
      · exact .inr ⟨a, c1, by omega, c3, c4⟩
    have new : 0 < L k → s.has k = true → (((k : Int) = -1 ∧ ∀ v, v < k + 1 → s.has v = true → L v ≤ 0) ∨ ∃ a : Nat, (k : Int) = a ∧ a < k + 1 ∧ s.has a = true ∧ 0 < L a) := fun h1 h2 => .inr ⟨k, rfl, by omega, h2, h1⟩
    simp only [walkS, wl, rgets, retv, argsEnv, ev, cst, cst1, cstL, AEnv.get, AEnv.trim, envput, qstep, abin, aun, evs, evo, deref, qload, target, if_true, if_false, Nat.reduceEqDiff, reduceIte, Nat.reduceAdd, AV.cells, AV.isTuple, setMany, alen, aiaddr, afill, Nat.reduceLeDiff, Nat.reduceMul, Nat.reduceLT, afillE, List.replicate, o7, li_get hlt, lb_get hlt, li_length, ic_length, lb_length, bc_length, if_pos hk']
    refine withGuard_intro ?_ ?_ <;> intro h1 <;> simp only [walkS, wl, rgets, retv, argsEnv, ev, cst, cst1, cstL, AEnv.get, AEnv.trim, envput, qstep, abin, aun, evs, evo, deref, qload, target, if_true, if_false, Nat.reduceEqDiff, reduceIte, Nat.reduceAdd, AV.cells, AV.isTuple, setMany, alen, aiaddr, afill, Nat.reduceLeDiff, Nat.reduceMul, Nat.reduceLT, afillE, List.replicate, h1, o7, li_get hlt, lb_get hlt, li_length, ic_length, lb_length, bc_length, if_pos hk']
    · have hp : 0 < L k := by simpa using h1
      cases hh : s.has k with
      | false =>
        simp only [walkS, wl, rgets, retv, argsEnv, ev, cst, cst1, cstL, AEnv.get, AEnv.trim, envput, qstep, abin, aun, evs, evo, deref, qload, target, if_true, if_false, Nat.reduceEqDiff, reduceIte, Nat.reduceAdd, AV.cells, AV.isTuple, setMany, alen, aiaddr, afill, Nat.reduceLeDiff, Nat.reduceMul, Nat.reduceLT, afillE, List.replicate, hwk]
        exact loop_end (k + 1, b) ⟨hlt, old (.inr (.inl hh))⟩ (by simp only; omega) rfl rfl
      | true =>
        simp only [walkS, wl, rgets, retv, argsEnv, ev, cst, cst1, cstL, AEnv.get, AEnv.trim, envput, qstep, abin, aun, evs, evo, deref, qload, target, if_true, if_false, Nat.reduceEqDiff, reduceIte, Nat.reduceAdd, AV.cells, AV.isTuple, setMany, alen, aiaddr, afill, Nat.reduceLeDiff, Nat.reduceMul, Nat.reduceLT, afillE, List.replicate, o7, li_get hlt, lb_get hlt, li_length, ic_length, lb_length, bc_length, if_pos hk']
        rcases hc with ⟨rfl, c2⟩ | ⟨a, rfl, c2, c3, c4⟩
        · simp only [walkS, wl, rgets, retv, argsEnv, ev, cst, cst1, cstL, AEnv.get, AEnv.trim, envput, qstep, abin, aun, evs, evo, deref, qload, target, if_true, if_false, Nat.reduceEqDiff, reduceIte, Nat.reduceAdd, AV.cells, AV.isTuple, setMany, alen, aiaddr, afill, Nat.reduceLeDiff, Nat.reduceMul, Nat.reduceLT, afillE, List.replicate, hwk, Int.reduceLT, decide_true]
          exact loop_end (k + 1, (k : Int)) ⟨hlt, new hp hh⟩ (by simp only; omega) rfl rfl
        · have ha : a < n := by omega
          have ha' : (a : Int) < n := by omega
          have e1 : decide ((a : Int) < 0) = false := by simp
          simp only [walkS, wl, rgets, retv, argsEnv, ev, cst, cst1, cstL, AEnv.get, AEnv.trim, envput, qstep, abin, aun, evs, evo, deref, qload, target, if_true, if_false, Nat.reduceEqDiff, reduceIte, Nat.reduceAdd, AV.cells, AV.isTuple, setMany, alen, aiaddr, afill, Nat.reduceLeDiff, Nat.reduceMul, Nat.reduceLT, afillE, List.replicate, e1, o7, li_get hlt, li_get ha, lb_get hlt, li_length, ic_length, lb_length, bc_length, if_pos hk', if_pos ha']
          refine withBool_intro ?_ ?_ <;> intro h3 <;> simp only [walkS, wl, rgets, retv, argsEnv, ev, cst, cst1, cstL, AEnv.get, AEnv.trim, envput, qstep, abin, aun, evs, evo, deref, qload, target, if_true, if_false, Nat.reduceEqDiff, reduceIte, Nat.reduceAdd, AV.cells, AV.isTuple, setMany, alen, aiaddr, afill, Nat.reduceLeDiff, Nat.reduceMul, Nat.reduceLT, afillE, List.replicate, hwk, h3]
          · exact loop_end (k + 1, (k : Int)) ⟨hlt, new hp hh⟩ (by simp only; omega) rfl rfl
          · exact loop_end (k + 1, (a : Int)) ⟨hlt, old (.inr (.inr (by omega)))⟩ (by simp only; omega) rfl rfl
    · have hp : L k ≤ 0 := by simpa using h1
      simp only [walkS, wl, rgets, retv, argsEnv, ev, cst, cst1, cstL, AEnv.get, AEnv.trim, envput, qstep, abin, aun, evs, evo, deref, qload, target, if_true, if_false, Nat.reduceEqDiff, reduceIte, Nat.reduceAdd, AV.cells, AV.isTuple, setMany, alen, aiaddr, afill, Nat.reduceLeDiff, Nat.reduceMul, Nat.reduceLT, afillE, List.replicate, hwk]
      exact loop_end (k + 1, b) ⟨hlt, old (.inl hp)⟩ (by simp only; omega) rfl rfl
  · have hk' : k = n := by simp at hb; omega
    subst hk'
    rcases hc with ⟨rfl, c2⟩ | ⟨a, rfl, c2, c3, c4⟩
    · simp only [walkS, wl, rgets, retv, argsEnv, ev, cst, cst1, cstL, AEnv.get, AEnv.trim, envput, qstep, abin, aun, evs, evo, deref, qload, target, if_true, if_false, Nat.reduceEqDiff, reduceIte, Nat.reduceAdd, AV.cells, AV.isTuple, setMany, alen, aiaddr, afill, Nat.reduceLeDiff, Nat.reduceMul, Nat.reduceLT, afillE, List.replicate, Int.reduceLT, decide_true]
      exact hRay c2
    · have e1 : decide ((a : Int) < 0) = false := by simp
      simp only [walkS, wl, rgets, retv, argsEnv, ev, cst, cst1, cstL, AEnv.get, AEnv.trim, envput, qstep, abin, aun, evs, evo, deref, qload, target, if_true, if_false, Nat.reduceEqDiff, reduceIte, Nat.reduceAdd, AV.cells, AV.isTuple, setMany, alen, aiaddr, afill, Nat.reduceLeDiff, Nat.reduceMul, Nat.reduceLT, afillE, List.replicate, e1]
      have hgl := sol.good
      obtain ⟨q, hw⟩ := way_of (S := one f) hgl (by rw [hs]; rw [hs] at hcalm; exact hcalm) c2 (by rw [hs]; exact c3)
      rw [hs] at hw
      have hne : f ≠ a := fun e => by rw [e] at hLf; omega
      have hroot : itp (lns ds F) s q a = f := by have := hw.root; simpa [one] using this
      have hq0 : 0 < q := by
        rcases Nat.eq_zero_or_pos q with e | e
        · subst e; exact absurd hroot.symm hne
        · exact e
      have hj := (hw.hop hq0).jlt
      obtain ⟨h6, e6, rfl, o6⟩ := a6.resolve_left (by intro h; have := congrArg List.length h.2.1; rw [ic_length, li_length] at this; simp only [List.length_nil] at this; omega)
      have hz := z6 h6 e6
      simp only [ic_length, li_length]
      exact way_rest hn hK hgl (by rw [heq]; exact hw) hf c2 hne hL hLf c4 hF hz.2 o0 hz.1 o14 o6 o7 fun c hc H' y1 y2 y3 y4 => hGo a q c h6 e6 hw c4 (by rw [heq] at hc; exact hc) H' y1 (by rw [heq] at y2; exact y2) y3 y4
end Go.Proofs.Ytepnijjgdhldeaa
/- The flow of the specification: one round. -/
namespace Go.Proofs.Ytepnijjgdhldeaa
open Go.Awp
set_option linter.unusedSimpArgs false
set_option linter.unusedVariables false
set_option linter.unusedSectionVars false
set_option maxRecDepth 10000
set_option maxHeartbeats 8000000
theorem accS_frz {H : AHeap} {a : AV} {e s : Nat} {els : List (List AV)} {ho : Option Nat} (h : AccS H a e s els ho) (hs : Simple els) : Frz H a (.ro false els) := by
  rcases h with ⟨_, rfl, rfl⟩ | ⟨q, _, rfl, o⟩
  · exact frz_nil
  · exact frz_car (d := 2) (car_ownN o rfl hs)
theorem frm_rest {n f : Nat} {ds : List Df} {F L : Nat → Int} {L0 h7 : Nat} {x6 x13 x70 : AV} {p6 : Option Nat} {H : AHeap} {Q : AX → AEnv → AHeap → Prop} (hn1 : 0 < n) (hn : n ≤ 20) (hK : ds.length ≤ 60) (hwd : ∀ d, d ∈ ds → -1073741824 ≤ d.2.2 ∧ d.2.2 ≤ 1073741824) (sol : Sol n (lns ds F))
    (hf : f < n) (hL : ∀ v, v < n → -65536 ≤ L v ∧ L v ≤ 65536) (hLf : L f < 0) (hF : ∀ k, k < ds.length → 0 ≤ F k ∧ F k ≤ 65536)
    (o0 : AHeap.obj H L0 = some ⟨24, 2, [[I n, .ro false (rows ds)]]⟩)
    (a6 : AccS H x6 3 1 (ic (li ds.length F)) p6) (z6 : ∀ h, p6 = some h → h ≠ L0 ∧ h ≠ h7) (o7 : AHeap.obj H h7 = some ⟨3, 1, ic (li n L)⟩)
    (hRay : (∀ v, v < n → (lens n (lns ds F) (one f)).1.has v = true → L v ≤ 0) → ∀ H', H.length ≤ H'.length → (∀ i, i < H.length → AHeap.obj H' i = AHeap.obj H i) → Q .ret [(4, .nilSlice), (5, .bool false)] H')
    (hGo : ∀ a q c h6, p6 = some h6 → Way n (lns ds F) (lens n (lns ds F) (one f)).1 (one f) a q → 0 < L a → c = muchR ds F (lens n (lns ds F) (one f)).1 a (min (- L f) (L a)) q → ∀ H', H.length ≤ H'.length → AHeap.obj H' h6 = some ⟨3, 1, ic (li ds.length (augs ds F (lens n (lns ds F) (one f)).1 a c q))⟩ → AHeap.obj H' h7 = some ⟨3, 1, ic (li n (upd (upd L f (L f + c)) a (upd L f (L f + c) a - c)))⟩ → (∀ i, i < H.length → i ≠ h6 → i ≠ h7 → AHeap.obj H' i = AHeap.obj H i) → Q .normal [(2, .ptr L0 1 0 0), (6, .own h6 ds.length 0 ds.length), (7, .own h7 n 0 n)] H') :
    awp Try.prog ir95c Q [(2, .ptr L0 1 0 0), (6, x6), (7, .own h7 n 0 n), (12, I f), (13, x13), (70, x70)] H := by
  unfold ir95c
  have e1 : decide ((f : Int) < 0) = false := by simp
  simp only [walkS, wl, rgets, retv, argsEnv, ev, cst, cst1, cstL, AEnv.get, AEnv.trim, envput, qstep, abin, aun, evs, evo, deref, qload, target, if_true, if_false, Nat.reduceEqDiff, reduceIte, Nat.reduceAdd, AV.cells, AV.isTuple, setMany, alen, aiaddr, afill, Nat.reduceLeDiff, Nat.reduceMul, Nat.reduceLT, afillE, List.replicate, e1, o0]
  refine call_pure (residual_ok (F := F) (b := false) (by omega) hwd) (.cons (frz_car (d := 4) car_netF) (.cons (accS_frz a6 (ic_simple _)) .nil)) ?_
  simp only [walkS, wl, rgets, retv, argsEnv, ev, cst, cst1, cstL, AEnv.get, AEnv.trim, envput, qstep, abin, aun, evs, evo, deref, qload, target, if_true, if_false, Nat.reduceEqDiff, reduceIte, Nat.reduceAdd, AV.cells, AV.isTuple, setMany, alen, aiaddr, afill, Nat.reduceLeDiff, Nat.reduceMul, Nat.reduceLT, afillE, List.replicate]
  have l0 := AHeap.obj_lt o0
  have l7 := AHeap.obj_lt o7
  have l6 := accS_lt a6
  refine storeR rfl rfl AHeap.obj_push_eq rfl ⟨rfl, rfl, rfl, by simp⟩ fun H1 y1 y2 y3 => ?_
  simp only [List.length_append, List.length_cons, List.length_nil] at y1
  simp only [AV.cells, setMany, List.set_cons_zero, List.set_cons_succ, Nat.zero_add, Nat.reduceAdd] at y2
  have back : ∀ q, q < H.length → AHeap.obj H1 q = AHeap.obj H q := fun q hq => by rw [y3 q (by omega), AHeap.obj_push_lt hq]
  have p0 := (back _ l0).trans o0
  have p7 := (back _ l7).trans o7
  have p6' : AccS H1 x6 3 1 (ic (li ds.length F)) p6 := a6.keep fun i hi hil => back i hil
  generalize H.length = g14 at y1 y2 back l0 l7 l6 hRay hGo ⊢
  simp only [walkS, wl, rgets, retv, argsEnv, ev, cst, cst1, cstL, AEnv.get, AEnv.trim, envput, qstep, abin, aun, evs, evo, deref, qload, target, if_true, if_false, Nat.reduceEqDiff, reduceIte, Nat.reduceAdd, AV.cells, AV.isTuple, setMany, alen, aiaddr, afill, Nat.reduceLeDiff, Nat.reduceMul, Nat.reduceLT, afillE, List.replicate, p0, y2]
  refine dcall_pure (marks_ok (ds := ds) (all := false) (one := f) (by omega)) (frzL_of (d := 4) (carL_cons car_netF rfl)) ?_
  rw [lb_one]
  simp only [walkS, wl, rgets, retv, argsEnv, ev, cst, cst1, cstL, AEnv.get, AEnv.trim, envput, qstep, abin, aun, evs, evo, deref, qload, target, if_true, if_false, Nat.reduceEqDiff, reduceIte, Nat.reduceAdd, AV.cells, AV.isTuple, setMany, alen, aiaddr, afill, Nat.reduceLeDiff, Nat.reduceMul, Nat.reduceLT, afillE, List.replicate]
  refine dcall_pure (Lengths_ok sol.good (S := one f) (b := false)) (frzL_of (d := 4) (carL_cons (car_agg (carL_cons rfl (carL_cons (car_ro_false (rows_simple _)) rfl))) (carL_cons (car_ro_false (bc_simple _)) rfl))) ?_
  rw [show lenR (lns ds F) (startL (one f)) (n + 1) 0 = lens n (lns ds F) (one f) from rfl]
  simp only [walkS, wl, rgets, retv, argsEnv, ev, cst, cst1, cstL, AEnv.get, AEnv.trim, envput, qstep, abin, aun, evs, evo, deref, qload, target, if_true, if_false, Nat.reduceEqDiff, reduceIte, Nat.reduceAdd, AV.cells, AV.isTuple, setMany, alen, aiaddr, afill, Nat.reduceLeDiff, Nat.reduceMul, Nat.reduceLT, afillE, List.replicate]
  exact to_rest hn1 hn hK sol hf hL hLf hF p0 y2 p6' z6 p7 (fun h => hRay h H1 (by omega) back) fun a q c h6 e6 hw hLa hc H' m1 m2 m3 m4 => hGo a q c h6 e6 hw hLa hc H' (by omega) m2 m3 fun i hi i6 i7 => (m4 i i6 i7).trans (back i hi)
theorem round_rest {n : Nat} {ds : List Df} {F L : Nat → Int} {L0 h7 : Nat} {x6 : AV} {p6 : Option Nat} {H : AHeap} {env : AEnv} {x1 x9 x11 x50 : AV} {Q : AX → AEnv → AHeap → Prop} (hn1 : 0 < n) (hn : n ≤ 20) (hK : ds.length ≤ 60) (hwd : ∀ d, d ∈ ds → -1073741824 ≤ d.2.2 ∧ d.2.2 ≤ 1073741824) (sol : Sol n (lns ds F))
    (hL : ∀ v, v < n → -65536 ≤ L v ∧ L v ≤ 65536) (hF : ∀ k, k < ds.length → 0 ≤ F k ∧ F k ≤ 65536)
    (o0 : AHeap.obj H L0 = some ⟨24, 2, [[I n, .ro false (rows ds)]]⟩)
    (a6 : AccS H x6 3 1 (ic (li ds.length F)) p6) (z6 : ∀ h, p6 = some h → h ≠ L0 ∧ h ≠ h7) (o7 : AHeap.obj H h7 = some ⟨3, 1, ic (li n L)⟩)
    (hE : env = [(2, .ptr L0 1 0 0), (6, x6), (7, .own h7 n 0 n)] ∨ env = [(1, x1), (2, .ptr L0 1 0 0), (6, x6), (7, .own h7 n 0 n), (9, x9), (11, x11), (50, x50)])
    (hAll : (∀ v, v < n → 0 ≤ L v) → Q .ret [(4, x6), (5, .bool true)] H)
    (hRay : ∀ f, f < n → L f < 0 → (∀ v, v < n → (lens n (lns ds F) (one f)).1.has v = true → L v ≤ 0) → ∀ H', H.length ≤ H'.length → (∀ i, i < H.length → AHeap.obj H' i = AHeap.obj H i) → Q .ret [(4, .nilSlice), (5, .bool false)] H')
    (hGo : ∀ f a q c h6, f < n → L f < 0 → p6 = some h6 → Way n (lns ds F) (lens n (lns ds F) (one f)).1 (one f) a q → 0 < L a → c = muchR ds F (lens n (lns ds F) (one f)).1 a (min (- L f) (L a)) q → ∀ H', H.length ≤ H'.length → AHeap.obj H' h6 = some ⟨3, 1, ic (li ds.length (augs ds F (lens n (lns ds F) (one f)).1 a c q))⟩ → AHeap.obj H' h7 = some ⟨3, 1, ic (li n (upd (upd L f (L f + c)) a (upd L f (L f + c) a - c)))⟩ → (∀ i, i < H.length → i ≠ h6 → i ≠ h7 → AHeap.obj H' i = AHeap.obj H i) → Q .normal [(2, .ptr L0 1 0 0), (6, .own h6 ds.length 0 ds.length), (7, .own h7 n 0 n)] H') :
    awp Try.prog ir95b Q env H := by
  unfold ir95b
  rcases hE with rfl | rfl
  all_goals
    simp only [walkS, wl, rgets, retv, argsEnv, ev, cst, cst1, cstL, AEnv.get, AEnv.trim, envput, qstep, abin, aun, evs, evo, deref, qload, target, if_true, if_false, Nat.reduceEqDiff, reduceIte, Nat.reduceAdd, AV.cells, AV.isTuple, setMany, alen, aiaddr, afill, Nat.reduceLeDiff, Nat.reduceMul, Nat.reduceLT, afillE, List.replicate]
    refine awp_loop (σ := Nat × Int) (fun t => [(2, .ptr L0 1 0 0), (6, x6), (7, .own h7 n 0 n), (12, I t.2), (13, I t.1)])
      (fun _ H1 => H1 = H) (fun t => t.1 ≤ n ∧ ((t.2 = -1 ∧ ∀ v, v < t.1 → 0 ≤ L v) ∨ ∃ f : Nat, t.2 = f ∧ f < t.1 ∧ L f < 0)) (fun t => n - t.1) (0, -1) ⟨Nat.zero_le _, .inl ⟨rfl, fun v hv => by omega⟩⟩ rfl rfl ?_
    rintro ⟨k, b⟩ H1 ⟨hk, hc⟩ rfl
    simp only at hk hc
    simp only [walkS, wl, rgets, retv, argsEnv, ev, cst, cst1, cstL, AEnv.get, AEnv.trim, envput, qstep, abin, aun, evs, evo, deref, qload, target, if_true, if_false, Nat.reduceEqDiff, reduceIte, Nat.reduceAdd, AV.cells, AV.isTuple, setMany, alen, aiaddr, afill, Nat.reduceLeDiff, Nat.reduceMul, Nat.reduceLT, afillE, List.replicate, o0]
    refine withBool_intro ?_ ?_ <;> intro hb <;> simp only [walkS, wl, rgets, retv, argsEnv, ev, cst, cst1, cstL, AEnv.get, AEnv.trim, envput, qstep, abin, aun, evs, evo, deref, qload, target, if_true, if_false, Nat.reduceEqDiff, reduceIte, Nat.reduceAdd, AV.cells, AV.isTuple, setMany, alen, aiaddr, afill, Nat.reduceLeDiff, Nat.reduceMul, Nat.reduceLT, afillE, List.replicate]
    · have hlt : k < n := by simpa using hb
      have hk' : (k : Int) < n := by omega
      have hwk : IntKind.i64.wrap ((k : Int) + 1) = ((k + 1 : Nat) : Int) := by rw [wrap_id (by omega) (by omega)]; simp
      simp only [walkS, wl, rgets, retv, argsEnv, ev, cst, cst1, cstL, AEnv.get, AEnv.trim, envput, qstep, abin, aun, evs, evo, deref, qload, target, if_true, if_false, Nat.reduceEqDiff, reduceIte, Nat.reduceAdd, AV.cells, AV.isTuple, setMany, alen, aiaddr, afill, Nat.reduceLeDiff, Nat.reduceMul, Nat.reduceLT, afillE, List.replicate, o7, li_get hlt, li_length, ic_length, if_pos hk']
      refine withBool_intro ?_ ?_ <;> intro h1 <;> simp only [walkS, wl, rgets, retv, argsEnv, ev, cst, cst1, cstL, AEnv.get, AEnv.trim, envput, qstep, abin, aun, evs, evo, deref, qload, target, if_true, if_false, Nat.reduceEqDiff, reduceIte, Nat.reduceAdd, AV.cells, AV.isTuple, setMany, alen, aiaddr, afill, Nat.reduceLeDiff, Nat.reduceMul, Nat.reduceLT, afillE, List.replicate, hwk]
      · have hp : L k < 0 := by simpa using h1
        exact loop_end (k + 1, (k : Int)) ⟨hlt, .inr ⟨k, rfl, by simp only; omega, hp⟩⟩ (by simp only; omega) rfl rfl
      · have hp : 0 ≤ L k := by simpa using h1
        refine loop_end (k + 1, b) ⟨hlt, ?_⟩ (by simp only; omega) rfl rfl
        rcases hc with ⟨c1, c2⟩ | ⟨f, c1, c2, c3⟩
        · refine .inl ⟨c1, fun v hv => ?_⟩
          by_cases e : v = k
          · subst e; exact hp
          · exact c2 v (by simp only at hv; omega)
        · exact .inr ⟨f, c1, by simp only; omega, c3⟩
    · have hk' : k = n := by simp at hb; omega
      subst hk'
      rcases hc with ⟨rfl, c2⟩ | ⟨f, rfl, c2, c3⟩
      · unfold ir95c
        simp only [walkS, wl, rgets, retv, argsEnv, ev, cst, cst1, cstL, AEnv.get, AEnv.trim, envput, qstep, abin, aun, evs, evo, deref, qload, target, if_true, if_false, Nat.reduceEqDiff, reduceIte, Nat.reduceAdd, AV.cells, AV.isTuple, setMany, alen, aiaddr, afill, Nat.reduceLeDiff, Nat.reduceMul, Nat.reduceLT, afillE, List.replicate, Int.reduceLT, decide_true]
        exact hAll c2
      · exact frm_rest hn1 hn hK hwd sol c2 hL c3 hF o0 a6 z6 o7 (hRay f c2 c3) fun a q c h6 => hGo f a q c h6 c2 c3
end Go.Proofs.Ytepnijjgdhldeaa
