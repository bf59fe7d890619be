/- CheckClash, of the program and of the specification. -/
import Derived.Test.YtepnijjgdhldeaaQD14
namespace Go.Proofs.Ytepnijjgdhldeaa
open Go.Awp
set_option linter.unusedSimpArgs false
set_option linter.unusedVariables false
set_option maxRecDepth 10000
set_option maxHeartbeats 4000000
def froms (ds : List Df) (l : List Int) : List Int := l.map fun k => (dd ds k).1
/-- CheckClash, as both programs answer. -/
def clash (n : Int) (ds : List Df) (l : List Int) : Int :=
  if valid n ds then (if idx ds l then (if l.length = 0 ∨ (l.length : Int) > n then 43 else if (froms ds l).Nodup then (if (wkV ds (dd ds (l.getD 0 0)).1 (dd ds (l.getD 0 0)).1 l).2 = true ∧ (wkV ds (dd ds (l.getD 0 0)).1 (dd ds (l.getD 0 0)).1 l).1 < 0 then 0 else 43) else 43) else 1) else 40
theorem froms_length {ds : List Df} {l : List Int} : (froms ds l).length = l.length := by simp [froms]
theorem froms_get {ds : List Df} {l : List Int} {k : Nat} (h : k < l.length) : (froms ds l)[k]'(by rw [froms_length]; exact h) = (dd ds l[k]).1 := by simp [froms]
theorem nodup_snoc {l : List Int} {k : Nat} (h : k < l.length) (hn : (l.take k).Nodup) : (l.take (k + 1)).Nodup ↔ l[k] ∉ l.take k := by
  rw [List.take_succ_eq_append_getElem h, List.nodup_append]
  constructor
  · rintro ⟨_, _, h3⟩ hm
    exact h3 _ hm _ (List.mem_singleton.2 rfl) rfl
  · intro hm
    exact ⟨hn, by simp, fun a ha b hb e => hm (by rw [List.mem_singleton.1 hb] at e; rw [← e]; exact ha)⟩
theorem nodup_take {l : List Int} (h : l.Nodup) (k : Nat) : (l.take k).Nodup := h.sublist (List.take_sublist k l)
theorem clash_dup {n : Int} {ds : List Df} {l : List Int} (hv : valid n ds = true) (hi : idx ds l = true) (hl : ¬ (l.length = 0 ∨ (l.length : Int) > n)) (h : ¬ (froms ds l).Nodup) : clash n ds l = 43 := by
  simp only [clash, hv, hi, if_true, if_neg hl, if_neg h]
theorem marks_mem {l : List Int} {i : Nat} : marksOf l i = true ↔ (i : Int) ∈ l := by
  simp only [marksOf, List.any_eq_true, beq_iff_eq]
  constructor
  · rintro ⟨x, hx, rfl⟩; exact hx
  · intro h; exact ⟨_, h, rfl⟩
theorem marks_nil {n : Nat} : lb n (fun _ => false) = lb n (marksOf []) := rfl
theorem ckEnd {H : AHeap} {n : Int} {ds : List Df} {l : List Int} {s : Int} {ok : Bool} (hv : valid n ds = true) (hi : idx ds l = true) (hl : ¬ (l.length = 0 ∨ (l.length : Int) > n)) (hnd : (froms ds l).Nodup) (hw : wkV ds (dd ds (l.getD 0 0)).1 (dd ds (l.getD 0 0)).1 l = (s, ok)) :
    clash n ds l = if ok = true ∧ s < 0 then 0 else 43 := by
  simp only [clash, hv, hi, if_true, if_neg hl, if_pos hnd, hw]
theorem CheckClash_ok {n : Int} {ds : List Df} {l : List Int} (hd : ds.length ≤ big) (hl : l.length ≤ big) : PCall Try.prog 32 [.agg [I n, .ro false (rows ds)], .ro false (ic l)] (I (clash n ds l)) := by
  have hl0 := hl
  unfold big at hl0
  refine PCall.intro text32 (by simp) ?_
  unfold ir32
  simp only [walkS, wl, rgets, retv, argsEnv, ev, cst, cst1, cstL, AEnv.get, AEnv.trim, envput, qstep, abin, aun, evs, evo, deref, qload, target, if_true, if_false, Nat.reduceEqDiff, reduceIte, Nat.reduceAdd, AV.cells, AV.isTuple, setMany, alen, aiaddr, afill, Nat.reduceLeDiff, Nat.reduceMul, Nat.reduceLT, afillE, List.replicate]
  refine dcall_pure (indices_ok (n := n) hd hl) (frzL_of (d := 4) (carL_cons car_netF (carL_cons car_icF rfl))) ?_
  simp only [walkS, wl, rgets, retv, argsEnv, ev, cst, cst1, cstL, AEnv.get, AEnv.trim, envput, qstep, abin, aun, evs, evo, deref, qload, target, if_true, if_false, Nat.reduceEqDiff, reduceIte, Nat.reduceAdd, AV.cells, AV.isTuple, setMany, alen, aiaddr, afill, Nat.reduceLeDiff, Nat.reduceMul, Nat.reduceLT, afillE, List.replicate]
  refine call_pure (asked_ok n ds [idx ds l] (by simp [big])) (frzL_of' (d := 4) (carL_cons car_netF (carL_cons (car_own (o := ⟨4, 1, [[.bool (idx ds l)]]⟩) rfl (bc_simple [idx ds l])) rfl))) ?_
  simp only [walkS, wl, rgets, retv, argsEnv, ev, cst, cst1, cstL, AEnv.get, AEnv.trim, envput, qstep, abin, aun, evs, evo, deref, qload, target, if_true, if_false, Nat.reduceEqDiff, reduceIte, Nat.reduceAdd, AV.cells, AV.isTuple, setMany, alen, aiaddr, afill, Nat.reduceLeDiff, Nat.reduceMul, Nat.reduceLT, afillE, List.replicate]
  refine withBool_intro ?_ ?_ <;> intro h <;> simp only [walkS, wl, rgets, retv, argsEnv, ev, cst, cst1, cstL, AEnv.get, AEnv.trim, envput, qstep, abin, aun, evs, evo, deref, qload, target, if_true, if_false, Nat.reduceEqDiff, reduceIte, Nat.reduceAdd, AV.cells, AV.isTuple, setMany, alen, aiaddr, afill, Nat.reduceLeDiff, Nat.reduceMul, Nat.reduceLT, afillE, List.replicate, ic_length]
  · rcases asked_ne h with ⟨hv, e⟩ | ⟨hv, hb, e⟩
    · have e2 : clash n ds l = 40 := by simp [clash, hv]
      rw [e, e2]; exact out_int
    · have hb' : idx ds l = false := by simpa using hb
      have e2 : clash n ds l = 1 := by simp [clash, hv, hb']
      rw [e, e2]; exact out_int
  · obtain ⟨hv, hb⟩ := asked_eq h
    have hi : idx ds l = true := by simpa using hb
    obtain ⟨v1, v2, v3⟩ := valid_iff.1 hv
    obtain ⟨m, rfl⟩ : ∃ m : Nat, n = m := ⟨n.toNat, (Int.toNat_of_nonneg (by omega)).symm⟩
    by_cases h1 : l.length = 0
    · have e1 : ((l.length : Int) == 0) = true := by simp [h1]
      simp only [walkS, wl, rgets, retv, argsEnv, ev, cst, cst1, cstL, AEnv.get, AEnv.trim, envput, qstep, abin, aun, evs, evo, deref, qload, target, if_true, if_false, Nat.reduceEqDiff, reduceIte, Nat.reduceAdd, AV.cells, AV.isTuple, setMany, alen, aiaddr, afill, Nat.reduceLeDiff, Nat.reduceMul, Nat.reduceLT, afillE, List.replicate, e1]
      have e2 : clash m ds l = 43 := by simp only [clash, hv, hi, if_true, if_pos (show l.length = 0 ∨ (l.length : Int) > m from .inl h1)]
      rw [e2]; exact out_int
    · have e1 : ((l.length : Int) == 0) = false := beq_eq_false_iff_ne.2 (by omega)
      by_cases h2 : (l.length : Int) > m
      · simp only [walkS, wl, rgets, retv, argsEnv, ev, cst, cst1, cstL, AEnv.get, AEnv.trim, envput, qstep, abin, aun, evs, evo, deref, qload, target, if_true, if_false, Nat.reduceEqDiff, reduceIte, Nat.reduceAdd, AV.cells, AV.isTuple, setMany, alen, aiaddr, afill, Nat.reduceLeDiff, Nat.reduceMul, Nat.reduceLT, afillE, List.replicate, e1, decide_eq_true h2, ic_length]
        have e2 : clash m ds l = 43 := by simp only [clash, hv, hi, if_true, if_pos (show l.length = 0 ∨ (l.length : Int) > m from .inr h2)]
        rw [e2]; exact out_int
      · have hlm : ¬ (l.length = 0 ∨ (l.length : Int) > m) := by omega
        have c2 : (m : Int) ≤ m ∧ ((1 : Nat) : Int) * m ≤ 281474976710656 ∧ (m : Int) ≤ 9223372036854775807 := by omega
        simp only [walkS, wl, rgets, retv, argsEnv, ev, cst, cst1, cstL, AEnv.get, AEnv.trim, envput, qstep, abin, aun, evs, evo, deref, qload, target, if_true, if_false, Nat.reduceEqDiff, reduceIte, Nat.reduceAdd, AV.cells, AV.isTuple, setMany, alen, aiaddr, afill, Nat.reduceLeDiff, Nat.reduceMul, Nat.reduceLT, afillE, List.replicate, e1, decide_eq_false h2, ic_length, if_pos c2, lb_const, bc_length, lb_length]
        refine awp_loop (σ := Nat) (fun k => [(1, .ro false (ic l)), (2, .ptr 0 1 0 0), (6, .own 2 m 0 m), (35, .ro false (ic l)), (36, I l.length), (37, I k)]) (fun k H => AHeap.obj H 0 = some ⟨24, 2, [[I m, .ro false (rows ds)]]⟩ ∧ AHeap.obj H 2 = some ⟨4, 1, bc (lb m (marksOf ((froms ds l).take k)))⟩) (fun k => k ≤ l.length ∧ ((froms ds l).take k).Nodup) (fun k => l.length - k) 0 ⟨Nat.zero_le _, by simp⟩ rfl ⟨rfl, rfl⟩ ?_
        rintro k H ⟨hk, hnd⟩ ⟨o0, o2⟩
        simp only [walkS, wl, rgets, retv, argsEnv, ev, cst, cst1, cstL, AEnv.get, AEnv.trim, envput, qstep, abin, aun, evs, evo, deref, qload, target, if_true, if_false, Nat.reduceEqDiff, reduceIte, Nat.reduceAdd, AV.cells, AV.isTuple, setMany, alen, aiaddr, afill, Nat.reduceLeDiff, Nat.reduceMul, Nat.reduceLT, afillE, List.replicate]
        refine withBool_intro ?_ ?_ <;> intro hb2 <;> simp only [walkS, wl, rgets, retv, argsEnv, ev, cst, cst1, cstL, AEnv.get, AEnv.trim, envput, qstep, abin, aun, evs, evo, deref, qload, target, if_true, if_false, Nat.reduceEqDiff, reduceIte, Nat.reduceAdd, AV.cells, AV.isTuple, setMany, alen, aiaddr, afill, Nat.reduceLeDiff, Nat.reduceMul, Nat.reduceLT, afillE, List.replicate]
        · have hlt : k < l.length := by simpa using hb2
          have hix := List.all_eq_true.1 hi _ (List.getElem_mem hlt)
          obtain ⟨i1, i2, i3, i4⟩ := dd_get hix
          have hr := right_lt (v3 _ i4)
          obtain ⟨u, hu⟩ : ∃ u : Nat, (dd ds l[k]).1 = u := ⟨(dd ds l[k]).1.toNat, (Int.toNat_of_nonneg hr.1.1).symm⟩
          have hum : u < m := by omega
          have hfl : k < (froms ds l).length := by rw [froms_length]; exact hlt
          have hfk : (froms ds l)[k] = (u : Int) := by rw [froms_get hlt, hu]
          rw [hu] at i3
          simp only [walkS, wl, rgets, retv, argsEnv, ev, cst, cst1, cstL, AEnv.get, AEnv.trim, envput, qstep, abin, aun, evs, evo, deref, qload, target, if_true, if_false, Nat.reduceEqDiff, reduceIte, Nat.reduceAdd, AV.cells, AV.isTuple, setMany, alen, aiaddr, afill, Nat.reduceLeDiff, Nat.reduceMul, Nat.reduceLT, afillE, List.replicate, o0, ic_get hlt, ic_length, rows_length, if_pos i1, i3, o2, lb_get hum, bc_length, lb_length, if_pos (show (u : Int) < m by omega)]
          have hiff := nodup_snoc hfl hnd
          rw [hfk] at hiff
          refine withBool_intro ?_ ?_ <;> intro hse <;> simp only [walkS, wl, rgets, retv, argsEnv, ev, cst, cst1, cstL, AEnv.get, AEnv.trim, envput, qstep, abin, aun, evs, evo, deref, qload, target, if_true, if_false, Nat.reduceEqDiff, reduceIte, Nat.reduceAdd, AV.cells, AV.isTuple, setMany, alen, aiaddr, afill, Nat.reduceLeDiff, Nat.reduceMul, Nat.reduceLT, afillE, List.replicate, o2, lb_get hum, bc_length, lb_length, if_pos (show (u : Int) < m by omega)]
          · have hmem := marks_mem.1 hse
            rw [clash_dup hv hi hlm (fun h => (hiff.1 (nodup_take h (k + 1))) hmem)]; exact out_int
          · have hnm : (u : Int) ∉ (froms ds l).take k := fun h => by rw [marks_mem.2 h] at hse; cases hse
            refine storeR rfl rfl o2 (lb_get hum) ⟨by simp [bc_length, lb_length], rfl, rfl, by simp⟩ fun H1 y1 y2 y3 => ?_
            simp only [AV.cells, setMany, List.set_cons_zero, lb_set] at y2
            simp only [walkS, wl, rgets, retv, argsEnv, ev, cst, cst1, cstL, AEnv.get, AEnv.trim, envput, qstep, abin, aun, evs, evo, deref, qload, target, if_true, if_false, Nat.reduceEqDiff, reduceIte, Nat.reduceAdd, AV.cells, AV.isTuple, setMany, alen, aiaddr, afill, Nat.reduceLeDiff, Nat.reduceMul, Nat.reduceLT, afillE, List.replicate]
            rw [wrap_id (by omega) (by omega)]
            refine loop_end (k + 1) ⟨hlt, hiff.2 hnm⟩ (by omega) rfl ⟨(y3 0 (by omega)).trans o0, ?_⟩
            rw [y2, marks_step hfl hfk]
        · have hk' : k = l.length := by simp at hb2; omega
          subst hk'
          have hnd' : (froms ds l).Nodup := by
            rwa [List.take_of_length_le (by rw [froms_length]; omega)] at hnd
          have hp : 0 < l.length := by omega
          have hix := List.all_eq_true.1 hi _ (List.getElem_mem hp)
          obtain ⟨i1, i2, i3, i4⟩ := dd_get hix
          have h00 : l.getD 0 0 = l[0] := by simp [hp]
          simp only [walkS, wl, rgets, retv, argsEnv, ev, cst, cst1, cstL, AEnv.get, AEnv.trim, envput, qstep, abin, aun, evs, evo, deref, qload, target, if_true, if_false, Nat.reduceEqDiff, reduceIte, Nat.reduceAdd, AV.cells, AV.isTuple, setMany, alen, aiaddr, afill, Nat.reduceLeDiff, Nat.reduceMul, Nat.reduceLT, afillE, List.replicate, o0, ic_get hp, ic_length, rows_length, if_pos (Int.le_refl 0), Int.toNat_zero, if_pos i1, i3]
          refine call_pure (walk_ok (n := m) (ds := ds) (l := l) (f := (dd ds l[0]).1) (t := (dd ds l[0]).1) (b := false) hl hi) (frzL_of' (d := 4) (carL_cons car_netF (carL_cons rfl (carL_cons rfl (carL_cons car_icF rfl))))) ?_
          have hend := ckEnd (H := []) (s := (wkV ds (dd ds (l.getD 0 0)).1 (dd ds (l.getD 0 0)).1 l).1) (ok := (wkV ds (dd ds (l.getD 0 0)).1 (dd ds (l.getD 0 0)).1 l).2) hv hi hlm hnd' rfl
          rw [hend, h00]
          generalize wkV ds (dd ds l[0]).1 (dd ds l[0]).1 l = r
          obtain ⟨s, ok⟩ := r
          cases ok with
          | false =>
            simp only [walkS, wl, rgets, retv, argsEnv, ev, cst, cst1, cstL, AEnv.get, AEnv.trim, envput, qstep, abin, aun, evs, evo, deref, qload, target, if_true, if_false, Nat.reduceEqDiff, reduceIte, Nat.reduceAdd, AV.cells, AV.isTuple, setMany, alen, aiaddr, afill, Nat.reduceLeDiff, Nat.reduceMul, Nat.reduceLT, afillE, List.replicate]
            exact out_int
          | true =>
            by_cases hs : s ≥ 0
            · simp only [walkS, wl, rgets, retv, argsEnv, ev, cst, cst1, cstL, AEnv.get, AEnv.trim, envput, qstep, abin, aun, evs, evo, deref, qload, target, if_true, if_false, Nat.reduceEqDiff, reduceIte, Nat.reduceAdd, AV.cells, AV.isTuple, setMany, alen, aiaddr, afill, Nat.reduceLeDiff, Nat.reduceMul, Nat.reduceLT, afillE, List.replicate, decide_eq_true hs]
              rw [if_neg (by omega)]; exact out_int
            · simp only [walkS, wl, rgets, retv, argsEnv, ev, cst, cst1, cstL, AEnv.get, AEnv.trim, envput, qstep, abin, aun, evs, evo, deref, qload, target, if_true, if_false, Nat.reduceEqDiff, reduceIte, Nat.reduceAdd, AV.cells, AV.isTuple, setMany, alen, aiaddr, afill, Nat.reduceLeDiff, Nat.reduceMul, Nat.reduceLT, afillE, List.replicate, decide_eq_false hs]
              rw [if_pos (show s < 0 by omega)]; exact out_int
theorem refCheckClash_ok {n : Int} {ds : List Df} {l : List Int} (hl : l.length ≤ big) : PCall Try.prog 33 [.agg [I n, .ro false (rows ds)], .ro false (ic l)] (I (clash n ds l)) := by
  have hl0 := hl
  unfold big at hl0
  refine PCall.intro text33 (by simp) ?_
  unfold ir33
  simp only [walkS, wl, rgets, retv, argsEnv, ev, cst, cst1, cstL, AEnv.get, AEnv.trim, envput, qstep, abin, aun, evs, evo, deref, qload, target, if_true, if_false, Nat.reduceEqDiff, reduceIte, Nat.reduceAdd, AV.cells, AV.isTuple, setMany, alen, aiaddr, afill, Nat.reduceLeDiff, Nat.reduceMul, Nat.reduceLT, afillE, List.replicate]
  refine call_pure (refCheck_ok n ds) (frzL_of' (d := 4) (carL_cons car_netF rfl)) ?_
  simp only [walkS, wl, rgets, retv, argsEnv, ev, cst, cst1, cstL, AEnv.get, AEnv.trim, envput, qstep, abin, aun, evs, evo, deref, qload, target, if_true, if_false, Nat.reduceEqDiff, reduceIte, Nat.reduceAdd, AV.cells, AV.isTuple, setMany, alen, aiaddr, afill, Nat.reduceLeDiff, Nat.reduceMul, Nat.reduceLT, afillE, List.replicate]
  refine withBool_intro ?_ ?_ <;> intro h <;> simp only [walkS, wl, rgets, retv, argsEnv, ev, cst, cst1, cstL, AEnv.get, AEnv.trim, envput, qstep, abin, aun, evs, evo, deref, qload, target, if_true, if_false, Nat.reduceEqDiff, reduceIte, Nat.reduceAdd, AV.cells, AV.isTuple, setMany, alen, aiaddr, afill, Nat.reduceLeDiff, Nat.reduceMul, Nat.reduceLT, afillE, List.replicate]
  · have hv := check_ne (by simpa using h)
    have e2 : clash n ds l = 40 := by simp [clash, hv]
    rw [e2]; exact out_int
  · have hv := check_eq (by simpa using h)
    refine call_pure (refindices_ok (n := n) (ds := ds) hl) (frzL_of' (d := 4) (carL_cons car_netF (carL_cons car_icF rfl))) ?_
    simp only [walkS, wl, rgets, retv, argsEnv, ev, cst, cst1, cstL, AEnv.get, AEnv.trim, envput, qstep, abin, aun, evs, evo, deref, qload, target, if_true, if_false, Nat.reduceEqDiff, reduceIte, Nat.reduceAdd, AV.cells, AV.isTuple, setMany, alen, aiaddr, afill, Nat.reduceLeDiff, Nat.reduceMul, Nat.reduceLT, afillE, List.replicate]
    refine withBool_intro ?_ ?_ <;> intro hb <;> simp only [walkS, wl, rgets, retv, argsEnv, ev, cst, cst1, cstL, AEnv.get, AEnv.trim, envput, qstep, abin, aun, evs, evo, deref, qload, target, if_true, if_false, Nat.reduceEqDiff, reduceIte, Nat.reduceAdd, AV.cells, AV.isTuple, setMany, alen, aiaddr, afill, Nat.reduceLeDiff, Nat.reduceMul, Nat.reduceLT, afillE, List.replicate, ic_length]
    · have hi : idx ds l = false := by simpa using hb
      have e2 : clash n ds l = 1 := by simp [clash, hv, hi]
      rw [e2]; exact out_int
    · have hi : idx ds l = true := by simpa using hb
      obtain ⟨v1, v2, v3⟩ := valid_iff.1 hv
      by_cases h1 : l.length = 0
      · have e1 : ((l.length : Int) == 0) = true := by simp [h1]
        simp only [walkS, wl, rgets, retv, argsEnv, ev, cst, cst1, cstL, AEnv.get, AEnv.trim, envput, qstep, abin, aun, evs, evo, deref, qload, target, if_true, if_false, Nat.reduceEqDiff, reduceIte, Nat.reduceAdd, AV.cells, AV.isTuple, setMany, alen, aiaddr, afill, Nat.reduceLeDiff, Nat.reduceMul, Nat.reduceLT, afillE, List.replicate, e1]
        have e2 : clash n ds l = 43 := by simp only [clash, hv, hi, if_true, if_pos (show l.length = 0 ∨ (l.length : Int) > n from .inl h1)]
        rw [e2]; exact out_int
      · have e1 : ((l.length : Int) == 0) = false := beq_eq_false_iff_ne.2 (by omega)
        by_cases h2 : (l.length : Int) > n
        · simp only [walkS, wl, rgets, retv, argsEnv, ev, cst, cst1, cstL, AEnv.get, AEnv.trim, envput, qstep, abin, aun, evs, evo, deref, qload, target, if_true, if_false, Nat.reduceEqDiff, reduceIte, Nat.reduceAdd, AV.cells, AV.isTuple, setMany, alen, aiaddr, afill, Nat.reduceLeDiff, Nat.reduceMul, Nat.reduceLT, afillE, List.replicate, e1, decide_eq_true h2, ic_length]
          have e2 : clash n ds l = 43 := by simp only [clash, hv, hi, if_true, if_pos (show l.length = 0 ∨ (l.length : Int) > n from .inr h2)]
          rw [e2]; exact out_int
        · have hlm : ¬ (l.length = 0 ∨ (l.length : Int) > n) := by omega
          simp only [walkS, wl, rgets, retv, argsEnv, ev, cst, cst1, cstL, AEnv.get, AEnv.trim, envput, qstep, abin, aun, evs, evo, deref, qload, target, if_true, if_false, Nat.reduceEqDiff, reduceIte, Nat.reduceAdd, AV.cells, AV.isTuple, setMany, alen, aiaddr, afill, Nat.reduceLeDiff, Nat.reduceMul, Nat.reduceLT, afillE, List.replicate, e1, decide_eq_false h2, ic_length]
          refine awp_loop (σ := Nat) (fun k => [(1, .ro false (ic l)), (2, .ptr 0 1 0 0), (5, I k)]) (fun _ H => ∃ X, H = some ⟨24, 2, [[I n, .ro false (rows ds)]]⟩ :: X) (fun k => k ≤ l.length ∧ ((froms ds l).take k).Nodup) (fun k => l.length - k) 0 ⟨Nat.zero_le _, by simp⟩ rfl ⟨_, rfl⟩ ?_
          rintro k H ⟨hk, hnd⟩ ⟨X, rfl⟩
          simp only [walkS, wl, rgets, retv, argsEnv, ev, cst, cst1, cstL, AEnv.get, AEnv.trim, envput, qstep, abin, aun, evs, evo, deref, qload, target, if_true, if_false, Nat.reduceEqDiff, reduceIte, Nat.reduceAdd, AV.cells, AV.isTuple, setMany, alen, aiaddr, afill, Nat.reduceLeDiff, Nat.reduceMul, Nat.reduceLT, afillE, List.replicate, ic_length]
          refine withBool_intro ?_ ?_ <;> intro hb2 <;> simp only [walkS, wl, rgets, retv, argsEnv, ev, cst, cst1, cstL, AEnv.get, AEnv.trim, envput, qstep, abin, aun, evs, evo, deref, qload, target, if_true, if_false, Nat.reduceEqDiff, reduceIte, Nat.reduceAdd, AV.cells, AV.isTuple, setMany, alen, aiaddr, afill, Nat.reduceLeDiff, Nat.reduceMul, Nat.reduceLT, afillE, List.replicate]
          · have hlt : k < l.length := by simpa using hb2
            have hix := List.all_eq_true.1 hi _ (List.getElem_mem hlt)
            obtain ⟨i1, i2, i3, i4⟩ := dd_get hix
            have hfl : k < (froms ds l).length := by rw [froms_length]; exact hlt
            have hiff := nodup_snoc hfl hnd
            rw [froms_get hlt] at hiff
            refine awp_loop (σ := Nat) (fun j => [(1, .ro false (ic l)), (2, .ptr 0 1 0 0), (5, I k), (6, I j)]) (fun _ H => ∃ X, H = some ⟨24, 2, [[I n, .ro false (rows ds)]]⟩ :: X) (fun j => j ≤ k ∧ (dd ds l[k]).1 ∉ (froms ds l).take j) (fun j => k - j) 0 ⟨Nat.zero_le _, by simp⟩ rfl ⟨_, rfl⟩ ?_
            rintro j H ⟨hj, hnj⟩ ⟨X, rfl⟩
            simp only [walkS, wl, rgets, retv, argsEnv, ev, cst, cst1, cstL, AEnv.get, AEnv.trim, envput, qstep, abin, aun, evs, evo, deref, qload, target, if_true, if_false, Nat.reduceEqDiff, reduceIte, Nat.reduceAdd, AV.cells, AV.isTuple, setMany, alen, aiaddr, afill, Nat.reduceLeDiff, Nat.reduceMul, Nat.reduceLT, afillE, List.replicate]
            refine withBool_intro ?_ ?_ <;> intro hb3 <;> simp only [walkS, wl, rgets, retv, argsEnv, ev, cst, cst1, cstL, AEnv.get, AEnv.trim, envput, qstep, abin, aun, evs, evo, deref, qload, target, if_true, if_false, Nat.reduceEqDiff, reduceIte, Nat.reduceAdd, AV.cells, AV.isTuple, setMany, alen, aiaddr, afill, Nat.reduceLeDiff, Nat.reduceMul, Nat.reduceLT, afillE, List.replicate]
            · have hjk : j < k := by simpa using hb3
              have hjl : j < l.length := by omega
              have hix' := List.all_eq_true.1 hi _ (List.getElem_mem hjl)
              obtain ⟨j1, j2, j3, j4⟩ := dd_get hix'
              simp only [walkS, wl, rgets, retv, argsEnv, ev, cst, cst1, cstL, AEnv.get, AEnv.trim, envput, qstep, abin, aun, evs, evo, deref, qload, target, if_true, if_false, Nat.reduceEqDiff, reduceIte, Nat.reduceAdd, AV.cells, AV.isTuple, setMany, alen, aiaddr, afill, Nat.reduceLeDiff, Nat.reduceMul, Nat.reduceLT, afillE, List.replicate, ic_get hlt, ic_get hjl, ic_length, rows_length, if_pos i1, if_pos j1, i3, j3]
              have hfj : j < (froms ds l).length := by rw [froms_length]; exact hjl
              refine withBool_intro ?_ ?_ <;> intro hse <;> simp only [walkS, wl, rgets, retv, argsEnv, ev, cst, cst1, cstL, AEnv.get, AEnv.trim, envput, qstep, abin, aun, evs, evo, deref, qload, target, if_true, if_false, Nat.reduceEqDiff, reduceIte, Nat.reduceAdd, AV.cells, AV.isTuple, setMany, alen, aiaddr, afill, Nat.reduceLeDiff, Nat.reduceMul, Nat.reduceLT, afillE, List.replicate]
              · have he : (dd ds l[k]).1 = (dd ds l[j]).1 := by simpa using hse
                rw [clash_dup hv hi hlm (fun h => (hiff.1 (nodup_take h (k + 1))) (by
                  rw [he, ← froms_get hjl]
                  rw [List.mem_take_iff_getElem]
                  exact ⟨j, by omega, rfl⟩))]
                exact out_int
              · have he : (dd ds l[k]).1 ≠ (dd ds l[j]).1 := by simpa using hse
                rw [wrap_id (by omega) (by omega)]
                refine loop_end (j + 1) ⟨hjk, ?_⟩ (by omega) rfl ⟨_, rfl⟩
                rw [List.take_succ_eq_append_getElem hfj, froms_get hjl]
                intro hm
                rcases List.mem_append.1 hm with h | h
                · exact hnj h
                · exact he (List.mem_singleton.1 h)
            · have hjk : j = k := by simp at hb3; omega
              subst hjk
              rw [wrap_id (by omega) (by omega)]
              exact loop_end (j + 1) ⟨hlt, hiff.2 hnj⟩ (by omega) rfl ⟨_, rfl⟩
          · have hk' : k = l.length := by simp at hb2; omega
            subst hk'
            have hnd' : (froms ds l).Nodup := by
              rwa [List.take_of_length_le (by rw [froms_length]; omega)] at hnd
            have hp : 0 < l.length := by omega
            have hix := List.all_eq_true.1 hi _ (List.getElem_mem hp)
            obtain ⟨i1, i2, i3, i4⟩ := dd_get hix
            have h00 : l.getD 0 0 = l[0] := by simp [hp]
            simp only [walkS, wl, rgets, retv, argsEnv, ev, cst, cst1, cstL, AEnv.get, AEnv.trim, envput, qstep, abin, aun, evs, evo, deref, qload, target, if_true, if_false, Nat.reduceEqDiff, reduceIte, Nat.reduceAdd, AV.cells, AV.isTuple, setMany, alen, aiaddr, afill, Nat.reduceLeDiff, Nat.reduceMul, Nat.reduceLT, afillE, List.replicate, ic_get hp, ic_length, rows_length, if_pos (Int.le_refl 0), Int.toNat_zero, if_pos i1, i3]
            refine call_pure (refwalk_ok (n := n) (ds := ds) (l := l) (f := (dd ds l[0]).1) (t := (dd ds l[0]).1) (b := false) hl hi) (frzL_of' (d := 4) (carL_cons car_netF (carL_cons rfl (carL_cons rfl (carL_cons car_icF rfl))))) ?_
            have hend := ckEnd (H := []) (s := (wkV ds (dd ds (l.getD 0 0)).1 (dd ds (l.getD 0 0)).1 l).1) (ok := (wkV ds (dd ds (l.getD 0 0)).1 (dd ds (l.getD 0 0)).1 l).2) hv hi hlm hnd' rfl
            rw [hend, h00]
            generalize wkV ds (dd ds l[0]).1 (dd ds l[0]).1 l = r
            obtain ⟨s, ok⟩ := r
            cases ok with
            | false =>
              simp only [walkS, wl, rgets, retv, argsEnv, ev, cst, cst1, cstL, AEnv.get, AEnv.trim, envput, qstep, abin, aun, evs, evo, deref, qload, target, if_true, if_false, Nat.reduceEqDiff, reduceIte, Nat.reduceAdd, AV.cells, AV.isTuple, setMany, alen, aiaddr, afill, Nat.reduceLeDiff, Nat.reduceMul, Nat.reduceLT, afillE, List.replicate]
              exact out_int
            | true =>
              by_cases hs : s ≥ 0
              · simp only [walkS, wl, rgets, retv, argsEnv, ev, cst, cst1, cstL, AEnv.get, AEnv.trim, envput, qstep, abin, aun, evs, evo, deref, qload, target, if_true, if_false, Nat.reduceEqDiff, reduceIte, Nat.reduceAdd, AV.cells, AV.isTuple, setMany, alen, aiaddr, afill, Nat.reduceLeDiff, Nat.reduceMul, Nat.reduceLT, afillE, List.replicate, decide_eq_true hs]
                rw [if_neg (by omega)]; exact out_int
              · simp only [walkS, wl, rgets, retv, argsEnv, ev, cst, cst1, cstL, AEnv.get, AEnv.trim, envput, qstep, abin, aun, evs, evo, deref, qload, target, if_true, if_false, Nat.reduceEqDiff, reduceIte, Nat.reduceAdd, AV.cells, AV.isTuple, setMany, alen, aiaddr, afill, Nat.reduceLeDiff, Nat.reduceMul, Nat.reduceLT, afillE, List.replicate, decide_eq_false hs]
                rw [if_pos (show s < 0 by omega)]; exact out_int
end Go.Proofs.Ytepnijjgdhldeaa
