/- CourseStands: what follows the standing sheets (Corrected names what changed). -/
import Derived.Test.YtgadlckkmhhmbaaDoorQT10
import Derived.Test.YtgadlckkmhhmbaaDoorQE0
import Derived.Test.YtgadlckkmhhmbaaDoorQC26
import Derived.Test.YtgadlckkmhhmbaaDoorQC20
import Derived.Test.YtgadlckkmhhmbaaDoorQG8
import Derived.Test.YtgadlckkmhhmbaaDoorQTL
set_option linter.unusedVariables false
set_option linter.unusedSimpArgs false
set_option linter.unusedSectionVars false
namespace Go.Proofs.YtgadlckkmhhmbaaDoor
open Go.Awp Go.Grams
set_option linter.unusedSimpArgs false
set_option linter.unusedVariables false
set_option linter.unusedSectionVars false
set_option maxRecDepth 10000
theorem bne_dec {a b : Int} : (a != b) = decide (a ≠ b) := by rw [Bool.eq_iff_iff]; simp
theorem ix1 {α : Type} {a b : α} : (if (0 : Int) ≤ 1 ∧ (1 : Int) < ((3 : Nat) : Int) then a else b) = a := if_pos (by omega)
theorem ix2 {α : Type} {a b : α} : (if (0 : Int) ≤ 2 ∧ (2 : Int) < ((3 : Nat) : Int) then a else b) = a := if_pos (by omega)
theorem tn1 : Int.toNat 1 * 1 = 1 := rfl
theorem tn2 : Int.toNat 2 * 1 = 2 := rfl
theorem crL_contains {no rate bf af : Int} {ts : List Tst} {l : List Sht} (h : crE no rate ts l bf af = 0) {k : Nat} (hk : k < l.length) : (crL no rate ts l bf af).contains (k : Int) = crq no rate ts l bf af k := by
  rw [Bool.eq_iff_iff, List.contains_iff_mem]
  unfold crL; rw [if_pos h, mem_idxs]
  constructor
  · rintro ⟨j, h1, h2, h3⟩
    have : j = k := by omega
    rw [← this]; exact h2
  · intro h2; exact ⟨k, hk, h2, rfl⟩
theorem crL_len {no rate bf af : Int} {ts : List Tst} {l : List Sht} (hl : l.length ≤ 300) : (crL no rate ts l bf af).length ≤ 100000 := by
  unfold crL; split
  · have := idxs_len (q := crq no rate ts l bf af) (k := l.length); omega
  · simp
theorem tail10d {no rate d0 d1 d2 : Int} {ts : List Tst} {l : List Sht} {H : AHeap} (hl : l.length ≤ 300) (o0 : AHeap.obj H 0 = some ⟨24, 3, [[I no, I rate, .ro false (trows ts)]]⟩) (o1 : AHeap.obj H 1 = some ⟨65, 1, [[.ro false (srows l)]]⟩) (o2 : AHeap.obj H 2 = some ⟨38, 3, [[I d0, I d1, I d2]]⟩) :
    awp Tryd.prog ir10d (fnPost [(.tmp 10)] fun x H' => Out H' x (.bool true)) [(5, .ptr 0 1 0 0), (6, .ptr 1 1 0 0), (8, .ptr 2 1 0 0), (24, .ro true (ic (crL no rate ts l d1 d2))), (25, I (crE no rate ts l d1 d2))] H := by
  unfold ir10d
  have l2 := AHeap.obj_lt o2
  simp only [walkS, wl, rgets, retv, argsEnv, ev, cst, cst1, cstL, AEnv.get, AEnv.trim, envput, qstep, abin, aun, evs, evo, deref, qload, target, if_true, if_false, Nat.reduceEqDiff, reduceIte, Nat.reduceAdd, AV.cells, AV.isTuple, setMany, alen, aiaddr, afill, Nat.reduceLeDiff, Nat.reduceMul, Nat.reduceLT, afillE, List.replicate]
  refine withBool_intro ?_ ?_ <;> intro g1 <;> simp only [walkS, wl, rgets, retv, argsEnv, ev, cst, cst1, cstL, AEnv.get, AEnv.trim, envput, qstep, abin, aun, evs, evo, deref, qload, target, if_true, if_false, Nat.reduceEqDiff, reduceIte, Nat.reduceAdd, AV.cells, AV.isTuple, setMany, alen, aiaddr, afill, Nat.reduceLeDiff, Nat.reduceMul, Nat.reduceLT, afillE, List.replicate, ic_length]
  · have : crL no rate ts l d1 d2 = [] := by unfold crL; rw [if_neg (by simpa using g1)]
    rw [this]; exact out_boolE (by simp)
  · have hE : crE no rate ts l d1 d2 = 0 := by simpa using g1
    simp only [walkS, wl, rgets, retv, argsEnv, ev, cst, cst1, cstL, AEnv.get, AEnv.trim, envput, qstep, abin, aun, evs, evo, deref, qload, target, if_true, if_false, Nat.reduceEqDiff, reduceIte, Nat.reduceAdd, AV.cells, AV.isTuple, setMany, alen, aiaddr, afill, Nat.reduceLeDiff, Nat.reduceMul, Nat.reduceLT, afillE, List.replicate, o1, srows_length]
    refine awp_loop (σ := Nat) (fun k => [(5, .ptr 0 1 0 0), (8, .ptr 2 1 0 0), (24, .ro true (ic (crL no rate ts l d1 d2))), (259, .ro false (srows l)), (260, I l.length), (261, I k)]) (fun k G => 3 ≤ G.length ∧ AHeap.obj G 0 = some ⟨24, 3, [[I no, I rate, .ro false (trows ts)]]⟩ ∧ AHeap.obj G 2 = some ⟨38, 3, [[I d0, I d1, I d2]]⟩) (fun k => k ≤ l.length) (fun k => l.length - k) 0 (Nat.zero_le _) rfl ⟨by omega, o0, o2⟩ ?_
    rintro k G hk ⟨hG, p0, p2⟩
    simp only [walkS, wl, rgets, retv, argsEnv, ev, cst, cst1, cstL, AEnv.get, AEnv.trim, envput, qstep, abin, aun, evs, evo, deref, qload, target, if_true, if_false, Nat.reduceEqDiff, reduceIte, Nat.reduceAdd, AV.cells, AV.isTuple, setMany, alen, aiaddr, afill, Nat.reduceLeDiff, Nat.reduceMul, Nat.reduceLT, afillE, List.replicate]
    refine withBool_intro ?_ ?_ <;> intro hb <;> simp only [walkS, wl, rgets, retv, argsEnv, ev, cst, cst1, cstL, AEnv.get, AEnv.trim, envput, qstep, abin, aun, evs, evo, deref, qload, target, if_true, if_false, Nat.reduceEqDiff, reduceIte, Nat.reduceAdd, AV.cells, AV.isTuple, setMany, alen, aiaddr, afill, Nat.reduceLeDiff, Nat.reduceMul, Nat.reduceLT, afillE, List.replicate]
    · have hlt : k < l.length := by simpa using hb
      have w1 := w_succ (k := k) (by omega)
      have hq := crq_get (no := no) (rate := rate) (bf := d1) (af := d2) (ts := ts) hlt
      simp only [walkS, wl, rgets, retv, argsEnv, ev, cst, cst1, cstL, AEnv.get, AEnv.trim, envput, qstep, abin, aun, evs, evo, deref, qload, target, if_true, if_false, Nat.reduceEqDiff, reduceIte, Nat.reduceAdd, AV.cells, AV.isTuple, setMany, alen, aiaddr, afill, Nat.reduceLeDiff, Nat.reduceMul, Nat.reduceLT, afillE, List.replicate, srows_get hlt]
      refine storeR rfl rfl AHeap.obj_push_eq rfl ⟨rfl, rfl, rfl, by simp⟩ fun H1 y1 y2 y3 => ?_
      simp only [AV.cells, setMany, List.set_cons_zero, List.set_cons_succ] at y2
      simp only [List.length_append, List.length_cons, List.length_nil] at y1
      have p0 := (y3 0 (by omega)).trans (obj_keep p0)
      have p2 := (y3 2 (by omega)).trans (obj_keep p2)
      simp only [walkS, wl, rgets, retv, argsEnv, ev, cst, cst1, cstL, AEnv.get, AEnv.trim, envput, qstep, abin, aun, evs, evo, deref, qload, target, if_true, if_false, Nat.reduceEqDiff, reduceIte, Nat.reduceAdd, AV.cells, AV.isTuple, setMany, alen, aiaddr, afill, Nat.reduceLeDiff, Nat.reduceMul, Nat.reduceLT, afillE, List.replicate, y2, p0, p2, ix1, tn1]
      refine call_pure (Course_ok no rate ts l[k] d1) (frzL_of' (d := 4) (carL_cons car_sc (carL_cons car_sh rfl))) ?_
      simp only [walkS, wl, rgets, retv, argsEnv, ev, cst, cst1, cstL, AEnv.get, AEnv.trim, envput, qstep, abin, aun, evs, evo, deref, qload, target, if_true, if_false, Nat.reduceEqDiff, reduceIte, Nat.reduceAdd, AV.cells, AV.isTuple, setMany, alen, aiaddr, afill, Nat.reduceLeDiff, Nat.reduceMul, Nat.reduceLT, afillE, List.replicate]
      refine storeR rfl rfl AHeap.obj_push_eq rfl ⟨rfl, rfl, rfl, by simp⟩ fun H2 z1 z2 z3 => ?_
      simp only [AV.cells, setMany, List.set_cons_zero, List.set_cons_succ] at z2
      simp only [List.length_append, List.length_cons, List.length_nil] at z1
      have p0 := (z3 0 (by omega)).trans (obj_keep p0)
      have p2 := (z3 2 (by omega)).trans (obj_keep p2)
      have y2 := (z3 G.length (by omega)).trans (obj_keep y2)
      simp only [walkS, wl, rgets, retv, argsEnv, ev, cst, cst1, cstL, AEnv.get, AEnv.trim, envput, qstep, abin, aun, evs, evo, deref, qload, target, if_true, if_false, Nat.reduceEqDiff, reduceIte, Nat.reduceAdd, AV.cells, AV.isTuple, setMany, alen, aiaddr, afill, Nat.reduceLeDiff, Nat.reduceMul, Nat.reduceLT, afillE, List.replicate, p0, p2, y2, ix2, tn2]
      refine call_pure (Course_ok no rate ts l[k] d2) (frzL_of' (d := 4) (carL_cons car_sc (carL_cons car_sh rfl))) ?_
      simp only [walkS, wl, rgets, retv, argsEnv, ev, cst, cst1, cstL, AEnv.get, AEnv.trim, envput, qstep, abin, aun, evs, evo, deref, qload, target, if_true, if_false, Nat.reduceEqDiff, reduceIte, Nat.reduceAdd, AV.cells, AV.isTuple, setMany, alen, aiaddr, afill, Nat.reduceLeDiff, Nat.reduceMul, Nat.reduceLT, afillE, List.replicate]
      refine storeR rfl rfl AHeap.obj_push_eq rfl ⟨rfl, rfl, rfl, by simp⟩ fun H3 v1 v2 v3 => ?_
      simp only [AV.cells, setMany, List.set_cons_zero, List.set_cons_succ] at v2
      simp only [List.length_append, List.length_cons, List.length_nil] at v1
      have p0 := (v3 0 (by omega)).trans (obj_keep p0)
      have p2 := (v3 2 (by omega)).trans (obj_keep p2)
      have y2 := (v3 G.length (by omega)).trans (obj_keep y2)
      have z2 := (v3 H1.length (by omega)).trans (obj_keep z2)
      simp only [walkS, wl, rgets, retv, argsEnv, ev, cst, cst1, cstL, AEnv.get, AEnv.trim, envput, qstep, abin, aun, evs, evo, deref, qload, target, if_true, if_false, Nat.reduceEqDiff, reduceIte, Nat.reduceAdd, AV.cells, AV.isTuple, setMany, alen, aiaddr, afill, Nat.reduceLeDiff, Nat.reduceMul, Nat.reduceLT, afillE, List.replicate, p0, p2, y2, z2, v2]
      refine dcall_pure (contains_ok _ _ (crL_len hl)) (fun X => frzL_of (d := 4) (carL_cons car_ic rfl) X) ?_
      simp only [walkS, wl, rgets, retv, argsEnv, ev, cst, cst1, cstL, AEnv.get, AEnv.trim, envput, qstep, abin, aun, evs, evo, deref, qload, target, if_true, if_false, Nat.reduceEqDiff, reduceIte, Nat.reduceAdd, AV.cells, AV.isTuple, setMany, alen, aiaddr, afill, Nat.reduceLeDiff, Nat.reduceMul, Nat.reduceLT, afillE, List.replicate, p0, p2, y2, z2, v2, aeqO, Nat.reduceAdd, Bool.and_true, ← sp_ne]
      have fin : ∀ b : Bool, b = crq no rate ts l d1 d2 k → (!((crL no rate ts l d1 d2).contains (k : Int) == b)) = false := fun b hb => by
        rw [hb, crL_contains hE hlt]; simp
      refine withGuard_intro ?_ ?_ <;> intro g2 <;> simp only [walkS, wl, rgets, retv, argsEnv, ev, cst, cst1, cstL, AEnv.get, AEnv.trim, envput, qstep, abin, aun, evs, evo, deref, qload, target, if_true, if_false, Nat.reduceEqDiff, reduceIte, Nat.reduceAdd, AV.cells, AV.isTuple, setMany, alen, aiaddr, afill, Nat.reduceLeDiff, Nat.reduceMul, Nat.reduceLT, afillE, List.replicate, g2, p0, p2, y2, z2, v2, aeqO, Nat.reduceAdd, Bool.and_true, ← sp_ne]
      · refine withGuard_intro ?_ ?_ <;> intro g3 <;> simp only [walkS, wl, rgets, retv, argsEnv, ev, cst, cst1, cstL, AEnv.get, AEnv.trim, envput, qstep, abin, aun, evs, evo, deref, qload, target, if_true, if_false, Nat.reduceEqDiff, reduceIte, Nat.reduceAdd, AV.cells, AV.isTuple, setMany, alen, aiaddr, afill, Nat.reduceLeDiff, Nat.reduceMul, Nat.reduceLT, afillE, List.replicate, g3, w1]
        · rw [fin _ (by rw [hq, g3]; simp at g2; rw [bne_dec]; simp [g2])]
          simp only [walkS, wl, rgets, retv, argsEnv, ev, cst, cst1, cstL, AEnv.get, AEnv.trim, envput, qstep, abin, aun, evs, evo, deref, qload, target, if_true, if_false, Nat.reduceEqDiff, reduceIte, Nat.reduceAdd, AV.cells, AV.isTuple, setMany, alen, aiaddr, afill, Nat.reduceLeDiff, Nat.reduceMul, Nat.reduceLT, afillE, List.replicate, w1]
          exact loop_end (k + 1) hlt (by omega) rfl ⟨by omega, p0, p2⟩
        · rw [fin _ (by rw [hq, g3]; simp at g2; simp [g2])]
          simp only [walkS, wl, rgets, retv, argsEnv, ev, cst, cst1, cstL, AEnv.get, AEnv.trim, envput, qstep, abin, aun, evs, evo, deref, qload, target, if_true, if_false, Nat.reduceEqDiff, reduceIte, Nat.reduceAdd, AV.cells, AV.isTuple, setMany, alen, aiaddr, afill, Nat.reduceLeDiff, Nat.reduceMul, Nat.reduceLT, afillE, List.replicate, w1]
          exact loop_end (k + 1) hlt (by omega) rfl ⟨by omega, p0, p2⟩
      · rw [fin _ (by rw [hq]; simp at g2; simp [g2])]
        simp only [walkS, wl, rgets, retv, argsEnv, ev, cst, cst1, cstL, AEnv.get, AEnv.trim, envput, qstep, abin, aun, evs, evo, deref, qload, target, if_true, if_false, Nat.reduceEqDiff, reduceIte, Nat.reduceAdd, AV.cells, AV.isTuple, setMany, alen, aiaddr, afill, Nat.reduceLeDiff, Nat.reduceMul, Nat.reduceLT, afillE, List.replicate, w1]
        exact loop_end (k + 1) hlt (by omega) rfl ⟨by omega, p0, p2⟩
    · exact out_bool
end Go.Proofs.YtgadlckkmhhmbaaDoor
/- CourseStands: a list of sheets without one of them. -/
namespace Go.Proofs.YtgadlckkmhhmbaaDoor
open Go.Awp Go.Grams
set_option linter.unusedSimpArgs false
set_option linter.unusedVariables false
set_option linter.unusedSectionVars false
set_option maxRecDepth 10000
theorem srows_all (l : List Sht) : ((srows l).all fun e => e.length == 9) = true := by
  simp [srows]
theorem sclone_a {b : Bool} (l : List Sht) (hn : l ≠ []) (hl : l.length ≤ 1000) (H : AHeap) : ACall Tryd.prog 51 [.ro b (srows l)] H fun x H' => ∃ h, H.length ≤ h ∧ x = .own h l.length 0 l.length ∧ AHeap.obj H' h = some ⟨47, 9, srows l⟩ ∧ H.length ≤ H'.length ∧ ∀ i, i < H.length → AHeap.obj H' i = AHeap.obj H i := by
  refine ACall.intro text51 (by simp) ?_
  unfold ir51
  have hne : srows l ≠ [] := by simpa [srows] using hn
  have done : ∀ a H1, Acc H.length H1 a 47 9 ([] ++ srows l) → H.length ≤ H1.length → (∀ i, i < H.length → AHeap.obj H1 i = AHeap.obj H i) → ∃ h, H.length ≤ h ∧ a = .own h l.length 0 l.length ∧ AHeap.obj H1 h = some ⟨47, 9, srows l⟩ ∧ H.length ≤ H1.length ∧ ∀ i, i < H.length → AHeap.obj H1 i = AHeap.obj H i := fun a H1 y2 y1 y3 => by
    rw [List.nil_append] at y2
    rcases y2 with ⟨h1, _⟩ | ⟨q, q1, q2, q3⟩
    · exact absurd h1 hne
    · rw [srows_length] at q2; exact ⟨q, q1, q2, q3, y1, y3⟩
  simp only [walkS, wl, rgets, retv, argsEnv, ev, cst, cst1, cstL, AEnv.get, AEnv.trim, envput, qstep, abin, aun, evs, evo, deref, qload, target, if_true, if_false, Nat.reduceEqDiff, reduceIte, Nat.reduceAdd, AV.cells, AV.isTuple, setMany, alen, aiaddr, afill, Nat.reduceLeDiff, Nat.reduceMul, Nat.reduceLT, afillE, List.replicate]
  refine acall_isnil rfl rfl (fun hp => ?_) fun hp c => ?_
  · simp only [walkS, wl, rgets, retv, argsEnv, ev, cst, cst1, cstL, AEnv.get, AEnv.trim, envput, qstep, abin, aun, evs, evo, deref, qload, target, if_true, if_false, Nat.reduceEqDiff, reduceIte, Nat.reduceAdd, AV.cells, AV.isTuple, setMany, alen, aiaddr, afill, Nat.reduceLeDiff, Nat.reduceMul, Nat.reduceLT, afillE, List.replicate]
    refine acc_appendL (lo := H.length) (els := []) (Nat.le_refl _) (.inl ⟨rfl, rfl⟩) rfl rfl (asrc_ro (srows_all l)) (by rw [srows_length]; simp only [List.length_nil]; omega) fun a H1 y1 y2 y3 => ?_
    simp only [walkS, wl, rgets, retv, argsEnv, ev, cst, cst1, cstL, AEnv.get, AEnv.trim, envput, qstep, abin, aun, evs, evo, deref, qload, target, if_true, if_false, Nat.reduceEqDiff, reduceIte, Nat.reduceAdd, AV.cells, AV.isTuple, setMany, alen, aiaddr, afill, Nat.reduceLeDiff, Nat.reduceMul, Nat.reduceLT, afillE, List.replicate]
    exact done a H1 y2 y1 y3
  · exfalso
    have : l.length = 0 := by rw [srows_length] at hp; omega
    exact hn (List.eq_nil_of_length_eq_zero this)
theorem sDelete_at {ds : List Sht} {k h : Nat} {H0 : AHeap} (hk : k < ds.length) (hl : ds.length ≤ 4096) (ho : AHeap.obj H0 h = some ⟨47, 9, srows ds⟩) : ACall Tryd.prog 50 [.own h ds.length 0 ds.length, I k, I (k + 1)] H0 fun x H =>
    H.length = H0.length ∧ (∀ i, i ≠ h → AHeap.obj H i = AHeap.obj H0 i) ∧ x = .own h ds.length 0 (ds.length - 1) ∧ AHeap.obj H h = some ⟨47, 9, srows (ds.eraseIdx k) ++ [[I 0, I 0, I 0, I 0, I 0, I 0, I 0, I 0, .nilSlice]]⟩ := by
  refine ACall.intro text50 (by simp) ?_
  unfold ir50
  have e1 : I ((k : Int) + 1) = I ((k + 1 : Nat) : Int) := by simp; try omega
  have hL := srows_length ds
  simp only [walkS, wl, rgets, retv, argsEnv, ev, cst, cst1, cstL, AEnv.get, AEnv.trim, envput, qstep, abin, aun, evs, evo, deref, qload, target, if_true, if_false, Nat.reduceEqDiff, reduceIte, Nat.reduceAdd, AV.cells, AV.isTuple, setMany, alen, aiaddr, afill, Nat.reduceLeDiff, Nat.reduceMul, Nat.reduceLT, afillE, List.replicate, e1, ho, srows_length, aslice3_own ho hL (show k ≤ k + 1 by omega) (show k + 1 ≤ ds.length by omega)]
  have hne : ((k : Int) == ((k + 1 : Nat) : Int)) = false := by simp; omega
  simp only [walkS, wl, rgets, retv, argsEnv, ev, cst, cst1, cstL, AEnv.get, AEnv.trim, envput, qstep, abin, aun, evs, evo, deref, qload, target, if_true, if_false, Nat.reduceEqDiff, reduceIte, Nat.reduceAdd, AV.cells, AV.isTuple, setMany, alen, aiaddr, afill, Nat.reduceLeDiff, Nat.reduceMul, Nat.reduceLT, afillE, List.replicate, hne, ho, hL, aslice_own ho hL (abnds_hi (show k ≤ ds.length by omega)), aslice_own ho hL (abnds_lo (show k + 1 ≤ ds.length by omega))]
  have hp := asrc_part (i := k + 1) (len := ds.length - (k + 1)) ho hL
  have hrs : ((srows ds).drop (k + 1)).take (ds.length - (k + 1)) = (srows ds).drop (k + 1) := List.take_of_length_le (by simp [hL])
  rw [hrs] at hp
  have hlen : ((srows ds).drop (k + 1)).length = ds.length - (k + 1) := by simp [hL]
  refine app_inR rfl rfl hp ho hL (by omega) (by omega) (by rw [hlen]; omega) fun H1 y1 y2 y3 => ?_
  rw [hlen, show k - 0 + (ds.length - (k + 1)) = ds.length - 1 by omega] at *
  rw [show k - 0 = k by omega] at y2
  have e2 : (srows ds).take k ++ (srows ds).drop (k + 1) = srows (ds.eraseIdx k) := by
    simp only [srows, ← List.map_take, ← List.map_drop, ← List.map_append]
    rw [List.eraseIdx_eq_take_drop_succ]
  rw [e2] at y2
  have hL1 : (srows (ds.eraseIdx k)).length = ds.length - 1 := by rw [srows_length, List.length_eraseIdx_of_lt hk]
  have hL2 : (srows (ds.eraseIdx k) ++ (srows ds).drop (ds.length - 1)).length = ds.length := by simp only [List.length_append, hL1, List.length_drop, hL]; omega
  simp only [walkS, wl, rgets, retv, argsEnv, ev, cst, cst1, cstL, AEnv.get, AEnv.trim, envput, qstep, abin, aun, evs, evo, deref, qload, target, if_true, if_false, Nat.reduceEqDiff, reduceIte, Nat.reduceAdd, AV.cells, AV.isTuple, setMany, alen, aiaddr, afill, Nat.reduceLeDiff, Nat.reduceMul, Nat.reduceLT, afillE, List.replicate, y2, hL2]
  have hfar := abnds_far (a := ds.length - 1) (show ds.length - 1 < ds.length by omega)
  have hX : abndX ds.length (some (I ((ds.length - 1 : Nat) : Int))) (some (I (ds.length : Int))) = some (ds.length - 1, ds.length) := abnds_h (Nat.le_refl _) (by omega)
  simp only [walkS, wl, rgets, retv, argsEnv, ev, cst, cst1, cstL, AEnv.get, AEnv.trim, envput, qstep, abin, aun, evs, evo, deref, qload, target, if_true, if_false, Nat.reduceEqDiff, reduceIte, Nat.reduceAdd, AV.cells, AV.isTuple, setMany, alen, aiaddr, afill, Nat.reduceLeDiff, Nat.reduceMul, Nat.reduceLT, afillE, List.replicate, aslice_own2 y2 hL2 (by omega) hfar hX]
  refine clearR rfl y2 hL2 (by omega) fun H2 z1 z2 z3 => ?_
  rw [show ds.length - (ds.length - 1) = 1 by omega, show ds.length - 1 + 1 = ds.length by omega, List.drop_eq_nil_of_le (Nat.le_of_eq hL2), List.append_nil, List.take_append_of_le_length (by omega), List.take_of_length_le (by omega)] at z2
  simp only [walkS, wl, rgets, retv, argsEnv, ev, cst, cst1, cstL, AEnv.get, AEnv.trim, envput, qstep, abin, aun, evs, evo, deref, qload, target, if_true, if_false, Nat.reduceEqDiff, reduceIte, Nat.reduceAdd, AV.cells, AV.isTuple, setMany, alen, aiaddr, afill, Nat.reduceLeDiff, Nat.reduceMul, Nat.reduceLT, afillE, List.replicate, z2]
  exact ⟨by omega, fun i hi => (z3 i hi).trans (y3 i hi)⟩
theorem car_sown {H : AHeap} {d h n : Nat} {ds : List Sht} {z : List (List AV)} (ho : AHeap.obj H h = some ⟨47, 9, srows ds ++ z⟩) (hn : (srows ds ++ z).length = n) : carry false H (d + 4) (.own h n 0 ds.length) = some (.ro false (srows ds)) := by
  rw [show carry false H (d + 4) (.own h n 0 ds.length) = (match AHeap.obj H h with | some o => if n = o.elems.length then (match carR (carry false H (d + 3)) ((o.elems.drop 0).take ds.length) with | some l' => some (.ro false l') | none => none) else none | none => none) from rfl, ho]
  simp only
  rw [if_pos hn.symm, List.drop_zero, List.take_append_of_le_length (by rw [srows_length]; exact Nat.le_refl _), List.take_of_length_le (by rw [srows_length]; exact Nat.le_refl _), carR_srows]
end Go.Proofs.YtgadlckkmhhmbaaDoor
/- CourseStands: without a sheet that does not stand nothing changes. -/
namespace Go.Proofs.YtgadlckkmhhmbaaDoor
open Go.Awp Go.Grams
set_option linter.unusedSimpArgs false
set_option linter.unusedVariables false
set_option linter.unusedSectionVars false
set_option maxRecDepth 10000
theorem ix0 {α : Type} {a b : α} : (if (0 : Int) ≤ 0 ∧ (0 : Int) < ((3 : Nat) : Int) then a else b) = a := if_pos (by omega)
theorem tn0 : Int.toNat 0 * 1 = 0 := rfl
theorem stE_zero {l : List Sht} {wd : List Int} {d : Int} (h : stE l wd d = 0) : shsE l = 0 ∧ numsV wd = true ∧ okDay d = true := by
  unfold stE at h
  split at h
  · omega
  · split at h
    · rename_i h1 h2; exact ⟨by simpa using h1, h2⟩
    · cases h
theorem shsE_zero {l : List Sht} (h : shsE l = 0) : l.length ≤ 256 ∧ l.all okSh = true := by
  unfold shsE at h
  split at h
  · cases h
  · split at h
    · exact ⟨by omega, ‹_›⟩
    · cases h
theorem stE_erase {l : List Sht} {wd : List Int} {d : Int} {m : Nat} (h : stE l wd d = 0) : stE (l.eraseIdx m) wd d = 0 := by
  obtain ⟨h1, h2, h3⟩ := stE_zero h
  obtain ⟨g1, g2⟩ := shsE_zero h1
  have e1 : (l.eraseIdx m).length ≤ l.length := by rw [List.length_eraseIdx]; split <;> omega
  have e2 : (l.eraseIdx m).all okSh = true := by
    rw [List.all_eq_true] at g2 ⊢
    intro x hx
    exact g2 x (List.mem_of_mem_eraseIdx hx)
  have e3 : shsE (l.eraseIdx m) = 0 := by unfold shsE; rw [if_neg (by omega), if_pos e2]
  unfold stE; rw [if_neg (by simp [e3]), if_pos ⟨h2, h3⟩]
theorem stL_good {l : List Sht} {wd : List Int} {d : Int} (h : stE l wd d = 0) : stL l wd d = idxs (stq l wd d) l.length := by unfold stL; rw [if_pos h]
theorem stL_contains {l : List Sht} {wd : List Int} {d : Int} (h : stE l wd d = 0) {k : Nat} (hk : k < l.length) : (stL l wd d).contains (k : Int) = stq l wd d k := by
  rw [Bool.eq_iff_iff, List.contains_iff_mem, stL_good h, mem_idxs]
  constructor
  · rintro ⟨j, h1, h2, h3⟩
    have : j = k := by omega
    rw [← this]; exact h2
  · intro h2; exact ⟨k, hk, h2, rfl⟩
theorem stL_len {l : List Sht} {wd : List Int} {d : Int} : (stL l wd d).length ≤ l.length := by
  unfold stL; split
  · exact idxs_len
  · simp
theorem tail10c {no rate d0 d1 d2 left : Int} {ts : List Tst} {l : List Sht} {wd : List Int} {H : AHeap} {X : AEnv} (hl : l.length ≤ 300) (hwd : wd.length ≤ 100000) (hE : stE l wd d0 = 0) (o0 : AHeap.obj H 0 = some ⟨24, 3, [[I no, I rate, .ro false (trows ts)]]⟩) (o1 : AHeap.obj H 1 = some ⟨65, 1, [[.ro false (srows l)]]⟩) (o2 : AHeap.obj H 2 = some ⟨38, 3, [[I d0, I d1, I d2]]⟩) :
    awp Tryd.prog ir10c (fnPost [(.tmp 10)] fun x H' => Out H' x (.bool true)) ((2, .ro false (ic wd)) :: (4, I left) :: (5, .ptr 0 1 0 0) :: (6, .ptr 1 1 0 0) :: (8, .ptr 2 1 0 0) :: (11, .ro true (ic (stL l wd d0))) :: X) H := by
  unfold ir10c
  have l2 := AHeap.obj_lt o2
  simp only [walkS, wl, rgets, retv, argsEnv, ev, cst, cst1, cstL, AEnv.get, AEnv.trim, envput, qstep, abin, aun, evs, evo, deref, qload, target, if_true, if_false, Nat.reduceEqDiff, reduceIte, Nat.reduceAdd, AV.cells, AV.isTuple, setMany, alen, aiaddr, afill, Nat.reduceLeDiff, Nat.reduceMul, Nat.reduceLT, afillE, List.replicate]
  refine withGuard_intro ?_ ?_ <;> intro g1 <;> simp only [walkS, wl, rgets, retv, argsEnv, ev, cst, cst1, cstL, AEnv.get, AEnv.trim, envput, qstep, abin, aun, evs, evo, deref, qload, target, if_true, if_false, Nat.reduceEqDiff, reduceIte, Nat.reduceAdd, AV.cells, AV.isTuple, setMany, alen, aiaddr, afill, Nat.reduceLeDiff, Nat.reduceMul, Nat.reduceLT, afillE, List.replicate, g1, o1, srows_length]
  · refine withGuard_intro ?_ ?_ <;> intro g2 <;> simp only [walkS, wl, rgets, retv, argsEnv, ev, cst, cst1, cstL, AEnv.get, AEnv.trim, envput, qstep, abin, aun, evs, evo, deref, qload, target, if_true, if_false, Nat.reduceEqDiff, reduceIte, Nat.reduceAdd, AV.cells, AV.isTuple, setMany, alen, aiaddr, afill, Nat.reduceLeDiff, Nat.reduceMul, Nat.reduceLT, afillE, List.replicate, g2]
    · obtain ⟨m, rfl⟩ : ∃ m : Nat, left = (m : Int) := ⟨left.toNat, by simp at g1; omega⟩
      have hm : m < l.length := by simpa using g2
      have hm1 : IntKind.i64.wrap ((m : Int) + 1) = (m : Int) + 1 := wrap_id (by omega) (by omega)
      refine call_pure (contains_ok _ _ (by have := stL_len (l := l) (wd := wd) (d := d0); omega)) (frzL_of' (d := 4) (carL_cons car_ic rfl)) ?_
      rw [stL_contains hE hm]
      simp only [walkS, wl, rgets, retv, argsEnv, ev, cst, cst1, cstL, AEnv.get, AEnv.trim, envput, qstep, abin, aun, evs, evo, deref, qload, target, if_true, if_false, Nat.reduceEqDiff, reduceIte, Nat.reduceAdd, AV.cells, AV.isTuple, setMany, alen, aiaddr, afill, Nat.reduceLeDiff, Nat.reduceMul, Nat.reduceLT, afillE, List.replicate]
      refine withBool_intro ?_ ?_ <;> intro g3 <;> simp only [walkS, wl, rgets, retv, argsEnv, ev, cst, cst1, cstL, AEnv.get, AEnv.trim, envput, qstep, abin, aun, evs, evo, deref, qload, target, if_true, if_false, Nat.reduceEqDiff, reduceIte, Nat.reduceAdd, AV.cells, AV.isTuple, setMany, alen, aiaddr, afill, Nat.reduceLeDiff, Nat.reduceMul, Nat.reduceLT, afillE, List.replicate, o1, o2, hm1]
      · have g3' : stq l wd d0 m = false := by simpa using g3
        have hn : l ≠ [] := fun e => by rw [e] at hm; simp at hm
        simp only [walkS, wl, rgets, retv, argsEnv, ev, cst, cst1, cstL, AEnv.get, AEnv.trim, envput, qstep, abin, aun, evs, evo, deref, qload, target, if_true, if_false, Nat.reduceEqDiff, reduceIte, Nat.reduceAdd, AV.cells, AV.isTuple, setMany, alen, aiaddr, afill, Nat.reduceLeDiff, Nat.reduceMul, Nat.reduceLT, afillE, List.replicate, ix0, tn0, o2]
        refine (sclone_a (b := false) l hn (by omega) H).mono ?_
        rintro a H1 ⟨q, hq, rfl, oq, hlen1, hkeep1⟩
        have o0 := (hkeep1 0 (by omega)).trans o0
        have o1 := (hkeep1 1 (by omega)).trans o1
        have o2 := (hkeep1 2 (by omega)).trans o2
        simp only [walkS, wl, rgets, retv, argsEnv, ev, cst, cst1, cstL, AEnv.get, AEnv.trim, envput, qstep, abin, aun, evs, evo, deref, qload, target, if_true, if_false, Nat.reduceEqDiff, reduceIte, Nat.reduceAdd, AV.cells, AV.isTuple, setMany, alen, aiaddr, afill, Nat.reduceLeDiff, Nat.reduceMul, Nat.reduceLT, afillE, List.replicate, o1, o2, List.contains_cons, List.contains_nil, Nat.reduceBEq, Bool.or_true, Bool.true_or, Bool.or_false, ite_self, true_and]
        refine (sDelete_at hm (by omega) oq).mono ?_
        rintro a H2 ⟨hlen2, hkeep2, rfl, oq2⟩
        have o0 := (hkeep2 0 (by omega)).trans o0
        have o1 := (hkeep2 1 (by omega)).trans o1
        have o2 := (hkeep2 2 (by omega)).trans o2
        simp only [walkS, wl, rgets, retv, argsEnv, ev, cst, cst1, cstL, AEnv.get, AEnv.trim, envput, qstep, abin, aun, evs, evo, deref, qload, target, if_true, if_false, Nat.reduceEqDiff, reduceIte, Nat.reduceAdd, AV.cells, AV.isTuple, setMany, alen, aiaddr, afill, Nat.reduceLeDiff, Nat.reduceMul, Nat.reduceLT, afillE, List.replicate, o1, o2, List.contains_cons, List.contains_nil, Nat.reduceBEq, Bool.or_true, Bool.true_or, Bool.or_false, ite_self, true_and]
        have hel : (l.eraseIdx m).length = l.length - 1 := List.length_eraseIdx_of_lt hm
        have hcar := car_sown (d := 1) oq2 (n := l.length) (by rw [List.length_append, srows_length, hel, List.length_singleton]; omega)
        rw [hel] at hcar
        refine call_pure (Standing_ok (l.eraseIdx m) wd d0 hwd) (frzL_of' (d := 5) (carL_cons hcar (carL_cons car_ic rfl))) ?_
        have hE' := stE_erase (m := m) hE
        have hL : stL (l.eraseIdx m) wd d0 = (stL l wd d0).map (back m) := by
          rw [stL_good hE', stL_good hE]; exact st_erase hm g3'
        unfold stV
        rw [hE', hL]
        simp only [walkS, wl, rgets, retv, argsEnv, ev, cst, cst1, cstL, AEnv.get, AEnv.trim, envput, qstep, abin, aun, evs, evo, deref, qload, target, if_true, if_false, Nat.reduceEqDiff, reduceIte, Nat.reduceAdd, AV.cells, AV.isTuple, setMany, alen, aiaddr, afill, Nat.reduceLeDiff, Nat.reduceMul, Nat.reduceLT, afillE, List.replicate, o1, o2, List.contains_cons, List.contains_nil, Nat.reduceBEq, Bool.or_true, Bool.true_or, Bool.or_false, ite_self, true_and, ic_length, List.length_map, bne_self_eq_false]
        refine awp_loop (σ := Nat) (fun i => [(4, I m), (5, .ptr 0 1 0 0), (6, .ptr 1 1 0 0), (8, .ptr 2 1 0 0), (20, .ro true (ic ((stL l wd d0).map (back m)))), (225, .ro true (ic (stL l wd d0))), (226, I (stL l wd d0).length), (227, I i)]) (fun i G => AHeap.obj G 0 = some ⟨24, 3, [[I no, I rate, .ro false (trows ts)]]⟩ ∧ AHeap.obj G 1 = some ⟨65, 1, [[.ro false (srows l)]]⟩ ∧ AHeap.obj G 2 = some ⟨38, 3, [[I d0, I d1, I d2]]⟩) (fun i => i ≤ (stL l wd d0).length) (fun i => (stL l wd d0).length - i) 0 (Nat.zero_le _) rfl ⟨o0, o1, o2⟩ ?_
        rintro i G hi ⟨p0, p1, p2⟩
        have hA := stL_len (l := l) (wd := wd) (d := d0)
        simp only [walkS, wl, rgets, retv, argsEnv, ev, cst, cst1, cstL, AEnv.get, AEnv.trim, envput, qstep, abin, aun, evs, evo, deref, qload, target, if_true, if_false, Nat.reduceEqDiff, reduceIte, Nat.reduceAdd, AV.cells, AV.isTuple, setMany, alen, aiaddr, afill, Nat.reduceLeDiff, Nat.reduceMul, Nat.reduceLT, afillE, List.replicate]
        refine withBool_intro ?_ ?_ <;> intro hb <;> simp only [walkS, wl, rgets, retv, argsEnv, ev, cst, cst1, cstL, AEnv.get, AEnv.trim, envput, qstep, abin, aun, evs, evo, deref, qload, target, if_true, if_false, Nat.reduceEqDiff, reduceIte, Nat.reduceAdd, AV.cells, AV.isTuple, setMany, alen, aiaddr, afill, Nat.reduceLeDiff, Nat.reduceMul, Nat.reduceLT, afillE, List.replicate]
        · have hlt : i < (stL l wd d0).length := by simpa using hb
          have hlt2 : i < ((stL l wd d0).map (back m)).length := by simpa using hlt
          have w1 := w_succ (k := i) (by omega)
          obtain ⟨k, hk, hkl, -⟩ : ∃ k : Nat, (stL l wd d0)[i] = (k : Int) ∧ k < l.length ∧ True := by
            have e := stL_good hE
            have hlt3 : i < (idxs (stq l wd d0) l.length).length := by rw [← e]; exact hlt
            obtain ⟨k, h1, h2, h3⟩ := idxs_get_lt hlt3
            exact ⟨k, by rw [← h1]; simp only [e], h2, trivial⟩
          have hbk : ((stL l wd d0).map (back m))[i] = back m (k : Int) := by rw [List.getElem_map, hk]
          simp only [walkS, wl, rgets, retv, argsEnv, ev, cst, cst1, cstL, AEnv.get, AEnv.trim, envput, qstep, abin, aun, evs, evo, deref, qload, target, if_true, if_false, Nat.reduceEqDiff, reduceIte, Nat.reduceAdd, AV.cells, AV.isTuple, setMany, alen, aiaddr, afill, Nat.reduceLeDiff, Nat.reduceMul, Nat.reduceLT, afillE, List.replicate, ic_get hlt, hk]
          refine withBool_intro ?_ ?_ <;> intro h5 <;> simp only [walkS, wl, rgets, retv, argsEnv, ev, cst, cst1, cstL, AEnv.get, AEnv.trim, envput, qstep, abin, aun, evs, evo, deref, qload, target, if_true, if_false, Nat.reduceEqDiff, reduceIte, Nat.reduceAdd, AV.cells, AV.isTuple, setMany, alen, aiaddr, afill, Nat.reduceLeDiff, Nat.reduceMul, Nat.reduceLT, afillE, List.replicate, ic_get hlt2, hbk]
          · have e1 : IntKind.i64.wrap ((k : Int) - 1) = back m (k : Int) := by
              have : (k : Int) > m := by simpa using h5
              unfold back; rw [if_pos this, wrap_id (by omega) (by omega)]
            simp only [walkS, wl, rgets, retv, argsEnv, ev, cst, cst1, cstL, AEnv.get, AEnv.trim, envput, qstep, abin, aun, evs, evo, deref, qload, target, if_true, if_false, Nat.reduceEqDiff, reduceIte, Nat.reduceAdd, AV.cells, AV.isTuple, setMany, alen, aiaddr, afill, Nat.reduceLeDiff, Nat.reduceMul, Nat.reduceLT, afillE, List.replicate, ic_get hlt2, hbk, e1, bne_self_eq_false, w1]
            exact loop_end (i + 1) hlt (by omega) rfl ⟨p0, p1, p2⟩
          · have e1 : back m (k : Int) = k := by
              unfold back; rw [if_neg (by simpa using h5)]
            simp only [walkS, wl, rgets, retv, argsEnv, ev, cst, cst1, cstL, AEnv.get, AEnv.trim, envput, qstep, abin, aun, evs, evo, deref, qload, target, if_true, if_false, Nat.reduceEqDiff, reduceIte, Nat.reduceAdd, AV.cells, AV.isTuple, setMany, alen, aiaddr, afill, Nat.reduceLeDiff, Nat.reduceMul, Nat.reduceLT, afillE, List.replicate, e1, bne_self_eq_false, w1]
            exact loop_end (i + 1) hlt (by omega) rfl ⟨p0, p1, p2⟩
        · simp only [walkS, wl, rgets, retv, argsEnv, ev, cst, cst1, cstL, AEnv.get, AEnv.trim, envput, qstep, abin, aun, evs, evo, deref, qload, target, if_true, if_false, Nat.reduceEqDiff, reduceIte, Nat.reduceAdd, AV.cells, AV.isTuple, setMany, alen, aiaddr, afill, Nat.reduceLeDiff, Nat.reduceMul, Nat.reduceLT, afillE, List.replicate, p0, p1, p2, ix1, tn1, ix2, tn2]
          refine call_pure (Corrected_ok no rate ts l d1 d2) (frzL_of' (d := 5) (carL_cons car_sc (carL_cons (car_srows (d := 1)) (carL_cons car_int (carL_cons car_int rfl))))) ?_
          unfold crV
          simp only [walkS, wl, rgets, retv, argsEnv, ev, cst, cst1, cstL, AEnv.get, AEnv.trim, envput, qstep, abin, aun, evs, evo, deref, qload, target, if_true, if_false, Nat.reduceEqDiff, reduceIte, Nat.reduceAdd, AV.cells, AV.isTuple, setMany, alen, aiaddr, afill, Nat.reduceLeDiff, Nat.reduceMul, Nat.reduceLT, afillE, List.replicate]
          exact tail10d hl p0 p1 p2
      · have g3' : stq l wd d0 m = true := by simpa using g3
        simp only [walkS, wl, rgets, retv, argsEnv, ev, cst, cst1, cstL, AEnv.get, AEnv.trim, envput, qstep, abin, aun, evs, evo, deref, qload, target, if_true, if_false, Nat.reduceEqDiff, reduceIte, Nat.reduceAdd, AV.cells, AV.isTuple, setMany, alen, aiaddr, afill, Nat.reduceLeDiff, Nat.reduceMul, Nat.reduceLT, afillE, List.replicate, o0, o1, o2, ix1, tn1, ix2, tn2]
        refine call_pure (Corrected_ok no rate ts l d1 d2) (frzL_of' (d := 5) (carL_cons car_sc (carL_cons (car_srows (d := 1)) (carL_cons car_int (carL_cons car_int rfl))))) ?_
        unfold crV
        simp only [walkS, wl, rgets, retv, argsEnv, ev, cst, cst1, cstL, AEnv.get, AEnv.trim, envput, qstep, abin, aun, evs, evo, deref, qload, target, if_true, if_false, Nat.reduceEqDiff, reduceIte, Nat.reduceAdd, AV.cells, AV.isTuple, setMany, alen, aiaddr, afill, Nat.reduceLeDiff, Nat.reduceMul, Nat.reduceLT, afillE, List.replicate]
        exact tail10d hl o0 o1 o2
    · simp only [walkS, wl, rgets, retv, argsEnv, ev, cst, cst1, cstL, AEnv.get, AEnv.trim, envput, qstep, abin, aun, evs, evo, deref, qload, target, if_true, if_false, Nat.reduceEqDiff, reduceIte, Nat.reduceAdd, AV.cells, AV.isTuple, setMany, alen, aiaddr, afill, Nat.reduceLeDiff, Nat.reduceMul, Nat.reduceLT, afillE, List.replicate, o0, o1, o2, ix1, tn1, ix2, tn2]
      refine call_pure (Corrected_ok no rate ts l d1 d2) (frzL_of' (d := 5) (carL_cons car_sc (carL_cons (car_srows (d := 1)) (carL_cons car_int (carL_cons car_int rfl))))) ?_
      unfold crV
      simp only [walkS, wl, rgets, retv, argsEnv, ev, cst, cst1, cstL, AEnv.get, AEnv.trim, envput, qstep, abin, aun, evs, evo, deref, qload, target, if_true, if_false, Nat.reduceEqDiff, reduceIte, Nat.reduceAdd, AV.cells, AV.isTuple, setMany, alen, aiaddr, afill, Nat.reduceLeDiff, Nat.reduceMul, Nat.reduceLT, afillE, List.replicate]
      exact tail10d hl o0 o1 o2
  · simp only [walkS, wl, rgets, retv, argsEnv, ev, cst, cst1, cstL, AEnv.get, AEnv.trim, envput, qstep, abin, aun, evs, evo, deref, qload, target, if_true, if_false, Nat.reduceEqDiff, reduceIte, Nat.reduceAdd, AV.cells, AV.isTuple, setMany, alen, aiaddr, afill, Nat.reduceLeDiff, Nat.reduceMul, Nat.reduceLT, afillE, List.replicate, o0, o1, o2, ix1, tn1, ix2, tn2]
    refine call_pure (Corrected_ok no rate ts l d1 d2) (frzL_of' (d := 5) (carL_cons car_sc (carL_cons (car_srows (d := 1)) (carL_cons car_int (carL_cons car_int rfl))))) ?_
    unfold crV
    simp only [walkS, wl, rgets, retv, argsEnv, ev, cst, cst1, cstL, AEnv.get, AEnv.trim, envput, qstep, abin, aun, evs, evo, deref, qload, target, if_true, if_false, Nat.reduceEqDiff, reduceIte, Nat.reduceAdd, AV.cells, AV.isTuple, setMany, alen, aiaddr, afill, Nat.reduceLeDiff, Nat.reduceMul, Nat.reduceLT, afillE, List.replicate]
    exact tail10d hl o0 o1 o2
end Go.Proofs.YtgadlckkmhhmbaaDoor
/- CourseStands: a sheet of a number stands exactly if the number is not withdrawn and there is a known sheet of it. -/
namespace Go.Proofs.YtgadlckkmhhmbaaDoor
open Go.Awp Go.Grams
set_option linter.unusedSimpArgs false
set_option linter.unusedVariables false
set_option linter.unusedSectionVars false
set_option maxRecDepth 10000
theorem cl47_ok {l : List Sht} {s : Sht} {k : Nat} (hk : k < l.length) (hl : l.length ≤ 300) : PCall Tryd.prog 47 [I (k : Int), .rop [.ro false (srows l)], .rop (shR false s)] (.bool (l[k].no == s.no)) := by
  refine PCall.intro text47 (by simp) ?_
  unfold ir47
  simp only [walk, wl, rgets, retv, argsEnv, ev, cst, cst1, cstL, AEnv.get, AEnv.trim, envput, qstep, abin, aun, evs, evo, deref, qload, target, if_true, if_false, Nat.reduceEqDiff, reduceIte, Nat.reduceAdd, AV.cells, AV.isTuple, setMany, alen, aiaddr, afill, Nat.reduceLeDiff, Nat.reduceMul, Nat.reduceLT, afillE, List.replicate, srows_get hk]
  exact out_bool
theorem cl49_ok {x s : Sht} {d0 d1 d2 : Int} : PCall Tryd.prog 49 [sh x, .rop (shR false s), .rop [I d0, I d1, I d2]] (.bool (x.no == s.no && decide (x.known ≤ d0))) := by
  refine PCall.intro text49 (by simp) ?_
  unfold ir49
  simp only [walk, wl, rgets, retv, argsEnv, ev, cst, cst1, cstL, AEnv.get, AEnv.trim, envput, qstep, abin, aun, evs, evo, deref, qload, target, if_true, if_false, Nat.reduceEqDiff, reduceIte, Nat.reduceAdd, AV.cells, AV.isTuple, setMany, alen, aiaddr, afill, Nat.reduceLeDiff, Nat.reduceMul, Nat.reduceLT, afillE, List.replicate]
  refine withGuard_intro ?_ ?_ <;> intro g1 <;> simp only [walk, wl, rgets, retv, argsEnv, ev, cst, cst1, cstL, AEnv.get, AEnv.trim, envput, qstep, abin, aun, evs, evo, deref, qload, target, if_true, if_false, Nat.reduceEqDiff, reduceIte, Nat.reduceAdd, AV.cells, AV.isTuple, setMany, alen, aiaddr, afill, Nat.reduceLeDiff, Nat.reduceMul, Nat.reduceLT, afillE, List.replicate, g1, ix0, tn0]
  · exact out_boolE (by simp)
  · exact out_boolE (by simp)
theorem carL_shR {H : AHeap} {d : Nat} {s : Sht} : carL (carry false H (d + 3)) (shR false s) = some (shR false s) := carL_cons car_int (carL_cons car_int (carL_cons car_int (carL_cons car_int (carL_cons car_int (carL_cons car_int (carL_cons car_int (carL_cons car_int (carL_cons (car_ro (krows_simple _) (.inl rfl)) rfl))))))))
theorem car_rop {H : AHeap} {d : Nat} {cs l : List AV} (h : carL (carry false H d) cs = some l) : carry false H (d + 1) (.rop cs) = some (.rop l) := by
  rw [show carry false H (d + 1) (.rop cs) = (if false = false then (match carL (carry false H d) cs with | some l => some (.rop l) | none => none) else none) from rfl, if_pos rfl, h]
theorem car_ptr {H : AHeap} {d h ver i j : Nat} {cs l : List AV} (hd : deref H (.ptr h ver i j) = some cs) (hc : carL (carry false H d) cs = some l) : carry false H (d + 1) (.ptr h ver i j) = some (.rop l) := by
  rw [show carry false H (d + 1) (.ptr h ver i j) = (match deref H (.ptr h ver i j) with | some cells => (match carL (carry false H d) cells with | some l => some (.rop l) | none => none) | none => none) from rfl, hd]
  simp only [hc]
theorem car_fun {H : AHeap} {d : Nat} {f : Fn} {cs l : List AV} (h : carL (carry false H d) cs = some l) : carry false H (d + 1) (.func f [] cs) = some (.func f [] l) := by
  rw [show carry false H (d + 1) (.func f [] cs) = (match carL (carry false H d) [], carL (carry false H d) cs with | some a', some b' => some (.func f a' b') | _, _ => none) from rfl, h]; rfl
theorem tail10b {no rate d0 d1 d2 left : Int} {ts : List Tst} {l : List Sht} {wd : List Int} {H : AHeap} {X : AEnv} (hl : l.length ≤ 300) (hwd : wd.length ≤ 100000) (hE : stE l wd d0 = 0) (o0 : AHeap.obj H 0 = some ⟨24, 3, [[I no, I rate, .ro false (trows ts)]]⟩) (o1 : AHeap.obj H 1 = some ⟨65, 1, [[.ro false (srows l)]]⟩) (o2 : AHeap.obj H 2 = some ⟨38, 3, [[I d0, I d1, I d2]]⟩) :
    awp Tryd.prog ir10b (fnPost [(.tmp 10)] fun x H' => Out H' x (.bool true)) ((2, .ro false (ic wd)) :: (4, I left) :: (5, .ptr 0 1 0 0) :: (6, .ptr 1 1 0 0) :: (8, .ptr 2 1 0 0) :: (11, .ro true (ic (stL l wd d0))) :: X) H := by
  unfold ir10b
  have l2 := AHeap.obj_lt o2
  have hA := stL_len (l := l) (wd := wd) (d := d0)
  simp only [walkS, wl, rgets, retv, argsEnv, ev, cst, cst1, cstL, AEnv.get, AEnv.trim, envput, qstep, abin, aun, evs, evo, deref, qload, target, if_true, if_false, Nat.reduceEqDiff, reduceIte, Nat.reduceAdd, AV.cells, AV.isTuple, setMany, alen, aiaddr, afill, Nat.reduceLeDiff, Nat.reduceMul, Nat.reduceLT, afillE, List.replicate, o1, srows_length]
  refine awp_loop (σ := Nat) (fun k => [(2, .ro false (ic wd)), (4, I left), (5, .ptr 0 1 0 0), (6, .ptr 1 1 0 0), (8, .ptr 2 1 0 0), (11, .ro true (ic (stL l wd d0))), (167, .ro false (srows l)), (168, I l.length), (169, I k)]) (fun k G => AHeap.obj G 0 = some ⟨24, 3, [[I no, I rate, .ro false (trows ts)]]⟩ ∧ AHeap.obj G 1 = some ⟨65, 1, [[.ro false (srows l)]]⟩ ∧ AHeap.obj G 2 = some ⟨38, 3, [[I d0, I d1, I d2]]⟩) (fun k => k ≤ l.length) (fun k => l.length - k) 0 (Nat.zero_le _) rfl ⟨o0, o1, o2⟩ ?_
  rintro k G hk ⟨p0, p1, p2⟩
  have hG := AHeap.obj_lt p2
  simp only [walkS, wl, rgets, retv, argsEnv, ev, cst, cst1, cstL, AEnv.get, AEnv.trim, envput, qstep, abin, aun, evs, evo, deref, qload, target, if_true, if_false, Nat.reduceEqDiff, reduceIte, Nat.reduceAdd, AV.cells, AV.isTuple, setMany, alen, aiaddr, afill, Nat.reduceLeDiff, Nat.reduceMul, Nat.reduceLT, afillE, List.replicate]
  refine withBool_intro ?_ ?_ <;> intro hb <;> simp only [walkS, wl, rgets, retv, argsEnv, ev, cst, cst1, cstL, AEnv.get, AEnv.trim, envput, qstep, abin, aun, evs, evo, deref, qload, target, if_true, if_false, Nat.reduceEqDiff, reduceIte, Nat.reduceAdd, AV.cells, AV.isTuple, setMany, alen, aiaddr, afill, Nat.reduceLeDiff, Nat.reduceMul, Nat.reduceLT, afillE, List.replicate]
  · have hlt : k < l.length := by simpa using hb
    have w1 := w_succ (k := k) (by omega)
    simp only [walkS, wl, rgets, retv, argsEnv, ev, cst, cst1, cstL, AEnv.get, AEnv.trim, envput, qstep, abin, aun, evs, evo, deref, qload, target, if_true, if_false, Nat.reduceEqDiff, reduceIte, Nat.reduceAdd, AV.cells, AV.isTuple, setMany, alen, aiaddr, afill, Nat.reduceLeDiff, Nat.reduceMul, Nat.reduceLT, afillE, List.replicate, srows_get hlt]
    refine storeR rfl rfl AHeap.obj_push_eq rfl ⟨rfl, rfl, rfl, by simp⟩ fun H1 y1 y2 y3 => ?_
    simp only [AV.cells, setMany, List.set_cons_zero, List.set_cons_succ] at y2
    simp only [List.length_append, List.length_cons, List.length_nil] at y1
    have p0 := (y3 0 (by omega)).trans (obj_keep p0)
    have p1 := (y3 1 (by omega)).trans (obj_keep p1)
    have p2 := (y3 2 (by omega)).trans (obj_keep p2)
    simp only [walkS, wl, rgets, retv, argsEnv, ev, cst, cst1, cstL, AEnv.get, AEnv.trim, envput, qstep, abin, aun, evs, evo, deref, qload, target, if_true, if_false, Nat.reduceEqDiff, reduceIte, Nat.reduceAdd, AV.cells, AV.isTuple, setMany, alen, aiaddr, afill, Nat.reduceLeDiff, Nat.reduceMul, Nat.reduceLT, afillE, List.replicate]
    have c1 : ∀ f, carry false H1 7 (.func f [] [.ptr 1 1 0 0, .ptr G.length 1 0 0]) = some (.func f [] [.rop [.ro false (srows l)], .rop (shR false l[k])]) := fun f => car_fun (carL_cons (car_ptr (by simp only [deref, p1]; rfl) (carL_cons (car_srows (d := 1)) rfl)) (carL_cons (car_ptr (by simp only [deref, y2]; rfl) (carL_shR (d := 2))) rfl))
    have c2 : ∀ f, carry false H1 7 (.func f [] [.ptr G.length 1 0 0, .ptr 2 1 0 0]) = some (.func f [] [.rop (shR false l[k]), .rop [I d0, I d1, I d2]]) := fun f => car_fun (carL_cons (car_ptr (by simp only [deref, y2]; rfl) (carL_shR (d := 2))) (carL_cons (car_ptr (by simp only [deref, p2]; rfl) (carL_cons car_int (carL_cons car_int (carL_cons car_int rfl)))) rfl))
    refine call_pure (hasI_ok (l := stL l wd d0) (p := fun n => (shAt l n.toNat).no == l[k].no) (by omega) (fun H => carL_cons (car_rop (carL_cons (car_srows (d := 1)) rfl)) (carL_cons (car_rop (carL_shR (d := 2))) rfl)) (fun n hn => by
      rw [stL_good hE] at hn
      obtain ⟨j, h1, h2, rfl⟩ := mem_idxs.1 hn
      rw [Int.toNat_natCast, shAt_eq h1]
      exact cl47_ok h1 hl)) (frzL_of' (d := 7) (carL_cons car_ic (carL_cons (c1 _) rfl))) ?_
    simp only [walkS, wl, rgets, retv, argsEnv, ev, cst, cst1, cstL, AEnv.get, AEnv.trim, envput, qstep, abin, aun, evs, evo, deref, qload, target, if_true, if_false, Nat.reduceEqDiff, reduceIte, Nat.reduceAdd, AV.cells, AV.isTuple, setMany, alen, aiaddr, afill, Nat.reduceLeDiff, Nat.reduceMul, Nat.reduceLT, afillE, List.replicate, y2]
    refine call_pure (contains_ok wd _ hwd) (frzL_of' (d := 4) (carL_cons car_ic rfl)) ?_
    have key := stands_any (l := l) (wd := wd) (d := d0) (n := l[k].no)
    rw [← stL_good hE] at key
    simp only [walkS, wl, rgets, retv, argsEnv, ev, cst, cst1, cstL, AEnv.get, AEnv.trim, envput, qstep, abin, aun, evs, evo, deref, qload, target, if_true, if_false, Nat.reduceEqDiff, reduceIte, Nat.reduceAdd, AV.cells, AV.isTuple, setMany, alen, aiaddr, afill, Nat.reduceLeDiff, Nat.reduceMul, Nat.reduceLT, afillE, List.replicate]
    refine withGuard_intro ?_ ?_ <;> intro g1 <;> simp only [walkS, wl, rgets, retv, argsEnv, ev, cst, cst1, cstL, AEnv.get, AEnv.trim, envput, qstep, abin, aun, evs, evo, deref, qload, target, if_true, if_false, Nat.reduceEqDiff, reduceIte, Nat.reduceAdd, AV.cells, AV.isTuple, setMany, alen, aiaddr, afill, Nat.reduceLeDiff, Nat.reduceMul, Nat.reduceLT, afillE, List.replicate, g1, p1]
    · refine call_pure (hasS_ok (l := l) (p := fun x => x.no == l[k].no && decide (x.known ≤ d0)) (by omega) (fun H => carL_cons (car_rop (carL_shR (d := 2))) (carL_cons (car_rop (carL_cons car_int (carL_cons car_int (carL_cons car_int rfl)))) rfl)) (fun x => cl49_ok)) (frzL_of' (d := 7) (carL_cons (car_srows (d := 3)) (carL_cons (c2 _) rfl))) ?_
      simp only [walkS, wl, rgets, retv, argsEnv, ev, cst, cst1, cstL, AEnv.get, AEnv.trim, envput, qstep, abin, aun, evs, evo, deref, qload, target, if_true, if_false, Nat.reduceEqDiff, reduceIte, Nat.reduceAdd, AV.cells, AV.isTuple, setMany, alen, aiaddr, afill, Nat.reduceLeDiff, Nat.reduceMul, Nat.reduceLT, afillE, List.replicate]
      have e : (!(((stL l wd d0).any fun n => (shAt l n.toNat).no == l[k].no) == l.any fun x => x.no == l[k].no && decide (x.known ≤ d0))) = false := by
        rw [key]; simp at g1; simp [g1]
      simp only [walkS, wl, rgets, retv, argsEnv, ev, cst, cst1, cstL, AEnv.get, AEnv.trim, envput, qstep, abin, aun, evs, evo, deref, qload, target, if_true, if_false, Nat.reduceEqDiff, reduceIte, Nat.reduceAdd, AV.cells, AV.isTuple, setMany, alen, aiaddr, afill, Nat.reduceLeDiff, Nat.reduceMul, Nat.reduceLT, afillE, List.replicate, e, w1]
      exact loop_end (k + 1) hlt (by omega) rfl ⟨p0, p1, p2⟩
    · have e : (!(((stL l wd d0).any fun n => (shAt l n.toNat).no == l[k].no) == false)) = false := by
        rw [key]; simp at g1; simp [g1]
      simp only [walkS, wl, rgets, retv, argsEnv, ev, cst, cst1, cstL, AEnv.get, AEnv.trim, envput, qstep, abin, aun, evs, evo, deref, qload, target, if_true, if_false, Nat.reduceEqDiff, reduceIte, Nat.reduceAdd, AV.cells, AV.isTuple, setMany, alen, aiaddr, afill, Nat.reduceLeDiff, Nat.reduceMul, Nat.reduceLT, afillE, List.replicate, e, w1]
      exact loop_end (k + 1) hlt (by omega) rfl ⟨p0, p1, p2⟩
  · exact tail10c hl hwd hE p0 p1 p2
end Go.Proofs.YtgadlckkmhhmbaaDoor
