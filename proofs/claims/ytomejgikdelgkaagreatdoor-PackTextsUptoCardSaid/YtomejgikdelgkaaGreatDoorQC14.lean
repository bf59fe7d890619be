/- Contracts: Joined. -/
import Derived.Test.YtomejgikdelgkaaGreatDoorQC12
set_option linter.unusedVariables false
set_option linter.unusedSimpArgs false
set_option linter.unusedSectionVars false
namespace Go.Proofs.YtomejgikdelgkaaGreatDoor
open Go.Awp Go.Snow
set_option linter.unusedSimpArgs false
set_option linter.unusedVariables false
set_option linter.unusedSectionVars false
set_option maxRecDepth 10000
/-- The layer that two make. -/
def join0 (a b : Lay) : Lay := (a.1 + b.1, a.2.1 + b.2.1, a.2.2 + b.2.2)
def dry (l : Lay) : Lay := (l.1 + min l.2.1 l.2.2, l.2.1 - min l.2.1 l.2.2, l.2.2 - min l.2.1 l.2.2)
def join (a b : Lay) : Lay := dry (join0 a b)
/-- Small enough to be joined. -/
def Tame (l : Lay) : Prop := (0 ≤ l.1 ∧ l.1 ≤ 1000000000) ∧ (0 ≤ l.2.1 ∧ l.2.1 ≤ 1000000000) ∧ (0 ≤ l.2.2 ∧ l.2.2 ≤ 1000000000)
theorem joined_ok {a b : Lay} (ha : Tame a) (hb : Tame b) : PCall Tryz.prog 46 [.agg (dc a), .agg (dc b)] (.agg (dc (join a b))) := by
  obtain ⟨⟨a1, a2⟩, ⟨a3, a4⟩, a5, a6⟩ := ha
  obtain ⟨⟨b1, b2⟩, ⟨b3, b4⟩, b5, b6⟩ := hb
  refine PCall.intro text46 (by simp) ?_
  unfold ir46
  have e1 : IntKind.i64.wrap (a.1 + b.1) = a.1 + b.1 := wrap_id (by omega) (by omega)
  have e2 : IntKind.i64.wrap (a.2.1 + b.2.1) = a.2.1 + b.2.1 := wrap_id (by omega) (by omega)
  have e3 : IntKind.i64.wrap (a.2.2 + b.2.2) = a.2.2 + b.2.2 := wrap_id (by omega) (by omega)
  simp only [walk, wl, rgets, retv, argsEnv, ev, cst, cst1, cstL, AEnv.get, AEnv.trim, envput, qstep, abin, aun, evs, evo, deref, qload, target, if_true, if_false, Nat.reduceEqDiff, reduceIte, Nat.reduceAdd, AV.cells, AV.isTuple, setMany, alen, aiaddr, afill, Nat.reduceLeDiff, Nat.reduceMul, Nat.reduceLT, afillE, List.replicate, dc, e1, e2, e3, amm, amm.go]
  have em : (if a.2.2 + b.2.2 < a.2.1 + b.2.1 then a.2.2 + b.2.2 else a.2.1 + b.2.1) = min (a.2.1 + b.2.1) (a.2.2 + b.2.2) := amin
  rw [em]
  obtain ⟨m, hm⟩ : ∃ m, m = min (a.2.1 + b.2.1) (a.2.2 + b.2.2) := ⟨_, rfl⟩
  rw [← hm]
  have e4 : IntKind.i64.wrap (a.1 + b.1 + m) = a.1 + b.1 + m := wrap_id (by omega) (by omega)
  have e5 : IntKind.i64.wrap (a.2.1 + b.2.1 - m) = a.2.1 + b.2.1 - m := wrap_id (by omega) (by omega)
  have e6 : IntKind.i64.wrap (a.2.2 + b.2.2 - m) = a.2.2 + b.2.2 - m := wrap_id (by omega) (by omega)
  rw [e4, e5, e6]
  have : join a b = (a.1 + b.1 + m, a.2.1 + b.2.1 - m, a.2.2 + b.2.2 - m) := by simp only [join, dry, join0, ← hm]
  rw [this]
  exact out_of (d := 2) rfl
theorem clone_nil {b : Bool} : PCall Tryz.prog 45 [.ro b []] .nilSlice := by
  refine PCall.intro text45 (by simp) ?_
  unfold ir45
  simp only [walk, wl, rgets, retv, argsEnv, ev, cst, cst1, cstL, AEnv.get, AEnv.trim, envput, qstep, abin, aun, evs, evo, deref, qload, target, if_true, if_false, Nat.reduceEqDiff, reduceIte, Nat.reduceAdd, AV.cells, AV.isTuple, setMany, alen, aiaddr, afill, Nat.reduceLeDiff, Nat.reduceMul, Nat.reduceLT, afillE, List.replicate, sstep, asrc]
  refine acall_isnil rfl rfl (fun h => absurd h (by decide)) fun _ c => ?_
  simp only [walk, wl, rgets, retv, argsEnv, ev, cst, cst1, cstL, AEnv.get, AEnv.trim, envput, qstep, abin, aun, evs, evo, deref, qload, target, if_true, if_false, Nat.reduceEqDiff, reduceIte, Nat.reduceAdd, AV.cells, AV.isTuple, setMany, alen, aiaddr, afill, Nat.reduceLeDiff, Nat.reduceMul, Nat.reduceLT, afillE, List.replicate, sstep, asrc]
  refine withBool_intro ?_ ?_ <;> intro h <;> simp only [walk, wl, rgets, retv, argsEnv, ev, cst, cst1, cstL, AEnv.get, AEnv.trim, envput, qstep, abin, aun, evs, evo, deref, qload, target, if_true, if_false, Nat.reduceEqDiff, reduceIte, Nat.reduceAdd, AV.cells, AV.isTuple, setMany, alen, aiaddr, afill, Nat.reduceLeDiff, Nat.reduceMul, Nat.reduceLT, afillE, List.replicate, sstep, asrc]
  · exact out_nilSlice
  · simp; exact out_nilSlice
theorem clone_new {b : Bool} {ds : List Lay} (h0 : ds ≠ []) (hl : ds.length ≤ 4096) : NCall Tryz.prog 45 [.ro b (rows ds)] 47 3 (rows ds) := by
  refine NCall.intro text45 (by simp) (rows_sim ds) ?_
  have hp : 0 < ds.length := List.length_pos_iff.2 h0
  unfold ir45
  simp only [walk, wl, rgets, retv, argsEnv, ev, cst, cst1, cstL, AEnv.get, AEnv.trim, envput, qstep, abin, aun, evs, evo, deref, qload, target, if_true, if_false, Nat.reduceEqDiff, reduceIte, Nat.reduceAdd, AV.cells, AV.isTuple, setMany, alen, aiaddr, afill, Nat.reduceLeDiff, Nat.reduceMul, Nat.reduceLT, afillE, List.replicate, sstep, asrc]
  refine acall_isnil rfl rfl (fun _ => ?_) fun h => absurd h (by simpa [rows_length] using h0)
  simp only [walk, wl, rgets, retv, argsEnv, ev, cst, cst1, cstL, AEnv.get, AEnv.trim, envput, qstep, abin, aun, evs, evo, deref, qload, target, if_true, if_false, Nat.reduceEqDiff, reduceIte, Nat.reduceAdd, AV.cells, AV.isTuple, setMany, alen, aiaddr, afill, Nat.reduceLeDiff, Nat.reduceMul, Nat.reduceLT, afillE, List.replicate, sstep, asrc, rows_all, rows_length, if_neg (show ¬ ds.length = 0 by omega), if_pos (show ds.length ≤ 140737488355328 ∧ ds.length * 24 ≤ 140737488355328 by omega)]
  have := @nout_push _ [] 47 3 (rows ds)
  rwa [rows_length] at this
theorem aslice3_part {H : AHeap} {h n len e s a b : Nat} {els : List (List AV)} (ho : AHeap.obj H h = some ⟨e, s, els⟩) (hn : els.length = n) (h1 : a ≤ b) (h2 : b ≤ len) : aslice3 H s (.own h n 0 len) (some (I a)) (some (I b)) (some (I len)) = some .junk := by
  unfold aslice3
  simp only [ho]
  rw [if_pos ⟨hn.symm, trivial⟩]
  have e1 : abndX len none (some (I len)) = some (0, len) := abnds_hi (Nat.le_refl len)
  have e2 : abndX len (some (I a)) (some (I b)) = some (a, b) := abnds_h h2 h1
  rw [e1]
  simp only [e2]
theorem Delete_at {ds tl : List Lay} {k h N : Nat} {H0 : AHeap} (hk : k < ds.length) (hl : ds.length ≤ 4096) (hN : (rows ds ++ rows tl).length = N) (ho : AHeap.obj H0 h = some ⟨47, 3, rows ds ++ rows tl⟩) : ACall Tryz.prog 47 [.own h N 0 ds.length, I k, I (k + 1)] H0 fun x H =>
    H.length = H0.length ∧ (∀ i, i ≠ h → AHeap.obj H i = AHeap.obj H0 i) ∧ x = .own h N 0 (ds.length - 1) ∧ AHeap.obj H h = some ⟨47, 3, rows (ds.eraseIdx k) ++ rows ((0, 0, 0) :: tl)⟩ := by
  refine ACall.intro text47 (by simp) ?_
  unfold ir47
  have e1 : I ((k : Int) + 1) = I ((k + 1 : Nat) : Int) := by simp; try omega
  have hL := rows_length ds
  have hNl : N = ds.length + tl.length := by rw [← hN]; simp [rows_length]
  simp only [walkS, wl, rgets, retv, argsEnv, ev, cst, cst1, cstL, AEnv.get, AEnv.trim, envput, qstep, abin, aun, evs, evo, deref, qload, target, if_true, if_false, Nat.reduceEqDiff, reduceIte, Nat.reduceAdd, AV.cells, AV.isTuple, setMany, alen, aiaddr, afill, Nat.reduceLeDiff, Nat.reduceMul, Nat.reduceLT, afillE, List.replicate, e1, ho, hN, aslice3_part ho hN (show k ≤ k + 1 by omega) (show k + 1 ≤ ds.length by omega)]
  have hne : ((k : Int) == ((k + 1 : Nat) : Int)) = false := by simp; omega
  simp only [walkS, wl, rgets, retv, argsEnv, ev, cst, cst1, cstL, AEnv.get, AEnv.trim, envput, qstep, abin, aun, evs, evo, deref, qload, target, if_true, if_false, Nat.reduceEqDiff, reduceIte, Nat.reduceAdd, AV.cells, AV.isTuple, setMany, alen, aiaddr, afill, Nat.reduceLeDiff, Nat.reduceMul, Nat.reduceLT, afillE, List.replicate, hne, ho, hN, aslice_own ho hN (abnds_hi (show k ≤ ds.length by omega)), aslice_own ho hN (abnds_lo (show k + 1 ≤ ds.length by omega))]
  have hp := asrc_part (i := k + 1) (len := ds.length - (k + 1)) ho hN
  have hrs : ((rows ds ++ rows tl).drop (k + 1)).take (ds.length - (k + 1)) = (rows ds).drop (k + 1) := by
    rw [List.drop_append_of_le_length (by omega), List.take_append_of_le_length (by simp [hL]), List.take_of_length_le (by simp [hL])]
  rw [hrs] at hp
  have hlen : ((rows ds).drop (k + 1)).length = ds.length - (k + 1) := by simp [hL]
  refine app_inR rfl rfl hp ho hN (by omega) (by omega) (by rw [hlen]; omega) fun H1 y1 y2 y3 => ?_
  rw [hlen, show k - 0 + (ds.length - (k + 1)) = ds.length - 1 by omega] at *
  rw [show k - 0 = k by omega] at y2
  have e2 : (rows ds ++ rows tl).take k ++ (rows ds).drop (k + 1) = rows (ds.eraseIdx k) := by
    rw [List.take_append_of_le_length (by omega)]
    simp only [rows, ← List.map_take, ← List.map_drop, ← List.map_append]
    rw [List.eraseIdx_eq_take_drop_succ]
  rw [e2] at y2
  have hL1 : (rows (ds.eraseIdx k)).length = ds.length - 1 := by rw [rows_length, List.length_eraseIdx_of_lt hk]
  have hL2 : (rows (ds.eraseIdx k) ++ (rows ds ++ rows tl).drop (ds.length - 1)).length = N := by simp only [List.length_append, hL1, List.length_drop, hL, rows_length]; omega
  simp only [walkS, wl, rgets, retv, argsEnv, ev, cst, cst1, cstL, AEnv.get, AEnv.trim, envput, qstep, abin, aun, evs, evo, deref, qload, target, if_true, if_false, Nat.reduceEqDiff, reduceIte, Nat.reduceAdd, AV.cells, AV.isTuple, setMany, alen, aiaddr, afill, Nat.reduceLeDiff, Nat.reduceMul, Nat.reduceLT, afillE, List.replicate, y2, hL2]
  have hfar := abnds_far (a := ds.length - 1) (show ds.length - 1 < ds.length by omega)
  have hX : abndX N (some (I ((ds.length - 1 : Nat) : Int))) (some (I (ds.length : Int))) = some (ds.length - 1, ds.length) := abnds_h (by omega) (by omega)
  simp only [walkS, wl, rgets, retv, argsEnv, ev, cst, cst1, cstL, AEnv.get, AEnv.trim, envput, qstep, abin, aun, evs, evo, deref, qload, target, if_true, if_false, Nat.reduceEqDiff, reduceIte, Nat.reduceAdd, AV.cells, AV.isTuple, setMany, alen, aiaddr, afill, Nat.reduceLeDiff, Nat.reduceMul, Nat.reduceLT, afillE, List.replicate, aslice_own2 y2 hL2 (by omega) hfar hX]
  refine clearR rfl y2 hL2 (by omega) fun H2 z1 z2 z3 => ?_
  rw [show ds.length - (ds.length - 1) = 1 by omega, show ds.length - 1 + 1 = ds.length by omega] at z2
  have e3 : (rows (ds.eraseIdx k) ++ (rows ds ++ rows tl).drop (ds.length - 1)).take (ds.length - 1) ++ List.replicate 1 [I 0, I 0, I 0] ++ (rows (ds.eraseIdx k) ++ (rows ds ++ rows tl).drop (ds.length - 1)).drop ds.length = rows (ds.eraseIdx k) ++ rows ((0, 0, 0) :: tl) := by
    rw [List.take_append_of_le_length (by omega), List.take_of_length_le (by omega), List.drop_append, List.drop_eq_nil_of_le (by omega), hL1, List.nil_append, List.drop_drop, show ds.length - 1 + (ds.length - (ds.length - 1)) = (rows ds).length by omega, List.drop_append_of_le_length (Nat.le_refl _), List.drop_length, List.nil_append]
    simp [rows, dc]
  rw [e3] at z2
  simp only [walkS, wl, rgets, retv, argsEnv, ev, cst, cst1, cstL, AEnv.get, AEnv.trim, envput, qstep, abin, aun, evs, evo, deref, qload, target, if_true, if_false, Nat.reduceEqDiff, reduceIte, Nat.reduceAdd, AV.cells, AV.isTuple, setMany, alen, aiaddr, afill, Nat.reduceLeDiff, Nat.reduceMul, Nat.reduceLT, afillE, List.replicate, z2]
  exact ⟨by omega, fun i hi => (z3 i hi).trans (y3 i hi)⟩
end Go.Proofs.YtomejgikdelgkaaGreatDoor
