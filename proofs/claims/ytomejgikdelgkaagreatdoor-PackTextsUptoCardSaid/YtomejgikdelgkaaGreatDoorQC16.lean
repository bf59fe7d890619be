/- Contracts: Print; packs compared. -/
import Derived.Test.YtomejgikdelgkaaGreatDoorQC12
import Derived.Test.YtomejgikdelgkaaGreatDoorQTS
import Derived.Test.YtomejgikdelgkaaGreatDoorQSh
set_option linter.unusedVariables false
set_option linter.unusedSimpArgs false
set_option linter.unusedSectionVars false
namespace Go.Proofs.YtomejgikdelgkaaGreatDoor
open Go.Awp Go.Snow
set_option linter.unusedSimpArgs false
set_option linter.unusedVariables false
set_option linter.unusedSectionVars false
set_option maxRecDepth 10000
theorem dgs_length : ∀ (f u : Nat), (dgs f u).length ≤ f
  | 0, u => by simp [dgs]
  | f + 1, u => by
    have := dgs_length f (u / 10)
    simp only [dgs]
    split
    · simp
    · simp; omega
theorem itoaB_size {n : Int} (h : 0 ≤ n ∧ n ≤ 65536) : (itoaB n).size ≤ 5 := by
  have h1 := dgs_eq 4 n.toNat (by simp; omega)
  have h2 := dgs_length 5 n.toNat
  have h3 : ¬ n < 0 := by omega
  have : (itoaB n).size = (Lib.decDigits n.toNat).length := by simp [itoaB, Lib.itoa, h3, ByteArray.size]
  rw [this, ← h1]; exact h2
theorem joinB_size {ws : List ByteArray} {sep : ByteArray} {K : Nat} (hw : ∀ w, w ∈ ws → w.size ≤ K) (hs : sep.size ≤ K) : (joinB ws sep).size ≤ 2 * K * ws.length := by
  have hl : ∀ r : List ByteArray, (∀ w, w ∈ r → w.size ≤ K) → Lib.lens (r.map (·.data.toList)) ≤ K * r.length := by
    intro r
    induction r with
    | nil => intro _; simp [Lib.lens]
    | cons x r ih =>
      intro h
      have h1 := ih fun w hw => h w (by simp [hw])
      have h2 := h x (by simp)
      simp only [Lib.lens, List.map_cons, List.sum_cons, List.length_cons, Nat.mul_succ] at h1 ⊢
      have : x.data.toList.length = x.size := by show x.data.toList.length = x.data.size; exact Array.length_toList
      omega
  have hsz : ∀ x : ByteArray, x.data.toList.length = x.size := fun x => by show x.data.toList.length = x.data.size; exact Array.length_toList
  cases ws with
  | nil => exact Nat.zero_le _
  | cons x r =>
    have h1 := hl r fun w h => hw w (by simp [h])
    have h2 := hw x (by simp)
    have : (joinB (x :: r) sep).size = x.size + (sep.size * r.length + Lib.lens (r.map (·.data.toList))) := by
      have e : (joinB (x :: r) sep).size = (Lib.join ((x :: r).map (·.data.toList)) sep.data.toList).length := by show (Lib.join _ _).toArray.size = _; exact List.size_toArray
      rw [e, List.map_cons, Lib.join_cons, List.length_append, Lib.joinTail_length, List.length_map, hsz, hsz]
    rw [this]
    have h3 : sep.size * r.length ≤ K * r.length := Nat.mul_le_mul_right _ hs
    simp only [List.length_cons, Nat.mul_succ, Nat.two_mul, Nat.add_mul]
    omega
abbrev sl : ByteArray := ByteArray.mk (Array.mk [47])
abbrev bl : ByteArray := ByteArray.mk (Array.mk [32])
abbrev pk : ByteArray := ByteArray.mk (Array.mk [112, 97, 99, 107])
/-- The word of a layer. -/
def wordV (l : Lay) : ByteArray := itoaB l.1 ++ sl ++ itoaB l.2.1 ++ sl ++ itoaB l.2.2
def textV (ls : List Lay) : ByteArray := joinB (pk :: ls.map wordV) bl
def printV (ls : List Lay) : ByteArray × Int := if okP ls then (textV ls, 0) else (ByteArray.mk (Array.mk []), 20)
theorem wordV_size {l : Lay} (h : right l = true) : (wordV l).size ≤ 20 := by
  have hr := right_iff.1 h
  have h1 := itoaB_size (n := l.1) (by omega)
  have h2 := itoaB_size (n := l.2.1) (by omega)
  have h3 := itoaB_size (n := l.2.2) (by omega)
  have h4 : sl.size = 1 := rfl
  unfold wordV
  simp only [ByteArray.size_append]; omega
theorem out_str {H : AHeap} {b : ByteArray} : Out H (.str b) (.str b) := out_of (d := 1) rfl
theorem words_size {ls : List Lay} (h : ∀ l, l ∈ ls → right l = true) : ∀ w, w ∈ pk :: ls.map wordV → w.size ≤ 20 := by
  intro w hw
  rcases List.mem_cons.1 hw with rfl | hw
  · decide
  · obtain ⟨l, hl, rfl⟩ := List.mem_map.1 hw
    exact wordV_size (h l hl)
theorem Print_ok (ls : List Lay) : PCall Tryz.prog 10 [.agg [.ro false (rows ls)]] (.tuple [.str (printV ls).1, I (printV ls).2]) := by
  refine PCall.intro text10 (by simp) ?_
  unfold ir10
  simp only [walkS, wl, rgets, retv, argsEnv, ev, cst, cst1, cstL, AEnv.get, AEnv.trim, envput, qstep, abin, aun, evs, evo, deref, qload, target, if_true, if_false, Nat.reduceEqDiff, reduceIte, Nat.reduceAdd, AV.cells, AV.isTuple, setMany, alen, aiaddr, afill, Nat.reduceLeDiff, Nat.reduceMul, Nat.reduceLT, afillE, List.replicate]
  refine call_pure (Check_ok ls) (frzL_of' (d := 4) car_pkL) ?_
  simp only [walkS, wl, rgets, retv, argsEnv, ev, cst, cst1, cstL, AEnv.get, AEnv.trim, envput, qstep, abin, aun, evs, evo, deref, qload, target, if_true, if_false, Nat.reduceEqDiff, reduceIte, Nat.reduceAdd, AV.cells, AV.isTuple, setMany, alen, aiaddr, afill, Nat.reduceLeDiff, Nat.reduceMul, Nat.reduceLT, afillE, List.replicate]
  refine withBool_intro ?_ ?_ <;> intro h <;> simp only [walkS, wl, rgets, retv, argsEnv, ev, cst, cst1, cstL, AEnv.get, AEnv.trim, envput, qstep, abin, aun, evs, evo, deref, qload, target, if_true, if_false, Nat.reduceEqDiff, reduceIte, Nat.reduceAdd, AV.cells, AV.isTuple, setMany, alen, aiaddr, afill, Nat.reduceLeDiff, Nat.reduceMul, Nat.reduceLT, afillE, List.replicate, rows_length]
  · obtain ⟨h1, h2⟩ := chk_ne (ls := ls) (by simpa using h)
    simp only [h2, printV, h1, Bool.false_eq_true, if_false]; exact out_two out_str out_int
  · have h1 := chk_zero (ls := ls) (by simpa using h)
    obtain ⟨hlen, hR, -, -⟩ := okP_iff.1 h1
    refine awp_loop (σ := Nat × AV) (fun s => [(5, s.2), (15, .ro false (rows ls)), (16, I ls.length), (17, I s.1)]) (fun s H => 1 ≤ H.length ∧ Acc 1 H s.2 9 1 (sc (pk :: (ls.take s.1).map wordV))) (fun s => s.1 ≤ ls.length) (fun s => ls.length - s.1) (0, .own 1 1 0 1) (Nat.zero_le _) rfl
      ⟨by simp, .inr ⟨1, Nat.le_refl _, rfl, rfl⟩⟩ ?_
    rintro ⟨k, a⟩ H hk ⟨hH, hacc⟩
    simp only at hk hacc
    simp only [walkS, wl, rgets, retv, argsEnv, ev, cst, cst1, cstL, AEnv.get, AEnv.trim, envput, qstep, abin, aun, evs, evo, deref, qload, target, if_true, if_false, Nat.reduceEqDiff, reduceIte, Nat.reduceAdd, AV.cells, AV.isTuple, setMany, alen, aiaddr, afill, Nat.reduceLeDiff, Nat.reduceMul, Nat.reduceLT, afillE, List.replicate]
    refine withBool_intro ?_ ?_ <;> intro hb <;> simp only [walkS, wl, rgets, retv, argsEnv, ev, cst, cst1, cstL, AEnv.get, AEnv.trim, envput, qstep, abin, aun, evs, evo, deref, qload, target, if_true, if_false, Nat.reduceEqDiff, reduceIte, Nat.reduceAdd, AV.cells, AV.isTuple, setMany, alen, aiaddr, afill, Nat.reduceLeDiff, Nat.reduceMul, Nat.reduceLT, afillE, List.replicate]
    · have hlt : k < ls.length := by simpa using hb
      have hr := right_iff.1 (hR ls[k] (List.getElem_mem hlt))
      simp only [walkS, wl, rgets, retv, argsEnv, ev, cst, cst1, cstL, AEnv.get, AEnv.trim, envput, qstep, abin, aun, evs, evo, deref, qload, target, if_true, if_false, Nat.reduceEqDiff, reduceIte, Nat.reduceAdd, AV.cells, AV.isTuple, setMany, alen, aiaddr, afill, Nat.reduceLeDiff, Nat.reduceMul, Nat.reduceLT, afillE, List.replicate, rows_get hlt]
      refine storeR rfl rfl AHeap.obj_push_eq rfl ⟨rfl, rfl, rfl, by simp⟩ fun H1 y1 y2 y3 => ?_
      simp only [AV.cells, setMany, List.set_cons_zero, List.set_cons_succ] at y2
      simp only [List.length_append, List.length_cons, List.length_nil] at y1
      have hacc1 := hacc.keep (H' := H1) fun i h1 h2 => by rw [y3 i (by omega), AHeap.obj_push_lt h2]
      have z1 := itoaB_size (n := ls[k].1) (by omega)
      have z2 := itoaB_size (n := ls[k].2.1) (by omega)
      have z3 := itoaB_size (n := ls[k].2.2) (by omega)
      have z4 : sl.size = 1 := rfl
      have a1 : (itoaB ls[k].1).size + sl.size ≤ 9223372036854775807 := by omega
      have a2 : (itoaB ls[k].1 ++ sl).size + (itoaB ls[k].2.1).size ≤ 9223372036854775807 := by simp only [ByteArray.size_append]; omega
      have a3 : (itoaB ls[k].1 ++ sl ++ itoaB ls[k].2.1).size + sl.size ≤ 9223372036854775807 := by simp only [ByteArray.size_append]; omega
      have a4 : (itoaB ls[k].1 ++ sl ++ itoaB ls[k].2.1 ++ sl).size + (itoaB ls[k].2.2).size ≤ 9223372036854775807 := by simp only [ByteArray.size_append]; omega
      simp only [walkS, wl, rgets, retv, argsEnv, ev, cst, cst1, cstL, AEnv.get, AEnv.trim, envput, qstep, abin, aun, evs, evo, deref, qload, target, if_true, if_false, Nat.reduceEqDiff, reduceIte, Nat.reduceAdd, AV.cells, AV.isTuple, setMany, alen, aiaddr, afill, Nat.reduceLeDiff, Nat.reduceMul, Nat.reduceLT, afillE, List.replicate, y2]
      refine dcall_pure (Itoa_ok ls[k].1 (by omega) (by omega)) (frzL_of (d := 4) rfl) ?_
      simp only [walkS, wl, rgets, retv, argsEnv, ev, cst, cst1, cstL, AEnv.get, AEnv.trim, envput, qstep, abin, aun, evs, evo, deref, qload, target, if_true, if_false, Nat.reduceEqDiff, reduceIte, Nat.reduceAdd, AV.cells, AV.isTuple, setMany, alen, aiaddr, afill, Nat.reduceLeDiff, Nat.reduceMul, Nat.reduceLT, afillE, List.replicate, y2, a1]
      refine dcall_pure (Itoa_ok ls[k].2.1 (by omega) (by omega)) (frzL_of (d := 4) rfl) ?_
      simp only [walkS, wl, rgets, retv, argsEnv, ev, cst, cst1, cstL, AEnv.get, AEnv.trim, envput, qstep, abin, aun, evs, evo, deref, qload, target, if_true, if_false, Nat.reduceEqDiff, reduceIte, Nat.reduceAdd, AV.cells, AV.isTuple, setMany, alen, aiaddr, afill, Nat.reduceLeDiff, Nat.reduceMul, Nat.reduceLT, afillE, List.replicate, y2, a2, a3]
      refine dcall_pure (Itoa_ok ls[k].2.2 (by omega) (by omega)) (frzL_of (d := 4) rfl) ?_
      simp only [walkS, wl, rgets, retv, argsEnv, ev, cst, cst1, cstL, AEnv.get, AEnv.trim, envput, qstep, abin, aun, evs, evo, deref, qload, target, if_true, if_false, Nat.reduceEqDiff, reduceIte, Nat.reduceAdd, AV.cells, AV.isTuple, setMany, alen, aiaddr, afill, Nat.reduceLeDiff, Nat.reduceMul, Nat.reduceLT, afillE, List.replicate, y2, a4]
      refine acc_append (lo := 1) (by simp) (hacc1.push _) rfl rfl AHeap.obj_push_eq (by simp [sc_length]; omega) fun a' H2 x1 x2 x3 => ?_
      simp only [List.length_append, List.length_cons, List.length_nil] at x1
      have e5 : IntKind.i64.wrap ((k : Int) + 1) = ((k + 1 : Nat) : Int) := by rw [wrap_id (by omega) (by omega)]; simp
      simp only [walkS, wl, rgets, retv, argsEnv, ev, cst, cst1, cstL, AEnv.get, AEnv.trim, envput, qstep, abin, aun, evs, evo, deref, qload, target, if_true, if_false, Nat.reduceEqDiff, reduceIte, Nat.reduceAdd, AV.cells, AV.isTuple, setMany, alen, aiaddr, afill, Nat.reduceLeDiff, Nat.reduceMul, Nat.reduceLT, afillE, List.replicate, e5]
      refine loop_end (k + 1, a') hlt (by simp only; omega) rfl ⟨by omega, ?_⟩
      have : pk :: (ls.take (k + 1)).map wordV = (pk :: (ls.take k).map wordV) ++ [wordV ls[k]] := by
        rw [List.take_succ_eq_append_getElem hlt]; simp only [List.map_append, List.map_cons, List.map_nil, List.cons_append]
      rw [this, sc_snoc]
      exact x2
    · have hk' : k = ls.length := by simp at hb; omega
      subst hk'
      rw [List.take_length] at hacc
      have hsz := joinB_size (K := 20) (ws := pk :: ls.map wordV) (sep := bl) (words_size hR) (by decide)
      simp only [List.length_cons, List.length_map] at hsz
      refine call_pure (Join_ok (pk :: ls.map wordV) bl (by simp; omega) (by omega)) (frzL2 (hacc.carF (d := 0) (sc_simple _)) (frz_car (d := 2) rfl)) ?_
      simp only [walkS, wl, rgets, retv, argsEnv, ev, cst, cst1, cstL, AEnv.get, AEnv.trim, envput, qstep, abin, aun, evs, evo, deref, qload, target, if_true, if_false, Nat.reduceEqDiff, reduceIte, Nat.reduceAdd, AV.cells, AV.isTuple, setMany, alen, aiaddr, afill, Nat.reduceLeDiff, Nat.reduceMul, Nat.reduceLT, afillE, List.replicate]
      simp only [printV, h1, if_true]; exact out_two out_str out_int
theorem Same_ok (p q : List Lay) (hp : p.length ≤ 1099511627776) : PCall Tryz.prog 14 [.agg [.ro false (rows p)], .agg [.ro false (rows q)]] (.bool (decide (p = q))) := by
  refine PCall.intro text14 (by simp) ?_
  unfold ir14
  simp only [walk, wl, rgets, retv, argsEnv, ev, cst, cst1, cstL, AEnv.get, AEnv.trim, envput, qstep, abin, aun, evs, evo, deref, qload, target, if_true, if_false, Nat.reduceEqDiff, reduceIte, Nat.reduceAdd, AV.cells, AV.isTuple, setMany, alen, aiaddr, afill, Nat.reduceLeDiff, Nat.reduceMul, Nat.reduceLT, afillE, List.replicate, rows_length]
  refine withBool_intro ?_ ?_ <;> intro h <;> simp only [walk, wl, rgets, retv, argsEnv, ev, cst, cst1, cstL, AEnv.get, AEnv.trim, envput, qstep, abin, aun, evs, evo, deref, qload, target, if_true, if_false, Nat.reduceEqDiff, reduceIte, Nat.reduceAdd, AV.cells, AV.isTuple, setMany, alen, aiaddr, afill, Nat.reduceLeDiff, Nat.reduceMul, Nat.reduceLT, afillE, List.replicate]
  · have : ¬ p = q := by intro e; subst e; simp at h
    simp only [this, decide_false]; exact out_bool
  · have hl : p.length = q.length := by simp at h; omega
    refine awp_loop (σ := Nat) (fun k => [(2, .ptr 0 1 0 0), (3, .ptr 1 1 0 0), (5, I k)]) (fun _ H => ∃ X, H = some ⟨26, 1, [[.ro false (rows p)]]⟩ :: some ⟨26, 1, [[.ro false (rows q)]]⟩ :: X) (fun k => k ≤ p.length ∧ p.take k = q.take k) (fun k => p.length - k) 0 ⟨Nat.zero_le _, rfl⟩ rfl ⟨[], rfl⟩ ?_
    rintro k H ⟨hk, ht⟩ ⟨X, rfl⟩
    simp only [walk, wl, rgets, retv, argsEnv, ev, cst, cst1, cstL, AEnv.get, AEnv.trim, envput, qstep, abin, aun, evs, evo, deref, qload, target, if_true, if_false, Nat.reduceEqDiff, reduceIte, Nat.reduceAdd, AV.cells, AV.isTuple, setMany, alen, aiaddr, afill, Nat.reduceLeDiff, Nat.reduceMul, Nat.reduceLT, afillE, List.replicate, rows_length]
    refine withBool_intro ?_ ?_ <;> intro hb <;> simp only [walk, wl, rgets, retv, argsEnv, ev, cst, cst1, cstL, AEnv.get, AEnv.trim, envput, qstep, abin, aun, evs, evo, deref, qload, target, if_true, if_false, Nat.reduceEqDiff, reduceIte, Nat.reduceAdd, AV.cells, AV.isTuple, setMany, alen, aiaddr, afill, Nat.reduceLeDiff, Nat.reduceMul, Nat.reduceLT, afillE, List.replicate]
    · have hlt : k < p.length := by simpa using hb
      have hlt2 : k < q.length := by omega
      simp only [walk, wl, rgets, retv, argsEnv, ev, cst, cst1, cstL, AEnv.get, AEnv.trim, envput, qstep, abin, aun, evs, evo, deref, qload, target, if_true, if_false, Nat.reduceEqDiff, reduceIte, Nat.reduceAdd, AV.cells, AV.isTuple, setMany, alen, aiaddr, afill, Nat.reduceLeDiff, Nat.reduceMul, Nat.reduceLT, afillE, List.replicate, rows_get hlt, rows_get hlt2, aeqO]
      refine withBool_intro ?_ ?_ <;> intro h3 <;> simp only [walk, wl, rgets, retv, argsEnv, ev, cst, cst1, cstL, AEnv.get, AEnv.trim, envput, qstep, abin, aun, evs, evo, deref, qload, target, if_true, if_false, Nat.reduceEqDiff, reduceIte, Nat.reduceAdd, AV.cells, AV.isTuple, setMany, alen, aiaddr, afill, Nat.reduceLeDiff, Nat.reduceMul, Nat.reduceLT, afillE, List.replicate]
      · have : ¬ p = q := by
          intro e; subst e; simp at h3
        simp only [this, decide_false]; exact out_bool
      · rw [wrap_id (by omega) (by omega)]
        refine loop_end (k + 1) ⟨hlt, ?_⟩ (by omega) rfl ⟨_, rfl⟩
        have he : p[k] = q[k] := by
          simp at h3
          exact Prod.ext h3.1 (Prod.ext h3.2.1 h3.2.2)
        rw [List.take_succ_eq_append_getElem hlt, List.take_succ_eq_append_getElem hlt2, ht, he]
    · have hk' : k = p.length := by simp at hb; omega
      have : p = q := by
        rw [hk'] at ht
        rw [List.take_length, hl, List.take_length] at ht; exact ht
      simp only [this, decide_true]; exact out_bool
end Go.Proofs.YtomejgikdelgkaaGreatDoor
