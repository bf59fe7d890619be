/- Contracts: Joined. -/
import Derived.Test.YtomejgikdelgkaaGreatDoorQC14
import Derived.Test.YtomejgikdelgkaaGreatDoorQC13
set_option linter.unusedVariables false
set_option linter.unusedSimpArgs false
set_option linter.unusedSectionVars false
namespace Go.Proofs.YtomejgikdelgkaaGreatDoor
open Go.Awp Go.Snow
set_option linter.unusedSimpArgs false
set_option linter.unusedVariables false
set_option linter.unusedSectionVars false
set_option maxRecDepth 10000
/-- The ice of two neighbouring layers. -/
def pr (ls : List Lay) (i : Nat) : Int := (layAt ls i).1 + (layAt ls (i + 1)).1
/-- The first pair of least ice among the first ones. -/
def lo (ls : List Lay) : Nat → Nat
  | 0 => 0
  | k + 1 => if pr ls k < pr ls (lo ls k) then k else lo ls k
theorem lo_lt {ls : List Lay} : ∀ k, lo ls k < k ∨ (lo ls k = 0)
  | 0 => .inr rfl
  | k + 1 => by
    simp only [lo]
    split
    · exact .inl (by omega)
    · rcases lo_lt (ls := ls) k with h | h
      · exact .inl (by omega)
      · exact .inr h
def jstep (ls : List Lay) : List Lay := (ls.set (lo ls (ls.length - 1)) (join (layAt ls (lo ls (ls.length - 1))) (layAt ls (lo ls (ls.length - 1) + 1)))).eraseIdx (lo ls (ls.length - 1) + 1)
def jnF : Nat → List Lay → List Lay
  | 0, ls => ls
  | f + 1, ls => jnF f (jstep ls)
/-- No negative parts, and sums that are small. -/
def Mild (ls : List Lay) : Prop := (∀ l, l ∈ ls → 0 ≤ l.1 ∧ 0 ≤ l.2.1 ∧ 0 ≤ l.2.2) ∧ water ls ≤ 65536 ∧ cold ls ≤ 65536
theorem water_nonneg {ls : List Lay} (h : ∀ l, l ∈ ls → 0 ≤ l.1 ∧ 0 ≤ l.2.1 ∧ 0 ≤ l.2.2) : 0 ≤ water ls ∧ 0 ≤ cold ls := by
  induction ls with
  | nil => simp [water, cold]
  | cons l r ih => have := ih fun x hx => h x (by simp [hx]); have := h l (by simp); simp only [water, cold]; omega
theorem split_at {ls : List Lay} {k : Nat} (h : k < ls.length) : ls = ls.take k ++ ls[k] :: ls.drop (k + 1) := by
  rw [← List.drop_eq_getElem_cons h, List.take_append_drop]
theorem Mild.tame {ls : List Lay} (h : Mild ls) {k : Nat} (hk : k < ls.length) : Tame ls[k] ∧ ls[k].1 ≤ 65536 := by
  obtain ⟨h1, h2, h3⟩ := h
  have e := split_at hk
  have n0 := h1 ls[k] (List.getElem_mem hk)
  have n1 := water_nonneg (ls := ls.take k) fun l hl => h1 l (List.mem_of_mem_take hl)
  have n2 := water_nonneg (ls := ls.drop (k + 1)) fun l hl => h1 l (List.mem_of_mem_drop hl)
  rw [e, water_app] at h2
  rw [e, cold_app] at h3
  simp only [water, cold] at h2 h3
  exact ⟨⟨by omega, by omega, by omega⟩, by omega⟩
theorem split_two {ls : List Lay} {a : Nat} (h : a + 1 < ls.length) : ls = ls.take a ++ ls[a] :: ls[a + 1] :: ls.drop (a + 2) := by
  conv => lhs; rw [split_at (ls := ls) (k := a) (by omega)]
  congr 2
  exact List.drop_eq_getElem_cons h
theorem jset {ls : List Lay} {a : Nat} (h : a + 1 < ls.length) (x : Lay) : (ls.set a x).eraseIdx (a + 1) = ls.take a ++ x :: ls.drop (a + 2) := by
  have e := split_two h
  have hl : (ls.take a).length = a := by simp; omega
  conv => lhs; rw [e]
  rw [List.set_append_right _ _ (by omega), hl, Nat.sub_self, List.set_cons_zero, List.eraseIdx_append_of_length_le (by omega), hl, show a + 1 - a = 1 by omega]
  rfl
theorem jstep_eq {ls : List Lay} (h : 2 ≤ ls.length) : ∃ a, a + 1 < ls.length ∧ a = lo ls (ls.length - 1) ∧ ∃ (h1 : a < ls.length) (h2 : a + 1 < ls.length), jstep ls = ls.take a ++ join ls[a] ls[a + 1] :: ls.drop (a + 2) := by
  have hl : lo ls (ls.length - 1) + 1 < ls.length := by rcases lo_lt (ls := ls) (ls.length - 1) with h | h <;> omega
  refine ⟨lo ls (ls.length - 1), hl, rfl, by omega, hl, ?_⟩
  unfold jstep
  rw [jset hl, layAt_lt (by omega), layAt_lt hl]
theorem jstep_length {ls : List Lay} (h : 2 ≤ ls.length) : (jstep ls).length = ls.length - 1 := by
  obtain ⟨a, h1, -, h2, h3, e⟩ := jstep_eq h
  rw [e]; simp; omega
theorem Mild.jstep {ls : List Lay} (hm : Mild ls) (h : 2 ≤ ls.length) : Mild (jstep ls) ∧ water (jstep ls) = water ls := by
  obtain ⟨a, h1, -, h2, h3, e⟩ := jstep_eq h
  obtain ⟨g1, g2, g3⟩ := hm
  have e0 := split_two h1
  have ha := g1 ls[a] (List.getElem_mem h2)
  have hb := g1 ls[a + 1] (List.getElem_mem h3)
  rw [e]
  have hw : water (ls.take a ++ join ls[a] ls[a + 1] :: ls.drop (a + 2)) = water ls := by
    conv => rhs; rw [e0]
    rw [water_app, water_app]
    simp only [water, join, dry, join0]; omega
  have hc : cold (ls.take a ++ join ls[a] ls[a + 1] :: ls.drop (a + 2)) ≤ cold ls := by
    conv => rhs; rw [e0]
    rw [cold_app, cold_app]
    simp only [cold, join, dry, join0]; omega
  refine ⟨⟨fun l hl => ?_, by omega, by omega⟩, hw⟩
  rcases List.mem_append.1 hl with hl | hl
  · exact g1 l (List.mem_of_mem_take hl)
  · rcases List.mem_cons.1 hl with rfl | hl
    · simp only [join, dry, join0]; omega
    · exact g1 l (List.mem_of_mem_drop hl)
theorem okP_mild {ls : List Lay} (h : okP ls = true) : Mild ls := by
  obtain ⟨h1, h2, h3, h4⟩ := okP_iff.1 h
  exact ⟨fun l hl => by have := right_iff.1 (h2 l hl); omega, h3, h4⟩
def joinedV (ls : List Lay) (n : Int) : List Lay × Int := if okP ls then (if 1 ≤ n ∧ n ≤ 64 then (jnF (ls.length - n.toNat) ls, 0) else ([], 1)) else ([], 20)
theorem rows_app_get {ls tl : List Lay} {k : Nat} (h : k < ls.length) : (rows ls ++ rows tl)[k]? = some [I ls[k].1, I ls[k].2.1, I ls[k].2.2] := by
  rw [List.getElem?_append_left (by rw [rows_length]; exact h), rows_get h]
theorem out_pk1 {H : AHeap} {e : Int} : Out H (.tuple [.agg [.nilSlice], I e]) (.tuple [.agg [.ro true (rows [])], I e]) := out_two out_nopk out_int
theorem Joined_ok (ls : List Lay) (n : Int) : PCall Tryz.prog 21 [.agg [.ro false (rows ls)], I n] (.tuple [.agg [.ro true (rows (joinedV ls n).1)], I (joinedV ls n).2]) := by
  refine PCall.intro text21 (by simp) ?_
  unfold ir21
  simp only [walkS, wl, rgets, retv, argsEnv, ev, cst, cst1, cstL, AEnv.get, AEnv.trim, envput, qstep, abin, aun, evs, evo, deref, qload, target, if_true, if_false, Nat.reduceEqDiff, reduceIte, Nat.reduceAdd, AV.cells, AV.isTuple, setMany, alen, aiaddr, afill, Nat.reduceLeDiff, Nat.reduceMul, Nat.reduceLT, afillE, List.replicate]
  refine call_pure (Check_ok ls) (frzL_of' (d := 4) car_pkL) ?_
  simp only [walkS, wl, rgets, retv, argsEnv, ev, cst, cst1, cstL, AEnv.get, AEnv.trim, envput, qstep, abin, aun, evs, evo, deref, qload, target, if_true, if_false, Nat.reduceEqDiff, reduceIte, Nat.reduceAdd, AV.cells, AV.isTuple, setMany, alen, aiaddr, afill, Nat.reduceLeDiff, Nat.reduceMul, Nat.reduceLT, afillE, List.replicate]
  refine withBool_intro ?_ ?_ <;> intro h <;> simp only [walkS, wl, rgets, retv, argsEnv, ev, cst, cst1, cstL, AEnv.get, AEnv.trim, envput, qstep, abin, aun, evs, evo, deref, qload, target, if_true, if_false, Nat.reduceEqDiff, reduceIte, Nat.reduceAdd, AV.cells, AV.isTuple, setMany, alen, aiaddr, afill, Nat.reduceLeDiff, Nat.reduceMul, Nat.reduceLT, afillE, List.replicate]
  · obtain ⟨h1, h2⟩ := chk_ne (ls := ls) (by simpa using h)
    refine storeR rfl rfl rfl rfl ⟨rfl, rfl, rfl, by simp⟩ fun H1 y1 y2 y3 => ?_
    simp only [AV.cells, setMany, List.set_cons_zero, List.set_cons_succ] at y2
    simp only [walkS, wl, rgets, retv, argsEnv, ev, cst, cst1, cstL, AEnv.get, AEnv.trim, envput, qstep, abin, aun, evs, evo, deref, qload, target, if_true, if_false, Nat.reduceEqDiff, reduceIte, Nat.reduceAdd, AV.cells, AV.isTuple, setMany, alen, aiaddr, afill, Nat.reduceLeDiff, Nat.reduceMul, Nat.reduceLT, afillE, List.replicate, y2]
    simp only [h2, joinedV, h1, Bool.false_eq_true, if_false]; exact out_pk1
  · have h1 := chk_zero (ls := ls) (by simpa using h)
    have hlen := (okP_iff.1 h1).1
    by_cases hn : 1 ≤ n ∧ n ≤ 64
    · have hv : joinedV ls n = (jnF (ls.length - n.toNat) ls, 0) := by simp only [joinedV, h1, hn, if_true, and_self]
      rw [hv]
      refine call_pure (from_t hn) (frzL_of' (d := 4) rfl) ?_
      simp only [walkS, wl, rgets, retv, argsEnv, ev, cst, cst1, cstL, AEnv.get, AEnv.trim, envput, qstep, abin, aun, evs, evo, deref, qload, target, if_true, if_false, Nat.reduceEqDiff, reduceIte, Nat.reduceAdd, AV.cells, AV.isTuple, setMany, alen, aiaddr, afill, Nat.reduceLeDiff, Nat.reduceMul, Nat.reduceLT, afillE, List.replicate]
      by_cases hnil : ls = []
      · subst hnil
        refine call_pure (clone_nil (b := false)) (frzL_of' (d := 4) rfl) ?_
        simp only [walkS, wl, rgets, retv, argsEnv, ev, cst, cst1, cstL, AEnv.get, AEnv.trim, envput, qstep, abin, aun, evs, evo, deref, qload, target, if_true, if_false, Nat.reduceEqDiff, reduceIte, Nat.reduceAdd, AV.cells, AV.isTuple, setMany, alen, aiaddr, afill, Nat.reduceLeDiff, Nat.reduceMul, Nat.reduceLT, afillE, List.replicate]
        refine awp_loop (σ := Unit) (fun _ => [(1, I n), (4, .ptr 1 1 0 0), (7, .nilSlice)]) (fun _ H => H = [some ⟨26, 1, [[.ro false (rows [])]]⟩, some ⟨26, 1, [[.nilSlice]]⟩]) (fun _ => True) (fun _ => 0) () trivial rfl rfl ?_
        rintro _ H - rfl
        have hq : decide (0 > n) = false := by simp; omega
        simp only [walkS, wl, rgets, retv, argsEnv, ev, cst, cst1, cstL, AEnv.get, AEnv.trim, envput, qstep, abin, aun, evs, evo, deref, qload, target, if_true, if_false, Nat.reduceEqDiff, reduceIte, Nat.reduceAdd, AV.cells, AV.isTuple, setMany, alen, aiaddr, afill, Nat.reduceLeDiff, Nat.reduceMul, Nat.reduceLT, afillE, List.replicate, hq]
        refine storeR rfl rfl rfl rfl ⟨rfl, rfl, rfl, by simp⟩ fun H1 y1 y2 y3 => ?_
        simp only [AV.cells, setMany, List.set_cons_zero, List.set_cons_succ] at y2
        simp only [walkS, wl, rgets, retv, argsEnv, ev, cst, cst1, cstL, AEnv.get, AEnv.trim, envput, qstep, abin, aun, evs, evo, deref, qload, target, if_true, if_false, Nat.reduceEqDiff, reduceIte, Nat.reduceAdd, AV.cells, AV.isTuple, setMany, alen, aiaddr, afill, Nat.reduceLeDiff, Nat.reduceMul, Nat.reduceLT, afillE, List.replicate, y2]
        rw [show (0 : Nat) - n.toNat = 0 by simp]
        exact out_pk1
      · refine call_new (clone_new (b := false) hnil (by omega)) (frzL_of' (d := 4) car_roL) ?_
        rw [rows_length]
        obtain ⟨N, hN⟩ : ∃ N, N = ls.length := ⟨_, rfl⟩
        simp only [walkS, wl, rgets, retv, argsEnv, ev, cst, cst1, cstL, AEnv.get, AEnv.trim, envput, qstep, abin, aun, evs, evo, deref, qload, target, if_true, if_false, Nat.reduceEqDiff, reduceIte, Nat.reduceAdd, AV.cells, AV.isTuple, setMany, alen, aiaddr, afill, Nat.reduceLeDiff, Nat.reduceMul, Nat.reduceLT, afillE, List.replicate]
        refine awp_loop (σ := List Lay × List Lay) (fun s => [(1, I n), (4, .ptr 1 1 0 0), (7, .own 2 N 0 s.1.length)])
          (fun s H => 3 ≤ H.length ∧ AHeap.obj H 1 = some ⟨26, 1, [[.nilSlice]]⟩ ∧ AHeap.obj H 2 = some ⟨47, 3, rows s.1 ++ rows s.2⟩)
          (fun s => Mild s.1 ∧ s.1.length + s.2.length = N ∧ jnF (ls.length - n.toNat) ls = jnF (s.1.length - n.toNat) s.1) (fun s => s.1.length) (ls, []) ⟨okP_mild h1, by simp [hN], rfl⟩ (by rw [hN]) ⟨by simp, rfl, by simp [rows]; rfl⟩ ?_
        rintro ⟨cur, tl⟩ H ⟨hm, hNl, hj⟩ ⟨hH, o1, o2⟩
        simp only at hm hNl hj o2
        simp only [walkS, wl, rgets, retv, argsEnv, ev, cst, cst1, cstL, AEnv.get, AEnv.trim, envput, qstep, abin, aun, evs, evo, deref, qload, target, if_true, if_false, Nat.reduceEqDiff, reduceIte, Nat.reduceAdd, AV.cells, AV.isTuple, setMany, alen, aiaddr, afill, Nat.reduceLeDiff, Nat.reduceMul, Nat.reduceLT, afillE, List.replicate, o2, rows_length, hNl]
        refine withBool_intro ?_ ?_ <;> intro hb <;> simp only [walkS, wl, rgets, retv, argsEnv, ev, cst, cst1, cstL, AEnv.get, AEnv.trim, envput, qstep, abin, aun, evs, evo, deref, qload, target, if_true, if_false, Nat.reduceEqDiff, reduceIte, Nat.reduceAdd, AV.cells, AV.isTuple, setMany, alen, aiaddr, afill, Nat.reduceLeDiff, Nat.reduceMul, Nat.reduceLT, afillE, List.replicate, o2, rows_length, hNl]
        · have hgt : n < cur.length := by simpa using hb
          have hl2 : 2 ≤ cur.length := by omega
          have e1 : IntKind.i64.wrap ((cur.length : Int) - 1) = ((cur.length - 1 : Nat) : Int) := by rw [wrap_id (by omega) (by omega)]; omega
          simp only [walkS, wl, rgets, retv, argsEnv, ev, cst, cst1, cstL, AEnv.get, AEnv.trim, envput, qstep, abin, aun, evs, evo, deref, qload, target, if_true, if_false, Nat.reduceEqDiff, reduceIte, Nat.reduceAdd, AV.cells, AV.isTuple, setMany, alen, aiaddr, afill, Nat.reduceLeDiff, Nat.reduceMul, Nat.reduceLT, afillE, List.replicate, e1]
          refine awp_loop (σ := Nat) (fun k => [(1, I n), (4, .ptr 1 1 0 0), (7, .own 2 N 0 cur.length), (8, I (lo cur k)), (29, I (cur.length - 1 : Nat)), (30, I k)]) (fun _ G => G = H) (fun k => k ≤ cur.length - 1) (fun k => cur.length - 1 - k) 0 (Nat.zero_le _) rfl rfl ?_
          rintro k G hk rfl
          simp only [walkS, wl, rgets, retv, argsEnv, ev, cst, cst1, cstL, AEnv.get, AEnv.trim, envput, qstep, abin, aun, evs, evo, deref, qload, target, if_true, if_false, Nat.reduceEqDiff, reduceIte, Nat.reduceAdd, AV.cells, AV.isTuple, setMany, alen, aiaddr, afill, Nat.reduceLeDiff, Nat.reduceMul, Nat.reduceLT, afillE, List.replicate]
          have hlo : lo cur k + 1 < cur.length := by rcases lo_lt (ls := cur) k with h | h <;> omega
          refine withBool_intro ?_ ?_ <;> intro hb2 <;> simp only [walkS, wl, rgets, retv, argsEnv, ev, cst, cst1, cstL, AEnv.get, AEnv.trim, envput, qstep, abin, aun, evs, evo, deref, qload, target, if_true, if_false, Nat.reduceEqDiff, reduceIte, Nat.reduceAdd, AV.cells, AV.isTuple, setMany, alen, aiaddr, afill, Nat.reduceLeDiff, Nat.reduceMul, Nat.reduceLT, afillE, List.replicate]
          · have hlt : k < cur.length - 1 := by have := of_decide_eq_true hb2; omega
            have t1 := hm.tame (k := k) (by omega)
            have t2 := hm.tame (k := k + 1) (by omega)
            have t3 := hm.tame (k := lo cur k) (by omega)
            have t4 := hm.tame (k := lo cur k + 1) (by omega)
            obtain ⟨⟨u1, -⟩, u2⟩ := t1
            obtain ⟨⟨u3, -⟩, u4⟩ := t2
            obtain ⟨⟨u5, -⟩, u6⟩ := t3
            obtain ⟨⟨u7, -⟩, u8⟩ := t4
            have i1 : (k : Int) < (cur.length : Int) := by omega
            have i2 : ((k + 1 : Nat) : Int) < (cur.length : Int) := by omega
            have i3 : (lo cur k : Int) < (cur.length : Int) := by omega
            have i4 : ((lo cur k + 1 : Nat) : Int) < (cur.length : Int) := by omega
            have w1 : IntKind.i64.wrap ((k : Int) + 1) = ((k + 1 : Nat) : Int) := by rw [wrap_id (by omega) (by omega)]; simp
            have w2 : IntKind.i64.wrap ((lo cur k : Int) + 1) = ((lo cur k + 1 : Nat) : Int) := by rw [wrap_id (by omega) (by omega)]; simp
            have w3 : IntKind.i64.wrap (cur[k].1 + cur[k + 1].1) = cur[k].1 + cur[k + 1].1 := wrap_id (by omega) (by omega)
            have w4 : IntKind.i64.wrap (cur[lo cur k].1 + cur[lo cur k + 1].1) = cur[lo cur k].1 + cur[lo cur k + 1].1 := wrap_id (by omega) (by omega)
            have g1 := rows_app_get (tl := tl) (show k < cur.length by omega)
            have g2 := rows_app_get (tl := tl) (show k + 1 < cur.length by omega)
            have g3 := rows_app_get (tl := tl) (show lo cur k < cur.length by omega)
            have g4 := rows_app_get (tl := tl) hlo
            simp only [walkS, wl, rgets, retv, argsEnv, ev, cst, cst1, cstL, AEnv.get, AEnv.trim, envput, qstep, abin, aun, evs, evo, deref, qload, target, if_true, if_false, Nat.reduceEqDiff, reduceIte, Nat.reduceAdd, AV.cells, AV.isTuple, setMany, alen, aiaddr, afill, Nat.reduceLeDiff, Nat.reduceMul, Nat.reduceLT, afillE, List.replicate, o2, rows_length, hNl, i1, i2, i3, i4, w1, w2, w3, w4, g1, g2, g3, g4]
            have hlw : lo cur (k + 1) = if cur[k].1 + cur[k + 1].1 < cur[lo cur k].1 + cur[lo cur k + 1].1 then k else lo cur k := by
              simp only [lo, pr, layAt_lt (show k < cur.length by omega), layAt_lt (show k + 1 < cur.length by omega), layAt_lt (show lo cur k < cur.length by omega), layAt_lt hlo]
            refine withBool_intro ?_ ?_ <;> intro hb3 <;> simp only [walkS, wl, rgets, retv, argsEnv, ev, cst, cst1, cstL, AEnv.get, AEnv.trim, envput, qstep, abin, aun, evs, evo, deref, qload, target, if_true, if_false, Nat.reduceEqDiff, reduceIte, Nat.reduceAdd, AV.cells, AV.isTuple, setMany, alen, aiaddr, afill, Nat.reduceLeDiff, Nat.reduceMul, Nat.reduceLT, afillE, List.replicate, w1]
            · rw [if_pos (by simpa using hb3)] at hlw
              exact loop_end (k + 1) hlt (by omega) (by rw [hlw]) rfl
            · rw [if_neg (by simpa using hb3)] at hlw
              exact loop_end (k + 1) hlt (by omega) (by rw [hlw]) rfl
          · have hk' : k = cur.length - 1 := by have := of_decide_eq_false hb2; omega
            subst hk'
            obtain ⟨a, ha⟩ : ∃ a, a = lo cur (cur.length - 1) := ⟨_, rfl⟩
            rw [← ha] at hlo ⊢
            have i3 : (a : Int) < (cur.length : Int) := by omega
            have i4 : ((a + 1 : Nat) : Int) < (cur.length : Int) := by omega
            have w2 : IntKind.i64.wrap ((a : Int) + 1) = ((a + 1 : Nat) : Int) := by rw [wrap_id (by omega) (by omega)]; simp
            have g3 := rows_app_get (tl := tl) (show a < cur.length by omega)
            have g4 := rows_app_get (tl := tl) hlo
            simp only [walkS, wl, rgets, retv, argsEnv, ev, cst, cst1, cstL, AEnv.get, AEnv.trim, envput, qstep, abin, aun, evs, evo, deref, qload, target, if_true, if_false, Nat.reduceEqDiff, reduceIte, Nat.reduceAdd, AV.cells, AV.isTuple, setMany, alen, aiaddr, afill, Nat.reduceLeDiff, Nat.reduceMul, Nat.reduceLT, afillE, List.replicate, o2, rows_length, hNl, i3, i4, w2, g3, g4]
            refine dcall_pure (joined_ok (hm.tame (k := a) (by omega)).1 (hm.tame hlo).1) (frzL_of (d := 4) rfl) ?_
            simp only [walkS, wl, rgets, retv, argsEnv, ev, cst, cst1, cstL, AEnv.get, AEnv.trim, envput, qstep, abin, aun, evs, evo, deref, qload, target, if_true, if_false, Nat.reduceEqDiff, reduceIte, Nat.reduceAdd, AV.cells, AV.isTuple, setMany, alen, aiaddr, afill, Nat.reduceLeDiff, Nat.reduceMul, Nat.reduceLT, afillE, List.replicate, o2, rows_length, hNl, i3, i4, w2, g3, g4, dc]
            refine storeR rfl rfl o2 g3 ⟨by simp only [List.length_append, rows_length]; omega, rfl, rfl, by simp⟩ fun H1 y1 y2 y3 => ?_
            simp only [AV.cells, setMany, List.set_cons_zero, List.set_cons_succ] at y2
            have ers : (rows cur ++ rows tl).set a [I (join cur[a] cur[a + 1]).1, I (join cur[a] cur[a + 1]).2.1, I (join cur[a] cur[a + 1]).2.2] = rows (cur.set a (join cur[a] cur[a + 1])) ++ rows tl := by
              rw [List.set_append_left _ _ (by rw [rows_length]; omega)]
              simp [rows, List.map_set, dc]
            rw [ers] at y2
            have w3 : IntKind.i64.wrap ((a : Int) + 2) = (a + 1 : Nat) + 1 := by rw [wrap_id (by omega) (by omega)]; omega
            simp only [walkS, wl, rgets, retv, argsEnv, ev, cst, cst1, cstL, AEnv.get, AEnv.trim, envput, qstep, abin, aun, evs, evo, deref, qload, target, if_true, if_false, Nat.reduceEqDiff, reduceIte, Nat.reduceAdd, AV.cells, AV.isTuple, setMany, alen, aiaddr, afill, Nat.reduceLeDiff, Nat.reduceMul, Nat.reduceLT, afillE, List.replicate, w2, w3]
            have hd := Delete_at (ds := cur.set a (join cur[a] cur[a + 1])) (tl := tl) (k := a + 1) (h := 2) (N := N) (H0 := H1) (by simpa using hlo) (by simp; omega) (by simp [rows_length, hNl]) y2
            rw [List.length_set] at hd
            refine hd.mono fun x H2 ⟨x1, x2, x3, x4⟩ => ?_
            subst x3
            simp only [walkS, wl, rgets, retv, argsEnv, ev, cst, cst1, cstL, AEnv.get, AEnv.trim, envput, qstep, abin, aun, evs, evo, deref, qload, target, if_true, if_false, Nat.reduceEqDiff, reduceIte, Nat.reduceAdd, AV.cells, AV.isTuple, setMany, alen, aiaddr, afill, Nat.reduceLeDiff, Nat.reduceMul, Nat.reduceLT, afillE, List.replicate]
            have ejs : (cur.set a (join cur[a] cur[a + 1])).eraseIdx (a + 1) = jstep cur := by
              unfold jstep
              rw [← ha, layAt_lt (show a < cur.length by omega), layAt_lt hlo]
            rw [ejs] at x4
            have hjl := jstep_length hl2
            have hfu : cur.length - n.toNat = (jstep cur).length - n.toNat + 1 := by omega
            refine loop_end (jstep cur, (0, 0, 0) :: tl) ⟨(hm.jstep hl2).1, by simp only [hjl, List.length_cons]; omega, ?_⟩ (by simp only [hjl]; omega) (by rw [hjl]) ⟨by omega, by rw [x2 1 (by omega), y3 1 (by omega)]; exact o1, x4⟩
            rw [hj, hfu]; rfl
        · have hle : cur.length ≤ n := by simpa using hb
          rw [show cur.length - n.toNat = 0 by omega] at hj
          simp only [jnF] at hj
          rw [hj]
          refine storeR rfl rfl o1 rfl ⟨rfl, rfl, rfl, by simp⟩ fun H1 y1 y2 y3 => ?_
          simp only [AV.cells, setMany, List.set_cons_zero, List.set_cons_succ] at y2
          simp only [walkS, wl, rgets, retv, argsEnv, ev, cst, cst1, cstL, AEnv.get, AEnv.trim, envput, qstep, abin, aun, evs, evo, deref, qload, target, if_true, if_false, Nat.reduceEqDiff, reduceIte, Nat.reduceAdd, AV.cells, AV.isTuple, setMany, alen, aiaddr, afill, Nat.reduceLeDiff, Nat.reduceMul, Nat.reduceLT, afillE, List.replicate, y2]
          have o2' : AHeap.obj H1 2 = some ⟨47, 3, rows cur ++ rows tl⟩ := by rw [y3 2 (by omega)]; exact o2
          have hcut := car_cut (out := true) (d := 2) o2' (by simp [rows_length, hNl]) (rows_simple cur) (n := N)
          rw [rows_length] at hcut
          exact out_two (out_agg1 (out_of hcut) rfl) out_int
    · refine call_pure (from_f hn) (frzL_of' (d := 4) rfl) ?_
      simp only [walkS, wl, rgets, retv, argsEnv, ev, cst, cst1, cstL, AEnv.get, AEnv.trim, envput, qstep, abin, aun, evs, evo, deref, qload, target, if_true, if_false, Nat.reduceEqDiff, reduceIte, Nat.reduceAdd, AV.cells, AV.isTuple, setMany, alen, aiaddr, afill, Nat.reduceLeDiff, Nat.reduceMul, Nat.reduceLT, afillE, List.replicate]
      refine storeR rfl rfl rfl rfl ⟨rfl, rfl, rfl, by simp⟩ fun H1 y1 y2 y3 => ?_
      simp only [AV.cells, setMany, List.set_cons_zero, List.set_cons_succ] at y2
      simp only [walkS, wl, rgets, retv, argsEnv, ev, cst, cst1, cstL, AEnv.get, AEnv.trim, envput, qstep, abin, aun, evs, evo, deref, qload, target, if_true, if_false, Nat.reduceEqDiff, reduceIte, Nat.reduceAdd, AV.cells, AV.isTuple, setMany, alen, aiaddr, afill, Nat.reduceLeDiff, Nat.reduceMul, Nat.reduceLT, afillE, List.replicate, y2]
      simp only [joinedV, h1, hn, if_true, if_false]; exact out_pk1
end Go.Proofs.YtomejgikdelgkaaGreatDoor
