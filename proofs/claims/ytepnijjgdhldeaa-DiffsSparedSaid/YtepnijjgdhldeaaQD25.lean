/- Contracts: Spare of both packages. -/
import Derived.Test.YtepnijjgdhldeaaQD24
import Derived.Test.YtepnijjgdhldeaaQD17
import Derived.Test.YtepnijjgdhldeaaQG4
namespace Go.Proofs.Ytepnijjgdhldeaa
open Go.Awp
set_option linter.unusedSimpArgs false
set_option linter.unusedVariables false
set_option maxRecDepth 10000
theorem good_less {n : Nat} {ds : List Df} (h : Good n ds) (k : Nat) : Good n (ds.eraseIdx k) := by
  have hs : ∀ d, d ∈ ds.eraseIdx k → d ∈ ds := fun d hd => List.mem_of_mem_eraseIdx hd
  have hl := List.length_eraseIdx_le ds k
  exact ⟨h.pos, h.small, by have := h.len; omega, ⟨fun d hd => h.fit.ge1 d (hs d hd), fun d hd => h.fit.ge d (hs d hd), fun d hd => h.fit.fr d (hs d hd), fun d hd => h.fit.to d (hs d hd)⟩, fun d hd => h.w d (hs d hd)⟩
theorem valid_less {n : Int} {ds : List Df} (h : valid n ds = true) (k : Nat) : valid n (ds.eraseIdx k) = true := by
  rw [valid_iff] at h ⊢
  have hl := List.length_eraseIdx_le ds k
  exact ⟨h.1, by omega, fun d hd => h.2.2 d (List.mem_of_mem_eraseIdx hd)⟩
theorem calm_less {ds : List Df} {R : Nat → Prop} {φ : Nat → Int} (h : Calm ds R φ) (k : Nat) : Calm (ds.eraseIdx k) R φ := fun d hd => h d (List.mem_of_mem_eraseIdx hd)
theorem Sol.less {n : Nat} {ds : List Df} (h : Sol n ds) (k : Nat) : Sol n (ds.eraseIdx k) := by
  exact ⟨good_less h.good k, lens_calm (good_less h.good k) (calm_less (lens_grown h.good h.sol).2 k) fun v hv => (lens_has hv).1⟩
def spareV (n : Int) (ds : List Df) (k : Int) : Bool × Int :=
  if valid n ds then (if h : 0 ≤ k ∧ k < ds.length then (if (lens n.toNat ds (everyone n.toNat)).2 then
    (let d := ds[k.toNat]'(by omega); let r := apart n (ds.eraseIdx k.toNat) d.1 d.2.1; (r.2.1 && decide (r.1 ≤ d.2.2), 0)) else (false, 41)) else (false, 1)) else (false, 40)
theorem out_be {H : AHeap} {b : Bool} {e : Int} : Out H (.tuple [.bool b, I e]) (.tuple [.bool b, I e]) := out_two out_bool out_int
theorem car_cut {out : Bool} {H : AHeap} {d h n e s : Nat} {els r : List (List AV)} (ho : AHeap.obj H h = some ⟨e, s, els ++ r⟩) (hn : (els ++ r).length = n) (hl : Simple els) : carry out H (d + 2) (.own h n 0 els.length) = some (.ro out els) := by
  have e1 : (els ++ r).take els.length = els := by simp
  rw [show carry out H (d + 2) (.own h n 0 els.length) = (match AHeap.obj H h with | some p => if n = p.elems.length then (match carR (carry out H (d + 1)) ((p.elems.drop 0).take els.length) with | some l' => some (.ro out l') | none => none) else none | none => none) from rfl, ho]
  simp only [hn, if_true, List.drop_zero, e1, carR_simple hl]
theorem spare_rest {m : Nat} {ds : List Df} {i hd hz hc : Nat} {H : AHeap} {Q : AX → AEnv → AHeap → Prop} (hs : m ≤ 16) (hi : i < ds.length)
    (od : AHeap.obj H hd = some ⟨39, 3, [[I ds[i].1, I ds[i].2.1, I ds[i].2.2]]⟩) (oz : AHeap.obj H hz = some ⟨24, 2, [[I m, .own hc ds.length 0 (ds.length - 1)]]⟩) (oc : AHeap.obj H hc = some ⟨39, 3, rows (ds.eraseIdx i) ++ [[I 0, I 0, I 0]]⟩)
    (hQ : ∀ b, b = ((apart m (ds.eraseIdx i) ds[i].1 ds[i].2.1).2.1 && decide ((apart m (ds.eraseIdx i) ds[i].1 ds[i].2.1).1 ≤ ds[i].2.2)) → Q .ret [(4, .bool b), (5, I (apart m (ds.eraseIdx i) ds[i].1 ds[i].2.1).2.2)] H) :
    awp Try.prog ir54r Q [(10, .ptr hd 1 0 0), (11, .ptr hz 1 0 0)] H := by
  unfold ir54r
  have hL1 : (rows (ds.eraseIdx i)).length = ds.length - 1 := by rw [rows_length, List.length_eraseIdx_of_lt hi]
  have hL2 : (rows (ds.eraseIdx i) ++ [[I 0, I 0, I 0]]).length = ds.length := by simp only [List.length_append, hL1, List.length_cons, List.length_nil]; omega
  simp only [walkS, wl, rgets, retv, argsEnv, ev, cst, cst1, cstL, AEnv.get, AEnv.trim, envput, qstep, abin, aun, evs, evo, deref, qload, target, if_true, if_false, Nat.reduceEqDiff, reduceIte, Nat.reduceAdd, AV.cells, AV.isTuple, setMany, alen, aiaddr, afill, Nat.reduceLeDiff, Nat.reduceMul, Nat.reduceLT, afillE, List.replicate, od, oz]
  rw [← hL1]
  refine call_pure (Apart_ok (fun _ => by omega) ds[i].1 ds[i].2.1) (frzL_of' (d := 4) (carL_cons (car_agg (carL_cons rfl (carL_cons (car_cut oc hL2 (rows_simple _)) rfl))) rfl)) ?_
  unfold apartV
  generalize hr : apart m (ds.eraseIdx i) ds[i].1 ds[i].2.1 = r at hQ ⊢
  obtain ⟨a, b, e⟩ := r
  simp only [walkS, wl, rgets, retv, argsEnv, ev, cst, cst1, cstL, AEnv.get, AEnv.trim, envput, qstep, abin, aun, evs, evo, deref, qload, target, if_true, if_false, Nat.reduceEqDiff, reduceIte, Nat.reduceAdd, AV.cells, AV.isTuple, setMany, alen, aiaddr, afill, Nat.reduceLeDiff, Nat.reduceMul, Nat.reduceLT, afillE, List.replicate, od]
  cases b with
  | false =>
    simp only [walkS, wl, rgets, retv, argsEnv, ev, cst, cst1, cstL, AEnv.get, AEnv.trim, envput, qstep, abin, aun, evs, evo, deref, qload, target, if_true, if_false, Nat.reduceEqDiff, reduceIte, Nat.reduceAdd, AV.cells, AV.isTuple, setMany, alen, aiaddr, afill, Nat.reduceLeDiff, Nat.reduceMul, Nat.reduceLT, afillE, List.replicate]
    exact hQ false rfl
  | true =>
    simp only [walkS, wl, rgets, retv, argsEnv, ev, cst, cst1, cstL, AEnv.get, AEnv.trim, envput, qstep, abin, aun, evs, evo, deref, qload, target, if_true, if_false, Nat.reduceEqDiff, reduceIte, Nat.reduceAdd, AV.cells, AV.isTuple, setMany, alen, aiaddr, afill, Nat.reduceLeDiff, Nat.reduceMul, Nat.reduceLT, afillE, List.replicate, od]
    exact hQ _ rfl
theorem apart_less {m : Nat} {ds : List Df} (h : Sol m ds) (hv : valid m ds = true) {i : Nat} (hi : i < ds.length) : (apart m (ds.eraseIdx i) ds[i].1 ds[i].2.1).2.2 = 0 := by
  have hm : ds[i] ∈ ds := List.getElem_mem hi
  have h1 := h.good.fit.fr _ hm
  have h2 := h.good.fit.to _ hm
  have e1 : ((fr ds[i] : Nat) : Int) = ds[i].1 := Int.toNat_of_nonneg (h.good.fit.ge1 _ hm)
  have e2 : ((to ds[i] : Nat) : Int) = ds[i].2.1 := Int.toNat_of_nonneg (h.good.fit.ge _ hm)
  have := apart_fine (h.less i) (valid_less hv i) h1 h2
  rw [e1, e2] at this
  rw [this]
  split <;> rfl
theorem Spare_ok {n : Int} {ds : List Df} {k : Int} (hb0 : ds.length ≤ big) (hs : valid n ds = true → n ≤ 16) : PCall Try.prog 54 [.agg [I n, .ro false (rows ds)], I k] (.tuple [.bool (spareV n ds k).1, I (spareV n ds k).2]) := by
  refine PCall.intro text54 (by simp) ?_
  unfold ir54
  simp only [walkS, wl, rgets, retv, argsEnv, ev, cst, cst1, cstL, AEnv.get, AEnv.trim, envput, qstep, abin, aun, evs, evo, deref, qload, target, if_true, if_false, Nat.reduceEqDiff, reduceIte, Nat.reduceAdd, AV.cells, AV.isTuple, setMany, alen, aiaddr, afill, Nat.reduceLeDiff, Nat.reduceMul, Nat.reduceLT, afillE, List.replicate, rows_length]
  refine dcall_pure (in_ok k 0 (IntKind.i64.wrap (ds.length - 1))) (frzL_of (d := 4) rfl) ?_
  simp only [walkS, wl, rgets, retv, argsEnv, ev, cst, cst1, cstL, AEnv.get, AEnv.trim, envput, qstep, abin, aun, evs, evo, deref, qload, target, if_true, if_false, Nat.reduceEqDiff, reduceIte, Nat.reduceAdd, AV.cells, AV.isTuple, setMany, alen, aiaddr, afill, Nat.reduceLeDiff, Nat.reduceMul, Nat.reduceLT, afillE, List.replicate]
  generalize hb1 : (decide (0 ≤ k) && decide (k ≤ IntKind.i64.wrap (ds.length - 1))) = b1
  refine call_pure (asked_ok n ds [b1] (by simp [big])) (frzL_of' (d := 4) (carL_cons car_netF (carL_cons (car_own (o := ⟨4, 1, [[.bool b1]]⟩) rfl (bc_simple [b1])) rfl))) ?_
  simp only [walkS, wl, rgets, retv, argsEnv, ev, cst, cst1, cstL, AEnv.get, AEnv.trim, envput, qstep, abin, aun, evs, evo, deref, qload, target, if_true, if_false, Nat.reduceEqDiff, reduceIte, Nat.reduceAdd, AV.cells, AV.isTuple, setMany, alen, aiaddr, afill, Nat.reduceLeDiff, Nat.reduceMul, Nat.reduceLT, afillE, List.replicate]
  have range : valid n ds = true → b1 = decide (0 ≤ k ∧ k < ds.length) := fun hv => by
    have h1 := (valid_iff.1 hv).2.1
    rw [wrap_id (by omega) (by omega)] at hb1
    rw [← hb1, Bool.eq_iff_iff]; simp; omega
  refine withBool_intro ?_ ?_ <;> intro h <;> simp only [walkS, wl, rgets, retv, argsEnv, ev, cst, cst1, cstL, AEnv.get, AEnv.trim, envput, qstep, abin, aun, evs, evo, deref, qload, target, if_true, if_false, Nat.reduceEqDiff, reduceIte, Nat.reduceAdd, AV.cells, AV.isTuple, setMany, alen, aiaddr, afill, Nat.reduceLeDiff, Nat.reduceMul, Nat.reduceLT, afillE, List.replicate]
  · rcases asked_ne h with ⟨hv, e⟩ | ⟨hv, hb, e⟩
    · have e2 : spareV n ds k = (false, 40) := by simp [spareV, hv]
      rw [e, e2]; exact out_be
    · rw [range hv] at hb
      have hb' : ¬ (0 ≤ k ∧ k < ds.length) := by simpa using hb
      have e2 : spareV n ds k = (false, 1) := by simp only [spareV, hv, if_true, dif_neg hb']
      rw [e, e2]; exact out_be
  · obtain ⟨hv, hb⟩ := asked_eq h
    rw [range hv] at hb
    have hb' : 0 ≤ k ∧ k < ds.length := by simpa using hb
    obtain ⟨m, rfl, hg, hm⟩ := good_of hv (hs hv)
    obtain ⟨i, rfl⟩ : ∃ i : Nat, k = i := ⟨k.toNat, (Int.toNat_of_nonneg hb'.1).symm⟩
    have hi : i < ds.length := by omega
    have hlen := (valid_iff.1 hv).2.1
    refine call_pure (solve_ok hg (plain_graph m false ds) (fun H => car_netF)) (frzL_of' (d := 5) (carL_cons (car_iface car_netF) rfl)) ?_
    unfold treeV
    simp only [walkS, wl, rgets, retv, argsEnv, ev, cst, cst1, cstL, AEnv.get, AEnv.trim, envput, qstep, abin, aun, evs, evo, deref, qload, target, if_true, if_false, Nat.reduceEqDiff, reduceIte, Nat.reduceAdd, AV.cells, AV.isTuple, setMany, alen, aiaddr, afill, Nat.reduceLeDiff, Nat.reduceMul, Nat.reduceLT, afillE, List.replicate, sstep_store]
    refine withBool_intro ?_ ?_ <;> intro hbad <;> simp only [walkS, wl, rgets, retv, argsEnv, ev, cst, cst1, cstL, AEnv.get, AEnv.trim, envput, qstep, abin, aun, evs, evo, deref, qload, target, if_true, if_false, Nat.reduceEqDiff, reduceIte, Nat.reduceAdd, AV.cells, AV.isTuple, setMany, alen, aiaddr, afill, Nat.reduceLeDiff, Nat.reduceMul, Nat.reduceLT, afillE, List.replicate]
    · have hl := (solvable_iff hg).1 (by simpa using hbad)
      have e2 : spareV m ds i = (false, 41) := by simp only [spareV, hv, if_true, dif_pos hb', Int.toNat_natCast, hl, Bool.false_eq_true, if_false]
      rw [e2]; exact out_be
    · have hl : (lens m ds (everyone m)).2 = true := by
        cases hl : (lens m ds (everyone m)).2 with
        | true => rfl
        | false => exact absurd ((solvable_iff hg).2 hl) (by simpa using hbad)
      simp only [walkS, wl, rgets, retv, argsEnv, ev, cst, cst1, cstL, AEnv.get, AEnv.trim, envput, qstep, abin, aun, evs, evo, deref, qload, target, if_true, if_false, Nat.reduceEqDiff, reduceIte, Nat.reduceAdd, AV.cells, AV.isTuple, setMany, alen, aiaddr, afill, Nat.reduceLeDiff, Nat.reduceMul, Nat.reduceLT, afillE, List.replicate, rows_get hi, rows_length]
      refine storeR rfl rfl rfl rfl ⟨rfl, rfl, rfl, by simp⟩ fun H1 y1 y2 y3 => ?_
      have a0 : AHeap.obj H1 0 = some ⟨24, 2, [[I m, .ro false (rows ds)]]⟩ := by rw [y3 _ (by omega)]; rfl
      have hl1 : H1.length = 4 := by rw [y1]; rfl
      simp only [AV.cells, setMany, List.set_cons_zero, List.set_cons_succ, Nat.zero_add, Nat.reduceAdd] at y2
      clear y1 y3
      have hw : IntKind.i64.wrap ((i : Int) + 1) = (i : Int) + 1 := wrap_id (by omega) (by omega)
      have az : ∀ X, AHeap.obj (H1 ++ X) 0 = some ⟨24, 2, [[I m, .ro false (rows ds)]]⟩ := fun X => obj_keep a0
      have a3 : ∀ X, AHeap.obj (H1 ++ X) 3 = some ⟨39, 3, [[I ds[i].1, I ds[i].2.1, I ds[i].2.2]]⟩ := fun X => obj_keep y2
      have hne : ds ≠ [] := by intro e; rw [e] at hi; simp at hi
      simp only [walkS, wl, rgets, retv, argsEnv, ev, cst, cst1, cstL, AEnv.get, AEnv.trim, envput, qstep, abin, aun, evs, evo, deref, qload, target, if_true, if_false, Nat.reduceEqDiff, reduceIte, Nat.reduceAdd, AV.cells, AV.isTuple, setMany, alen, aiaddr, afill, Nat.reduceLeDiff, Nat.reduceMul, Nat.reduceLT, afillE, List.replicate, a0, y2, az, hw, List.contains_cons, Nat.reduceBEq, Bool.or_true, Bool.true_or]
      have last : ∀ b, b = ((apart m (ds.eraseIdx i) ds[i].1 ds[i].2.1).2.1 && decide ((apart m (ds.eraseIdx i) ds[i].1 ds[i].2.1).1 ≤ ds[i].2.2)) → spareV m ds i = (b, (apart m (ds.eraseIdx i) ds[i].1 ds[i].2.1).2.2) := fun b hb => by
        subst hb
        have e0 := apart_less ⟨hg, hl⟩ hv hi
        simp only [spareV, hv, if_true, dif_pos hb', Int.toNat_natCast, hl, e0]
      have hcar : ∀ H : AHeap, FrzL H [.ro false (rows ds)] [.ro false (rows ds)] := fun H => frzL_of' (d := 4) (carL_cons (car_ro_false (rows_simple ds)) rfl)
      refine ⟨?_, ?_⟩
      · refine call_new (clone57_new (b := false) hne hlen) (hcar _) ?_
        rw [rows_length]
        simp only [walkS, wl, rgets, retv, argsEnv, ev, cst, cst1, cstL, AEnv.get, AEnv.trim, envput, qstep, abin, aun, evs, evo, deref, qload, target, if_true, if_false, Nat.reduceEqDiff, reduceIte, Nat.reduceAdd, AV.cells, AV.isTuple, setMany, alen, aiaddr, afill, Nat.reduceLeDiff, Nat.reduceMul, Nat.reduceLT, afillE, List.replicate, a0, y2, az, hw, List.contains_cons, List.contains_nil, Nat.reduceBEq, Bool.or_true, Bool.true_or, Bool.or_false, ite_self, true_and]
        refine ⟨?_, ?_⟩
        · refine (Delete_at hi hlen AHeap.obj_push_eq).mono fun x H2 ⟨x1, x2, x3, x4⟩ => ?_
          subst x3
          have c0 : ∀ X, AHeap.obj (H2 ++ X) 0 = some ⟨24, 2, [[I m, .ro false (rows ds)]]⟩ := fun X => obj_keep (by rw [x2 _ (by omega), az])
          have c0' := c0 []
          rw [List.append_nil] at c0'
          simp only [walkS, wl, rgets, retv, argsEnv, ev, cst, cst1, cstL, AEnv.get, AEnv.trim, envput, qstep, abin, aun, evs, evo, deref, qload, target, if_true, if_false, Nat.reduceEqDiff, reduceIte, Nat.reduceAdd, AV.cells, AV.isTuple, setMany, alen, aiaddr, afill, Nat.reduceLeDiff, Nat.reduceMul, Nat.reduceLT, afillE, List.replicate, c0, c0', hw, List.contains_cons, List.contains_nil, Nat.reduceBEq, Bool.or_true, Bool.true_or, Bool.or_false, ite_self, true_and]
          simp only [List.length_append, List.length_cons, List.length_nil] at x1
          refine storeR rfl rfl AHeap.obj_push_eq rfl ⟨rfl, rfl, rfl, by simp⟩ fun H5 v1 v2 v3 => ?_
          simp only [AV.cells, setMany, List.set_cons_zero, List.set_cons_succ, Nat.zero_add, Nat.reduceAdd] at v2
          simp only [walkS, wl, rgets, retv, argsEnv, ev, cst, cst1, cstL, AEnv.get, AEnv.trim, envput, qstep, abin, aun, evs, evo, deref, qload, target, if_true, if_false, Nat.reduceEqDiff, reduceIte, Nat.reduceAdd, AV.cells, AV.isTuple, setMany, alen, aiaddr, afill, Nat.reduceLeDiff, Nat.reduceMul, Nat.reduceLT, afillE, List.replicate]
          refine spare_rest hm hi (by rw [v3 _ (by omega), AHeap.obj_push_lt (by omega), x2 _ (by omega)]; exact a3 _) v2 (by rw [v3 _ (by omega), AHeap.obj_push_lt (by omega)]; exact x4) fun b hb => ?_
          rw [last b hb]; exact out_be
        · refine (Delete_at hi hlen ((obj_app_add (k := 0)).trans rfl)).mono fun x H2 ⟨x1, x2, x3, x4⟩ => ?_
          subst x3
          have c0 : AHeap.obj H2 0 = some ⟨24, 2, [[I m, .ro false (rows ds)]]⟩ := by rw [x2 _ (by omega), az]
          simp only [walkS, wl, rgets, retv, argsEnv, ev, cst, cst1, cstL, AEnv.get, AEnv.trim, envput, qstep, abin, aun, evs, evo, deref, qload, target, if_true, if_false, Nat.reduceEqDiff, reduceIte, Nat.reduceAdd, AV.cells, AV.isTuple, setMany, alen, aiaddr, afill, Nat.reduceLeDiff, Nat.reduceMul, Nat.reduceLT, afillE, List.replicate, c0, hw, List.contains_cons, List.contains_nil, Nat.reduceBEq, Bool.or_true, Bool.true_or, Bool.or_false, ite_self, true_and]
          simp only [List.length_append, List.length_cons, List.length_nil] at x1
          refine storeR rfl rfl ((x2 _ (by omega)).trans obj_app_add) rfl ⟨rfl, rfl, rfl, by simp⟩ fun H5 v1 v2 v3 => ?_
          simp only [AV.cells, setMany, List.set_cons_zero, List.set_cons_succ, Nat.zero_add, Nat.reduceAdd] at v2
          simp only [walkS, wl, rgets, retv, argsEnv, ev, cst, cst1, cstL, AEnv.get, AEnv.trim, envput, qstep, abin, aun, evs, evo, deref, qload, target, if_true, if_false, Nat.reduceEqDiff, reduceIte, Nat.reduceAdd, AV.cells, AV.isTuple, setMany, alen, aiaddr, afill, Nat.reduceLeDiff, Nat.reduceMul, Nat.reduceLT, afillE, List.replicate]
          refine spare_rest hm hi (by rw [v3 _ (by omega), x2 _ (by omega)]; exact a3 _) v2 (by rw [v3 _ (by omega)]; exact x4) fun b hb => ?_
          rw [last b hb]; exact out_be
      · refine call_new (clone57_new (b := false) hne hlen) (hcar _) ?_
        rw [rows_length]
        simp only [walkS, wl, rgets, retv, argsEnv, ev, cst, cst1, cstL, AEnv.get, AEnv.trim, envput, qstep, abin, aun, evs, evo, deref, qload, target, if_true, if_false, Nat.reduceEqDiff, reduceIte, Nat.reduceAdd, AV.cells, AV.isTuple, setMany, alen, aiaddr, afill, Nat.reduceLeDiff, Nat.reduceMul, Nat.reduceLT, afillE, List.replicate, a0, y2, az, hw, List.contains_cons, List.contains_nil, Nat.reduceBEq, Bool.or_true, Bool.true_or, Bool.or_false, ite_self, true_and]
        refine (Delete_at hi hlen (obj_app_add.trans rfl)).mono fun x H2 ⟨x1, x2, x3, x4⟩ => ?_
        subst x3
        have c0 : AHeap.obj H2 0 = some ⟨24, 2, [[I m, .ro false (rows ds)]]⟩ := by rw [x2 _ (by omega), az]
        simp only [walkS, wl, rgets, retv, argsEnv, ev, cst, cst1, cstL, AEnv.get, AEnv.trim, envput, qstep, abin, aun, evs, evo, deref, qload, target, if_true, if_false, Nat.reduceEqDiff, reduceIte, Nat.reduceAdd, AV.cells, AV.isTuple, setMany, alen, aiaddr, afill, Nat.reduceLeDiff, Nat.reduceMul, Nat.reduceLT, afillE, List.replicate, c0, hw, List.contains_cons, List.contains_nil, Nat.reduceBEq, Bool.or_true, Bool.true_or, Bool.or_false, ite_self, true_and]
        simp only [List.length_append, List.length_cons, List.length_nil] at x1
        refine storeR rfl rfl ((x2 _ (by omega)).trans ((obj_app_add (k := 0)).trans rfl)) rfl ⟨rfl, rfl, rfl, by simp⟩ fun H5 v1 v2 v3 => ?_
        simp only [AV.cells, setMany, List.set_cons_zero, List.set_cons_succ, Nat.zero_add, Nat.reduceAdd] at v2
        simp only [walkS, wl, rgets, retv, argsEnv, ev, cst, cst1, cstL, AEnv.get, AEnv.trim, envput, qstep, abin, aun, evs, evo, deref, qload, target, if_true, if_false, Nat.reduceEqDiff, reduceIte, Nat.reduceAdd, AV.cells, AV.isTuple, setMany, alen, aiaddr, afill, Nat.reduceLeDiff, Nat.reduceMul, Nat.reduceLT, afillE, List.replicate]
        refine spare_rest hm hi (by rw [v3 _ (by omega), x2 _ (by omega)]; exact a3 _) v2 (by rw [v3 _ (by omega)]; exact x4) fun b hb => ?_
        rw [last b hb]; exact out_be
end Go.Proofs.Ytepnijjgdhldeaa
