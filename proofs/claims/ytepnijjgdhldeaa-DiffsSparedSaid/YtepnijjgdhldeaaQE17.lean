/- The law DiffsSpared, walked. -/
import Derived.Test.YtepnijjgdhldeaaQD25
import Derived.Test.YtepnijjgdhldeaaQT17
import Derived.Test.YtepnijjgdhldeaaQE3
namespace Go.Proofs.Ytepnijjgdhldeaa
open Go.Awp
set_option linter.unusedSimpArgs false
set_option linter.unusedVariables false
set_option maxRecDepth 10000
theorem less_le {m : Nat} {ds : List Df} (h : Sol m ds) (i : Nat) {a : Nat} (ha : a < m) : ∀ v, (lens m (ds.eraseIdx i) (one a)).1.has v = true → (lens m ds (one a)).1.has v = true ∧ (lens m ds (one a)).1.long v ≤ (lens m (ds.eraseIdx i) (one a)).1.long v :=
  lens_under (calm_less (h.calm1 ha) i) (S := one a) fun v hv => by
    have e : v = a := by simpa [one] using hv
    subst e
    have := h.self ha
    exact ⟨this.1, by omega⟩
theorem mem_less {ds : List Df} {i : Nat} (hi : i < ds.length) {d : Df} (hd : d ∈ ds) : d ∈ ds.eraseIdx i ∨ d = ds[i] := by
  obtain ⟨j, hj, rfl⟩ := List.getElem_of_mem hd
  by_cases e : j = i
  · subst e; exact .inr rfl
  · exact .inl (List.mem_eraseIdx_iff_getElem.2 ⟨j, hj, e, rfl⟩)
def Spares (m : Nat) (ds : List Df) (d : Df) : Prop := (lens m ds (one (fr d))).1.has (to d) = true ∧ (lens m ds (one (fr d))).1.long (to d) ≤ d.2.2
theorem spare_calm {m : Nat} {ds : List Df} (h : Sol m ds) {i : Nat} (hi : i < ds.length) (hs : Spares m (ds.eraseIdx i) ds[i]) {a : Nat} (ha : a < m) :
    Calm ds (fun v => (lens m (ds.eraseIdx i) (one a)).1.has v = true) (lens m (ds.eraseIdx i) (one a)).1.long := fun d hd hr => by
  rcases mem_less hi hd with h1 | rfl
  · exact (h.less i).calm1 ha d h1 hr
  · have := (h.less i).tri ha hr hs.1
    exact ⟨this.1, by have := this.2; have := hs.2; omega⟩
theorem spare_same {m : Nat} {ds : List Df} (h : Sol m ds) {i : Nat} (hi : i < ds.length) (hs : Spares m (ds.eraseIdx i) ds[i]) {a : Nat} (ha : a < m) (v : Nat) :
    (lens m (ds.eraseIdx i) (one a)).1.has v = (lens m ds (one a)).1.has v ∧ ((lens m ds (one a)).1.has v = true → (lens m (ds.eraseIdx i) (one a)).1.long v = (lens m ds (one a)).1.long v) := by
  have h1 := less_le h i ha v
  have h2 := lens_under (n := m) (spare_calm h hi hs ha) (S := one a) (fun v hv => by
    have e : v = a := by simpa [one] using hv
    subst e
    have := (h.less i).self ha
    exact ⟨this.1, by omega⟩) v
  constructor
  · rw [Bool.eq_iff_iff]; exact ⟨fun e => (h1 e).1, fun e => (h2 e).1⟩
  · intro e
    have := (h2 e).2
    have := (h1 (h2 e).1).2
    omega
theorem apart_out {m : Nat} {ds : List Df} (hv : valid m ds = true) {f t : Int} (hb : (isNode f m && isNode t m) = false) : apart m ds f t = (0, false, 1) := by
  simp only [apart, hv, hb, if_true, Bool.false_eq_true, if_false]
theorem spare_iff {m : Nat} {ds : List Df} (h : Sol m ds) (hv : valid m ds = true) {i : Nat} (hi : i < ds.length) :
    ((apart m (ds.eraseIdx i) ds[i].1 ds[i].2.1).2.1 && decide ((apart m (ds.eraseIdx i) ds[i].1 ds[i].2.1).1 ≤ ds[i].2.2)) = true ↔ Spares m (ds.eraseIdx i) ds[i] := by
  have hm : ds[i] ∈ ds := List.getElem_mem hi
  have h1 := h.good.fit.fr _ hm
  have h2 := h.good.fit.to _ hm
  have e1 : ((fr ds[i] : Nat) : Int) = ds[i].1 := Int.toNat_of_nonneg (h.good.fit.ge1 _ hm)
  have e2 : ((to ds[i] : Nat) : Int) = ds[i].2.1 := Int.toNat_of_nonneg (h.good.fit.ge _ hm)
  have := apart_fine (h.less i) (valid_less hv i) h1 h2
  rw [e1, e2] at this
  rw [this]
  unfold Spares
  cases (lens m (ds.eraseIdx i) (one (fr ds[i]))).1.has (to ds[i]) <;> simp
theorem spare_apart {m : Nat} {ds : List Df} (h : Sol m ds) (hv : valid m ds = true) {i : Nat} (hi : i < ds.length) (hs : Spares m (ds.eraseIdx i) ds[i]) (f t : Int) : apart m (ds.eraseIdx i) f t = apart m ds f t := by
  cases hb : (isNode f m && isNode t m) with
  | false => rw [apart_out hv hb, apart_out (valid_less hv i) hb]
  | true =>
    have hij : (0 ≤ f ∧ f < m) ∧ (0 ≤ t ∧ t < m) := by simpa [isNode] using hb
    obtain ⟨f, rfl⟩ : ∃ k : Nat, f = k := ⟨f.toNat, (Int.toNat_of_nonneg hij.1.1).symm⟩
    obtain ⟨t, rfl⟩ : ∃ k : Nat, t = k := ⟨t.toNat, (Int.toNat_of_nonneg hij.2.1).symm⟩
    have hf : f < m := by omega
    have ht : t < m := by omega
    rw [apart_fine h hv hf ht, apart_fine (h.less i) (valid_less hv i) hf ht]
    obtain ⟨p, q⟩ := spare_same h hi hs hf t
    rw [p]
    split
    · rename_i e; rw [q e]
    · rfl
theorem nospare_apart {m : Nat} {ds : List Df} (h : Sol m ds) (hv : valid m ds = true) {i : Nat} (hi : i < ds.length) (hs : ¬ Spares m (ds.eraseIdx i) ds[i]) :
    (apart m ds ds[i].1 ds[i].2.1).2.2 = 0 ∧ ((apart m ds ds[i].1 ds[i].2.1).1 ≠ (apart m (ds.eraseIdx i) ds[i].1 ds[i].2.1).1 ∨ (apart m ds ds[i].1 ds[i].2.1).2.1 ≠ (apart m (ds.eraseIdx i) ds[i].1 ds[i].2.1).2.1) := by
  have hm : ds[i] ∈ ds := List.getElem_mem hi
  have h1 := h.good.fit.fr _ hm
  have h2 := h.good.fit.to _ hm
  have e1 : ((fr ds[i] : Nat) : Int) = ds[i].1 := Int.toNat_of_nonneg (h.good.fit.ge1 _ hm)
  have e2 : ((to ds[i] : Nat) : Int) = ds[i].2.1 := Int.toNat_of_nonneg (h.good.fit.ge _ hm)
  have a1 := apart_fine (h.less i) (valid_less hv i) h1 h2
  have a2 := apart_fine h hv h1 h2
  rw [e1, e2] at a1 a2
  have hd := h.calm1 h1 _ hm (h.self h1).1
  have h0 := (h.self h1).2
  rw [a1, a2, hd.1]
  refine ⟨rfl, ?_⟩
  unfold Spares at hs
  cases hh : (lens m (ds.eraseIdx i) (one (fr ds[i]))).1.has (to ds[i]) with
  | false => exact .inr (by simp)
  | true =>
    left
    simp only [if_true]
    intro e
    exact hs ⟨hh, by have := hd.2; omega⟩
theorem spared_rest {env : AEnv} {m : Nat} {ds : List Df} {i hm' hc : Nat} {f t : Int} {is : Bool} {H : AHeap} {Q : AX → AEnv → AHeap → Prop} (hs : m ≤ 16) (hi : i < ds.length)
    (o0 : AHeap.obj H 0 = some ⟨24, 2, [[I m, .ro false (rows ds)]]⟩) (oz : AHeap.obj H hm' = some ⟨24, 2, [[I m, .own hc ds.length 0 (ds.length - 1)]]⟩) (oc : AHeap.obj H hc = some ⟨39, 3, rows (ds.eraseIdx i) ++ [[I 0, I 0, I 0]]⟩)
    (he : (apart m ds f t).2.2 = (apart m (ds.eraseIdx i) f t).2.2)
    (hy : is = true → (apart m ds f t).1 = (apart m (ds.eraseIdx i) f t).1 ∧ (apart m ds f t).2.1 = (apart m (ds.eraseIdx i) f t).2.1)
    (hn : is = false → (apart m ds f t).2.2 = 0 ∧ ((apart m ds f t).1 ≠ (apart m (ds.eraseIdx i) f t).1 ∨ (apart m ds f t).2.1 ≠ (apart m (ds.eraseIdx i) f t).2.1))
    (hQ : Q .ret [(8, .bool true)] H)
    (hE : env = [(2, I f), (3, I t), (4, .ptr 0 1 0 0), (9, .bool is), (11, .ptr hm' 1 0 0)] ∨ env = [(1, I i), (2, I f), (3, I t), (4, .ptr 0 1 0 0), (9, .bool is), (11, .ptr hm' 1 0 0), (64, .bool false)]) :
    awp Try.prog ir17s Q env H := by
  unfold ir17s
  have hL1 : (rows (ds.eraseIdx i)).length = ds.length - 1 := by rw [rows_length, List.length_eraseIdx_of_lt hi]
  have hL2 : (rows (ds.eraseIdx i) ++ [[I 0, I 0, I 0]]).length = ds.length := by simp only [List.length_append, hL1, List.length_cons, List.length_nil]; omega
  rw [← hL1] at oz
  rcases hE with rfl | rfl
  all_goals
    simp only [walkS, wl, rgets, retv, argsEnv, ev, cst, cst1, cstL, AEnv.get, AEnv.trim, envput, qstep, abin, aun, evs, evo, deref, qload, target, if_true, if_false, Nat.reduceEqDiff, reduceIte, Nat.reduceAdd, AV.cells, AV.isTuple, setMany, alen, aiaddr, afill, Nat.reduceLeDiff, Nat.reduceMul, Nat.reduceLT, afillE, List.replicate, o0]
    refine call_pure (Apart_ok (fun _ => by omega) f t) (frzL_of' (d := 4) (carL_cons car_netF rfl)) ?_
    unfold apartV
    simp only [walkS, wl, rgets, retv, argsEnv, ev, cst, cst1, cstL, AEnv.get, AEnv.trim, envput, qstep, abin, aun, evs, evo, deref, qload, target, if_true, if_false, Nat.reduceEqDiff, reduceIte, Nat.reduceAdd, AV.cells, AV.isTuple, setMany, alen, aiaddr, afill, Nat.reduceLeDiff, Nat.reduceMul, Nat.reduceLT, afillE, List.replicate, oz]
    refine call_pure (Apart_ok (fun _ => by omega) f t) (frzL_of' (d := 4) (carL_cons (car_agg (carL_cons rfl (carL_cons (car_cut oc hL2 (rows_simple _)) rfl))) rfl)) ?_
    unfold apartV
    generalize apart m ds f t = r at he hy hn ⊢
    generalize apart m (ds.eraseIdx i) f t = r' at he hy hn ⊢
    obtain ⟨a, b, e⟩ := r
    obtain ⟨a', b', e'⟩ := r'
    simp only at he hy hn
    subst he
    simp only [walkS, wl, rgets, retv, argsEnv, ev, cst, cst1, cstL, AEnv.get, AEnv.trim, envput, qstep, abin, aun, evs, evo, deref, qload, target, if_true, if_false, Nat.reduceEqDiff, reduceIte, Nat.reduceAdd, AV.cells, AV.isTuple, setMany, alen, aiaddr, afill, Nat.reduceLeDiff, Nat.reduceMul, Nat.reduceLT, afillE, List.replicate, bne_self_eq_false]
    cases is with
    | true =>
      obtain ⟨rfl, rfl⟩ := hy rfl
      simp only [walkS, wl, rgets, retv, argsEnv, ev, cst, cst1, cstL, AEnv.get, AEnv.trim, envput, qstep, abin, aun, evs, evo, deref, qload, target, if_true, if_false, Nat.reduceEqDiff, reduceIte, Nat.reduceAdd, AV.cells, AV.isTuple, setMany, alen, aiaddr, afill, Nat.reduceLeDiff, Nat.reduceMul, Nat.reduceLT, afillE, List.replicate, beq_self_eq_true]
      exact hQ
    | false =>
      obtain ⟨rfl, hd⟩ := hn rfl
      simp only [walkS, wl, rgets, retv, argsEnv, ev, cst, cst1, cstL, AEnv.get, AEnv.trim, envput, qstep, abin, aun, evs, evo, deref, qload, target, if_true, if_false, Nat.reduceEqDiff, reduceIte, Nat.reduceAdd, AV.cells, AV.isTuple, setMany, alen, aiaddr, afill, Nat.reduceLeDiff, Nat.reduceMul, Nat.reduceLT, afillE, List.replicate, beq_self_eq_true]
      by_cases ha : a = a'
      · subst ha
        have hb : (b != b') = true := by
          rcases hd with h | h
          · exact absurd rfl h
          · simpa using h
        simp only [walkS, wl, rgets, retv, argsEnv, ev, cst, cst1, cstL, AEnv.get, AEnv.trim, envput, qstep, abin, aun, evs, evo, deref, qload, target, if_true, if_false, Nat.reduceEqDiff, reduceIte, Nat.reduceAdd, AV.cells, AV.isTuple, setMany, alen, aiaddr, afill, Nat.reduceLeDiff, Nat.reduceMul, Nat.reduceLT, afillE, List.replicate, bne_self_eq_false, hb]
        rw [show (!(b == b')) = true from hb]
        exact hQ
      · have ha' : (a != a') = true := by simpa using ha
        simp only [walkS, wl, rgets, retv, argsEnv, ev, cst, cst1, cstL, AEnv.get, AEnv.trim, envput, qstep, abin, aun, evs, evo, deref, qload, target, if_true, if_false, Nat.reduceEqDiff, reduceIte, Nat.reduceAdd, AV.cells, AV.isTuple, setMany, alen, aiaddr, afill, Nat.reduceLeDiff, Nat.reduceMul, Nat.reduceLT, afillE, List.replicate, ha']
        exact hQ
theorem spared_mid {m : Nat} {ds : List Df} {i hm' hc : Nat} {f t : Int} {is : Bool} {H : AHeap} {Q : AX → AEnv → AHeap → Prop} (h : Sol m ds) (hv : valid m ds = true) (hs : m ≤ 16) (hi : i < ds.length)
    (his : is = true ↔ Spares m (ds.eraseIdx i) ds[i])
    (o0 : AHeap.obj H 0 = some ⟨24, 2, [[I m, .ro false (rows ds)]]⟩) (oz : AHeap.obj H hm' = some ⟨24, 2, [[I m, .own hc ds.length 0 (ds.length - 1)]]⟩) (oc : AHeap.obj H hc = some ⟨39, 3, rows (ds.eraseIdx i) ++ [[I 0, I 0, I 0]]⟩)
    (hQ : Q .ret [(8, .bool true)] H) :
    awp Try.prog ir17r Q [(1, I i), (2, I f), (3, I t), (4, .ptr 0 1 0 0), (9, .bool is), (11, .ptr hm' 1 0 0)] H := by
  unfold ir17r
  cases is with
  | true =>
    have he := spare_apart h hv hi (his.1 rfl) f t
    simp only [walkS, wl, rgets, retv, argsEnv, ev, cst, cst1, cstL, AEnv.get, AEnv.trim, envput, qstep, abin, aun, evs, evo, deref, qload, target, if_true, if_false, Nat.reduceEqDiff, reduceIte, Nat.reduceAdd, AV.cells, AV.isTuple, setMany, alen, aiaddr, afill, Nat.reduceLeDiff, Nat.reduceMul, Nat.reduceLT, afillE, List.replicate]
    exact spared_rest hs hi o0 oz oc (by rw [he]) (fun _ => by rw [he]; exact ⟨rfl, rfl⟩) (fun e => by cases e) hQ (.inr rfl)
  | false =>
    have hns : ¬ Spares m (ds.eraseIdx i) ds[i] := fun e => by have := his.2 e; cases this
    have he := nospare_apart h hv hi hns
    have he' := apart_less h hv hi
    simp only [walkS, wl, rgets, retv, argsEnv, ev, cst, cst1, cstL, AEnv.get, AEnv.trim, envput, qstep, abin, aun, evs, evo, deref, qload, target, if_true, if_false, Nat.reduceEqDiff, reduceIte, Nat.reduceAdd, AV.cells, AV.isTuple, setMany, alen, aiaddr, afill, Nat.reduceLeDiff, Nat.reduceMul, Nat.reduceLT, afillE, List.replicate, o0, rows_get hi, rows_length]
    exact spared_rest hs hi o0 oz oc (by rw [he.1, he']) (fun e => by cases e) (fun _ => he) hQ (.inl rfl)
theorem law17_ok {n : Int} {ds : List Df} {k f t : Int} (hb0 : ds.length ≤ big) : PCall Try.prog 17 [.agg [I n, .ro false (rows ds)], I k, I f, I t] (.bool true) := by
  refine PCall.intro text17 (by simp) ?_
  unfold ir17
  simp only [walkS, wl, rgets, retv, argsEnv, ev, cst, cst1, cstL, AEnv.get, AEnv.trim, envput, qstep, abin, aun, evs, evo, deref, qload, target, if_true, if_false, Nat.reduceEqDiff, reduceIte, Nat.reduceAdd, AV.cells, AV.isTuple, setMany, alen, aiaddr, afill, Nat.reduceLeDiff, Nat.reduceMul, Nat.reduceLT, afillE, List.replicate]
  refine call_pure sane_ok (frzL_of' (d := 4) rfl) ?_
  simp only [walkS, wl, rgets, retv, argsEnv, ev, cst, cst1, cstL, AEnv.get, AEnv.trim, envput, qstep, abin, aun, evs, evo, deref, qload, target, if_true, if_false, Nat.reduceEqDiff, reduceIte, Nat.reduceAdd, AV.cells, AV.isTuple, setMany, alen, aiaddr, afill, Nat.reduceLeDiff, Nat.reduceMul, Nat.reduceLT, afillE, List.replicate]
  refine call_pure (check_ok n ds) (frzL_of' (d := 4) (carL_cons car_netF rfl)) ?_
  simp only [walkS, wl, rgets, retv, argsEnv, ev, cst, cst1, cstL, AEnv.get, AEnv.trim, envput, qstep, abin, aun, evs, evo, deref, qload, target, if_true, if_false, Nat.reduceEqDiff, reduceIte, Nat.reduceAdd, AV.cells, AV.isTuple, setMany, alen, aiaddr, afill, Nat.reduceLeDiff, Nat.reduceMul, Nat.reduceLT, afillE, List.replicate]
  refine withGuard_intro ?_ ?_ <;> intro h <;> simp only [walkS, wl, rgets, retv, argsEnv, ev, cst, cst1, cstL, AEnv.get, AEnv.trim, envput, qstep, abin, aun, evs, evo, deref, qload, target, if_true, if_false, Nat.reduceEqDiff, reduceIte, Nat.reduceAdd, AV.cells, AV.isTuple, setMany, alen, aiaddr, afill, Nat.reduceLeDiff, Nat.reduceMul, Nat.reduceLT, afillE, List.replicate, h]
  · refine call_pure (small_ok (n := n) (ds := ds)) (frzL_of' (d := 4) (carL_cons car_netF rfl)) ?_
    simp only [walkS, wl, rgets, retv, argsEnv, ev, cst, cst1, cstL, AEnv.get, AEnv.trim, envput, qstep, abin, aun, evs, evo, deref, qload, target, if_true, if_false, Nat.reduceEqDiff, reduceIte, Nat.reduceAdd, AV.cells, AV.isTuple, setMany, alen, aiaddr, afill, Nat.reduceLeDiff, Nat.reduceMul, Nat.reduceLT, afillE, List.replicate, h]
    refine withGuard_intro ?_ ?_ <;> intro h2 <;> simp only [walkS, wl, rgets, retv, argsEnv, ev, cst, cst1, cstL, AEnv.get, AEnv.trim, envput, qstep, abin, aun, evs, evo, deref, qload, target, if_true, if_false, Nat.reduceEqDiff, reduceIte, Nat.reduceAdd, AV.cells, AV.isTuple, setMany, alen, aiaddr, afill, Nat.reduceLeDiff, Nat.reduceMul, Nat.reduceLT, afillE, List.replicate, h2]
    · refine withGuard_intro ?_ ?_ <;> intro h3 <;> simp only [walkS, wl, rgets, retv, argsEnv, ev, cst, cst1, cstL, AEnv.get, AEnv.trim, envput, qstep, abin, aun, evs, evo, deref, qload, target, if_true, if_false, Nat.reduceEqDiff, reduceIte, Nat.reduceAdd, AV.cells, AV.isTuple, setMany, alen, aiaddr, afill, Nat.reduceLeDiff, Nat.reduceMul, Nat.reduceLT, afillE, List.replicate, h3, rows_length]
      · refine withBool_intro ?_ ?_ <;> intro h4 <;> simp only [walkS, wl, rgets, retv, argsEnv, ev, cst, cst1, cstL, AEnv.get, AEnv.trim, envput, qstep, abin, aun, evs, evo, deref, qload, target, if_true, if_false, Nat.reduceEqDiff, reduceIte, Nat.reduceAdd, AV.cells, AV.isTuple, setMany, alen, aiaddr, afill, Nat.reduceLeDiff, Nat.reduceMul, Nat.reduceLT, afillE, List.replicate]
        · exact out_bool
        · have hk : 0 ≤ k ∧ k < ds.length := by simp at h3 h4; omega
          have hv : valid n ds = true := check_eq (by simpa using h)
          have hs : valid n ds = true → n ≤ 16 := fun _ => by simp at h2; exact h2.1
          obtain ⟨m, rfl, hg, hm⟩ := good_of hv (hs hv)
          obtain ⟨i, rfl⟩ : ∃ i : Nat, k = i := ⟨k.toNat, (Int.toNat_of_nonneg hk.1).symm⟩
          have hi : i < ds.length := by omega
          have hlen := (valid_iff.1 hv).2.1
          refine call_pure (Spare_ok (k := i) hb0 hs) (frzL_of' (d := 4) (carL_cons car_netF rfl)) ?_
          cases hl : (lens m ds (everyone m)).2 with
          | false =>
            have e2 : spareV m ds i = (false, 41) := by simp only [spareV, hv, if_true, dif_pos hk, Int.toNat_natCast, hl, Bool.false_eq_true, if_false]
            rw [e2]
            simp only [walkS, wl, rgets, retv, argsEnv, ev, cst, cst1, cstL, AEnv.get, AEnv.trim, envput, qstep, abin, aun, evs, evo, deref, qload, target, if_true, if_false, Nat.reduceEqDiff, reduceIte, Nat.reduceAdd, AV.cells, AV.isTuple, setMany, alen, aiaddr, afill, Nat.reduceLeDiff, Nat.reduceMul, Nat.reduceLT, afillE, List.replicate, Int.reduceBNe, Int.reduceBEq]
            exact out_bool
          | true =>
            have e2 : spareV m ds i = ((apart m (ds.eraseIdx i) ds[i].1 ds[i].2.1).2.1 && decide ((apart m (ds.eraseIdx i) ds[i].1 ds[i].2.1).1 ≤ ds[i].2.2), 0) := by
              simp only [spareV, hv, if_true, dif_pos hk, Int.toNat_natCast, hl]
            rw [e2]
            have his := spare_iff ⟨hg, hl⟩ hv hi
            generalize ((apart m (ds.eraseIdx i) ds[i].1 ds[i].2.1).2.1 && decide ((apart m (ds.eraseIdx i) ds[i].1 ds[i].2.1).1 ≤ ds[i].2.2)) = is at his ⊢
            have hw : IntKind.i64.wrap ((i : Int) + 1) = (i : Int) + 1 := wrap_id (by omega) (by omega)
            have hne : ds ≠ [] := by intro e; rw [e] at hi; simp at hi
            have hcar : ∀ H : AHeap, FrzL H [.ro false (rows ds)] [.ro false (rows ds)] := fun H => frzL_of' (d := 4) (carL_cons (car_ro_false (rows_simple ds)) rfl)
            generalize hH1 : ([some ⟨24, 2, [[I m, .ro false (rows ds)]]⟩] : AHeap) = H1
            have a0 : AHeap.obj H1 0 = some ⟨24, 2, [[I m, .ro false (rows ds)]]⟩ := by rw [← hH1]; rfl
            have hl1 : H1.length = 1 := by rw [← hH1]; rfl
            have az : ∀ X, AHeap.obj (H1 ++ X) 0 = some ⟨24, 2, [[I m, .ro false (rows ds)]]⟩ := fun X => obj_keep a0
            simp only [walkS, wl, rgets, retv, argsEnv, ev, cst, cst1, cstL, AEnv.get, AEnv.trim, envput, qstep, abin, aun, evs, evo, deref, qload, target, if_true, if_false, Nat.reduceEqDiff, reduceIte, Nat.reduceAdd, AV.cells, AV.isTuple, setMany, alen, aiaddr, afill, Nat.reduceLeDiff, Nat.reduceMul, Nat.reduceLT, afillE, List.replicate, Int.reduceBNe, Int.reduceBEq, a0, az, hw, List.contains_cons, List.contains_nil, Nat.reduceBEq, Bool.or_true, Bool.true_or, Bool.or_false, ite_self, true_and]
            refine ⟨?_, ?_⟩
            · refine call_new (clone57_new (b := false) hne hlen) (hcar _) ?_
              rw [rows_length]
              simp only [walkS, wl, rgets, retv, argsEnv, ev, cst, cst1, cstL, AEnv.get, AEnv.trim, envput, qstep, abin, aun, evs, evo, deref, qload, target, if_true, if_false, Nat.reduceEqDiff, reduceIte, Nat.reduceAdd, AV.cells, AV.isTuple, setMany, alen, aiaddr, afill, Nat.reduceLeDiff, Nat.reduceMul, Nat.reduceLT, afillE, List.replicate, a0, az, hw, List.contains_cons, List.contains_nil, Nat.reduceBEq, Bool.or_true, Bool.true_or, Bool.or_false, ite_self, true_and]
              refine ⟨?_, ?_⟩
              · refine (Delete_at hi hlen AHeap.obj_push_eq).mono fun x H2 ⟨x1, x2, x3, x4⟩ => ?_
                subst x3
                have c0 : ∀ X, AHeap.obj (H2 ++ X) 0 = some ⟨24, 2, [[I m, .ro false (rows ds)]]⟩ := fun X => obj_keep (by rw [x2 _ (by omega), az])
                have c0' := c0 []
                rw [List.append_nil] at c0'
                simp only [walkS, wl, rgets, retv, argsEnv, ev, cst, cst1, cstL, AEnv.get, AEnv.trim, envput, qstep, abin, aun, evs, evo, deref, qload, target, if_true, if_false, Nat.reduceEqDiff, reduceIte, Nat.reduceAdd, AV.cells, AV.isTuple, setMany, alen, aiaddr, afill, Nat.reduceLeDiff, Nat.reduceMul, Nat.reduceLT, afillE, List.replicate, c0, c0', hw, List.contains_cons, List.contains_nil, Nat.reduceBEq, Bool.or_true, Bool.true_or, Bool.or_false, ite_self, true_and]
                simp only [List.length_append, List.length_cons, List.length_nil] at x1
                refine storeR rfl rfl AHeap.obj_push_eq rfl ⟨rfl, rfl, rfl, by simp⟩ fun H5 v1 v2 v3 => ?_
                simp only [AV.cells, setMany, List.set_cons_zero, List.set_cons_succ, Nat.zero_add, Nat.reduceAdd] at v2
                simp only [walkS, wl, rgets, retv, argsEnv, ev, cst, cst1, cstL, AEnv.get, AEnv.trim, envput, qstep, abin, aun, evs, evo, deref, qload, target, if_true, if_false, Nat.reduceEqDiff, reduceIte, Nat.reduceAdd, AV.cells, AV.isTuple, setMany, alen, aiaddr, afill, Nat.reduceLeDiff, Nat.reduceMul, Nat.reduceLT, afillE, List.replicate]
                exact spared_mid ⟨hg, hl⟩ hv hm hi his (by rw [v3 _ (by omega)]; exact c0 _) v2 (by rw [v3 _ (by omega), AHeap.obj_push_lt (by omega)]; exact x4) out_bool
              · refine (Delete_at hi hlen ((obj_app_add (k := 0)).trans rfl)).mono fun x H2 ⟨x1, x2, x3, x4⟩ => ?_
                subst x3
                have c0 : AHeap.obj H2 0 = some ⟨24, 2, [[I m, .ro false (rows ds)]]⟩ := by rw [x2 _ (by omega), az]
                simp only [walkS, wl, rgets, retv, argsEnv, ev, cst, cst1, cstL, AEnv.get, AEnv.trim, envput, qstep, abin, aun, evs, evo, deref, qload, target, if_true, if_false, Nat.reduceEqDiff, reduceIte, Nat.reduceAdd, AV.cells, AV.isTuple, setMany, alen, aiaddr, afill, Nat.reduceLeDiff, Nat.reduceMul, Nat.reduceLT, afillE, List.replicate, c0, hw, List.contains_cons, List.contains_nil, Nat.reduceBEq, Bool.or_true, Bool.true_or, Bool.or_false, ite_self, true_and]
                simp only [List.length_append, List.length_cons, List.length_nil] at x1
                refine storeR rfl rfl ((x2 _ (by omega)).trans obj_app_add) rfl ⟨rfl, rfl, rfl, by simp⟩ fun H5 v1 v2 v3 => ?_
                simp only [AV.cells, setMany, List.set_cons_zero, List.set_cons_succ, Nat.zero_add, Nat.reduceAdd] at v2
                simp only [walkS, wl, rgets, retv, argsEnv, ev, cst, cst1, cstL, AEnv.get, AEnv.trim, envput, qstep, abin, aun, evs, evo, deref, qload, target, if_true, if_false, Nat.reduceEqDiff, reduceIte, Nat.reduceAdd, AV.cells, AV.isTuple, setMany, alen, aiaddr, afill, Nat.reduceLeDiff, Nat.reduceMul, Nat.reduceLT, afillE, List.replicate]
                exact spared_mid ⟨hg, hl⟩ hv hm hi his (by rw [v3 _ (by omega)]; exact c0) v2 (by rw [v3 _ (by omega)]; exact x4) out_bool
            · refine call_new (clone57_new (b := false) hne hlen) (hcar _) ?_
              rw [rows_length]
              simp only [walkS, wl, rgets, retv, argsEnv, ev, cst, cst1, cstL, AEnv.get, AEnv.trim, envput, qstep, abin, aun, evs, evo, deref, qload, target, if_true, if_false, Nat.reduceEqDiff, reduceIte, Nat.reduceAdd, AV.cells, AV.isTuple, setMany, alen, aiaddr, afill, Nat.reduceLeDiff, Nat.reduceMul, Nat.reduceLT, afillE, List.replicate, a0, az, hw, List.contains_cons, List.contains_nil, Nat.reduceBEq, Bool.or_true, Bool.true_or, Bool.or_false, ite_self, true_and]
              refine (Delete_at hi hlen (obj_app_add.trans rfl)).mono fun x H2 ⟨x1, x2, x3, x4⟩ => ?_
              subst x3
              have c0 : AHeap.obj H2 0 = some ⟨24, 2, [[I m, .ro false (rows ds)]]⟩ := by rw [x2 _ (by omega), az]
              simp only [walkS, wl, rgets, retv, argsEnv, ev, cst, cst1, cstL, AEnv.get, AEnv.trim, envput, qstep, abin, aun, evs, evo, deref, qload, target, if_true, if_false, Nat.reduceEqDiff, reduceIte, Nat.reduceAdd, AV.cells, AV.isTuple, setMany, alen, aiaddr, afill, Nat.reduceLeDiff, Nat.reduceMul, Nat.reduceLT, afillE, List.replicate, c0, hw, List.contains_cons, List.contains_nil, Nat.reduceBEq, Bool.or_true, Bool.true_or, Bool.or_false, ite_self, true_and]
              simp only [List.length_append, List.length_cons, List.length_nil] at x1
              refine storeR rfl rfl ((x2 _ (by omega)).trans ((obj_app_add (k := 0)).trans rfl)) rfl ⟨rfl, rfl, rfl, by simp⟩ fun H5 v1 v2 v3 => ?_
              simp only [AV.cells, setMany, List.set_cons_zero, List.set_cons_succ, Nat.zero_add, Nat.reduceAdd] at v2
              simp only [walkS, wl, rgets, retv, argsEnv, ev, cst, cst1, cstL, AEnv.get, AEnv.trim, envput, qstep, abin, aun, evs, evo, deref, qload, target, if_true, if_false, Nat.reduceEqDiff, reduceIte, Nat.reduceAdd, AV.cells, AV.isTuple, setMany, alen, aiaddr, afill, Nat.reduceLeDiff, Nat.reduceMul, Nat.reduceLT, afillE, List.replicate]
              exact spared_mid ⟨hg, hl⟩ hv hm hi his (by rw [v3 _ (by omega)]; exact c0) v2 (by rw [v3 _ (by omega)]; exact x4) out_bool
      · exact out_bool
    · exact out_bool
  · exact out_bool
end Go.Proofs.Ytepnijjgdhldeaa
