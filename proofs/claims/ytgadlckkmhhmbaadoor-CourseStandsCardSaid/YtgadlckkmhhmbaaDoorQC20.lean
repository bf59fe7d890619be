/- Contracts: Corrected. -/
import Derived.Test.YtgadlckkmhhmbaaDoorQC19
set_option linter.unusedVariables false
set_option linter.unusedSimpArgs false
set_option linter.unusedSectionVars false
namespace Go.Proofs.YtgadlckkmhhmbaaDoor
open Go.Awp Go.Grams
set_option linter.unusedSimpArgs false
set_option linter.unusedVariables false
set_option linter.unusedSectionVars false
set_option maxRecDepth 10000
/-- The indices below k that are picked. -/
def idxs (q : Nat → Bool) (k : Nat) : List Int := ((List.range k).filter q).map fun i : Nat => (i : Int)
theorem idxs_t {q : Nat → Bool} {k : Nat} (h : q k = true) : idxs q (k + 1) = idxs q k ++ [(k : Int)] := by
  simp [idxs, List.range_succ, List.filter_append, h]
theorem idxs_f {q : Nat → Bool} {k : Nat} (h : q k = false) : idxs q (k + 1) = idxs q k := by
  simp [idxs, List.range_succ, List.filter_append, h]
theorem idxs_len {q : Nat → Bool} {k : Nat} : (idxs q k).length ≤ k := by
  have := List.length_filter_le q (List.range k)
  simpa [idxs] using this
def crq (no rate : Int) (ts : List Tst) (l : List Sht) (bf af : Int) (k : Nat) : Bool := match l[k]? with
  | some s => decide (s.scale = no) && (decide (couR no rate ts s bf ≠ couR no rate ts s af) || decide (lookE no rate ts s 0 bf ≠ lookE no rate ts s 0 af))
  | none => false
theorem crq_get {no rate bf af : Int} {ts : List Tst} {l : List Sht} {k : Nat} (h : k < l.length) : crq no rate ts l bf af k = (decide (l[k].scale = no) && (decide (couR no rate ts l[k] bf ≠ couR no rate ts l[k] af) || decide (lookE no rate ts l[k] 0 bf ≠ lookE no rate ts l[k] 0 af))) := by
  unfold crq; rw [List.getElem?_eq_getElem h]
def crE (no rate : Int) (ts : List Tst) (l : List Sht) (bf af : Int) : Int := if chkS no rate ts ≠ 0 then chkS no rate ts else if shsE l ≠ 0 then shsE l else if okDay bf = true ∧ okDay af = true then 0 else 1
def crL (no rate : Int) (ts : List Tst) (l : List Sht) (bf af : Int) : List Int := if crE no rate ts l bf af = 0 then idxs (crq no rate ts l bf af) l.length else []
def crV (no rate : Int) (ts : List Tst) (l : List Sht) (bf af : Int) : AV := .tuple [.ro true (ic (crL no rate ts l bf af)), I (crE no rate ts l bf af)]
theorem cr_bad {no rate bf af e : Int} {ts : List Tst} {l : List Sht} (he : crE no rate ts l bf af = e) (h0 : e ≠ 0) (H : AHeap) : Out H (.tuple [.nilSlice, I e]) (crV no rate ts l bf af) := by
  have : crL no rate ts l bf af = [] := by unfold crL; rw [he, if_neg h0]
  unfold crV; rw [this, he]; exact out_two out_nil out_int
theorem cr_good {no rate bf af : Int} {ts : List Tst} {l : List Sht} (he : crE no rate ts l bf af = 0) {H : AHeap} {lo : Nat} {a : AV} (ha : Acc lo H a 3 1 (ic (idxs (crq no rate ts l bf af) l.length))) : Out H (.tuple [a, I 0]) (crV no rate ts l bf af) := by
  have : crL no rate ts l bf af = idxs (crq no rate ts l bf af) l.length := by unfold crL; rw [if_pos he]
  unfold crV; rw [this, he]; exact out_two (ha.out (ic_simple _)) out_int
theorem sp_ne {a b : Sp} : decide (a ≠ b) = !(a.1 == b.1 && a.2 == b.2) := by
  rw [Bool.eq_iff_iff]
  simp [Prod.ext_iff]
theorem Corrected_ok (no rate : Int) (ts : List Tst) (l : List Sht) (bf af : Int) : PCall Tryd.prog 43 [sc no rate ts, .ro false (srows l), I bf, I af] (crV no rate ts l bf af) := by
  refine PCall.intro text43 (by simp) ?_
  unfold ir43
  simp only [walk, wl, rgets, retv, argsEnv, ev, cst, cst1, cstL, AEnv.get, AEnv.trim, envput, qstep, abin, aun, evs, evo, deref, qload, target, if_true, if_false, Nat.reduceEqDiff, reduceIte, Nat.reduceAdd, AV.cells, AV.isTuple, setMany, alen, aiaddr, afill, Nat.reduceLeDiff, Nat.reduceMul, Nat.reduceLT, afillE, List.replicate]
  refine call_pure (CheckScale_ok no rate ts) (frzL_of' (d := 4) (carL_cons car_sc rfl)) ?_
  simp only [walk, wl, rgets, retv, argsEnv, ev, cst, cst1, cstL, AEnv.get, AEnv.trim, envput, qstep, abin, aun, evs, evo, deref, qload, target, if_true, if_false, Nat.reduceEqDiff, reduceIte, Nat.reduceAdd, AV.cells, AV.isTuple, setMany, alen, aiaddr, afill, Nat.reduceLeDiff, Nat.reduceMul, Nat.reduceLT, afillE, List.replicate]
  refine withBool_intro ?_ ?_ <;> intro h1 <;> simp only [walk, wl, rgets, retv, argsEnv, ev, cst, cst1, cstL, AEnv.get, AEnv.trim, envput, qstep, abin, aun, evs, evo, deref, qload, target, if_true, if_false, Nat.reduceEqDiff, reduceIte, Nat.reduceAdd, AV.cells, AV.isTuple, setMany, alen, aiaddr, afill, Nat.reduceLeDiff, Nat.reduceMul, Nat.reduceLT, afillE, List.replicate]
  · have h1' : chkS no rate ts ≠ 0 := by simpa using h1
    exact cr_bad (by unfold crE; rw [if_pos h1']) h1' _
  · have h1' : chkS no rate ts = 0 := by simpa using h1
    refine call_pure (sheets_ok l) (frzL_of' (d := 4) (carL_cons car_srows rfl)) ?_
    simp only [walk, wl, rgets, retv, argsEnv, ev, cst, cst1, cstL, AEnv.get, AEnv.trim, envput, qstep, abin, aun, evs, evo, deref, qload, target, if_true, if_false, Nat.reduceEqDiff, reduceIte, Nat.reduceAdd, AV.cells, AV.isTuple, setMany, alen, aiaddr, afill, Nat.reduceLeDiff, Nat.reduceMul, Nat.reduceLT, afillE, List.replicate]
    refine withBool_intro ?_ ?_ <;> intro h2 <;> simp only [walk, wl, rgets, retv, argsEnv, ev, cst, cst1, cstL, AEnv.get, AEnv.trim, envput, qstep, abin, aun, evs, evo, deref, qload, target, if_true, if_false, Nat.reduceEqDiff, reduceIte, Nat.reduceAdd, AV.cells, AV.isTuple, setMany, alen, aiaddr, afill, Nat.reduceLeDiff, Nat.reduceMul, Nat.reduceLT, afillE, List.replicate]
    · have h2' : shsE l ≠ 0 := by simpa using h2
      exact cr_bad (by unfold crE; rw [if_neg (by simp [h1']), if_pos h2']) h2' _
    · have h2' : shsE l = 0 := by simpa using h2
      have bad : ¬ (okDay bf = true ∧ okDay af = true) → crE no rate ts l bf af = 1 := fun h => by unfold crE; rw [if_neg (by simp [h1']), if_neg (by simp [h2']), if_neg h]
      have hl : l.length ≤ 256 := by
        unfold shsE at h2'; split at h2'
        · cases h2'
        · omega
      refine call_pure (day_ok bf) (frzL_of' (d := 1) rfl) ?_
      simp only [walk, wl, rgets, retv, argsEnv, ev, cst, cst1, cstL, AEnv.get, AEnv.trim, envput, qstep, abin, aun, evs, evo, deref, qload, target, if_true, if_false, Nat.reduceEqDiff, reduceIte, Nat.reduceAdd, AV.cells, AV.isTuple, setMany, alen, aiaddr, afill, Nat.reduceLeDiff, Nat.reduceMul, Nat.reduceLT, afillE, List.replicate]
      refine withGuard_intro ?_ ?_ <;> intro h3 <;> simp only [walk, wl, rgets, retv, argsEnv, ev, cst, cst1, cstL, AEnv.get, AEnv.trim, envput, qstep, abin, aun, evs, evo, deref, qload, target, if_true, if_false, Nat.reduceEqDiff, reduceIte, Nat.reduceAdd, AV.cells, AV.isTuple, setMany, alen, aiaddr, afill, Nat.reduceLeDiff, Nat.reduceMul, Nat.reduceLT, afillE, List.replicate, h3]
      · refine call_pure (day_ok af) (frzL_of' (d := 1) rfl) ?_
        simp only [walk, wl, rgets, retv, argsEnv, ev, cst, cst1, cstL, AEnv.get, AEnv.trim, envput, qstep, abin, aun, evs, evo, deref, qload, target, if_true, if_false, Nat.reduceEqDiff, reduceIte, Nat.reduceAdd, AV.cells, AV.isTuple, setMany, alen, aiaddr, afill, Nat.reduceLeDiff, Nat.reduceMul, Nat.reduceLT, afillE, List.replicate]
        refine withBool_intro ?_ ?_ <;> intro h4 <;> simp only [walk, wl, rgets, retv, argsEnv, ev, cst, cst1, cstL, AEnv.get, AEnv.trim, envput, qstep, abin, aun, evs, evo, deref, qload, target, if_true, if_false, Nat.reduceEqDiff, reduceIte, Nat.reduceAdd, AV.cells, AV.isTuple, setMany, alen, aiaddr, afill, Nat.reduceLeDiff, Nat.reduceMul, Nat.reduceLT, afillE, List.replicate, srows_length]
        · exact cr_bad (bad (by simp at h4; simp [h4])) (by decide) _
        · have hE : crE no rate ts l bf af = 0 := by unfold crE; rw [if_neg (by simp [h1']), if_neg (by simp [h2']), if_pos ⟨by simpa using h3, by simpa using h4⟩]
          refine awp_loop (σ := Nat × AV) (fun s => [(2, I bf), (3, I af), (4, .ptr 0 1 0 0), (12, s.2), (37, .ro false (srows l)), (38, I l.length), (39, I s.1)]) (fun s H => 1 ≤ H.length ∧ AHeap.obj H 0 = some ⟨24, 3, [[I no, I rate, .ro false (trows ts)]]⟩ ∧ Acc 1 H s.2 3 1 (ic (idxs (crq no rate ts l bf af) s.1))) (fun s => s.1 ≤ l.length) (fun s => l.length - s.1) (0, .nilSlice) (Nat.zero_le _) rfl ⟨by simp, rfl, .inl ⟨rfl, rfl⟩⟩ ?_
          rintro ⟨k, a⟩ H hk ⟨hH, o0, hacc⟩
          simp only at hk hacc
          simp only [walkS, wl, rgets, retv, argsEnv, ev, cst, cst1, cstL, AEnv.get, AEnv.trim, envput, qstep, abin, aun, evs, evo, deref, qload, target, if_true, if_false, Nat.reduceEqDiff, reduceIte, Nat.reduceAdd, AV.cells, AV.isTuple, setMany, alen, aiaddr, afill, Nat.reduceLeDiff, Nat.reduceMul, Nat.reduceLT, afillE, List.replicate]
          refine withBool_intro ?_ ?_ <;> intro hb <;> simp only [walkS, wl, rgets, retv, argsEnv, ev, cst, cst1, cstL, AEnv.get, AEnv.trim, envput, qstep, abin, aun, evs, evo, deref, qload, target, if_true, if_false, Nat.reduceEqDiff, reduceIte, Nat.reduceAdd, AV.cells, AV.isTuple, setMany, alen, aiaddr, afill, Nat.reduceLeDiff, Nat.reduceMul, Nat.reduceLT, afillE, List.replicate]
          · have hlt : k < l.length := by simpa using hb
            have w1 := w_succ (k := k) (by omega)
            have hq := crq_get (no := no) (rate := rate) (bf := bf) (af := af) (ts := ts) hlt
            simp only [walkS, wl, rgets, retv, argsEnv, ev, cst, cst1, cstL, AEnv.get, AEnv.trim, envput, qstep, abin, aun, evs, evo, deref, qload, target, if_true, if_false, Nat.reduceEqDiff, reduceIte, Nat.reduceAdd, AV.cells, AV.isTuple, setMany, alen, aiaddr, afill, Nat.reduceLeDiff, Nat.reduceMul, Nat.reduceLT, afillE, List.replicate, srows_get hlt]
            refine storeR rfl rfl AHeap.obj_push_eq rfl ⟨rfl, rfl, rfl, by simp⟩ fun H1 y1 y2 y3 => ?_
            simp only [AV.cells, setMany, List.set_cons_zero, List.set_cons_succ] at y2
            simp only [List.length_append, List.length_cons, List.length_nil] at y1
            have p0 := (y3 0 (by omega)).trans (obj_keep o0)
            have hacc1 : Acc 1 H1 a 3 1 (ic (idxs (crq no rate ts l bf af) k)) := hacc.keep fun i h1 h2 => by rw [y3 i (by omega), AHeap.obj_push_lt h2]
            simp only [walkS, wl, rgets, retv, argsEnv, ev, cst, cst1, cstL, AEnv.get, AEnv.trim, envput, qstep, abin, aun, evs, evo, deref, qload, target, if_true, if_false, Nat.reduceEqDiff, reduceIte, Nat.reduceAdd, AV.cells, AV.isTuple, setMany, alen, aiaddr, afill, Nat.reduceLeDiff, Nat.reduceMul, Nat.reduceLT, afillE, List.replicate, y2, p0]
            refine withBool_intro ?_ ?_ <;> intro g1 <;> simp only [walkS, wl, rgets, retv, argsEnv, ev, cst, cst1, cstL, AEnv.get, AEnv.trim, envput, qstep, abin, aun, evs, evo, deref, qload, target, if_true, if_false, Nat.reduceEqDiff, reduceIte, Nat.reduceAdd, AV.cells, AV.isTuple, setMany, alen, aiaddr, afill, Nat.reduceLeDiff, Nat.reduceMul, Nat.reduceLT, afillE, List.replicate, w1]
            · refine loop_end (k + 1, a) hlt (by simp only; omega) rfl ⟨by omega, p0, ?_⟩
              rw [idxs_f (by rw [hq]; simp at g1; simp [g1])]; exact hacc1
            · have hsc : l[k].scale = no := by simpa using g1
              simp only [walkS, wl, rgets, retv, argsEnv, ev, cst, cst1, cstL, AEnv.get, AEnv.trim, envput, qstep, abin, aun, evs, evo, deref, qload, target, if_true, if_false, Nat.reduceEqDiff, reduceIte, Nat.reduceAdd, AV.cells, AV.isTuple, setMany, alen, aiaddr, afill, Nat.reduceLeDiff, Nat.reduceMul, Nat.reduceLT, afillE, List.replicate, y2, p0]
              refine call_pure (Course_ok no rate ts l[k] bf) (frzL_of' (d := 4) (carL_cons car_sc (carL_cons car_sh rfl))) ?_
              simp only [walkS, wl, rgets, retv, argsEnv, ev, cst, cst1, cstL, AEnv.get, AEnv.trim, envput, qstep, abin, aun, evs, evo, deref, qload, target, if_true, if_false, Nat.reduceEqDiff, reduceIte, Nat.reduceAdd, AV.cells, AV.isTuple, setMany, alen, aiaddr, afill, Nat.reduceLeDiff, Nat.reduceMul, Nat.reduceLT, afillE, List.replicate]
              refine storeR rfl rfl AHeap.obj_push_eq rfl ⟨rfl, rfl, rfl, by simp⟩ fun H2 z1 z2 z3 => ?_
              simp only [AV.cells, setMany, List.set_cons_zero, List.set_cons_succ] at z2
              simp only [List.length_append, List.length_cons, List.length_nil] at z1
              have p0 := (z3 0 (by omega)).trans (obj_keep p0)
              have p1 := (z3 H.length (by omega)).trans (obj_keep y2)
              have hacc2 : Acc 1 H2 a 3 1 (ic (idxs (crq no rate ts l bf af) k)) := hacc1.keep fun i h1 h2 => by rw [z3 i (by omega), AHeap.obj_push_lt h2]
              simp only [walkS, wl, rgets, retv, argsEnv, ev, cst, cst1, cstL, AEnv.get, AEnv.trim, envput, qstep, abin, aun, evs, evo, deref, qload, target, if_true, if_false, Nat.reduceEqDiff, reduceIte, Nat.reduceAdd, AV.cells, AV.isTuple, setMany, alen, aiaddr, afill, Nat.reduceLeDiff, Nat.reduceMul, Nat.reduceLT, afillE, List.replicate, p0, p1]
              refine call_pure (Course_ok no rate ts l[k] af) (frzL_of' (d := 4) (carL_cons car_sc (carL_cons car_sh rfl))) ?_
              simp only [walkS, wl, rgets, retv, argsEnv, ev, cst, cst1, cstL, AEnv.get, AEnv.trim, envput, qstep, abin, aun, evs, evo, deref, qload, target, if_true, if_false, Nat.reduceEqDiff, reduceIte, Nat.reduceAdd, AV.cells, AV.isTuple, setMany, alen, aiaddr, afill, Nat.reduceLeDiff, Nat.reduceMul, Nat.reduceLT, afillE, List.replicate]
              refine storeR rfl rfl AHeap.obj_push_eq rfl ⟨rfl, rfl, rfl, by simp⟩ fun H3 v1 v2 v3 => ?_
              simp only [AV.cells, setMany, List.set_cons_zero, List.set_cons_succ] at v2
              simp only [List.length_append, List.length_cons, List.length_nil] at v1
              have p0 := (v3 0 (by omega)).trans (obj_keep p0)
              have p2 := (v3 H1.length (by omega)).trans (obj_keep z2)
              have hacc3 : Acc 1 H3 a 3 1 (ic (idxs (crq no rate ts l bf af) k)) := hacc2.keep fun i h1 h2 => by rw [v3 i (by omega), AHeap.obj_push_lt h2]
              simp only [walkS, wl, rgets, retv, argsEnv, ev, cst, cst1, cstL, AEnv.get, AEnv.trim, envput, qstep, abin, aun, evs, evo, deref, qload, target, if_true, if_false, Nat.reduceEqDiff, reduceIte, Nat.reduceAdd, AV.cells, AV.isTuple, setMany, alen, aiaddr, afill, Nat.reduceLeDiff, Nat.reduceMul, Nat.reduceLT, afillE, List.replicate, p2, v2, aeqO, Nat.reduceAdd, Bool.and_true, ← sp_ne]
              refine withGuard_intro ?_ ?_ <;> intro g2 <;> simp only [walkS, wl, rgets, retv, argsEnv, ev, cst, cst1, cstL, AEnv.get, AEnv.trim, envput, qstep, abin, aun, evs, evo, deref, qload, target, if_true, if_false, Nat.reduceEqDiff, reduceIte, Nat.reduceAdd, AV.cells, AV.isTuple, setMany, alen, aiaddr, afill, Nat.reduceLeDiff, Nat.reduceMul, Nat.reduceLT, afillE, List.replicate, g2]
              · refine withBool_intro ?_ ?_ <;> intro g3 <;> simp only [walkS, wl, rgets, retv, argsEnv, ev, cst, cst1, cstL, AEnv.get, AEnv.trim, envput, qstep, abin, aun, evs, evo, deref, qload, target, if_true, if_false, Nat.reduceEqDiff, reduceIte, Nat.reduceAdd, AV.cells, AV.isTuple, setMany, alen, aiaddr, afill, Nat.reduceLeDiff, Nat.reduceMul, Nat.reduceLT, afillE, List.replicate, w1]
                · refine acc_append (lo := 1) (by simp) (hacc3.push _) rfl rfl AHeap.obj_push_eq (by rw [ic_length]; have := idxs_len (q := crq no rate ts l bf af) (k := k); omega) fun a' H4 x1 x2 x3 => ?_
                  simp only [List.length_append, List.length_cons, List.length_nil] at x1
                  simp only [walkS, wl, rgets, retv, argsEnv, ev, cst, cst1, cstL, AEnv.get, AEnv.trim, envput, qstep, abin, aun, evs, evo, deref, qload, target, if_true, if_false, Nat.reduceEqDiff, reduceIte, Nat.reduceAdd, AV.cells, AV.isTuple, setMany, alen, aiaddr, afill, Nat.reduceLeDiff, Nat.reduceMul, Nat.reduceLT, afillE, List.replicate, w1]
                  refine loop_end (k + 1, a') hlt (by simp only; omega) rfl ⟨by omega, by rw [x3 0 (by omega), AHeap.obj_push_lt (by omega)]; exact p0, ?_⟩
                  rw [idxs_t (by rw [hq]; simp at g3; simp [hsc, g3]), ic_snoc]; exact x2
                · refine loop_end (k + 1, a) hlt (by simp only; omega) rfl ⟨by omega, p0, ?_⟩
                  rw [idxs_f (by rw [hq, g2]; simp at g3; simp [g3])]; exact hacc3
              · refine acc_append (lo := 1) (by simp) (hacc3.push _) rfl rfl AHeap.obj_push_eq (by rw [ic_length]; have := idxs_len (q := crq no rate ts l bf af) (k := k); omega) fun a' H4 x1 x2 x3 => ?_
                simp only [List.length_append, List.length_cons, List.length_nil] at x1
                simp only [walkS, wl, rgets, retv, argsEnv, ev, cst, cst1, cstL, AEnv.get, AEnv.trim, envput, qstep, abin, aun, evs, evo, deref, qload, target, if_true, if_false, Nat.reduceEqDiff, reduceIte, Nat.reduceAdd, AV.cells, AV.isTuple, setMany, alen, aiaddr, afill, Nat.reduceLeDiff, Nat.reduceMul, Nat.reduceLT, afillE, List.replicate, w1]
                refine loop_end (k + 1, a') hlt (by simp only; omega) rfl ⟨by omega, by rw [x3 0 (by omega), AHeap.obj_push_lt (by omega)]; exact p0, ?_⟩
                rw [idxs_t (by rw [hq, g2]; simp [hsc]), ic_snoc]; exact x2
          · have hk' : k = l.length := by simp at hb; omega
            subst hk'
            exact cr_good hE hacc
      · exact cr_bad (bad (by simp at h3; simp [h3])) (by decide) _
end Go.Proofs.YtgadlckkmhhmbaaDoor
