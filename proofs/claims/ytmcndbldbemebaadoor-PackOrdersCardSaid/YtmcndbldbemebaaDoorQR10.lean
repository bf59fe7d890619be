/- Contracts of the specification: Less, Joined. -/
import Derived.Test.YtmcndbldbemebaaDoorQR5
import Derived.Test.YtmcndbldbemebaaDoorQC15
set_option linter.unusedVariables false
set_option linter.unusedSimpArgs false
set_option linter.unusedSectionVars false
namespace Go.Proofs.YtmcndbldbemebaaDoor
open Go.Awp Go.Snow
set_option linter.unusedSimpArgs false
set_option linter.unusedVariables false
set_option linter.unusedSectionVars false
set_option maxRecDepth 10000
theorem rLess_ok (p q : List Lay) : PCall Tryd.prog 54 [.agg [.ro false (rows p)], .agg [.ro false (rows q)]] (.tuple [.bool (lessV p q).1, I (lessV p q).2]) := by
  refine PCall.intro text54 (by simp) ?_
  unfold ir54
  simp only [walkS, wl, rgets, retv, argsEnv, ev, cst, cst1, cstL, AEnv.get, AEnv.trim, envput, qstep, abin, aun, evs, evo, deref, qload, target, if_true, if_false, Nat.reduceEqDiff, reduceIte, Nat.reduceAdd, AV.cells, AV.isTuple, setMany, alen, aiaddr, afill, Nat.reduceLeDiff, Nat.reduceMul, Nat.reduceLT, afillE, List.replicate]
  refine call_pure (rCheck_ok p) (frzL_of' (d := 4) car_pkL) ?_
  simp only [walkS, wl, rgets, retv, argsEnv, ev, cst, cst1, cstL, AEnv.get, AEnv.trim, envput, qstep, abin, aun, evs, evo, deref, qload, target, if_true, if_false, Nat.reduceEqDiff, reduceIte, Nat.reduceAdd, AV.cells, AV.isTuple, setMany, alen, aiaddr, afill, Nat.reduceLeDiff, Nat.reduceMul, Nat.reduceLT, afillE, List.replicate]
  have bad : (okP p && okP q) = false → lessV p q = (false, 20) := fun h => by simp only [lessV, h, Bool.false_eq_true, if_false]
  cases h1 : okP p with
  | false =>
    rw [chk_no' h1]
    simp only [walkS, wl, rgets, retv, argsEnv, ev, cst, cst1, cstL, AEnv.get, AEnv.trim, envput, qstep, abin, aun, evs, evo, deref, qload, target, if_true, if_false, Nat.reduceEqDiff, reduceIte, Nat.reduceAdd, AV.cells, AV.isTuple, setMany, alen, aiaddr, afill, Nat.reduceLeDiff, Nat.reduceMul, Nat.reduceLT, afillE, List.replicate, Int.reduceBNe]
    rw [bad (by simp [h1])]; exact out_two out_bool out_int
  | true =>
    rw [chk_yes' h1]
    simp only [walkS, wl, rgets, retv, argsEnv, ev, cst, cst1, cstL, AEnv.get, AEnv.trim, envput, qstep, abin, aun, evs, evo, deref, qload, target, if_true, if_false, Nat.reduceEqDiff, reduceIte, Nat.reduceAdd, AV.cells, AV.isTuple, setMany, alen, aiaddr, afill, Nat.reduceLeDiff, Nat.reduceMul, Nat.reduceLT, afillE, List.replicate, bne_self_eq_false]
    refine call_pure (rCheck_ok q) (frzL_of' (d := 4) car_pkL) ?_
    simp only [walkS, wl, rgets, retv, argsEnv, ev, cst, cst1, cstL, AEnv.get, AEnv.trim, envput, qstep, abin, aun, evs, evo, deref, qload, target, if_true, if_false, Nat.reduceEqDiff, reduceIte, Nat.reduceAdd, AV.cells, AV.isTuple, setMany, alen, aiaddr, afill, Nat.reduceLeDiff, Nat.reduceMul, Nat.reduceLT, afillE, List.replicate]
    cases h2 : okP q with
    | false =>
      rw [chk_no' h2]
      simp only [walkS, wl, rgets, retv, argsEnv, ev, cst, cst1, cstL, AEnv.get, AEnv.trim, envput, qstep, abin, aun, evs, evo, deref, qload, target, if_true, if_false, Nat.reduceEqDiff, reduceIte, Nat.reduceAdd, AV.cells, AV.isTuple, setMany, alen, aiaddr, afill, Nat.reduceLeDiff, Nat.reduceMul, Nat.reduceLT, afillE, List.replicate, Int.reduceBNe]
      rw [bad (by simp [h1, h2])]; exact out_two out_bool out_int
    | true =>
      rw [chk_yes' h2]
      have hp := (okP_iff.1 h1).1
      have hq := (okP_iff.1 h2).1
      have e1 : IntKind.i64.wrap ((q.length : Int) - p.length) = (q.length : Int) - p.length := wrap_id (by omega) (by omega)
      simp only [walkS, wl, rgets, retv, argsEnv, ev, cst, cst1, cstL, AEnv.get, AEnv.trim, envput, qstep, abin, aun, evs, evo, deref, qload, target, if_true, if_false, Nat.reduceEqDiff, reduceIte, Nat.reduceAdd, AV.cells, AV.isTuple, setMany, alen, aiaddr, afill, Nat.reduceLeDiff, Nat.reduceMul, Nat.reduceLT, afillE, List.replicate, bne_self_eq_false, rows_length, e1]
      refine withBool_intro ?_ ?_ <;> intro h3 <;> simp only [walkS, wl, rgets, retv, argsEnv, ev, cst, cst1, cstL, AEnv.get, AEnv.trim, envput, qstep, abin, aun, evs, evo, deref, qload, target, if_true, if_false, Nat.reduceEqDiff, reduceIte, Nat.reduceAdd, AV.cells, AV.isTuple, setMany, alen, aiaddr, afill, Nat.reduceLeDiff, Nat.reduceMul, Nat.reduceLT, afillE, List.replicate, rows_length]
      · have : ¬ p.length ≤ q.length := by have := of_decide_eq_true h3; omega
        simp only [lessV, lessB, h1, h2, this, decide_false, Bool.false_and, Bool.and_self, if_true]; exact out_two out_bool out_int
      · have hle : p.length ≤ q.length := by have := of_decide_eq_false h3; omega
        have hd : (q.drop (q.length - p.length)).length = p.length := by simp; omega
        have hv : lessV p q = (within p (q.drop (q.length - p.length)), 0) := by simp only [lessV, lessB, h1, h2, hle, decide_true, Bool.true_and, Bool.and_self, if_true]
        rw [hv]
        refine awp_loop (σ := Nat) (fun k => [(2, .ptr 0 1 0 0), (3, .ptr 1 1 0 0), (6, I ((q.length : Int) - p.length)), (7, I k)]) (fun _ H => AHeap.obj H 0 = some ⟨24, 1, [[.ro false (rows p)]]⟩ ∧ AHeap.obj H 1 = some ⟨24, 1, [[.ro false (rows q)]]⟩)
          (fun k => k ≤ p.length ∧ ∀ j (h : j < p.length), j < k → leL p[j] ((q.drop (q.length - p.length))[j]'(by omega)) = true) (fun k => p.length - k) 0 ⟨Nat.zero_le _, fun j _ hj => absurd hj (Nat.not_lt_zero _)⟩ rfl ⟨rfl, rfl⟩ ?_
        rintro k H ⟨hk, hall⟩ ⟨o0, o1⟩
        have hH := AHeap.obj_lt o1
        simp only [walkS, wl, rgets, retv, argsEnv, ev, cst, cst1, cstL, AEnv.get, AEnv.trim, envput, qstep, abin, aun, evs, evo, deref, qload, target, if_true, if_false, Nat.reduceEqDiff, reduceIte, Nat.reduceAdd, AV.cells, AV.isTuple, setMany, alen, aiaddr, afill, Nat.reduceLeDiff, Nat.reduceMul, Nat.reduceLT, afillE, List.replicate, o0, rows_length]
        refine withBool_intro ?_ ?_ <;> intro hb <;> simp only [walkS, wl, rgets, retv, argsEnv, ev, cst, cst1, cstL, AEnv.get, AEnv.trim, envput, qstep, abin, aun, evs, evo, deref, qload, target, if_true, if_false, Nat.reduceEqDiff, reduceIte, Nat.reduceAdd, AV.cells, AV.isTuple, setMany, alen, aiaddr, afill, Nat.reduceLeDiff, Nat.reduceMul, Nat.reduceLT, afillE, List.replicate]
        · have hlt : k < p.length := by simpa using hb
          have e2 : IntKind.i64.wrap ((q.length : Int) - p.length + (k : Int)) = ((k + (q.length - p.length) : Nat) : Int) := by rw [wrap_id (by omega) (by omega)]; omega
          have hlt2 : k + (q.length - p.length) < q.length := by omega
          have e5 : IntKind.i64.wrap ((k : Int) + 1) = ((k + 1 : Nat) : Int) := by rw [wrap_id (by omega) (by omega)]; simp
          have hget : (q.drop (q.length - p.length))[k]'(by omega) = q[k + (q.length - p.length)] := by
            rw [List.getElem_drop]; congr 1; omega
          simp only [walkS, wl, rgets, retv, argsEnv, ev, cst, cst1, cstL, AEnv.get, AEnv.trim, envput, qstep, abin, aun, evs, evo, deref, qload, target, if_true, if_false, Nat.reduceEqDiff, reduceIte, Nat.reduceAdd, AV.cells, AV.isTuple, setMany, alen, aiaddr, afill, Nat.reduceLeDiff, Nat.reduceMul, Nat.reduceLT, afillE, List.replicate, o0, rows_get hlt]
          refine storeR rfl rfl AHeap.obj_push_eq rfl ⟨rfl, rfl, rfl, by simp⟩ fun H1 y1 y2 y3 => ?_
          simp only [AV.cells, setMany, List.set_cons_zero, List.set_cons_succ] at y2
          simp only [List.length_append, List.length_cons, List.length_nil] at y1
          have o0' : AHeap.obj H1 0 = some ⟨24, 1, [[.ro false (rows p)]]⟩ := by rw [y3 0 (by omega), AHeap.obj_push_lt (by omega)]; exact o0
          have o1' : AHeap.obj H1 1 = some ⟨24, 1, [[.ro false (rows q)]]⟩ := by rw [y3 1 (by omega), AHeap.obj_push_lt (by omega)]; exact o1
          simp only [walkS, wl, rgets, retv, argsEnv, ev, cst, cst1, cstL, AEnv.get, AEnv.trim, envput, qstep, abin, aun, evs, evo, deref, qload, target, if_true, if_false, Nat.reduceEqDiff, reduceIte, Nat.reduceAdd, AV.cells, AV.isTuple, setMany, alen, aiaddr, afill, Nat.reduceLeDiff, Nat.reduceMul, Nat.reduceLT, afillE, List.replicate, o1', e2, rows_get hlt2]
          refine storeR rfl rfl AHeap.obj_push_eq rfl ⟨rfl, rfl, rfl, by simp⟩ fun H2 z1 z2 z3 => ?_
          simp only [AV.cells, setMany, List.set_cons_zero, List.set_cons_succ] at z2
          simp only [List.length_append, List.length_cons, List.length_nil] at z1
          have o0'' : AHeap.obj H2 0 = some ⟨24, 1, [[.ro false (rows p)]]⟩ := by rw [z3 0 (by omega), AHeap.obj_push_lt (by omega)]; exact o0'
          have o1'' : AHeap.obj H2 1 = some ⟨24, 1, [[.ro false (rows q)]]⟩ := by rw [z3 1 (by omega), AHeap.obj_push_lt (by omega)]; exact o1'
          have y2' : AHeap.obj H2 H.length = some ⟨43, 3, [[I p[k].1, I p[k].2.1, I p[k].2.2]]⟩ := by rw [z3 _ (by omega), AHeap.obj_push_lt (by omega)]; exact y2
          simp only [walkS, wl, rgets, retv, argsEnv, ev, cst, cst1, cstL, AEnv.get, AEnv.trim, envput, qstep, abin, aun, evs, evo, deref, qload, target, if_true, if_false, Nat.reduceEqDiff, reduceIte, Nat.reduceAdd, AV.cells, AV.isTuple, setMany, alen, aiaddr, afill, Nat.reduceLeDiff, Nat.reduceMul, Nat.reduceLT, afillE, List.replicate, y2', z2]
          have bad2 : ¬ (p[k].1 ≤ q[k + (q.length - p.length)].1 ∧ p[k].2.1 ≤ q[k + (q.length - p.length)].2.1 ∧ p[k].2.2 ≤ q[k + (q.length - p.length)].2.2) → within p (q.drop (q.length - p.length)) = false := fun hb => by
            cases hw : within p (q.drop (q.length - p.length)) with
            | false => rfl
            | true =>
              have := (within_take hd.symm).1 hw k hlt
              rw [hget] at this
              exact absurd (of_decide_eq_true this) hb
          refine withGuard_intro ?_ ?_ <;> intro g1 <;> simp only [walkS, wl, rgets, retv, argsEnv, ev, cst, cst1, cstL, AEnv.get, AEnv.trim, envput, qstep, abin, aun, evs, evo, deref, qload, target, if_true, if_false, Nat.reduceEqDiff, reduceIte, Nat.reduceAdd, AV.cells, AV.isTuple, setMany, alen, aiaddr, afill, Nat.reduceLeDiff, Nat.reduceMul, Nat.reduceLT, afillE, List.replicate, g1, y2', z2]
          · refine withGuard_intro ?_ ?_ <;> intro g2 <;> simp only [walkS, wl, rgets, retv, argsEnv, ev, cst, cst1, cstL, AEnv.get, AEnv.trim, envput, qstep, abin, aun, evs, evo, deref, qload, target, if_true, if_false, Nat.reduceEqDiff, reduceIte, Nat.reduceAdd, AV.cells, AV.isTuple, setMany, alen, aiaddr, afill, Nat.reduceLeDiff, Nat.reduceMul, Nat.reduceLT, afillE, List.replicate, g2, y2', z2]
            · refine withBool_intro ?_ ?_ <;> intro g3 <;> simp only [walkS, wl, rgets, retv, argsEnv, ev, cst, cst1, cstL, AEnv.get, AEnv.trim, envput, qstep, abin, aun, evs, evo, deref, qload, target, if_true, if_false, Nat.reduceEqDiff, reduceIte, Nat.reduceAdd, AV.cells, AV.isTuple, setMany, alen, aiaddr, afill, Nat.reduceLeDiff, Nat.reduceMul, Nat.reduceLT, afillE, List.replicate]
              · rw [bad2 fun h => by have := of_decide_eq_true g3; omega]; exact out_two out_bool out_int
              · rw [e5]
                refine loop_end (k + 1) ⟨hlt, fun j hj hjk => ?_⟩ (by omega) rfl ⟨o0'', o1''⟩
                rcases Nat.lt_or_ge j k with hj2 | hj2
                · exact hall j hj hj2
                · obtain rfl : j = k := by omega
                  rw [hget]
                  simp at g1 g2 g3
                  exact decide_eq_true ⟨g1, g2, g3⟩
            · rw [bad2 fun h => by simp at g2; omega]; exact out_two out_bool out_int
          · rw [bad2 fun h => by simp at g1; omega]; exact out_two out_bool out_int
        · have hk' : k = p.length := by simp at hb; omega
          subst hk'
          rw [(within_take hd.symm).2 fun j hj => hall j hj hj]
          exact out_two out_bool out_int
theorem rjoin_ok {a b : Lay} (ha : Tame a) (hb : Tame b) : PCall Tryd.prog 85 [.agg (dc a), .agg (dc b)] (.agg (dc (join a b))) := by
  obtain ⟨⟨a1, a2⟩, ⟨a3, a4⟩, a5, a6⟩ := ha
  obtain ⟨⟨b1, b2⟩, ⟨b3, b4⟩, b5, b6⟩ := hb
  refine PCall.intro text85 (by simp) ?_
  unfold ir85
  have e1 : IntKind.i64.wrap (a.1 + b.1) = a.1 + b.1 := wrap_id (by omega) (by omega)
  have e2 : IntKind.i64.wrap (a.2.1 + b.2.1) = a.2.1 + b.2.1 := wrap_id (by omega) (by omega)
  have e3 : IntKind.i64.wrap (a.2.2 + b.2.2) = a.2.2 + b.2.2 := wrap_id (by omega) (by omega)
  simp only [walk, wl, rgets, retv, argsEnv, ev, cst, cst1, cstL, AEnv.get, AEnv.trim, envput, qstep, abin, aun, evs, evo, deref, qload, target, if_true, if_false, Nat.reduceEqDiff, reduceIte, Nat.reduceAdd, AV.cells, AV.isTuple, setMany, alen, aiaddr, afill, Nat.reduceLeDiff, Nat.reduceMul, Nat.reduceLT, afillE, List.replicate, dc, e1, e2, e3, amm, amm.go]
  have em : (if a.2.2 + b.2.2 < a.2.1 + b.2.1 then a.2.2 + b.2.2 else a.2.1 + b.2.1) = min (a.2.1 + b.2.1) (a.2.2 + b.2.2) := amin
  rw [em]
  obtain ⟨m, hm⟩ : ∃ m, m = min (a.2.1 + b.2.1) (a.2.2 + b.2.2) := ⟨_, rfl⟩
  rw [← hm]
  have e4 : IntKind.i64.wrap (a.1 + b.1 + m) = a.1 + b.1 + m := wrap_id (by omega) (by omega)
  have e5 : IntKind.i64.wrap (a.2.1 + b.2.1 - m) = a.2.1 + b.2.1 - m := wrap_id (by omega) (by omega)
  have e6 : IntKind.i64.wrap (a.2.2 + b.2.2 - m) = a.2.2 + b.2.2 - m := wrap_id (by omega) (by omega)
  rw [e4, e5, e6]
  have : join a b = (a.1 + b.1 + m, a.2.1 + b.2.1 - m, a.2.2 + b.2.2 - m) := by simp only [join, dry, join0, ← hm]
  rw [this]
  exact out_of (d := 2) rfl
end Go.Proofs.YtmcndbldbemebaaDoor
/- Contracts of the specification: Joined. -/
namespace Go.Proofs.YtmcndbldbemebaaDoor
open Go.Awp Go.Snow
set_option linter.unusedSimpArgs false
set_option linter.unusedVariables false
set_option linter.unusedSectionVars false
set_option maxRecDepth 10000
theorem lo_one (ls : List Lay) : lo ls 1 = 0 := by simp [lo]
theorem rJoined_ok (ls : List Lay) (n : Int) : PCall Tryd.prog 55 [.agg [.ro false (rows ls)], I n] (.tuple [.agg [.ro true (rows (joinedV ls n).1)], I (joinedV ls n).2]) := by
  refine PCall.intro text55 (by simp) ?_
  unfold ir55
  simp only [walkS, wl, rgets, retv, argsEnv, ev, cst, cst1, cstL, AEnv.get, AEnv.trim, envput, qstep, abin, aun, evs, evo, deref, qload, target, if_true, if_false, Nat.reduceEqDiff, reduceIte, Nat.reduceAdd, AV.cells, AV.isTuple, setMany, alen, aiaddr, afill, Nat.reduceLeDiff, Nat.reduceMul, Nat.reduceLT, afillE, List.replicate]
  refine call_pure (rCheck_ok ls) (frzL_of' (d := 4) car_pkL) ?_
  simp only [walkS, wl, rgets, retv, argsEnv, ev, cst, cst1, cstL, AEnv.get, AEnv.trim, envput, qstep, abin, aun, evs, evo, deref, qload, target, if_true, if_false, Nat.reduceEqDiff, reduceIte, Nat.reduceAdd, AV.cells, AV.isTuple, setMany, alen, aiaddr, afill, Nat.reduceLeDiff, Nat.reduceMul, Nat.reduceLT, afillE, List.replicate]
  refine withBool_intro ?_ ?_ <;> intro h <;> simp only [walkS, wl, rgets, retv, argsEnv, ev, cst, cst1, cstL, AEnv.get, AEnv.trim, envput, qstep, abin, aun, evs, evo, deref, qload, target, if_true, if_false, Nat.reduceEqDiff, reduceIte, Nat.reduceAdd, AV.cells, AV.isTuple, setMany, alen, aiaddr, afill, Nat.reduceLeDiff, Nat.reduceMul, Nat.reduceLT, afillE, List.replicate]
  · obtain ⟨h1, h2⟩ := chk_ne (ls := ls) (by simpa using h)
    refine storeR rfl rfl rfl rfl ⟨rfl, rfl, rfl, by simp⟩ fun H1 y1 y2 y3 => ?_
    simp only [AV.cells, setMany, List.set_cons_zero, List.set_cons_succ] at y2
    simp only [walkS, wl, rgets, retv, argsEnv, ev, cst, cst1, cstL, AEnv.get, AEnv.trim, envput, qstep, abin, aun, evs, evo, deref, qload, target, if_true, if_false, Nat.reduceEqDiff, reduceIte, Nat.reduceAdd, AV.cells, AV.isTuple, setMany, alen, aiaddr, afill, Nat.reduceLeDiff, Nat.reduceMul, Nat.reduceLT, afillE, List.replicate, y2]
    simp only [h2, joinedV, h1, Bool.false_eq_true, if_false]; exact out_pk1
  · have h1 := chk_zero (ls := ls) (by simpa using h)
    have hlen := (okP_iff.1 h1).1
    by_cases hn : 1 ≤ n ∧ n ≤ 64
    · have hv : joinedV ls n = (jnF (ls.length - n.toNat) ls, 0) := by simp only [joinedV, h1, hn, if_true, and_self]
      rw [hv]
      refine call_pure (within_t hn) (frzL_of' (d := 4) rfl) ?_
      simp only [walkS, wl, rgets, retv, argsEnv, ev, cst, cst1, cstL, AEnv.get, AEnv.trim, envput, qstep, abin, aun, evs, evo, deref, qload, target, if_true, if_false, Nat.reduceEqDiff, reduceIte, Nat.reduceAdd, AV.cells, AV.isTuple, setMany, alen, aiaddr, afill, Nat.reduceLeDiff, Nat.reduceMul, Nat.reduceLT, afillE, List.replicate]
      refine acc_appendL (lo := 2) (els := []) (by simp) (.inl ⟨rfl, rfl⟩) rfl rfl (asrc_ro (rows_all ls)) (by simp only [rows_length, List.length_nil]; omega) fun a0 H1 y1 y2 y3 => ?_
      rw [List.nil_append] at y2
      simp only [List.length_append, List.length_cons, List.length_nil] at y1
      have o1 : AHeap.obj H1 1 = some ⟨24, 1, [[.nilSlice]]⟩ := by rw [y3 _ (by omega)]; rfl
      simp only [walkS, wl, rgets, retv, argsEnv, ev, cst, cst1, cstL, AEnv.get, AEnv.trim, envput, qstep, abin, aun, evs, evo, deref, qload, target, if_true, if_false, Nat.reduceEqDiff, reduceIte, Nat.reduceAdd, AV.cells, AV.isTuple, setMany, alen, aiaddr, afill, Nat.reduceLeDiff, Nat.reduceMul, Nat.reduceLT, afillE, List.replicate]
      refine awp_loop (σ := List Lay × AV) (fun s => [(1, I n), (4, .ptr 1 1 0 0), (7, s.2)])
        (fun s H => 2 ≤ H.length ∧ AHeap.obj H 1 = some ⟨24, 1, [[.nilSlice]]⟩ ∧ Acc 2 H s.2 43 3 (rows s.1))
        (fun s => Mild s.1 ∧ s.1.length ≤ 64 ∧ jnF (ls.length - n.toNat) ls = jnF (s.1.length - n.toNat) s.1) (fun s => s.1.length) (ls, a0) ⟨okP_mild h1, hlen, rfl⟩ rfl ⟨by omega, o1, y2⟩ ?_
      clear y1 y2 y3 o1
      rintro ⟨cur, b⟩ H ⟨hm, hc64, hj⟩ ⟨hH, o1, hb0⟩
      simp only at hm hc64 hj hb0
      have hbl := hb0.len
      unfold alen at hbl
      rw [rows_length] at hbl
      simp only [walkS, wl, rgets, retv, argsEnv, ev, cst, cst1, cstL, AEnv.get, AEnv.trim, envput, qstep, abin, aun, evs, evo, deref, qload, target, if_true, if_false, Nat.reduceEqDiff, reduceIte, Nat.reduceAdd, AV.cells, AV.isTuple, setMany, alen, aiaddr, afill, Nat.reduceLeDiff, Nat.reduceMul, Nat.reduceLT, afillE, List.replicate, hbl]
      refine withBool_intro ?_ ?_ <;> intro hb <;> simp only [walkS, wl, rgets, retv, argsEnv, ev, cst, cst1, cstL, AEnv.get, AEnv.trim, envput, qstep, abin, aun, evs, evo, deref, qload, target, if_true, if_false, Nat.reduceEqDiff, reduceIte, Nat.reduceAdd, AV.cells, AV.isTuple, setMany, alen, aiaddr, afill, Nat.reduceLeDiff, Nat.reduceMul, Nat.reduceLT, afillE, List.replicate]
      · have hgt : n < cur.length := by simpa using hb
        have hl2 : 2 ≤ cur.length := by omega
        obtain ⟨h, hh, rfl, ho⟩ := hb0.resolve_left (by rintro ⟨e, -⟩; have := congrArg List.length e; rw [rows_length, List.length_nil] at this; omega)
        have hN := rows_length cur
        rw [hN]
        have hhl := AHeap.obj_lt ho
        refine awp_loop (σ := Nat) (fun k => [(1, I n), (4, .ptr 1 1 0 0), (7, .own h cur.length 0 cur.length), (8, I (lo cur k)), (9, I k)]) (fun _ G => G = H) (fun k => 1 ≤ k ∧ k ≤ cur.length - 1) (fun k => cur.length - 1 - k) 1 ⟨Nat.le_refl _, by omega⟩ (by rw [lo_one]; rfl) rfl ?_
        rintro k G ⟨hk0, hk⟩ rfl
        have hlo : lo cur k + 1 < cur.length := by rcases lo_lt (ls := cur) k with h | h <;> omega
        have w1 : IntKind.i64.wrap ((k : Int) + 1) = ((k + 1 : Nat) : Int) := by rw [wrap_id (by omega) (by omega)]; simp
        simp only [walkS, wl, rgets, retv, argsEnv, ev, cst, cst1, cstL, AEnv.get, AEnv.trim, envput, qstep, abin, aun, evs, evo, deref, qload, target, if_true, if_false, Nat.reduceEqDiff, reduceIte, Nat.reduceAdd, AV.cells, AV.isTuple, setMany, alen, aiaddr, afill, Nat.reduceLeDiff, Nat.reduceMul, Nat.reduceLT, afillE, List.replicate, ho, hN, w1]
        refine withBool_intro ?_ ?_ <;> intro hb2 <;> simp only [walkS, wl, rgets, retv, argsEnv, ev, cst, cst1, cstL, AEnv.get, AEnv.trim, envput, qstep, abin, aun, evs, evo, deref, qload, target, if_true, if_false, Nat.reduceEqDiff, reduceIte, Nat.reduceAdd, AV.cells, AV.isTuple, setMany, alen, aiaddr, afill, Nat.reduceLeDiff, Nat.reduceMul, Nat.reduceLT, afillE, List.replicate]
        · have hlt : k + 1 < cur.length := by have := of_decide_eq_true hb2; omega
          have t1 := hm.tame (k := k) (by omega)
          have t2 := hm.tame (k := k + 1) (by omega)
          have t3 := hm.tame (k := lo cur k) (by omega)
          have t4 := hm.tame (k := lo cur k + 1) (by omega)
          obtain ⟨⟨u1, -⟩, u2⟩ := t1
          obtain ⟨⟨u3, -⟩, u4⟩ := t2
          obtain ⟨⟨u5, -⟩, u6⟩ := t3
          obtain ⟨⟨u7, -⟩, u8⟩ := t4
          have i1 : (k : Int) < (cur.length : Int) := by omega
          have i2 : ((k + 1 : Nat) : Int) < (cur.length : Int) := by omega
          have i3 : (lo cur k : Int) < (cur.length : Int) := by omega
          have i4 : ((lo cur k + 1 : Nat) : Int) < (cur.length : Int) := by omega
          have w2 : IntKind.i64.wrap ((lo cur k : Int) + 1) = ((lo cur k + 1 : Nat) : Int) := by rw [wrap_id (by omega) (by omega)]; simp
          have w3 : IntKind.i64.wrap (cur[k].1 + cur[k + 1].1) = cur[k].1 + cur[k + 1].1 := wrap_id (by omega) (by omega)
          have w4 : IntKind.i64.wrap (cur[lo cur k].1 + cur[lo cur k + 1].1) = cur[lo cur k].1 + cur[lo cur k + 1].1 := wrap_id (by omega) (by omega)
          have g1 := rows_get (ds := cur) (show k < cur.length by omega)
          have g2 := rows_get (ds := cur) (show k + 1 < cur.length by omega)
          have g3 := rows_get (ds := cur) (show lo cur k < cur.length by omega)
          have g4 := rows_get (ds := cur) hlo
          simp only [walkS, wl, rgets, retv, argsEnv, ev, cst, cst1, cstL, AEnv.get, AEnv.trim, envput, qstep, abin, aun, evs, evo, deref, qload, target, if_true, if_false, Nat.reduceEqDiff, reduceIte, Nat.reduceAdd, AV.cells, AV.isTuple, setMany, alen, aiaddr, afill, Nat.reduceLeDiff, Nat.reduceMul, Nat.reduceLT, afillE, List.replicate, ho, hN, i1, i2, i3, i4, w1, w2, w3, w4, g1, g2, g3, g4]
          have hlw : lo cur (k + 1) = if cur[k].1 + cur[k + 1].1 < cur[lo cur k].1 + cur[lo cur k + 1].1 then k else lo cur k := by
            simp only [lo, pr, layAt_lt (show k < cur.length by omega), layAt_lt (show k + 1 < cur.length by omega), layAt_lt (show lo cur k < cur.length by omega), layAt_lt hlo]
          refine withBool_intro ?_ ?_ <;> intro hb3 <;> simp only [walkS, wl, rgets, retv, argsEnv, ev, cst, cst1, cstL, AEnv.get, AEnv.trim, envput, qstep, abin, aun, evs, evo, deref, qload, target, if_true, if_false, Nat.reduceEqDiff, reduceIte, Nat.reduceAdd, AV.cells, AV.isTuple, setMany, alen, aiaddr, afill, Nat.reduceLeDiff, Nat.reduceMul, Nat.reduceLT, afillE, List.replicate, w1]
          · rw [if_pos (by simpa using hb3)] at hlw
            exact loop_end (k + 1) ⟨by omega, by omega⟩ (by omega) (by rw [hlw]) rfl
          · rw [if_neg (by simpa using hb3)] at hlw
            exact loop_end (k + 1) ⟨by omega, by omega⟩ (by omega) (by rw [hlw]) rfl
        · have hk' : k = cur.length - 1 := by have := of_decide_eq_false hb2; omega
          subst hk'
          obtain ⟨a, ha⟩ : ∃ a, a = lo cur (cur.length - 1) := ⟨_, rfl⟩
          rw [← ha] at hlo ⊢
          have i3 : (a : Int) < (cur.length : Int) := by omega
          have i4 : ((a + 1 : Nat) : Int) < (cur.length : Int) := by omega
          have w2 : IntKind.i64.wrap ((a : Int) + 1) = ((a + 1 : Nat) : Int) := by rw [wrap_id (by omega) (by omega)]; simp
          have g3 := rows_get (ds := cur) (show a < cur.length by omega)
          have g4 := rows_get (ds := cur) hlo
          simp only [walkS, wl, rgets, retv, argsEnv, ev, cst, cst1, cstL, AEnv.get, AEnv.trim, envput, qstep, abin, aun, evs, evo, deref, qload, target, if_true, if_false, Nat.reduceEqDiff, reduceIte, Nat.reduceAdd, AV.cells, AV.isTuple, setMany, alen, aiaddr, afill, Nat.reduceLeDiff, Nat.reduceMul, Nat.reduceLT, afillE, List.replicate, aslice_own ho hN (abnds_hi (show a ≤ cur.length by omega))]
          have hp := asrc_part (i := 0) (len := a) ho hN
          have e1 : ((rows cur).drop 0).take a = rows (cur.take a) := by simp [rows, List.map_take]
          rw [e1] at hp
          refine acc_appendL (lo := G.length) (els := []) (Nat.le_refl _) (.inl ⟨rfl, rfl⟩) rfl rfl hp (by simp only [rows_length, List.length_nil, List.length_take]; omega) fun a1 H1 y1 y2 y3 => ?_
          rw [List.nil_append] at y2
          have ho1 : AHeap.obj H1 h = some ⟨43, 3, rows cur⟩ := by rw [y3 h hhl]; exact ho
          simp only [walkS, wl, rgets, retv, argsEnv, ev, cst, cst1, cstL, AEnv.get, AEnv.trim, envput, qstep, abin, aun, evs, evo, deref, qload, target, if_true, if_false, Nat.reduceEqDiff, reduceIte, Nat.reduceAdd, AV.cells, AV.isTuple, setMany, alen, aiaddr, afill, Nat.reduceLeDiff, Nat.reduceMul, Nat.reduceLT, afillE, List.replicate, ho1, hN, i3, i4, w2, g3, g4]
          refine dcall_pure (rjoin_ok (hm.tame (k := a) (by omega)).1 (hm.tame hlo).1) (frzL_of (d := 4) rfl) ?_
          obtain ⟨j, ej⟩ : ∃ j, j = join cur[a] cur[a + 1] := ⟨_, rfl⟩
          rw [← ej]
          simp only [walkS, wl, rgets, retv, argsEnv, ev, cst, cst1, cstL, AEnv.get, AEnv.trim, envput, qstep, abin, aun, evs, evo, deref, qload, target, if_true, if_false, Nat.reduceEqDiff, reduceIte, Nat.reduceAdd, AV.cells, AV.isTuple, setMany, alen, aiaddr, afill, Nat.reduceLeDiff, Nat.reduceMul, Nat.reduceLT, afillE, List.replicate, dc]
          refine acc_append (lo := G.length) (by simp; omega) (y2.push _) rfl rfl AHeap.obj_push_eq (by rw [rows_length, List.length_take]; omega) fun a2 H2 z1 z2 z3 => ?_
          simp only [List.length_append, List.length_cons, List.length_nil] at z1
          have ho2 : AHeap.obj H2 h = some ⟨43, 3, rows cur⟩ := by rw [z3 h hhl, AHeap.obj_push_lt (by omega)]; exact ho1
          have w3 : IntKind.i64.wrap ((a : Int) + 2) = ((a + 2 : Nat) : Int) := by rw [wrap_id (by omega) (by omega)]; omega
          simp only [walkS, wl, rgets, retv, argsEnv, ev, cst, cst1, cstL, AEnv.get, AEnv.trim, envput, qstep, abin, aun, evs, evo, deref, qload, target, if_true, if_false, Nat.reduceEqDiff, reduceIte, Nat.reduceAdd, AV.cells, AV.isTuple, setMany, alen, aiaddr, afill, Nat.reduceLeDiff, Nat.reduceMul, Nat.reduceLT, afillE, List.replicate, w3, aslice_own ho2 hN (abnds_lo (show a + 2 ≤ cur.length by omega))]
          have hp2 := asrc_part (i := 0 + (a + 2)) (len := cur.length - (a + 2)) ho2 hN
          have e2 : ((rows cur).drop (0 + (a + 2))).take (cur.length - (a + 2)) = rows (cur.drop (a + 2)) := by
            rw [Nat.zero_add, List.take_of_length_le (by rw [List.length_drop, hN]; omega)]
            simp [rows, List.map_drop]
          rw [e2, Nat.zero_add] at hp2
          refine acc_appendL (lo := G.length) (by omega) z2 rfl rfl hp2 (by simp only [rows_length, List.length_append, List.length_cons, List.length_nil, List.length_take, List.length_drop]; omega) fun a3 H3 x1 x2 x3 => ?_
          simp only [walkS, wl, rgets, retv, argsEnv, ev, cst, cst1, cstL, AEnv.get, AEnv.trim, envput, qstep, abin, aun, evs, evo, deref, qload, target, if_true, if_false, Nat.reduceEqDiff, reduceIte, Nat.reduceAdd, AV.cells, AV.isTuple, setMany, alen, aiaddr, afill, Nat.reduceLeDiff, Nat.reduceMul, Nat.reduceLT, afillE, List.replicate]
          obtain ⟨a', p1, p2, p3, p4, p5⟩ := jstep_eq hl2
          rw [← ha] at p2
          subst p2
          have ejs : rows (cur.take a') ++ [[I j.1, I j.2.1, I j.2.2]] ++ rows (cur.drop (a' + 2)) = rows (jstep cur) := by
            rw [p5, ej]; simp [rows, dc]
          rw [ejs] at x2
          have hjl := jstep_length hl2
          have hfu : cur.length - n.toNat = (jstep cur).length - n.toNat + 1 := by omega
          refine loop_end (jstep cur, a3) ⟨(hm.jstep hl2).1, by simp only; omega, ?_⟩ (by simp only [hjl]; omega) rfl ⟨by omega, by rw [x3 1 (by omega), z3 1 (by omega), AHeap.obj_push_lt (by omega), y3 1 (by omega)]; exact o1, x2.weaken (by omega)⟩
          rw [hj, hfu]; rfl
      · have hle : cur.length ≤ n := by simpa using hb
        rw [show cur.length - n.toNat = 0 by omega] at hj
        simp only [jnF] at hj
        rw [hj]
        rcases hb0.form with rfl | ⟨q, N, rfl⟩
        all_goals
          simp only [walkS, wl, rgets, retv, argsEnv, ev, cst, cst1, cstL, AEnv.get, AEnv.trim, envput, qstep, abin, aun, evs, evo, deref, qload, target, if_true, if_false, Nat.reduceEqDiff, reduceIte, Nat.reduceAdd, AV.cells, AV.isTuple, setMany, alen, aiaddr, afill, Nat.reduceLeDiff, Nat.reduceMul, Nat.reduceLT, afillE, List.replicate]
          refine storeR rfl rfl o1 rfl ⟨rfl, rfl, rfl, by simp⟩ fun H1 y1 y2 y3 => ?_
          simp only [AV.cells, setMany, List.set_cons_zero, List.set_cons_succ] at y2
          have hb1 := hb0.keep (H' := H1) fun i h1 h2 => y3 i (by omega)
          simp only [walkS, wl, rgets, retv, argsEnv, ev, cst, cst1, cstL, AEnv.get, AEnv.trim, envput, qstep, abin, aun, evs, evo, deref, qload, target, if_true, if_false, Nat.reduceEqDiff, reduceIte, Nat.reduceAdd, AV.cells, AV.isTuple, setMany, alen, aiaddr, afill, Nat.reduceLeDiff, Nat.reduceMul, Nat.reduceLT, afillE, List.replicate, y2]
          exact out_two (out_agg1 (hb1.out (rows_simple _)) rfl) out_int
    · refine call_pure (within_f hn) (frzL_of' (d := 4) rfl) ?_
      simp only [walkS, wl, rgets, retv, argsEnv, ev, cst, cst1, cstL, AEnv.get, AEnv.trim, envput, qstep, abin, aun, evs, evo, deref, qload, target, if_true, if_false, Nat.reduceEqDiff, reduceIte, Nat.reduceAdd, AV.cells, AV.isTuple, setMany, alen, aiaddr, afill, Nat.reduceLeDiff, Nat.reduceMul, Nat.reduceLT, afillE, List.replicate]
      refine storeR rfl rfl rfl rfl ⟨rfl, rfl, rfl, by simp⟩ fun H1 y1 y2 y3 => ?_
      simp only [AV.cells, setMany, List.set_cons_zero, List.set_cons_succ] at y2
      simp only [walkS, wl, rgets, retv, argsEnv, ev, cst, cst1, cstL, AEnv.get, AEnv.trim, envput, qstep, abin, aun, evs, evo, deref, qload, target, if_true, if_false, Nat.reduceEqDiff, reduceIte, Nat.reduceAdd, AV.cells, AV.isTuple, setMany, alen, aiaddr, afill, Nat.reduceLeDiff, Nat.reduceMul, Nat.reduceLT, afillE, List.replicate, y2]
      simp only [joinedV, h1, hn, if_true, if_false]; exact out_pk1
end Go.Proofs.YtmcndbldbemebaaDoor
