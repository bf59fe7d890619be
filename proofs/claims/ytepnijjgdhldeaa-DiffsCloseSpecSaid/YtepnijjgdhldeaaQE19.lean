/- The law DiffsCloseSpec, walked. -/
import Derived.Test.YtepnijjgdhldeaaQD28
import Derived.Test.YtepnijjgdhldeaaQE3
namespace Go.Proofs.Ytepnijjgdhldeaa
open Go.Awp
set_option linter.unusedSimpArgs false
set_option linter.unusedVariables false
set_option linter.unusedSectionVars false
set_option maxRecDepth 10000
set_option maxHeartbeats 8000000
theorem close_len {n : Int} {ds : List Df} (hs : valid n ds = true → n ≤ 16 ∨ n > 64) : (closeV n ds).2.1.length ≤ big ∧ (closeV n ds).2.2.1.length ≤ big := by
  unfold closeV
  split
  · rename_i hv
    split
    · simp [big]
    · rename_i h64
      have hn := (valid_iff.1 hv).1
      have h16 : n ≤ 16 := by rcases hs hv with h | h <;> omega
      have hNN : n.toNat * n.toNat ≤ 16 * 16 := Nat.mul_le_mul (by omega) (by omega)
      split
      · simp only [li_length, lb_length]; unfold big; omega
      · simp [big]
  · simp [big]
theorem narrow_len {n : Int} {l : List Int} {m : List Bool} {d : Df} : (narrowV n l m d).2.1.length ≤ big ∧ (narrowV n l m d).2.2.1.length ≤ big := by
  unfold narrowV
  split
  · rename_i ht
    obtain ⟨N, rfl, hT⟩ := tabB_iff.1 ht
    have hNN : N * N ≤ 64 * 64 := Nat.mul_le_mul hT.most hT.most
    split
    · split
      · simp [big]
      · simp only [li_length, lb_length, Int.toNat_natCast]; unfold big; omega
    · simp [big]
  · simp [big]
theorem law19_rest {n : Int} {ds : List Df} {k : Int} {l : List Int} {m : List Bool} {d : Df} {Q : AX → AEnv → AHeap → Prop} (hl : l.length ≤ big) (hm : m.length ≤ big) (hs : valid n ds = true → n ≤ 16 ∨ n > 64)
    (hQ : ∀ H, Q .ret [(6, .bool true)] H) :
    awp Try.prog ir19r Q [(3, .ptr 0 1 0 0), (4, .ptr 1 1 0 0), (5, .ptr 2 1 0 0), (39, .bool false)] [some ⟨24, 2, [[I n, .ro false (rows ds)]]⟩, some ⟨73, 3, [[I k, .ro false (ic l), .ro false (bc m)]]⟩, some ⟨39, 3, [[I d.1, I d.2.1, I d.2.2]]⟩] := by
  unfold ir19r
  simp only [walkS, wl, rgets, retv, argsEnv, ev, cst, cst1, cstL, AEnv.get, AEnv.trim, envput, qstep, abin, aun, evs, evo, deref, qload, target, if_true, if_false, Nat.reduceEqDiff, reduceIte, Nat.reduceAdd, AV.cells, AV.isTuple, setMany, alen, aiaddr, afill, Nat.reduceLeDiff, Nat.reduceMul, Nat.reduceLT, afillE, List.replicate]
  refine call_pure (Close_ok hs) (frzL_of' (d := 4) (carL_cons car_netF rfl)) ?_
  have c1 := close_len hs
  have n1 := narrow_len (n := k) (l := l) (m := m) (d := d)
  generalize hcv : closeV n ds = cv at c1 ⊢
  obtain ⟨cn, cl, cm, ce⟩ := cv
  generalize hnv : narrowV k l m d = nv at n1 ⊢
  obtain ⟨nn, nl, nm, ne⟩ := nv
  simp only at c1 n1
  unfold tabV
  simp only [walkS, wl, rgets, retv, argsEnv, ev, cst, cst1, cstL, AEnv.get, AEnv.trim, envput, qstep, abin, aun, evs, evo, deref, qload, target, if_true, if_false, Nat.reduceEqDiff, reduceIte, Nat.reduceAdd, AV.cells, AV.isTuple, setMany, alen, aiaddr, afill, Nat.reduceLeDiff, Nat.reduceMul, Nat.reduceLT, afillE, List.replicate, sstep_store]
  refine call_pure (refClose_ok hs) (frzL_of' (d := 4) (carL_cons car_netF rfl)) ?_
  rw [hcv]
  unfold tabV
  simp only [walkS, wl, rgets, retv, argsEnv, ev, cst, cst1, cstL, AEnv.get, AEnv.trim, envput, qstep, abin, aun, evs, evo, deref, qload, target, if_true, if_false, Nat.reduceEqDiff, reduceIte, Nat.reduceAdd, AV.cells, AV.isTuple, setMany, alen, aiaddr, afill, Nat.reduceLeDiff, Nat.reduceMul, Nat.reduceLT, afillE, List.replicate, sstep_store]
  refine call_pure (Narrow_ok (d := d) hl hm) (frzL_of' (d := 4) (carL_cons (car_agg (carL_cons rfl (carL_cons (car_ro_false (ic_simple _)) (carL_cons (car_ro_false (bc_simple _)) rfl)))) rfl)) ?_
  rw [hnv]
  unfold narrowA tabV
  simp only [walkS, wl, rgets, retv, argsEnv, ev, cst, cst1, cstL, AEnv.get, AEnv.trim, envput, qstep, abin, aun, evs, evo, deref, qload, target, if_true, if_false, Nat.reduceEqDiff, reduceIte, Nat.reduceAdd, AV.cells, AV.isTuple, setMany, alen, aiaddr, afill, Nat.reduceLeDiff, Nat.reduceMul, Nat.reduceLT, afillE, List.replicate, sstep_store]
  refine call_pure (refNarrow_ok (d := d) hl hm) (frzL_of' (d := 4) (carL_cons (car_agg (carL_cons rfl (carL_cons (car_ro_false (ic_simple _)) (carL_cons (car_ro_false (bc_simple _)) rfl)))) rfl)) ?_
  rw [hnv]
  unfold narrowA tabV
  simp only [walkS, wl, rgets, retv, argsEnv, ev, cst, cst1, cstL, AEnv.get, AEnv.trim, envput, qstep, abin, aun, evs, evo, deref, qload, target, if_true, if_false, Nat.reduceEqDiff, reduceIte, Nat.reduceAdd, AV.cells, AV.isTuple, setMany, alen, aiaddr, afill, Nat.reduceLeDiff, Nat.reduceMul, Nat.reduceLT, afillE, List.replicate, sstep_store]
  refine call_pure (sameTables_ok (n := cn) c1.1 c1.2) (frzL_of' (d := 4) (carL_cons (car_agg (carL_cons rfl (carL_cons (car_ro_false (ic_simple _)) (carL_cons (car_ro_false (bc_simple _)) rfl)))) (carL_cons (car_agg (carL_cons rfl (carL_cons (car_ro_false (ic_simple _)) (carL_cons (car_ro_false (bc_simple _)) rfl)))) rfl))) ?_
  simp only [walkS, wl, rgets, retv, argsEnv, ev, cst, cst1, cstL, AEnv.get, AEnv.trim, envput, qstep, abin, aun, evs, evo, deref, qload, target, if_true, if_false, Nat.reduceEqDiff, reduceIte, Nat.reduceAdd, AV.cells, AV.isTuple, setMany, alen, aiaddr, afill, Nat.reduceLeDiff, Nat.reduceMul, Nat.reduceLT, afillE, List.replicate, beq_self_eq_true]
  refine call_pure (sameTables_ok (n := nn) n1.1 n1.2) (frzL_of' (d := 4) (carL_cons (car_agg (carL_cons rfl (carL_cons (car_ro_false (ic_simple _)) (carL_cons (car_ro_false (bc_simple _)) rfl)))) (carL_cons (car_agg (carL_cons rfl (carL_cons (car_ro_false (ic_simple _)) (carL_cons (car_ro_false (bc_simple _)) rfl)))) rfl))) ?_
  simp only [walkS, wl, rgets, retv, argsEnv, ev, cst, cst1, cstL, AEnv.get, AEnv.trim, envput, qstep, abin, aun, evs, evo, deref, qload, target, if_true, if_false, Nat.reduceEqDiff, reduceIte, Nat.reduceAdd, AV.cells, AV.isTuple, setMany, alen, aiaddr, afill, Nat.reduceLeDiff, Nat.reduceMul, Nat.reduceLT, afillE, List.replicate, beq_self_eq_true]
  exact hQ _
theorem law19_ok {n : Int} {ds : List Df} {k : Int} {l : List Int} {m : List Bool} {d : Df} (hl : l.length ≤ big) (hm : m.length ≤ big) : PCall Try.prog 19 [.agg [I n, .ro false (rows ds)], .agg [I k, .ro false (ic l), .ro false (bc m)], .agg (dc d)] (.bool true) := by
  refine PCall.intro text19 (by simp) ?_
  unfold ir19
  simp only [walkS, wl, rgets, retv, argsEnv, ev, cst, cst1, cstL, AEnv.get, AEnv.trim, envput, qstep, abin, aun, evs, evo, deref, qload, target, if_true, if_false, Nat.reduceEqDiff, reduceIte, Nat.reduceAdd, AV.cells, AV.isTuple, setMany, alen, aiaddr, afill, Nat.reduceLeDiff, Nat.reduceMul, Nat.reduceLT, afillE, List.replicate, dc]
  refine call_pure sane_ok (frzL_of' (d := 4) rfl) ?_
  simp only [walkS, wl, rgets, retv, argsEnv, ev, cst, cst1, cstL, AEnv.get, AEnv.trim, envput, qstep, abin, aun, evs, evo, deref, qload, target, if_true, if_false, Nat.reduceEqDiff, reduceIte, Nat.reduceAdd, AV.cells, AV.isTuple, setMany, alen, aiaddr, afill, Nat.reduceLeDiff, Nat.reduceMul, Nat.reduceLT, afillE, List.replicate]
  refine call_pure (refCheck_ok n ds) (frzL_of' (d := 4) (carL_cons car_netF rfl)) ?_
  simp only [walkS, wl, rgets, retv, argsEnv, ev, cst, cst1, cstL, AEnv.get, AEnv.trim, envput, qstep, abin, aun, evs, evo, deref, qload, target, if_true, if_false, Nat.reduceEqDiff, reduceIte, Nat.reduceAdd, AV.cells, AV.isTuple, setMany, alen, aiaddr, afill, Nat.reduceLeDiff, Nat.reduceMul, Nat.reduceLT, afillE, List.replicate]
  refine withGuard_intro ?_ ?_ <;> intro h <;> simp only [walkS, wl, rgets, retv, argsEnv, ev, cst, cst1, cstL, AEnv.get, AEnv.trim, envput, qstep, abin, aun, evs, evo, deref, qload, target, if_true, if_false, Nat.reduceEqDiff, reduceIte, Nat.reduceAdd, AV.cells, AV.isTuple, setMany, alen, aiaddr, afill, Nat.reduceLeDiff, Nat.reduceMul, Nat.reduceLT, afillE, List.replicate, h]
  · refine call_pure (small_ok (n := n) (ds := ds)) (frzL_of' (d := 4) (carL_cons car_netF rfl)) ?_
    simp only [walkS, wl, rgets, retv, argsEnv, ev, cst, cst1, cstL, AEnv.get, AEnv.trim, envput, qstep, abin, aun, evs, evo, deref, qload, target, if_true, if_false, Nat.reduceEqDiff, reduceIte, Nat.reduceAdd, AV.cells, AV.isTuple, setMany, alen, aiaddr, afill, Nat.reduceLeDiff, Nat.reduceMul, Nat.reduceLT, afillE, List.replicate, h]
    refine withGuard_intro ?_ ?_ <;> intro h2 <;> simp only [walkS, wl, rgets, retv, argsEnv, ev, cst, cst1, cstL, AEnv.get, AEnv.trim, envput, qstep, abin, aun, evs, evo, deref, qload, target, if_true, if_false, Nat.reduceEqDiff, reduceIte, Nat.reduceAdd, AV.cells, AV.isTuple, setMany, alen, aiaddr, afill, Nat.reduceLeDiff, Nat.reduceMul, Nat.reduceLT, afillE, List.replicate, h2]
    · refine withGuard_intro ?_ ?_ <;> intro h3 <;> simp only [walkS, wl, rgets, retv, argsEnv, ev, cst, cst1, cstL, AEnv.get, AEnv.trim, envput, qstep, abin, aun, evs, evo, deref, qload, target, if_true, if_false, Nat.reduceEqDiff, reduceIte, Nat.reduceAdd, AV.cells, AV.isTuple, setMany, alen, aiaddr, afill, Nat.reduceLeDiff, Nat.reduceMul, Nat.reduceLT, afillE, List.replicate, h3]
      · have hs : valid n ds = true → n ≤ 16 ∨ n > 64 := fun _ => by simp at h3; omega
        refine withGuard_intro ?_ ?_ <;> intro h5 <;> simp only [walkS, wl, rgets, retv, argsEnv, ev, cst, cst1, cstL, AEnv.get, AEnv.trim, envput, qstep, abin, aun, evs, evo, deref, qload, target, if_true, if_false, Nat.reduceEqDiff, reduceIte, Nat.reduceAdd, AV.cells, AV.isTuple, setMany, alen, aiaddr, afill, Nat.reduceLeDiff, Nat.reduceMul, Nat.reduceLT, afillE, List.replicate, h5]
        · refine withBool_intro ?_ ?_ <;> intro h6 <;> simp only [walkS, wl, rgets, retv, argsEnv, ev, cst, cst1, cstL, AEnv.get, AEnv.trim, envput, qstep, abin, aun, evs, evo, deref, qload, target, if_true, if_false, Nat.reduceEqDiff, reduceIte, Nat.reduceAdd, AV.cells, AV.isTuple, setMany, alen, aiaddr, afill, Nat.reduceLeDiff, Nat.reduceMul, Nat.reduceLT, afillE, List.replicate, h6]
          · exact out_bool
          · exact law19_rest hl hm hs fun H => out_bool
        · exact law19_rest hl hm hs fun H => out_bool
      · exact out_bool
    · have hs : valid n ds = true → n ≤ 16 ∨ n > 64 := fun _ => by simp at h2; omega
      refine withGuard_intro ?_ ?_ <;> intro h5 <;> simp only [walkS, wl, rgets, retv, argsEnv, ev, cst, cst1, cstL, AEnv.get, AEnv.trim, envput, qstep, abin, aun, evs, evo, deref, qload, target, if_true, if_false, Nat.reduceEqDiff, reduceIte, Nat.reduceAdd, AV.cells, AV.isTuple, setMany, alen, aiaddr, afill, Nat.reduceLeDiff, Nat.reduceMul, Nat.reduceLT, afillE, List.replicate, h5]
      · refine withBool_intro ?_ ?_ <;> intro h6 <;> simp only [walkS, wl, rgets, retv, argsEnv, ev, cst, cst1, cstL, AEnv.get, AEnv.trim, envput, qstep, abin, aun, evs, evo, deref, qload, target, if_true, if_false, Nat.reduceEqDiff, reduceIte, Nat.reduceAdd, AV.cells, AV.isTuple, setMany, alen, aiaddr, afill, Nat.reduceLeDiff, Nat.reduceMul, Nat.reduceLT, afillE, List.replicate, h6]
        · exact out_bool
        · exact law19_rest hl hm hs fun H => out_bool
      · exact law19_rest hl hm hs fun H => out_bool
  · have hs : valid n ds = true → n ≤ 16 ∨ n > 64 := fun hv => by simp [check, hv] at h
    refine withGuard_intro ?_ ?_ <;> intro h5 <;> simp only [walkS, wl, rgets, retv, argsEnv, ev, cst, cst1, cstL, AEnv.get, AEnv.trim, envput, qstep, abin, aun, evs, evo, deref, qload, target, if_true, if_false, Nat.reduceEqDiff, reduceIte, Nat.reduceAdd, AV.cells, AV.isTuple, setMany, alen, aiaddr, afill, Nat.reduceLeDiff, Nat.reduceMul, Nat.reduceLT, afillE, List.replicate, h5]
    · refine withBool_intro ?_ ?_ <;> intro h6 <;> simp only [walkS, wl, rgets, retv, argsEnv, ev, cst, cst1, cstL, AEnv.get, AEnv.trim, envput, qstep, abin, aun, evs, evo, deref, qload, target, if_true, if_false, Nat.reduceEqDiff, reduceIte, Nat.reduceAdd, AV.cells, AV.isTuple, setMany, alen, aiaddr, afill, Nat.reduceLeDiff, Nat.reduceMul, Nat.reduceLT, afillE, List.replicate, h6]
      · exact out_bool
      · exact law19_rest hl hm hs fun H => out_bool
    · exact law19_rest hl hm hs fun H => out_bool
end Go.Proofs.Ytepnijjgdhldeaa
