/- Contracts: a pack as a column and back; what a step does. -/
import Derived.Test.YtomejgikdelgkaaGreatDoorQC7
set_option linter.unusedVariables false
set_option linter.unusedSimpArgs false
set_option linter.unusedSectionVars false
namespace Go.Proofs.YtomejgikdelgkaaGreatDoor
open Go.Awp Go.Snow
set_option linter.unusedSimpArgs false
set_option linter.unusedVariables false
set_option linter.unusedSectionVars false
set_option maxRecDepth 10000
def nils : List Lay := List.replicate 65 (0, 0, 0)
theorem nils_length : nils.length = 65 := rfl
theorem zs_nils : zs 199 (.int .i64 0) = colC nils 0 0 0 0 := rfl
theorem lenC {L : List Lay} (h : L.length = 65) {t n o k : Int} : (colC L t n o k).length = 199 := by rw [colC_length, h]
theorem columnOf_ok {H0 : AHeap} {b : Bool} {ls : List Lay} (hl : ls.length ≤ 64) :
    ACall Tryz.prog 37 [.agg [.ro b (rows ls)]] H0 fun x H => ∃ h, x = .ptr h 1 0 0 ∧ H0.length ≤ h ∧ H0.length ≤ H.length ∧ (∀ i, i < H0.length → AHeap.obj H i = AHeap.obj H0 i) ∧ Column 1 H h ls 0 0 := by
  refine ACall.intro text37 (by simp) ?_
  unfold ir37
  have hx : IntKind.i64.wrap ((ls.length : Int) + 1) = ((ls.length + 1 : Nat) : Int) := by rw [wrap_id (by omega) (by omega)]; simp
  have hn := nils_length
  have hb65 : abnds 65 (some (.int .i64 1)) none = some (1, 65) := rfl
  simp only [walkS, wl, rgets, retv, argsEnv, ev, cst, cst1, cstL, AEnv.get, AEnv.trim, envput, qstep, abin, aun, evs, evo, deref, qload, target, if_true, if_false, Nat.reduceEqDiff, reduceIte, Nat.reduceAdd, AV.cells, AV.isTuple, setMany, alen, aiaddr, afill, Nat.reduceLeDiff, Nat.reduceMul, Nat.reduceLT, afillE, List.replicate, rows_length, hx, zs_nils, lenC hn, set_195 hn, set_196 hn, asliceA, hb65]
  have ho : AHeap.obj (H0 ++ [some ⟨26, 1, [[.ro b (rows ls)]]⟩, some ⟨72, 199, [colC nils 1 (ls.length + 1 : Nat) 0 0]⟩]) (H0.length + 1) = some ⟨72, 199, [colC nils 1 (ls.length + 1 : Nat) 0 0]⟩ := by
    rw [obj_app_add]; rfl
  refine copyR rfl rfl (asrc_ro (rows_all ls)) ho rfl ⟨rfl, rfl, by rw [rows_length, lenC hn]; omega⟩ (by rw [rows_length]; omega) fun H1 y1 y2 y3 => ?_
  have es := setMany_rows (t := 1) (n := (ls.length + 1 : Nat)) (o := 0) (k := 0) ls nils 1 (by rw [nils_length]; omega)
  simp only [List.set_cons_zero] at y2
  rw [show (1 * 3 : Nat) = 3 from rfl] at es
  simp only [walkS, wl, rgets, retv, argsEnv, ev, cst, cst1, cstL, AEnv.get, AEnv.trim, envput, qstep, abin, aun, evs, evo, deref, qload, target, if_true, if_false, Nat.reduceEqDiff, reduceIte, Nat.reduceAdd, AV.cells, AV.isTuple, setMany, alen, aiaddr, afill, Nat.reduceLeDiff, Nat.reduceMul, Nat.reduceLT, afillE, List.replicate]
  refine ⟨H0.length + 1, rfl, by omega, by rw [y1]; simp, fun i hi => by rw [y3 i (by omega), AHeap.obj_push_lt hi], nils.take 1, nils.drop (1 + ls.length), by simp [nils], ?_, ?_⟩
  · simp only [List.length_append, List.length_take, List.length_drop, nils_length]; omega
  · unfold ColAt
    rw [y2, es]
    have : (nils.take 1).length = 1 := rfl
    rw [this, Nat.add_comm 1]
    rfl
theorem layers_ok {H0 : AHeap} {h : Nat} {A ls post : List Lay} {o k : Int} (hlen : (A ++ ls ++ post).length = 65) (hc : ColAt H0 h (A ++ ls ++ post) A.length (A.length + ls.length : Nat) o k) :
    ACall Tryz.prog 64 [.ptr h 1 0 0] H0 fun x H => x = .sub h 1 0 (A.length * 3) 3 ls.length ∧ H = H0 := by
  refine ACall.intro text64 (by simp) ?_
  unfold ir64
  have c' : AHeap.obj H0 h = some ⟨72, 199, [colC (A ++ ls ++ post) A.length (A.length + ls.length : Nat) o k]⟩ := hc
  have hA : A.length + ls.length ≤ 65 := by rw [← hlen]; simp
  obtain ⟨L, hL⟩ : ∃ L, L = A ++ ls ++ post := ⟨_, rfl⟩
  rw [← hL] at hlen c'
  have hb : abnds 65 (some (.int .i64 (A.length : Int))) (some (.int .i64 ((A.length + ls.length : Nat) : Int))) = some (A.length, A.length + ls.length) := abnds_h (by omega) (by omega)
  simp only [walkS, wl, rgets, retv, argsEnv, ev, cst, cst1, cstL, AEnv.get, AEnv.trim, envput, qstep, abin, aun, evs, evo, deref, qload, target, if_true, if_false, Nat.reduceEqDiff, reduceIte, Nat.reduceAdd, AV.cells, AV.isTuple, setMany, alen, aiaddr, afill, Nat.reduceLeDiff, Nat.reduceMul, Nat.reduceLT, afillE, List.replicate, c', colC_195 hlen, colC_196 hlen, asliceA, hb]
  rw [Nat.add_sub_cancel_left]
theorem pack_ok {H0 : AHeap} {h : Nat} {ls : List Lay} {o k : Int} (hc : Column 0 H0 h ls o k) :
    ACall Tryz.prog 39 [.ptr h 1 0 0] H0 fun x H => H0.length ≤ H.length ∧ (∀ i, i < H0.length → AHeap.obj H i = AHeap.obj H0 i) ∧
      ∃ a, x = .tuple [.agg [a], I (if okP ls then 0 else 2)] ∧ Acc H0.length H a 47 3 (rows (if okP ls then ls else [])) := by
  refine ACall.intro text39 (by simp) ?_
  unfold ir39
  have hh := hc.lt
  obtain ⟨A, post, -, hlen, c⟩ := hc
  have hA : A.length + ls.length ≤ 65 := by rw [← hlen]; simp
  simp only [walkS, wl, rgets, retv, argsEnv, ev, cst, cst1, cstL, AEnv.get, AEnv.trim, envput, qstep, abin, aun, evs, evo, deref, qload, target, if_true, if_false, Nat.reduceEqDiff, reduceIte, Nat.reduceAdd, AV.cells, AV.isTuple, setMany, alen, aiaddr, afill, Nat.reduceLeDiff, Nat.reduceMul, Nat.reduceLT, afillE, List.replicate]
  have c1 : ∀ X, ColAt (H0 ++ X) h (A ++ ls ++ post) A.length (A.length + ls.length : Nat) o k := fun X => by unfold ColAt; exact obj_keep c
  refine (layers_ok hlen (c1 _)).mono fun x H ⟨e1, e2⟩ => ?_
  subst e1 e2
  simp only [walkS, wl, rgets, retv, argsEnv, ev, cst, cst1, cstL, AEnv.get, AEnv.trim, envput, qstep, abin, aun, evs, evo, deref, qload, target, if_true, if_false, Nat.reduceEqDiff, reduceIte, Nat.reduceAdd, AV.cells, AV.isTuple, setMany, alen, aiaddr, afill, Nat.reduceLeDiff, Nat.reduceMul, Nat.reduceLT, afillE, List.replicate]
  have hsrc : ∀ X, asrc (H0 ++ X) 3 (.sub h 1 0 (A.length * 3) 3 ls.length) = some (rows ls) := by
    intro X
    have ho := c1 X
    unfold ColAt at ho
    simp only [asrc, ho, List.getElem?_cons_zero, List.length_cons, List.length_nil]
    rw [if_pos ⟨trivial, trivial, by rw [lenC hlen]; omega⟩, colC_drop _ _ (by simp), List.append_assoc, List.drop_append_of_le_length (Nat.le_refl _), List.drop_length, List.nil_append, chunks_col _ _ (by simp), List.take_append_of_le_length (Nat.le_refl _), List.take_length]
  refine acc_appendL (lo := H0.length + 1) (els := []) (by simp) (.inl ⟨rfl, rfl⟩) rfl rfl (hsrc _) (by simp only [rows_length, List.length_nil]; omega) fun a H1 y1 y2 y3 => ?_
  rw [List.nil_append] at y2
  simp only [List.length_append, List.length_cons, List.length_nil] at y1
  obtain ⟨hone, htup⟩ := y2.one
  have hcl : a.cells.length = 1 := by rw [hone]; rfl
  have b0 : AHeap.obj H1 H0.length = some ⟨26, 1, [[.nilSlice]]⟩ := by rw [y3 _ (by omega)]; exact AHeap.obj_push_eq
  rcases y2.form with rfl | ⟨q, n, rfl⟩
  all_goals
    simp only [walkS, wl, rgets, retv, argsEnv, ev, cst, cst1, cstL, AEnv.get, AEnv.trim, envput, qstep, abin, aun, evs, evo, deref, qload, target, if_true, if_false, Nat.reduceEqDiff, reduceIte, Nat.reduceAdd, AV.cells, AV.isTuple, setMany, alen, aiaddr, afill, Nat.reduceLeDiff, Nat.reduceMul, Nat.reduceLT, afillE, List.replicate]
    refine storeR rfl rfl AHeap.obj_push_eq rfl ⟨rfl, rfl, rfl, by simp⟩ fun H2 z1 z2 z3 => ?_
    simp only [AV.cells, setMany, List.set_cons_zero, List.set_cons_succ] at z2
    simp only [List.length_append, List.length_cons, List.length_nil] at z1
    have y2' := y2.keep (H' := H2) fun i h1 h2 => by rw [z3 i (by omega), AHeap.obj_push_lt h2]
    have b2 : AHeap.obj H2 H0.length = some ⟨26, 1, [[.nilSlice]]⟩ := by rw [z3 _ (by omega), AHeap.obj_push_lt (by omega)]; exact b0
    simp only [walkS, wl, rgets, retv, argsEnv, ev, cst, cst1, cstL, AEnv.get, AEnv.trim, envput, qstep, abin, aun, evs, evo, deref, qload, target, if_true, if_false, Nat.reduceEqDiff, reduceIte, Nat.reduceAdd, AV.cells, AV.isTuple, setMany, alen, aiaddr, afill, Nat.reduceLeDiff, Nat.reduceMul, Nat.reduceLT, afillE, List.replicate, z2]
    refine call_pure (Check_ok ls) (ys := [.agg [.ro false (rows ls)]]) (.cons ?_ .nil) ?_
    · intro w m B v st hv
      cases hv with
      | agg _ vs hl ho hh =>
        refine .agg _ _ hl (by simp [AV.one]) fun i x v e1 e2 => ?_
        cases i with
        | zero => cases e1; exact y2'.carF (d := 0) (rows_simple ls) w m B v st (hh 0 _ v rfl e2)
        | succ i => simp at e1
    simp only [walkS, wl, rgets, retv, argsEnv, ev, cst, cst1, cstL, AEnv.get, AEnv.trim, envput, qstep, abin, aun, evs, evo, deref, qload, target, if_true, if_false, Nat.reduceEqDiff, reduceIte, Nat.reduceAdd, AV.cells, AV.isTuple, setMany, alen, aiaddr, afill, Nat.reduceLeDiff, Nat.reduceMul, Nat.reduceLT, afillE, List.replicate]
    refine withBool_intro ?_ ?_ <;> intro hb <;> simp only [walkS, wl, rgets, retv, argsEnv, ev, cst, cst1, cstL, AEnv.get, AEnv.trim, envput, qstep, abin, aun, evs, evo, deref, qload, target, if_true, if_false, Nat.reduceEqDiff, reduceIte, Nat.reduceAdd, AV.cells, AV.isTuple, setMany, alen, aiaddr, afill, Nat.reduceLeDiff, Nat.reduceMul, Nat.reduceLT, afillE, List.replicate]
    · obtain ⟨h1, h2⟩ := chk_ne (ls := ls) (by simpa using hb)
      refine storeR rfl rfl b2 rfl ⟨rfl, rfl, rfl, by simp⟩ fun H3 u1 u2 u3 => ?_
      simp only [AV.cells, setMany, List.set_cons_zero, List.set_cons_succ] at u2
      simp only [walkS, wl, rgets, retv, argsEnv, ev, cst, cst1, cstL, AEnv.get, AEnv.trim, envput, qstep, abin, aun, evs, evo, deref, qload, target, if_true, if_false, Nat.reduceEqDiff, reduceIte, Nat.reduceAdd, AV.cells, AV.isTuple, setMany, alen, aiaddr, afill, Nat.reduceLeDiff, Nat.reduceMul, Nat.reduceLT, afillE, List.replicate, u2]
      simp only [h1, Bool.false_eq_true, if_false]
      exact ⟨by omega, fun i hi => by rw [u3 i (by omega), z3 i (by omega), AHeap.obj_push_lt (by omega), y3 i (by omega), AHeap.obj_push_lt hi], .nilSlice, rfl, .inl ⟨rfl, rfl⟩⟩
    · have h1 := chk_zero (ls := ls) (by simpa using hb)
      simp only [walkS, wl, rgets, retv, argsEnv, ev, cst, cst1, cstL, AEnv.get, AEnv.trim, envput, qstep, abin, aun, evs, evo, deref, qload, target, if_true, if_false, Nat.reduceEqDiff, reduceIte, Nat.reduceAdd, AV.cells, AV.isTuple, setMany, alen, aiaddr, afill, Nat.reduceLeDiff, Nat.reduceMul, Nat.reduceLT, afillE, List.replicate, z2]
      refine storeR rfl rfl b2 rfl ⟨rfl, hcl, rfl, by simp⟩ fun H3 u1 u2 u3 => ?_
      simp only [AV.cells, setMany, List.set_cons_zero, List.set_cons_succ] at u2
      simp only [walkS, wl, rgets, retv, argsEnv, ev, cst, cst1, cstL, AEnv.get, AEnv.trim, envput, qstep, abin, aun, evs, evo, deref, qload, target, if_true, if_false, Nat.reduceEqDiff, reduceIte, Nat.reduceAdd, AV.cells, AV.isTuple, setMany, alen, aiaddr, afill, Nat.reduceLeDiff, Nat.reduceMul, Nat.reduceLT, afillE, List.replicate, u2]
      simp only [h1, if_true]
      exact ⟨by omega, fun i hi => by rw [u3 i (by omega), z3 i (by omega), AHeap.obj_push_lt (by omega), y3 i (by omega), AHeap.obj_push_lt hi], _, rfl, (y2'.keep fun i h1 h2 => by rw [u3 i (by omega)]).weaken (by omega)⟩
end Go.Proofs.YtomejgikdelgkaaGreatDoor
