/- Contracts: Standing of the program. -/
import Derived.Test.YtgadlckkmhhmbaaDoorQC24
set_option linter.unusedVariables false
set_option linter.unusedSimpArgs false
set_option linter.unusedSectionVars false
namespace Go.Proofs.YtgadlckkmhhmbaaDoor
open Go.Awp Go.Grams
set_option linter.unusedSimpArgs false
set_option linter.unusedVariables false
set_option linter.unusedSectionVars false
set_option maxRecDepth 10000
/-- Numbers that are gone, as the rows of a map. -/
def mrows (l : List Int) : List (List AV) := l.map fun n => [I n, .bool true]
theorem mrows_midx {n : Int} : ∀ (l : List Int), l.contains n = false → midx [I n] (mrows l) = some none
  | [], _ => rfl
  | a :: r, h => by
    have h1 : (n == a) = false ∧ r.contains n = false := by simpa [List.contains_cons] using h
    have h2 := mrows_midx r h1.2
    simp only [mrows, List.map_cons, midx, List.dropLast] at h2 ⊢
    simp only [keyEqv, if_true, h1.1, h2]
theorem mrows_midx_t {n : Int} : ∀ (l : List Int), l.contains n = true → ∃ j, midx [I n] (mrows l) = some (some j) ∧ (mrows l)[j]? = some [I n, .bool true]
  | [], h => by cases h
  | a :: r, h => by
    by_cases h1 : n = a
    · subst h1
      refine ⟨0, ?_, rfl⟩
      simp only [mrows, List.map_cons, midx, List.dropLast, keyEqv, if_true, beq_self_eq_true]
    · have h2 : r.contains n = true := by
        rw [List.contains_cons] at h
        have h1' : (n == a) = false := by simpa using h1
        rwa [h1', Bool.false_or] at h
      obtain ⟨j, h3, h4⟩ := mrows_midx_t r h2
      refine ⟨j + 1, ?_, by simpa [mrows] using h4⟩
      have h1' : (n == a) = false := by simpa using h1
      simp only [mrows, List.map_cons, midx, List.dropLast] at h3 ⊢
      simp only [keyEqv, if_true, h1', h3]
theorem mrows_find (l : List Int) (n : Int) : (mfind [I n] (mrows l) = some (some (.bool true)) ∧ l.contains n = true) ∨ (mfind [I n] (mrows l) = some none ∧ l.contains n = false) := by
  cases h : l.contains n with
  | true =>
    obtain ⟨j, h1, h2⟩ := mrows_midx_t l h
    refine .inl ⟨?_, rfl⟩
    unfold mfind
    rw [h1]
    simp only [h2, List.getLast?_cons_cons, List.getLast?_singleton]
    rfl
  | false =>
    refine .inr ⟨?_, rfl⟩
    unfold mfind
    rw [mrows_midx l h]
theorem mapset_new {env : AEnv} {H : AHeap} {x k v : Operand} {h : Nat} {o : AObj} {n : Int} {K : AV → AHeap → Prop} (hx : ev env x = some (.map h)) (hk : ev env k = some (I n)) (hv : ev env v = some (.bool true)) (ho : AHeap.obj H h = some o) (hm : midx [I n] o.elems = some none)
    (hK : K (.tuple []) (H.set h (some { o with elems := o.elems ++ [[I n, .bool true]] }))) : withRes (sstep (.mapset 1 x k v) env H) K := by
  have key : keyCells 1 (I n) = some [I n] := rfl
  have e1 : mput [I n] (.bool true) o.elems = some (o.elems ++ [[I n, .bool true]]) := by unfold mput; rw [hm]; rfl
  simp only [sstep, hx, hk, hv, ho, key, e1]
  exact hK
theorem up_new {l : List Int} {k : Nat} (hk : k < l.length) (h : upI (l.take (k + 1)) = true) : (l.take k).contains l[k] = false := by
  rw [← Bool.not_eq_true, List.contains_iff_mem]
  intro hm
  obtain ⟨i, hi, e⟩ := List.getElem_of_mem hm
  have hik : i < k := by simp at hi; omega
  rw [List.getElem_take] at e
  rw [upI_iff] at h
  have mono : ∀ d, ∀ (h0 : i + d < k + 1), d = 0 ∨ l[i] < l[i + d]'(by omega) := by
    intro d
    induction d with
    | zero => intro _; exact .inl rfl
    | succ d ih =>
      intro h0
      have h1 := h (i + d) (by simp; omega)
      rw [List.getElem_take, List.getElem_take] at h1
      rcases ih (by omega) with rfl | h2
      · exact .inr h1
      · exact .inr (Int.lt_trans h2 h1)
  have := mono (k - i) (by omega)
  rcases this with h0 | h0
  · omega
  · have : i + (k - i) = k := by omega
    simp only [this] at h0
    omega
theorem Standing_ok (l : List Sht) (wd : List Int) (known : Int) (hwd : wd.length ≤ 100000) : PCall Tryd.prog 41 [.ro false (srows l), .ro false (ic wd), I known] (stV l wd known) := by
  refine PCall.intro text41 (by simp) ?_
  unfold ir41
  simp only [walk, wl, rgets, retv, argsEnv, ev, cst, cst1, cstL, AEnv.get, AEnv.trim, envput, qstep, abin, aun, evs, evo, deref, qload, target, if_true, if_false, Nat.reduceEqDiff, reduceIte, Nat.reduceAdd, AV.cells, AV.isTuple, setMany, alen, aiaddr, afill, Nat.reduceLeDiff, Nat.reduceMul, Nat.reduceLT, afillE, List.replicate]
  refine call_pure (sheets_ok l) (frzL_of' (d := 4) (carL_cons car_srows rfl)) ?_
  simp only [walk, wl, rgets, retv, argsEnv, ev, cst, cst1, cstL, AEnv.get, AEnv.trim, envput, qstep, abin, aun, evs, evo, deref, qload, target, if_true, if_false, Nat.reduceEqDiff, reduceIte, Nat.reduceAdd, AV.cells, AV.isTuple, setMany, alen, aiaddr, afill, Nat.reduceLeDiff, Nat.reduceMul, Nat.reduceLT, afillE, List.replicate]
  refine withBool_intro ?_ ?_ <;> intro h2 <;> simp only [walk, wl, rgets, retv, argsEnv, ev, cst, cst1, cstL, AEnv.get, AEnv.trim, envput, qstep, abin, aun, evs, evo, deref, qload, target, if_true, if_false, Nat.reduceEqDiff, reduceIte, Nat.reduceAdd, AV.cells, AV.isTuple, setMany, alen, aiaddr, afill, Nat.reduceLeDiff, Nat.reduceMul, Nat.reduceLT, afillE, List.replicate]
  · have h2' : shsE l ≠ 0 := by simpa using h2
    exact st_bad (by unfold stE; rw [if_pos h2']) h2' _
  · have h2' : shsE l = 0 := by simpa using h2
    have bad : ¬ (numsV wd = true ∧ okDay known = true) → stE l wd known = 1 := fun h => by unfold stE; rw [if_neg (by simp [h2']), if_neg h]
    have hl : l.length ≤ 256 := by
      unfold shsE at h2'; split at h2'
      · cases h2'
      · omega
    simp only [walk, wl, rgets, retv, argsEnv, ev, cst, cst1, cstL, AEnv.get, AEnv.trim, envput, qstep, abin, aun, evs, evo, deref, qload, target, if_true, if_false, Nat.reduceEqDiff, reduceIte, Nat.reduceAdd, AV.cells, AV.isTuple, setMany, alen, aiaddr, afill, Nat.reduceLeDiff, Nat.reduceMul, Nat.reduceLT, afillE, List.replicate, ic_length]
    refine awp_loop (σ := Nat) (fun k => [(0, .ro false (srows l)), (1, .ro false (ic wd)), (2, I known), (9, .map 0), (19, .ro false (ic wd)), (20, I wd.length), (21, I k)]) (fun k H => 1 ≤ H.length ∧ AHeap.obj H 0 = some ⟨0, 0, mrows (wd.take k)⟩) (fun k => k ≤ wd.length ∧ (wd.take k).all okNo = true ∧ upI (wd.take k) = true) (fun k => wd.length - k) 0 ⟨Nat.zero_le _, rfl, rfl⟩ rfl ⟨by simp, rfl⟩ ?_
    rintro k H ⟨hk, hall, hup⟩ ⟨hH, o0⟩
    simp only [walk, wl, rgets, retv, argsEnv, ev, cst, cst1, cstL, AEnv.get, AEnv.trim, envput, qstep, abin, aun, evs, evo, deref, qload, target, if_true, if_false, Nat.reduceEqDiff, reduceIte, Nat.reduceAdd, AV.cells, AV.isTuple, setMany, alen, aiaddr, afill, Nat.reduceLeDiff, Nat.reduceMul, Nat.reduceLT, afillE, List.replicate]
    refine withBool_intro ?_ ?_ <;> intro hb <;> simp only [walk, wl, rgets, retv, argsEnv, ev, cst, cst1, cstL, AEnv.get, AEnv.trim, envput, qstep, abin, aun, evs, evo, deref, qload, target, if_true, if_false, Nat.reduceEqDiff, reduceIte, Nat.reduceAdd, AV.cells, AV.isTuple, setMany, alen, aiaddr, afill, Nat.reduceLeDiff, Nat.reduceMul, Nat.reduceLT, afillE, List.replicate]
    · have hlt : k < wd.length := by simpa using hb
      have w1 := w_succ (k := k) (by omega)
      have put : okNo wd[k] = true → upI (wd.take (k + 1)) = true → 
          1 ≤ (H.set 0 (some { e := 0, s := 0, elems := mrows (wd.take k) ++ [[I wd[k], .bool true]] })).length ∧ AHeap.obj (H.set 0 (some { e := 0, s := 0, elems := mrows (wd.take k) ++ [[I wd[k], .bool true]] })) 0 = some ⟨0, 0, mrows (wd.take (k + 1))⟩ := fun _ _ => by
        refine ⟨by simpa using hH, ?_⟩
        rw [AHeap.obj_set_eq (by omega), List.take_succ_eq_append_getElem hlt]
        simp only [mrows, List.map_append, List.map_cons, List.map_nil]
      simp only [walk, wl, rgets, retv, argsEnv, ev, cst, cst1, cstL, AEnv.get, AEnv.trim, envput, qstep, abin, aun, evs, evo, deref, qload, target, if_true, if_false, Nat.reduceEqDiff, reduceIte, Nat.reduceAdd, AV.cells, AV.isTuple, setMany, alen, aiaddr, afill, Nat.reduceLeDiff, Nat.reduceMul, Nat.reduceLT, afillE, List.replicate, ic_get hlt]
      refine call_pure (number_ok _) (frzL_of' (d := 1) rfl) ?_
      simp only [walk, wl, rgets, retv, argsEnv, ev, cst, cst1, cstL, AEnv.get, AEnv.trim, envput, qstep, abin, aun, evs, evo, deref, qload, target, if_true, if_false, Nat.reduceEqDiff, reduceIte, Nat.reduceAdd, AV.cells, AV.isTuple, setMany, alen, aiaddr, afill, Nat.reduceLeDiff, Nat.reduceMul, Nat.reduceLT, afillE, List.replicate]
      refine withGuard_intro ?_ ?_ <;> intro g1 <;> simp only [walk, wl, rgets, retv, argsEnv, ev, cst, cst1, cstL, AEnv.get, AEnv.trim, envput, qstep, abin, aun, evs, evo, deref, qload, target, if_true, if_false, Nat.reduceEqDiff, reduceIte, Nat.reduceAdd, AV.cells, AV.isTuple, setMany, alen, aiaddr, afill, Nat.reduceLeDiff, Nat.reduceMul, Nat.reduceLT, afillE, List.replicate, g1]
      · have hok : okNo wd[k] = true := by simpa using g1
        refine withGuard_intro ?_ ?_ <;> intro g2 <;> simp only [walk, wl, rgets, retv, argsEnv, ev, cst, cst1, cstL, AEnv.get, AEnv.trim, envput, qstep, abin, aun, evs, evo, deref, qload, target, if_true, if_false, Nat.reduceEqDiff, reduceIte, Nat.reduceAdd, AV.cells, AV.isTuple, setMany, alen, aiaddr, afill, Nat.reduceLeDiff, Nat.reduceMul, Nat.reduceLT, afillE, List.replicate, g2]
        · have h0 : 0 < k := by simp at g2; omega
          have hlt1 : k - 1 < wd.length := by omega
          simp only [walk, wl, rgets, retv, argsEnv, ev, cst, cst1, cstL, AEnv.get, AEnv.trim, envput, qstep, abin, aun, evs, evo, deref, qload, target, if_true, if_false, Nat.reduceEqDiff, reduceIte, Nat.reduceAdd, AV.cells, AV.isTuple, setMany, alen, aiaddr, afill, Nat.reduceLeDiff, Nat.reduceMul, Nat.reduceLT, afillE, List.replicate, w_pred h0 (by omega), ic_get hlt1, ic_get hlt]
          refine withBool_intro ?_ ?_ <;> intro g3 <;> simp only [walk, wl, rgets, retv, argsEnv, ev, cst, cst1, cstL, AEnv.get, AEnv.trim, envput, qstep, abin, aun, evs, evo, deref, qload, target, if_true, if_false, Nat.reduceEqDiff, reduceIte, Nat.reduceAdd, AV.cells, AV.isTuple, setMany, alen, aiaddr, afill, Nat.reduceLeDiff, Nat.reduceMul, Nat.reduceLT, afillE, List.replicate, w1]
          · exact st_bad (bad (fun h => by rw [numsV_f (fun h => upI_f hlt h0 (by simp at g3; omega) h.2)] at h; exact absurd h.1 (by simp))) (by decide) _
          · have up := upI_take hlt hup (.inr fun _ => by simp at g3; omega)
            rw [a_mapset]
            refine mapset_new (n := wd[k]) rfl rfl rfl o0 (mrows_midx _ (up_new hlt up)) ?_
            simp only [walk, wl, rgets, retv, argsEnv, ev, cst, cst1, cstL, AEnv.get, AEnv.trim, envput, qstep, abin, aun, evs, evo, deref, qload, target, if_true, if_false, Nat.reduceEqDiff, reduceIte, Nat.reduceAdd, AV.cells, AV.isTuple, setMany, alen, aiaddr, afill, Nat.reduceLeDiff, Nat.reduceMul, Nat.reduceLT, afillE, List.replicate, w1]
            exact loop_end (k + 1) ⟨hlt, all_take hall hlt hok, up⟩ (by omega) rfl (put hok up)
        · have h0 : k = 0 := by simp at g2; omega
          have up := upI_take hlt hup (.inl h0)
          rw [a_mapset]
          refine mapset_new (n := wd[k]) rfl rfl rfl o0 (mrows_midx _ (up_new hlt up)) ?_
          simp only [walk, wl, rgets, retv, argsEnv, ev, cst, cst1, cstL, AEnv.get, AEnv.trim, envput, qstep, abin, aun, evs, evo, deref, qload, target, if_true, if_false, Nat.reduceEqDiff, reduceIte, Nat.reduceAdd, AV.cells, AV.isTuple, setMany, alen, aiaddr, afill, Nat.reduceLeDiff, Nat.reduceMul, Nat.reduceLT, afillE, List.replicate, w1]
          exact loop_end (k + 1) ⟨hlt, all_take hall hlt hok, up⟩ (by omega) rfl (put hok up)
      · exact st_bad (bad (fun h => by rw [numsV_f (fun h => by have := (List.all_eq_true.1 h.1) wd[k] (List.getElem_mem hlt); simp [this] at g1)] at h; exact absurd h.1 (by simp))) (by decide) _
    · have hk' : k = wd.length := by simp at hb; omega
      subst hk'
      rw [List.take_length] at hall hup o0
      have hn : numsV wd = true := by simp [numsV, hall, hup]
      refine call_pure (day_ok known) (frzL_of' (d := 1) rfl) ?_
      simp only [walk, wl, rgets, retv, argsEnv, ev, cst, cst1, cstL, AEnv.get, AEnv.trim, envput, qstep, abin, aun, evs, evo, deref, qload, target, if_true, if_false, Nat.reduceEqDiff, reduceIte, Nat.reduceAdd, AV.cells, AV.isTuple, setMany, alen, aiaddr, afill, Nat.reduceLeDiff, Nat.reduceMul, Nat.reduceLT, afillE, List.replicate]
      refine withBool_intro ?_ ?_ <;> intro h4 <;> simp only [walkS, wl, rgets, retv, argsEnv, ev, cst, cst1, cstL, AEnv.get, AEnv.trim, envput, qstep, abin, aun, evs, evo, deref, qload, target, if_true, if_false, Nat.reduceEqDiff, reduceIte, Nat.reduceAdd, AV.cells, AV.isTuple, setMany, alen, aiaddr, afill, Nat.reduceLeDiff, Nat.reduceMul, Nat.reduceLT, afillE, List.replicate, srows_length]
      · exact st_bad (bad (by simp at h4; simp [h4])) (by decide) _
      · have hE : stE l wd known = 0 := by unfold stE; rw [if_neg (by simp [h2']), if_pos ⟨hn, by simpa using h4⟩]
        refine storeR rfl rfl AHeap.obj_push_eq rfl ⟨rfl, rfl, rfl, by simp⟩ fun H1 y1 y2 y3 => ?_
        simp only [AV.cells, setMany, List.set_cons_zero, List.set_cons_succ] at y2
        simp only [List.length_append, List.length_cons, List.length_nil] at y1
        have p0 := (y3 0 (by omega)).trans (obj_keep o0)
        simp only [walkS, wl, rgets, retv, argsEnv, ev, cst, cst1, cstL, AEnv.get, AEnv.trim, envput, qstep, abin, aun, evs, evo, deref, qload, target, if_true, if_false, Nat.reduceEqDiff, reduceIte, Nat.reduceAdd, AV.cells, AV.isTuple, setMany, alen, aiaddr, afill, Nat.reduceLeDiff, Nat.reduceMul, Nat.reduceLT, afillE, List.replicate, y2, srows_length]
        have cm : ∀ d, carry false H1 (d + 1) (.map 0) = some (.mapR (mrows wd)) := fun d => by
          rw [show carry false H1 (d + 1) (.map 0) = (match AHeap.obj H1 0 with | some o => some (.mapR o.elems) | none => none) from rfl, p0]
        have cf : ∀ f, carry false H1 7 (.func f [.agg [.ro false (srows l), .map 0, I known]] []) = some (.func f [.agg [.ro false (srows l), .mapR (mrows wd), I known]] []) := fun f => by
          have h1 : carL (carry false H1 6) [.agg [.ro false (srows l), .map 0, I known]] = some [.agg [.ro false (srows l), .mapR (mrows wd), I known]] := carL_cons (car_agg (carL_cons (car_srows (d := 1)) (carL_cons (cm 4) (carL_cons car_int rfl)))) rfl
          rw [show carry false H1 7 (.func f [.agg [.ro false (srows l), .map 0, I known]] []) = (match carL (carry false H1 6) [.agg [.ro false (srows l), .map 0, I known]], carL (carry false H1 6) [] with | some a', some b' => some (.func f a' b') | _, _ => none) from rfl, h1]; rfl
        refine call_pure (chosen_ok (l := l) (rws := mrows wd) (wd := wd) (known := known) hl (mrows_find wd)) (frzL_of' (d := 7) (carL_cons car_int (carL_cons (cf _) (carL_cons (cf _) rfl)))) ?_
        simp only [walkS, wl, rgets, retv, argsEnv, ev, cst, cst1, cstL, AEnv.get, AEnv.trim, envput, qstep, abin, aun, evs, evo, deref, qload, target, if_true, if_false, Nat.reduceEqDiff, reduceIte, Nat.reduceAdd, AV.cells, AV.isTuple, setMany, alen, aiaddr, afill, Nat.reduceLeDiff, Nat.reduceMul, Nat.reduceLT, afillE, List.replicate]
        have : stL l wd known = idxs (stq l wd known) l.length := by unfold stL; rw [if_pos hE]
        unfold stV; rw [this, hE]; exact out_two (out_of (d := 3) (car_ro (ic_simple _) (.inr rfl))) out_int
end Go.Proofs.YtgadlckkmhhmbaaDoor
