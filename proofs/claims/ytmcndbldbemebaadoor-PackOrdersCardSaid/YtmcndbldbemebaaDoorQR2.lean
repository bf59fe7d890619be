/- Contracts of the specification: flow, lose. -/
import Derived.Test.YtmcndbldbemebaaDoorQC12
set_option linter.unusedVariables false
set_option linter.unusedSimpArgs false
set_option linter.unusedSectionVars false
namespace Go.Proofs.YtmcndbldbemebaaDoor
open Go.Awp Go.Snow
set_option linter.unusedSimpArgs false
set_option linter.unusedVariables false
set_option linter.unusedSectionVars false
set_option maxRecDepth 10000
def fullL (l : Lay) : Prop := l.2.2 = 0 ∧ l.1 / 20 ≤ l.2.1
theorem one_end : ∀ {cur : List Lay}, (∀ l, l ∈ cur → fullL l) → one cur = (cur, 1)
  | [], _ => rfl
  | l :: r, h => by
    have h1 := h l (by simp)
    have h2 := one_end (cur := r) fun x hx => h x (by simp [hx])
    have c1 : ¬ 0 < l.2.2 := by rw [h1.1]; omega
    have c2 : ¬ l.2.1 < l.1 / 20 := by have := h1.2; omega
    simp only [one, c1, c2, if_false, h2]
theorem one_at : ∀ {cur : List Lay} {k : Nat} (hk : k < cur.length), (∀ j (h : j < k), fullL (cur[j]'(by omega))) → 0 ≤ cur[k].2.2 → ¬ fullL cur[k] →
    one cur = (cur.set k (if 0 < cur[k].2.2 then (cur[k].1 + 1, cur[k].2.1, cur[k].2.2 - 1) else (cur[k].1, cur[k].2.1 + 1, cur[k].2.2)), 0)
  | l :: r, 0, hk, _, h0, h => by
    simp only [List.getElem_cons_zero] at h0 h ⊢
    simp only [one, List.set_cons_zero]
    split
    · rfl
    · rename_i hc
      have : l.2.1 < l.1 / 20 := by
        unfold fullL at h
        omega
      rw [if_pos this]
  | l :: r, k + 1, hk, hj, h0, h => by
    have h1 := hj 0 (by omega)
    simp only [List.getElem_cons_zero] at h1
    have c1 : ¬ 0 < l.2.2 := by rw [h1.1]; omega
    have c2 : ¬ l.2.1 < l.1 / 20 := by have := h1.2; omega
    simp only [List.getElem_cons_succ] at h0 h ⊢
    have ih := one_at (cur := r) (k := k) (by simpa using hk) (fun j hh => by have := hj (j + 1) (by omega); simpa using this) h0 h
    simp only [one, c1, c2, if_false, ih, List.set_cons_succ]
theorem rows_set {ls : List Lay} {k : Nat} {l : Lay} : (rows ls).set k [I l.1, I l.2.1, I l.2.2] = rows (ls.set k l) := by
  simp [rows, List.map_set, dc]
theorem rflow_ok {H0 : AHeap} {x : AV} {ls : List Lay} {n : Nat} (hx : asrc H0 3 x = some (rows ls)) (hK : Nice 1000000000 ls) (hn : n ≤ 1000000000) (hl : ls.length ≤ 1000) :
    ACall Tryd.prog 91 [x, I (n : Int)] H0 fun r H => H0.length ≤ H.length ∧ (∀ i, i < H0.length → AHeap.obj H i = AHeap.obj H0 i) ∧ ∃ a, r = .tuple [a, I (pour n ls).2] ∧ Acc H0.length H a 43 3 (rows (pour n ls).1) := by
  refine ACall.intro text91 (by simp) ?_
  unfold ir91
  simp only [walkS, wl, rgets, retv, argsEnv, ev, cst, cst1, cstL, AEnv.get, AEnv.trim, envput, qstep, abin, aun, evs, evo, deref, qload, target, if_true, if_false, Nat.reduceEqDiff, reduceIte, Nat.reduceAdd, AV.cells, AV.isTuple, setMany, alen, aiaddr, afill, Nat.reduceLeDiff, Nat.reduceMul, Nat.reduceLT, afillE, List.replicate]
  refine acc_appendL (lo := H0.length) (els := []) (Nat.le_refl _) (.inl ⟨rfl, rfl⟩) rfl rfl hx (by simp only [rows_length, List.length_nil]; omega) fun a H1 y1 y2 y3 => ?_
  rw [List.nil_append] at y2
  rcases y2 with ⟨e0, rfl⟩ | ⟨h, hh, rfl, ho⟩
  · have : ls = [] := by cases ls with | nil => rfl | cons l r => simp [rows] at e0
    subst this
    simp only [walkS, wl, rgets, retv, argsEnv, ev, cst, cst1, cstL, AEnv.get, AEnv.trim, envput, qstep, abin, aun, evs, evo, deref, qload, target, if_true, if_false, Nat.reduceEqDiff, reduceIte, Nat.reduceAdd, AV.cells, AV.isTuple, setMany, alen, aiaddr, afill, Nat.reduceLeDiff, Nat.reduceMul, Nat.reduceLT, afillE, List.replicate]
    refine awp_loop (σ := Nat) (fun k => [(1, I n), (6, .nilSlice), (7, I k), (8, I k)]) (fun k H => H = H1) (fun k => k ≤ n) (fun k => n - k) 0 (Nat.zero_le _) rfl rfl ?_
    rintro k H hk rfl
    simp only [walkS, wl, rgets, retv, argsEnv, ev, cst, cst1, cstL, AEnv.get, AEnv.trim, envput, qstep, abin, aun, evs, evo, deref, qload, target, if_true, if_false, Nat.reduceEqDiff, reduceIte, Nat.reduceAdd, AV.cells, AV.isTuple, setMany, alen, aiaddr, afill, Nat.reduceLeDiff, Nat.reduceMul, Nat.reduceLT, afillE, List.replicate]
    refine withBool_intro ?_ ?_ <;> intro hb <;> simp only [walkS, wl, rgets, retv, argsEnv, ev, cst, cst1, cstL, AEnv.get, AEnv.trim, envput, qstep, abin, aun, evs, evo, deref, qload, target, if_true, if_false, Nat.reduceEqDiff, reduceIte, Nat.reduceAdd, AV.cells, AV.isTuple, setMany, alen, aiaddr, afill, Nat.reduceLeDiff, Nat.reduceMul, Nat.reduceLT, afillE, List.replicate]
    · have hlt : k < n := by simpa using hb
      have e5 : IntKind.i64.wrap ((k : Int) + 1) = ((k + 1 : Nat) : Int) := by rw [wrap_id (by omega) (by omega)]; simp
      refine awp_loop (σ := Unit) (fun _ => [(1, I n), (6, .nilSlice), (7, I k), (8, I k), (9, I 0)]) (fun _ G => G = H) (fun _ => True) (fun _ => 0) () trivial rfl rfl ?_
      rintro _ G - rfl
      have hq : decide ((0 : Int) < 0) = false := rfl
      simp only [walkS, wl, rgets, retv, argsEnv, ev, cst, cst1, cstL, AEnv.get, AEnv.trim, envput, qstep, abin, aun, evs, evo, deref, qload, target, if_true, if_false, Nat.reduceEqDiff, reduceIte, Nat.reduceAdd, AV.cells, AV.isTuple, setMany, alen, aiaddr, afill, Nat.reduceLeDiff, Nat.reduceMul, Nat.reduceLT, afillE, List.replicate, hq, beq_self_eq_true, e5]
      refine loop_end (k + 1) hlt (by omega) rfl rfl
    · have hk' : k = n := by simp at hb; omega
      subst hk'
      rw [pour_nil]
      exact ⟨y1, y3, .nilSlice, rfl, .inl ⟨rfl, rfl⟩⟩
  · rw [rows_length]
    obtain ⟨N, hN⟩ : ∃ N, N = ls.length := ⟨_, rfl⟩
    rw [← hN]
    have hh1 := AHeap.obj_lt ho
    simp only [walkS, wl, rgets, retv, argsEnv, ev, cst, cst1, cstL, AEnv.get, AEnv.trim, envput, qstep, abin, aun, evs, evo, deref, qload, target, if_true, if_false, Nat.reduceEqDiff, reduceIte, Nat.reduceAdd, AV.cells, AV.isTuple, setMany, alen, aiaddr, afill, Nat.reduceLeDiff, Nat.reduceMul, Nat.reduceLT, afillE, List.replicate]
    refine awp_loop (σ := Nat × List Lay × Int) (fun s => [(1, I n), (6, .own h N 0 N), (7, I s.2.2), (8, I s.1)])
      (fun s H => H.length = H1.length ∧ (∀ i, i ≠ h → AHeap.obj H i = AHeap.obj H1 i) ∧ AHeap.obj H h = some ⟨43, 3, rows s.2.1⟩)
      (fun s => s.1 ≤ n ∧ s.2.1 = (pour s.1 ls).1 ∧ s.2.2 = (pour s.1 ls).2) (fun s => n - s.1) (0, ls, 0) ⟨Nat.zero_le _, rfl, rfl⟩ rfl ⟨rfl, fun _ _ => rfl, ho⟩ ?_
    rintro ⟨k, cur, ran⟩ H ⟨hk, e1, e2⟩ ⟨g1, g2, g3⟩
    simp only at hk e1 e2 g3
    have hcl : cur.length = N := by rw [e1, pour_length, hN]
    have hran := pour_ran k ls
    have hnice : Nice 1000000000 cur := by rw [e1]; exact pour_nice hK k
    have hN1000 : N ≤ 1000 := by omega
    simp only [walkS, wl, rgets, retv, argsEnv, ev, cst, cst1, cstL, AEnv.get, AEnv.trim, envput, qstep, abin, aun, evs, evo, deref, qload, target, if_true, if_false, Nat.reduceEqDiff, reduceIte, Nat.reduceAdd, AV.cells, AV.isTuple, setMany, alen, aiaddr, afill, Nat.reduceLeDiff, Nat.reduceMul, Nat.reduceLT, afillE, List.replicate]
    refine withBool_intro ?_ ?_ <;> intro hb <;> simp only [walkS, wl, rgets, retv, argsEnv, ev, cst, cst1, cstL, AEnv.get, AEnv.trim, envput, qstep, abin, aun, evs, evo, deref, qload, target, if_true, if_false, Nat.reduceEqDiff, reduceIte, Nat.reduceAdd, AV.cells, AV.isTuple, setMany, alen, aiaddr, afill, Nat.reduceLeDiff, Nat.reduceMul, Nat.reduceLT, afillE, List.replicate]
    · have hlt : k < n := by simpa using hb
      have e5 : IntKind.i64.wrap ((k : Int) + 1) = ((k + 1 : Nat) : Int) := by rw [wrap_id (by omega) (by omega)]; simp
      have next : ∀ {cur' : List Lay} {r : Int}, one cur = (cur', r) → cur' = (pour (k + 1) ls).1 ∧ ran + r = (pour (k + 1) ls).2 := fun {cur' r} h => by
        rw [pour_succ, ← e1, ← e2, h]; exact ⟨rfl, rfl⟩
      refine awp_loop (σ := Nat) (fun j => [(1, I n), (6, .own h N 0 N), (7, I ran), (8, I k), (9, I j)]) (fun _ G => G = H) (fun j => ∃ hj : j ≤ cur.length, ∀ i (h : i < j), fullL (cur[i]'(by omega))) (fun j => N - j) 0 ⟨Nat.zero_le _, fun i h => absurd h (Nat.not_lt_zero _)⟩ rfl rfl ?_
      rintro j G ⟨hj, hfull⟩ rfl
      have hjN : ((j : Nat) : Int) < (N : Int) ∨ j = N := by omega
      simp only [walkS, wl, rgets, retv, argsEnv, ev, cst, cst1, cstL, AEnv.get, AEnv.trim, envput, qstep, abin, aun, evs, evo, deref, qload, target, if_true, if_false, Nat.reduceEqDiff, reduceIte, Nat.reduceAdd, AV.cells, AV.isTuple, setMany, alen, aiaddr, afill, Nat.reduceLeDiff, Nat.reduceMul, Nat.reduceLT, afillE, List.replicate, g3, rows_length, hcl]
      refine withGuard_intro ?_ ?_ <;> intro hb2 <;> simp only [walkS, wl, rgets, retv, argsEnv, ev, cst, cst1, cstL, AEnv.get, AEnv.trim, envput, qstep, abin, aun, evs, evo, deref, qload, target, if_true, if_false, Nat.reduceEqDiff, reduceIte, Nat.reduceAdd, AV.cells, AV.isTuple, setMany, alen, aiaddr, afill, Nat.reduceLeDiff, Nat.reduceMul, Nat.reduceLT, afillE, List.replicate, hb2, g3, rows_length, hcl]
      · have hjl : j < cur.length := by have := of_decide_eq_true hb2; omega
        have hi : (j : Int) < (N : Int) := by omega
        obtain ⟨⟨f1, f2, f3, f4, f5⟩, hlK⟩ := hnice cur[j] (List.getElem_mem hjl)
        have e6 : IntKind.i64.wrap ((j : Int) + 1) = ((j + 1 : Nat) : Int) := by rw [wrap_id (by omega) (by omega)]; simp
        have hne : ((j : Int) == (N : Int)) = false := by simp; omega
        have grow : ∀ {l' : Lay}, cur[j] ≠ l' → one cur = (cur.set j l', 0) → True := fun _ _ => trivial
        simp only [walkS, wl, rgets, retv, argsEnv, ev, cst, cst1, cstL, AEnv.get, AEnv.trim, envput, qstep, abin, aun, evs, evo, deref, qload, target, if_true, if_false, Nat.reduceEqDiff, reduceIte, Nat.reduceAdd, AV.cells, AV.isTuple, setMany, alen, aiaddr, afill, Nat.reduceLeDiff, Nat.reduceMul, Nat.reduceLT, afillE, List.replicate, g3, rows_length, hcl, hi, rows_get hjl]
        refine withGuard_intro ?_ ?_ <;> intro hb3 <;> simp only [walkS, wl, rgets, retv, argsEnv, ev, cst, cst1, cstL, AEnv.get, AEnv.trim, envput, qstep, abin, aun, evs, evo, deref, qload, target, if_true, if_false, Nat.reduceEqDiff, reduceIte, Nat.reduceAdd, AV.cells, AV.isTuple, setMany, alen, aiaddr, afill, Nat.reduceLeDiff, Nat.reduceMul, Nat.reduceLT, afillE, List.replicate, hb3, g3, rows_length, hcl, hi, rows_get hjl]
        · have hc0 : cur[j].2.2 = 0 := by simpa using hb3
          refine dcall_pure (rhold_ok (l := cur[j]) (by omega) (by omega)) (frzL_of (d := 4) rfl) ?_
          simp only [walkS, wl, rgets, retv, argsEnv, ev, cst, cst1, cstL, AEnv.get, AEnv.trim, envput, qstep, abin, aun, evs, evo, deref, qload, target, if_true, if_false, Nat.reduceEqDiff, reduceIte, Nat.reduceAdd, AV.cells, AV.isTuple, setMany, alen, aiaddr, afill, Nat.reduceLeDiff, Nat.reduceMul, Nat.reduceLT, afillE, List.replicate, hb3, g3, rows_length, hcl, hi, rows_get hjl]
          refine withBool_intro ?_ ?_ <;> intro hb4 <;> simp only [walkS, wl, rgets, retv, argsEnv, ev, cst, cst1, cstL, AEnv.get, AEnv.trim, envput, qstep, abin, aun, evs, evo, deref, qload, target, if_true, if_false, Nat.reduceEqDiff, reduceIte, Nat.reduceAdd, AV.cells, AV.isTuple, setMany, alen, aiaddr, afill, Nat.reduceLeDiff, Nat.reduceMul, Nat.reduceLT, afillE, List.replicate, e6]
          · have hw : cur[j].1 / 20 ≤ cur[j].2.1 := by simpa using hb4
            refine loop_end (j + 1) ⟨by omega, fun i h => ?_⟩ (by omega) rfl rfl
            rcases Nat.lt_or_ge i j with h1 | h1
            · exact hfull i h1
            · obtain rfl : i = j := by omega
              exact ⟨hc0, hw⟩
          · have hw : ¬ cur[j].1 / 20 ≤ cur[j].2.1 := by simpa using hb4
            have ho1 := one_at hjl hfull f4 (fun hf => hw hf.2)
            rw [if_neg (by omega)] at ho1
            obtain ⟨n1, n2⟩ := next ho1
            simp only [walkS, wl, rgets, retv, argsEnv, ev, cst, cst1, cstL, AEnv.get, AEnv.trim, envput, qstep, abin, aun, evs, evo, deref, qload, target, if_true, if_false, Nat.reduceEqDiff, reduceIte, Nat.reduceAdd, AV.cells, AV.isTuple, setMany, alen, aiaddr, afill, Nat.reduceLeDiff, Nat.reduceMul, Nat.reduceLT, afillE, List.replicate, hne, g3, rows_length, hcl, hi, rows_get hjl]
            have hc1 : decide (cur[j].2.2 > 0) = false := by simp; omega
            simp only [walkS, wl, rgets, retv, argsEnv, ev, cst, cst1, cstL, AEnv.get, AEnv.trim, envput, qstep, abin, aun, evs, evo, deref, qload, target, if_true, if_false, Nat.reduceEqDiff, reduceIte, Nat.reduceAdd, AV.cells, AV.isTuple, setMany, alen, aiaddr, afill, Nat.reduceLeDiff, Nat.reduceMul, Nat.reduceLT, afillE, List.replicate, hc1, g3, rows_length, hcl, hi, rows_get hjl]
            refine storeR rfl rfl g3 (rows_get hjl) ⟨by simp only [rows_length]; omega, rfl, rfl, by simp⟩ fun H2 z1 z2 z3 => ?_
            simp only [AV.cells, setMany, List.set_cons_zero, List.set_cons_succ, Nat.zero_add] at z2
            rw [wrap_id (by omega) (by omega)] at z2
            have es := rows_set (ls := cur) (k := j) (l := (cur[j].1, cur[j].2.1 + 1, cur[j].2.2))
            simp only at es
            rw [es] at z2
            simp only [walkS, wl, rgets, retv, argsEnv, ev, cst, cst1, cstL, AEnv.get, AEnv.trim, envput, qstep, abin, aun, evs, evo, deref, qload, target, if_true, if_false, Nat.reduceEqDiff, reduceIte, Nat.reduceAdd, AV.cells, AV.isTuple, setMany, alen, aiaddr, afill, Nat.reduceLeDiff, Nat.reduceMul, Nat.reduceLT, afillE, List.replicate, e5]
            refine loop_end (k + 1, cur.set j (cur[j].1, cur[j].2.1 + 1, cur[j].2.2), ran) ⟨hlt, n1, by simp only; omega⟩ (by simp only; omega) rfl ⟨by omega, fun i hi => by rw [z3 i hi]; exact g2 i hi, z2⟩
        · have hc0 : ¬ cur[j].2.2 = 0 := by simpa using hb3
          have ho1 := one_at hjl hfull f4 (fun hf => hc0 hf.1)
          rw [if_pos (by omega)] at ho1
          obtain ⟨n1, n2⟩ := next ho1
          simp only [walkS, wl, rgets, retv, argsEnv, ev, cst, cst1, cstL, AEnv.get, AEnv.trim, envput, qstep, abin, aun, evs, evo, deref, qload, target, if_true, if_false, Nat.reduceEqDiff, reduceIte, Nat.reduceAdd, AV.cells, AV.isTuple, setMany, alen, aiaddr, afill, Nat.reduceLeDiff, Nat.reduceMul, Nat.reduceLT, afillE, List.replicate, hne, g3, rows_length, hcl, hi, rows_get hjl]
          have hc1 : decide (cur[j].2.2 > 0) = true := by simp; omega
          simp only [walkS, wl, rgets, retv, argsEnv, ev, cst, cst1, cstL, AEnv.get, AEnv.trim, envput, qstep, abin, aun, evs, evo, deref, qload, target, if_true, if_false, Nat.reduceEqDiff, reduceIte, Nat.reduceAdd, AV.cells, AV.isTuple, setMany, alen, aiaddr, afill, Nat.reduceLeDiff, Nat.reduceMul, Nat.reduceLT, afillE, List.replicate, hc1, g3, rows_length, hcl, hi, rows_get hjl]
          refine storeR rfl rfl g3 (rows_get hjl) ⟨by simp only [rows_length]; omega, rfl, rfl, by simp⟩ fun H2 z1 z2 z3 => ?_
          simp only [AV.cells, setMany, List.set_cons_zero, List.set_cons_succ, Nat.zero_add] at z2
          rw [wrap_id (by omega) (by omega)] at z2
          have es := rows_set (ls := cur) (k := j) (l := (cur[j].1, cur[j].2.1, cur[j].2.2 - 1))
          simp only at es
          rw [es] at z2
          obtain ⟨c2, hc2⟩ : ∃ c2, c2 = cur.set j (cur[j].1, cur[j].2.1, cur[j].2.2 - 1) := ⟨_, rfl⟩
          rw [← hc2] at z2
          have hl2 : c2.length = N := by rw [hc2, List.length_set]; exact hcl
          have hj2 : j < c2.length := by omega
          have q2 : c2[j] = (cur[j].1, cur[j].2.1, cur[j].2.2 - 1) := by subst hc2; simp
          have gr2 := rows_get hj2
          rw [q2] at gr2
          simp only [walkS, wl, rgets, retv, argsEnv, ev, cst, cst1, cstL, AEnv.get, AEnv.trim, envput, qstep, abin, aun, evs, evo, deref, qload, target, if_true, if_false, Nat.reduceEqDiff, reduceIte, Nat.reduceAdd, AV.cells, AV.isTuple, setMany, alen, aiaddr, afill, Nat.reduceLeDiff, Nat.reduceMul, Nat.reduceLT, afillE, List.replicate, z2, rows_length, hl2, hi, gr2]
          refine storeR rfl rfl z2 gr2 ⟨by simp only [rows_length]; omega, rfl, rfl, by simp⟩ fun H3 w1 w2 w3 => ?_
          simp only [AV.cells, setMany, List.set_cons_zero, List.set_cons_succ, Nat.zero_add] at w2
          rw [wrap_id (by omega) (by omega)] at w2
          have es2 := rows_set (ls := c2) (k := j) (l := (cur[j].1 + 1, cur[j].2.1, cur[j].2.2 - 1))
          simp only at es2
          rw [es2, hc2, List.set_set] at w2
          simp only [walkS, wl, rgets, retv, argsEnv, ev, cst, cst1, cstL, AEnv.get, AEnv.trim, envput, qstep, abin, aun, evs, evo, deref, qload, target, if_true, if_false, Nat.reduceEqDiff, reduceIte, Nat.reduceAdd, AV.cells, AV.isTuple, setMany, alen, aiaddr, afill, Nat.reduceLeDiff, Nat.reduceMul, Nat.reduceLT, afillE, List.replicate, e5]
          refine loop_end (k + 1, cur.set j (cur[j].1 + 1, cur[j].2.1, cur[j].2.2 - 1), ran) ⟨hlt, n1, by simp only; omega⟩ (by simp only; omega) rfl ⟨by omega, fun i hi => by rw [w3 i hi, z3 i hi]; exact g2 i hi, w2⟩
      · have hjl : j = N := by have := of_decide_eq_false hb2; omega
        subst hjl
        have ho1 := one_end (cur := cur) fun l hl => by
          obtain ⟨i, hi, rfl⟩ := List.getElem_of_mem hl
          exact hfull i (by omega)
        obtain ⟨n1, n2⟩ := next ho1
        have e7 : IntKind.i64.wrap (ran + 1) = ran + 1 := wrap_id (by omega) (by omega)
        simp only [walkS, wl, rgets, retv, argsEnv, ev, cst, cst1, cstL, AEnv.get, AEnv.trim, envput, qstep, abin, aun, evs, evo, deref, qload, target, if_true, if_false, Nat.reduceEqDiff, reduceIte, Nat.reduceAdd, AV.cells, AV.isTuple, setMany, alen, aiaddr, afill, Nat.reduceLeDiff, Nat.reduceMul, Nat.reduceLT, afillE, List.replicate, beq_self_eq_true, e5, e7]
        refine loop_end (k + 1, cur, ran + 1) ⟨hlt, n1, n2⟩ (by simp only; omega) rfl ⟨g1, g2, g3⟩
    · have hk' : k = n := by simp at hb; omega
      subst hk'
      rw [← e1, ← e2]
      refine ⟨by omega, fun i hi => by rw [g2 i (by omega)]; exact y3 i hi, _, rfl, .inr ⟨h, hh, ?_, g3⟩⟩
      rw [rows_length, hcl]
end Go.Proofs.YtmcndbldbemebaaDoor
/- Contracts of the specification: lose. -/
namespace Go.Proofs.YtmcndbldbemebaaDoor
open Go.Awp Go.Snow
set_option linter.unusedSimpArgs false
set_option linter.unusedVariables false
set_option linter.unusedSectionVars false
set_option maxRecDepth 10000
theorem rlose_ok {H0 : AHeap} {h : Nat} {l : Lay} {r : List Lay} {more : Int} (ho : AHeap.obj H0 h = some ⟨43, 3, rows (l :: r)⟩) (hg : Firm 1000000 (l :: r)) (hm : 0 ≤ more ∧ more ≤ 1) (hl : r.length ≤ 900) :
    ACall Tryd.prog 92 [.own h (r.length + 1) 0 (r.length + 1), I more] H0 fun x H => H0.length ≤ H.length ∧ (∀ i, i < H0.length → AHeap.obj H i = AHeap.obj H0 i) ∧ ∃ a, x = .tuple [a, I (lose more (l :: r)).2] ∧ Acc H0.length H a 43 3 (rows (lose more (l :: r)).1) := by
  refine ACall.intro text92 (by simp) ?_
  unfold ir92
  have hh := AHeap.obj_lt ho
  obtain ⟨⟨⟨f1, f2, f3, f4, f5⟩, hlK⟩, h1⟩ := And.intro hg.1.head (hg.2 l (by simp))
  have hL : (rows (l :: r)).length = r.length + 1 := by rw [rows_length, List.length_cons]
  have g0 : (rows (l :: r))[0]? = some [I l.1, I l.2.1, I l.2.2] := rfl
  have hpos : (0 : Int) < ((r.length + 1 : Nat) : Int) := by omega
  simp only [walkS, wl, rgets, retv, argsEnv, ev, cst, cst1, cstL, AEnv.get, AEnv.trim, envput, qstep, abin, aun, evs, evo, deref, qload, target, if_true, if_false, Nat.reduceEqDiff, reduceIte, Nat.reduceAdd, AV.cells, AV.isTuple, setMany, alen, aiaddr, afill, Nat.reduceLeDiff, Nat.reduceMul, Nat.reduceLT, afillE, List.replicate, ho, hL, hpos, g0, Int.le_refl, Int.toNat_zero]
  have ho1 : ∀ X, AHeap.obj (H0 ++ X) h = some ⟨43, 3, rows (l :: r)⟩ := fun X => obj_keep ho
  refine storeR rfl rfl AHeap.obj_push_eq rfl ⟨rfl, rfl, rfl, by simp⟩ fun H1 y1 y2 y3 => ?_
  simp only [AV.cells, setMany, List.set_cons_zero, List.set_cons_succ] at y2
  simp only [List.length_append, List.length_cons, List.length_nil] at y1
  have o1 : AHeap.obj H1 h = some ⟨43, 3, rows (l :: r)⟩ := by rw [y3 h (by omega)]; exact ho1 _
  have hb : abnds (r.length + 1) (some (.int .i64 1)) none = some (1, r.length + 1) := abnds_lo (a := 1) (by omega)
  simp only [walkS, wl, rgets, retv, argsEnv, ev, cst, cst1, cstL, AEnv.get, AEnv.trim, envput, qstep, abin, aun, evs, evo, deref, qload, target, if_true, if_false, Nat.reduceEqDiff, reduceIte, Nat.reduceAdd, AV.cells, AV.isTuple, setMany, alen, aiaddr, afill, Nat.reduceLeDiff, Nat.reduceMul, Nat.reduceLT, afillE, List.replicate, o1, hL, aslice_own o1 hL hb, hb]
  have hsrc : asrc H1 3 (.own h (r.length + 1) 1 (r.length + 1 - 1)) = some (rows r) := by
    rw [asrc_part o1 hL]
    show some (((rows (l :: r)).drop 1).take (r.length + 1 - 1)) = _
    rw [show (rows (l :: r)).drop 1 = rows r from rfl, List.take_of_length_le (by rw [rows_length]; omega)]
  refine acc_appendL (lo := H0.length + 1) (els := []) (by omega) (.inl ⟨rfl, rfl⟩) rfl rfl hsrc (by simp only [rows_length, List.length_nil]; omega) fun b H2 z1 z2 z3 => ?_
  rw [List.nil_append] at z2
  have t2 : AHeap.obj H2 H0.length = some ⟨43, 3, [[I l.1, I l.2.1, I l.2.2]]⟩ := by rw [z3 _ (by omega)]; exact y2
  have k2 : ∀ i, i < H0.length → AHeap.obj H2 i = AHeap.obj H0 i := fun i hi => by rw [z3 i (by omega), y3 i (by omega), AHeap.obj_push_lt hi]
  have e1 : IntKind.i64.wrap (l.1 - 1) = l.1 - 1 := wrap_id (by omega) (by omega)
  have e2 : IntKind.i64.wrap (l.2.1 + more) = l.2.1 + more := wrap_id (by omega) (by omega)
  simp only [walkS, wl, rgets, retv, argsEnv, ev, cst, cst1, cstL, AEnv.get, AEnv.trim, envput, qstep, abin, aun, evs, evo, deref, qload, target, if_true, if_false, Nat.reduceEqDiff, reduceIte, Nat.reduceAdd, AV.cells, AV.isTuple, setMany, alen, aiaddr, afill, Nat.reduceLeDiff, Nat.reduceMul, Nat.reduceLT, afillE, List.replicate, t2, e1]
  refine storeR rfl rfl t2 rfl ⟨rfl, rfl, rfl, by simp⟩ fun H3 u1 u2 u3 => ?_
  simp only [AV.cells, setMany, List.set_cons_zero, List.set_cons_succ] at u2
  simp only [walkS, wl, rgets, retv, argsEnv, ev, cst, cst1, cstL, AEnv.get, AEnv.trim, envput, qstep, abin, aun, evs, evo, deref, qload, target, if_true, if_false, Nat.reduceEqDiff, reduceIte, Nat.reduceAdd, AV.cells, AV.isTuple, setMany, alen, aiaddr, afill, Nat.reduceLeDiff, Nat.reduceMul, Nat.reduceLT, afillE, List.replicate, u2, e2]
  refine call_pure (rhold_ok (l := (l.1 - 1, l.2.1, l.2.2)) (by simp only; omega) (by simp only; omega)) (frzL_of' (d := 4) rfl) ?_
  simp only [walkS, wl, rgets, retv, argsEnv, ev, cst, cst1, cstL, AEnv.get, AEnv.trim, envput, qstep, abin, aun, evs, evo, deref, qload, target, if_true, if_false, Nat.reduceEqDiff, reduceIte, Nat.reduceAdd, AV.cells, AV.isTuple, setMany, alen, aiaddr, afill, Nat.reduceLeDiff, Nat.reduceMul, Nat.reduceLT, afillE, List.replicate, u2, amm, amm.go, amin]
  obtain ⟨kp, hkp⟩ : ∃ kp, kp = min (l.2.1 + more) ((l.1 - 1) / 20) := ⟨_, rfl⟩
  rw [← hkp]
  refine storeR rfl rfl u2 rfl ⟨rfl, rfl, rfl, by simp⟩ fun H4 w1 w2 w3 => ?_
  simp only [AV.cells, setMany, List.set_cons_zero, List.set_cons_succ] at w2
  have z4 := z2.keep (H' := H4) fun i h1 h2 => by rw [w3 i (by omega), u3 i (by omega)]
  have k4 : ∀ i, i < H0.length → AHeap.obj H4 i = AHeap.obj H0 i := fun i hi => by rw [w3 i (by omega), u3 i (by omega)]; exact k2 i hi
  have hn1 : ((l.2.1 + more).toNat : Int) = l.2.1 + more := Int.toNat_of_nonneg (by omega)
  have hnice : Nice 1000000000 r := hg.1.tail.mono (by omega)
  simp only [walkS, wl, rgets, retv, argsEnv, ev, cst, cst1, cstL, AEnv.get, AEnv.trim, envput, qstep, abin, aun, evs, evo, deref, qload, target, if_true, if_false, Nat.reduceEqDiff, reduceIte, Nat.reduceAdd, AV.cells, AV.isTuple, setMany, alen, aiaddr, afill, Nat.reduceLeDiff, Nat.reduceMul, Nat.reduceLT, afillE, List.replicate, w2]
  refine withBool_intro ?_ ?_ <;> intro hb2 <;> simp only [walkS, wl, rgets, retv, argsEnv, ev, cst, cst1, cstL, AEnv.get, AEnv.trim, envput, qstep, abin, aun, evs, evo, deref, qload, target, if_true, if_false, Nat.reduceEqDiff, reduceIte, Nat.reduceAdd, AV.cells, AV.isTuple, setMany, alen, aiaddr, afill, Nat.reduceLeDiff, Nat.reduceMul, Nat.reduceLT, afillE, List.replicate]
  · have hz : l.1 - 1 = 0 := by simpa using hb2
    have hf := rflow_ok (n := (l.2.1 + more).toNat) z4.src hnice (by omega) (by omega)
    rw [hn1] at hf
    refine hf.mono fun x H5 ⟨v1, v2, a, e, v3⟩ => ?_
    subst e
    simp only [walkS, wl, rgets, retv, argsEnv, ev, cst, cst1, cstL, AEnv.get, AEnv.trim, envput, qstep, abin, aun, evs, evo, deref, qload, target, if_true, if_false, Nat.reduceEqDiff, reduceIte, Nat.reduceAdd, AV.cells, AV.isTuple, setMany, alen, aiaddr, afill, Nat.reduceLeDiff, Nat.reduceMul, Nat.reduceLT, afillE, List.replicate]
    have e : lose more (l :: r) = pour (l.2.1 + more).toNat r := by simp only [lose, hz, if_true]
    rw [e]
    exact ⟨by omega, fun i hi => by rw [v2 i (by omega)]; exact k4 i hi, a, rfl, v3.weaken (by omega)⟩
  · have hz : ¬ l.1 - 1 = 0 := by simpa using hb2
    have e3 : IntKind.i64.wrap (l.2.1 + more - kp) = l.2.1 + more - kp := wrap_id (by omega) (by omega)
    have hf := rflow_ok (n := (l.2.1 + more - kp).toNat) z4.src hnice (by omega) (by omega)
    rw [Int.toNat_of_nonneg (by omega)] at hf
    simp only [walkS, wl, rgets, retv, argsEnv, ev, cst, cst1, cstL, AEnv.get, AEnv.trim, envput, qstep, abin, aun, evs, evo, deref, qload, target, if_true, if_false, Nat.reduceEqDiff, reduceIte, Nat.reduceAdd, AV.cells, AV.isTuple, setMany, alen, aiaddr, afill, Nat.reduceLeDiff, Nat.reduceMul, Nat.reduceLT, afillE, List.replicate, w2, e3]
    refine hf.mono fun x H5 ⟨v1, v2, a, e, v3⟩ => ?_
    subst e
    have t5 : AHeap.obj H5 H0.length = some ⟨43, 3, [[I (l.1 - 1), I kp, I l.2.2]]⟩ := by rw [v2 _ (by omega)]; exact w2
    simp only [walkS, wl, rgets, retv, argsEnv, ev, cst, cst1, cstL, AEnv.get, AEnv.trim, envput, qstep, abin, aun, evs, evo, deref, qload, target, if_true, if_false, Nat.reduceEqDiff, reduceIte, Nat.reduceAdd, AV.cells, AV.isTuple, setMany, alen, aiaddr, afill, Nat.reduceLeDiff, Nat.reduceMul, Nat.reduceLT, afillE, List.replicate, t5]
    have v4 := v3.push [some ⟨43, 3, [[I (l.1 - 1), I kp, I l.2.2]]⟩]
    refine acc_appendL (lo := H5.length) (els := rows [(l.1 - 1, kp, l.2.2)]) (by simp) (.inr ⟨H5.length, Nat.le_refl _, rfl, AHeap.obj_push_eq⟩) rfl rfl v4.src (by simp only [rows_length, pour_length, List.length_cons, List.length_nil]; omega) fun b2 H6 x1 x2 x3 => ?_
    simp only [List.length_append, List.length_cons, List.length_nil] at x1
    simp only [walkS, wl, rgets, retv, argsEnv, ev, cst, cst1, cstL, AEnv.get, AEnv.trim, envput, qstep, abin, aun, evs, evo, deref, qload, target, if_true, if_false, Nat.reduceEqDiff, reduceIte, Nat.reduceAdd, AV.cells, AV.isTuple, setMany, alen, aiaddr, afill, Nat.reduceLeDiff, Nat.reduceMul, Nat.reduceLT, afillE, List.replicate]
    have e : lose more (l :: r) = ((l.1 - 1, kp, l.2.2) :: (pour (l.2.1 + more - kp).toNat r).1, (pour (l.2.1 + more - kp).toNat r).2) := by simp only [lose, hz, if_false, ← hkp]
    rw [e]
    refine ⟨by omega, fun i hi => by rw [x3 i (by omega), AHeap.obj_push_lt (by omega), v2 i (by omega)]; exact k4 i hi, ?_⟩
    have : rows [(l.1 - 1, kp, l.2.2)] ++ rows (pour (l.2.1 + more - kp).toNat r).1 = rows ((l.1 - 1, kp, l.2.2) :: (pour (l.2.1 + more - kp).toNat r).1) := by simp [rows]
    rw [this] at x2
    exact ⟨b2, rfl, x2.weaken (by omega)⟩
end Go.Proofs.YtmcndbldbemebaaDoor
