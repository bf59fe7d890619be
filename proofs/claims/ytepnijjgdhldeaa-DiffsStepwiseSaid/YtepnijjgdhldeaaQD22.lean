/- Tables: valid ones; checked. -/
import Derived.Test.YtepnijjgdhldeaaQD21
namespace Go.Proofs.Ytepnijjgdhldeaa
open Go.Awp
set_option linter.unusedSimpArgs false
set_option linter.unusedVariables false
set_option maxRecDepth 10000
set_option maxHeartbeats 8000000
def mg (l : List Int) (x : Nat) : Int := l.getD x 0
def hq (l : List Bool) (x : Nat) : Bool := l.getD x false
theorem mg_eq {l : List Int} {x : Nat} (h : x < l.length) : l[x] = mg l x := by simp [mg, h]
theorem hq_eq {l : List Bool} {x : Nat} (h : x < l.length) : l[x] = hq l x := by simp [hq, h]
def Cell (N : Nat) (l : List Int) (m : List Bool) (i j : Nat) : Prop := (hq m (i * N + j) = true ∨ mg l (i * N + j) = 0) ∧ (-((N : Int) * 1073741824) ≤ mg l (i * N + j) ∧ mg l (i * N + j) ≤ (N : Int) * 1073741824) ∧ (i = j → hq m (i * N + j) = true ∧ mg l (i * N + j) = 0)
def Tri (N : Nat) (l : List Int) (m : List Bool) (i j k : Nat) : Prop := hq m (i * N + j) = true → hq m (j * N + k) = true → hq m (i * N + k) = true ∧ mg l (i * N + k) ≤ mg l (i * N + j) + mg l (j * N + k)
structure Tab (N : Nat) (l : List Int) (m : List Bool) : Prop where
  pos : 1 ≤ N
  most : N ≤ 64
  ll : l.length = N * N
  lm : m.length = N * N
  cell : ∀ i j, i < N → j < N → Cell N l m i j
  tri : ∀ i j k, i < N → j < N → k < N → Tri N l m i j k
open Classical in
noncomputable def tabB (n : Int) (l : List Int) (m : List Bool) : Bool := decide (0 ≤ n ∧ Tab n.toNat l m)
open Classical in
theorem tabB_t {N : Nat} {l : List Int} {m : List Bool} (h : Tab N l m) : tabB N l m = true := by
  unfold tabB; rw [decide_eq_true_iff]; exact ⟨by omega, by simpa using h⟩
open Classical in
theorem tabB_f {n : Int} {l : List Int} {m : List Bool} (h : ∀ N : Nat, n = N → ¬ Tab N l m) : tabB n l m = false := by
  unfold tabB; rw [decide_eq_false_iff_not]; rintro ⟨h0, h1⟩; exact h n.toNat (by omega) h1
open Classical in
theorem tabB_iff {n : Int} {l : List Int} {m : List Bool} : tabB n l m = true ↔ ∃ N : Nat, n = N ∧ Tab N l m := by
  unfold tabB; rw [decide_eq_true_iff]
  constructor
  · rintro ⟨h0, h1⟩; exact ⟨n.toNat, by omega, h1⟩
  · rintro ⟨N, rfl, h⟩; exact ⟨by omega, by simpa using h⟩
theorem cell_lt {N i j : Nat} (hi : i < N) (hj : j < N) : i * N + j < N * N := by
  have : (i + 1) * N ≤ N * N := Nat.mul_le_mul_right _ hi
  rw [Nat.succ_mul] at this; omega
theorem get_g {n i j : Nat} {l : List Int} {m : List Bool} {b c : Bool} (hn : n ≤ 64) (hi : i < n) (hj : j < n) (h : l.length = n * n) (h' : m.length = n * n) : PCall Try.prog 104 [.agg [I n, .ro b (ic l), I n, .ro c (bc m)], I i, I j] (.tuple [I (mg l (i * n + j)), .bool (hq m (i * n + j))]) := by
  have hc := cell_lt hi hj
  have := get104 (b := b) (c := c) (n := n) (i := i) (j := j) (l := l) (m := m) (by omega) (by omega) (by omega) (by omega) (by omega)
  rw [mg_eq, hq_eq] at this
  exact this
structure KF (N : Nat) (l : List Int) (m : List Bool) (p1 p2 g : Nat) (H : AHeap) : Prop where
  o0 : AHeap.obj H 0 = some ⟨73, 3, [[I N, .ro false (ic l), .ro false (bc m)]]⟩
  w1 : AHeap.obj H p1 = some ⟨3, 1, ic l⟩
  w2 : AHeap.obj H p2 = some ⟨4, 1, bc m⟩
  og : AHeap.obj H g = some ⟨120, 4, [[I N, .own p1 l.length 0 l.length, I N, .own p2 m.length 0 m.length]]⟩
theorem KF.car {N : Nat} {l : List Int} {m : List Bool} {p1 p2 g : Nat} {H : AHeap} (h : KF N l m p1 p2 g H) : carry false H 4 (.agg [I N, .own p1 l.length 0 l.length, I N, .own p2 m.length 0 m.length]) = some (.agg [I N, .ro false (ic l), I N, .ro false (bc m)]) :=
  car_agg (d := 3) (carL_cons rfl (carL_cons (car_ownN (d := 1) h.w1 (ic_length _) (ic_simple _)) (carL_cons rfl (carL_cons (car_ownN (d := 1) h.w2 (bc_length _) (bc_simple _)) rfl))))
theorem checked_ok {n : Int} {l : List Int} {m : List Bool} (hl : l.length ≤ big) (hm : m.length ≤ big) : PCall Try.prog 102 [.agg [I n, .ro false (ic l), .ro false (bc m)]] (.bool (tabB n l m)) := by
  unfold big at hl hm
  refine PCall.intro text102 (by simp) ?_
  unfold ir102
  simp only [walkS, wl, rgets, retv, argsEnv, ev, cst, cst1, cstL, AEnv.get, AEnv.trim, envput, qstep, abin, aun, evs, evo, deref, qload, target, if_true, if_false, Nat.reduceEqDiff, reduceIte, Nat.reduceAdd, AV.cells, AV.isTuple, setMany, alen, aiaddr, afill, Nat.reduceLeDiff, Nat.reduceMul, Nat.reduceLT, afillE, List.replicate]
  refine call_pure (in_ok _ _ _) (frzL_of' (d := 1) rfl) ?_
  by_cases h0 : 1 ≤ n ∧ n ≤ 64
  · obtain ⟨N, rfl⟩ : ∃ N : Nat, n = N := ⟨n.toNat, by omega⟩
    have e : (N : Int) * (N : Int) = ((N * N : Nat) : Int) := by simp
    have hNN : N * N ≤ 64 * 64 := Nat.mul_le_mul (by omega) (by omega)
    rw [decide_eq_true h0.1, decide_eq_true h0.2]
    simp only [walkS, wl, rgets, retv, argsEnv, ev, cst, cst1, cstL, AEnv.get, AEnv.trim, envput, qstep, abin, aun, evs, evo, deref, qload, target, if_true, if_false, Nat.reduceEqDiff, reduceIte, Nat.reduceAdd, AV.cells, AV.isTuple, setMany, alen, aiaddr, afill, Nat.reduceLeDiff, Nat.reduceMul, Nat.reduceLT, afillE, List.replicate, Bool.and_true, ic_length, bc_length]
    rw [e, wrap_id (x := ((N * N : Nat) : Int)) (by omega) (by omega)]
    by_cases h1 : l.length = N * N
    · by_cases h2 : m.length = N * N
      · have e1 : ((l.length : Int) != ((N * N : Nat) : Int)) = false := by simp [h1]
        have e2 : ((m.length : Int) != ((N * N : Nat) : Int)) = false := by simp [h2]
        have hN : N ≤ 64 := by omega
        have hp : 0 < N * N := Nat.mul_pos (by omega) (by omega)
        simp only [walkS, wl, rgets, retv, argsEnv, ev, cst, cst1, cstL, AEnv.get, AEnv.trim, envput, qstep, abin, aun, evs, evo, deref, qload, target, if_true, if_false, Nat.reduceEqDiff, reduceIte, Nat.reduceAdd, AV.cells, AV.isTuple, setMany, alen, aiaddr, afill, Nat.reduceLeDiff, Nat.reduceMul, Nat.reduceLT, afillE, List.replicate, e1, e2, bc_length, wrap_id (x := (N : Int) * 1073741824) (by omega) (by omega)]
        refine (opened_at (b := false) (c := false) (l := l) (m := m) (by intro h; rw [h] at h1; simp at h1; omega) (by intro h; rw [h] at h2; simp at h2; omega) (by omega) (by omega)).mono fun x H1 hx => ?_
        obtain ⟨kp, p1, p2, g1, g2, rfl, q1, q2⟩ := hx
        simp only [walkS, wl, rgets, retv, argsEnv, ev, cst, cst1, cstL, AEnv.get, AEnv.trim, envput, qstep, abin, aun, evs, evo, deref, qload, target, if_true, if_false, Nat.reduceEqDiff, reduceIte, Nat.reduceAdd, AV.cells, AV.isTuple, setMany, alen, aiaddr, afill, Nat.reduceLeDiff, Nat.reduceMul, Nat.reduceLT, afillE, List.replicate]
        refine storeR rfl rfl AHeap.obj_push_eq rfl ⟨rfl, rfl, rfl, by simp⟩ fun H2 y1 y2 y3 => ?_
        simp only [AV.cells, setMany, List.set_cons_zero, List.set_cons_succ, Nat.zero_add, Nat.reduceAdd] at y2
        have hp1 := AHeap.obj_lt q1
        have hp2 := AHeap.obj_lt q2
        have back : ∀ q, q < H1.length → AHeap.obj H2 q = AHeap.obj H1 q := fun q hq => by rw [y3 q (by omega), AHeap.obj_push_lt hq]
        have o0 : AHeap.obj H2 0 = some ⟨73, 3, [[I N, .ro false (ic l), .ro false (bc m)]]⟩ := by rw [back 0 (by omega), kp.2 0 (by simp)]; rfl
        have kf : KF N l m p1 p2 H1.length H2 := ⟨o0, (back _ hp1).trans q1, (back _ hp2).trans q2, y2⟩
        generalize H1.length = g at kf
        clear y1 y2 y3 back o0 q1 q2 hp1 hp2 kp g1 g2
        simp only [walkS, wl, rgets, retv, argsEnv, ev, cst, cst1, cstL, AEnv.get, AEnv.trim, envput, qstep, abin, aun, evs, evo, deref, qload, target, if_true, if_false, Nat.reduceEqDiff, reduceIte, Nat.reduceAdd, AV.cells, AV.isTuple, setMany, alen, aiaddr, afill, Nat.reduceLeDiff, Nat.reduceMul, Nat.reduceLT, afillE, List.replicate, kf.o0]
        refine awp_loop (σ := Nat) (fun i => [(1, .ptr 0 1 0 0), (4, I (N * 1073741824)), (5, .ptr g 1 0 0), (48, I N), (49, I i)]) (fun _ H => KF N l m p1 p2 g H) (fun i => i ≤ N ∧ ∀ a b, a < i → b < N → Cell N l m a b) (fun i => N - i) 0 ⟨Nat.zero_le _, by simp⟩ rfl kf ?_
        clear kf H2
        rintro i H ⟨hi, hd⟩ kf
        simp only [walkS, wl, rgets, retv, argsEnv, ev, cst, cst1, cstL, AEnv.get, AEnv.trim, envput, qstep, abin, aun, evs, evo, deref, qload, target, if_true, if_false, Nat.reduceEqDiff, reduceIte, Nat.reduceAdd, AV.cells, AV.isTuple, setMany, alen, aiaddr, afill, Nat.reduceLeDiff, Nat.reduceMul, Nat.reduceLT, afillE, List.replicate]
        refine withBool_intro ?_ ?_ <;> intro hb <;> simp only [walkS, wl, rgets, retv, argsEnv, ev, cst, cst1, cstL, AEnv.get, AEnv.trim, envput, qstep, abin, aun, evs, evo, deref, qload, target, if_true, if_false, Nat.reduceEqDiff, reduceIte, Nat.reduceAdd, AV.cells, AV.isTuple, setMany, alen, aiaddr, afill, Nat.reduceLeDiff, Nat.reduceMul, Nat.reduceLT, afillE, List.replicate, kf.o0]
        · have hlt : i < N := by simpa using hb
          refine awp_loop (σ := Nat) (fun j => [(1, .ptr 0 1 0 0), (4, I (N * 1073741824)), (5, .ptr g 1 0 0), (6, I i), (48, I N), (49, I i), (53, I N), (54, I j)]) (fun _ H => KF N l m p1 p2 g H) (fun j => j ≤ N ∧ ∀ b, b < j → Cell N l m i b) (fun j => N - j) 0 ⟨Nat.zero_le _, by simp⟩ rfl kf ?_
          clear kf H
          rintro j H ⟨hj, hc⟩ kf
          simp only [walkS, wl, rgets, retv, argsEnv, ev, cst, cst1, cstL, AEnv.get, AEnv.trim, envput, qstep, abin, aun, evs, evo, deref, qload, target, if_true, if_false, Nat.reduceEqDiff, reduceIte, Nat.reduceAdd, AV.cells, AV.isTuple, setMany, alen, aiaddr, afill, Nat.reduceLeDiff, Nat.reduceMul, Nat.reduceLT, afillE, List.replicate]
          refine withBool_intro ?_ ?_ <;> intro hb2 <;> simp only [walkS, wl, rgets, retv, argsEnv, ev, cst, cst1, cstL, AEnv.get, AEnv.trim, envput, qstep, abin, aun, evs, evo, deref, qload, target, if_true, if_false, Nat.reduceEqDiff, reduceIte, Nat.reduceAdd, AV.cells, AV.isTuple, setMany, alen, aiaddr, afill, Nat.reduceLeDiff, Nat.reduceMul, Nat.reduceLT, afillE, List.replicate, kf.og]
          · have hjl : j < N := by simpa using hb2
            refine call_pure (get_g (b := false) (c := false) hN hlt hjl h1 h2) (frzL_of' (d := 4) (carL_cons kf.car rfl)) ?_
            simp only [walkS, wl, rgets, retv, argsEnv, ev, cst, cst1, cstL, AEnv.get, AEnv.trim, envput, qstep, abin, aun, evs, evo, deref, qload, target, if_true, if_false, Nat.reduceEqDiff, reduceIte, Nat.reduceAdd, AV.cells, AV.isTuple, setMany, alen, aiaddr, afill, Nat.reduceLeDiff, Nat.reduceMul, Nat.reduceLT, afillE, List.replicate]
            have no : ¬ Cell N l m i j → tabB N l m = false := fun h => tabB_f fun K hK hT => h (by obtain rfl : K = N := (by omega); exact hT.cell i j hlt hjl)
            have yes : Cell N l m i j → ∀ b, b < j + 1 → Cell N l m i b := fun h b hb => by
              rcases Nat.lt_succ_iff_lt_or_eq.1 hb with h' | rfl
              · exact hc b h'
              · exact h
            have hcell : Cell N l m i j ↔ ((hq m (i * N + j) = true ∨ mg l (i * N + j) = 0) ∧ (-((N : Int) * 1073741824) ≤ mg l (i * N + j) ∧ mg l (i * N + j) ≤ (N : Int) * 1073741824) ∧ (i = j → hq m (i * N + j) = true ∧ mg l (i * N + j) = 0)) := Iff.rfl
            have wn : IntKind.i64.wrap (0 - (N : Int) * 1073741824) = -((N : Int) * 1073741824) := by rw [wrap_id (by omega) (by omega)]; omega
            revert hcell
            generalize hq m (i * N + j) = h
            generalize mg l (i * N + j) = v
            intro hcell
            cases h with
            | false =>
              by_cases hv : v = 0
              · have e1 : (v != 0) = false := by simp [hv]
                simp only [walkS, wl, rgets, retv, argsEnv, ev, cst, cst1, cstL, AEnv.get, AEnv.trim, envput, qstep, abin, aun, evs, evo, deref, qload, target, if_true, if_false, Nat.reduceEqDiff, reduceIte, Nat.reduceAdd, AV.cells, AV.isTuple, setMany, alen, aiaddr, afill, Nat.reduceLeDiff, Nat.reduceMul, Nat.reduceLT, afillE, List.replicate, Bool.not_false, e1, wn]
                refine call_pure (in_ok _ _ _) (frzL_of' (d := 1) rfl) ?_
                have e2 : (decide (-((N : Int) * 1073741824) ≤ v) && decide (v ≤ (N : Int) * 1073741824)) = true := by simp; omega
                by_cases hij : i = j
                · have e3 : ((i : Int) == (j : Int)) = true := by simp [hij]
                  simp only [walkS, wl, rgets, retv, argsEnv, ev, cst, cst1, cstL, AEnv.get, AEnv.trim, envput, qstep, abin, aun, evs, evo, deref, qload, target, if_true, if_false, Nat.reduceEqDiff, reduceIte, Nat.reduceAdd, AV.cells, AV.isTuple, setMany, alen, aiaddr, afill, Nat.reduceLeDiff, Nat.reduceMul, Nat.reduceLT, afillE, List.replicate, e2, e3, Bool.not_true, Bool.not_false]
                  rw [no (by rw [hcell]; rintro ⟨_, _, h⟩; have := (h hij).1; cases this)]; exact out_bool
                · have e3 : ((i : Int) == (j : Int)) = false := by simp; omega
                  simp only [walkS, wl, rgets, retv, argsEnv, ev, cst, cst1, cstL, AEnv.get, AEnv.trim, envput, qstep, abin, aun, evs, evo, deref, qload, target, if_true, if_false, Nat.reduceEqDiff, reduceIte, Nat.reduceAdd, AV.cells, AV.isTuple, setMany, alen, aiaddr, afill, Nat.reduceLeDiff, Nat.reduceMul, Nat.reduceLT, afillE, List.replicate, e2, e3, Bool.not_true, Bool.not_false]
                  rw [wrap_id (by omega) (by omega)]
                  exact loop_end (j + 1) ⟨hjl, yes (hcell.2 ⟨.inr hv, by omega, fun h => absurd h hij⟩)⟩ (by omega) rfl kf
              · have e1 : (v != 0) = true := by simp [hv]
                simp only [walkS, wl, rgets, retv, argsEnv, ev, cst, cst1, cstL, AEnv.get, AEnv.trim, envput, qstep, abin, aun, evs, evo, deref, qload, target, if_true, if_false, Nat.reduceEqDiff, reduceIte, Nat.reduceAdd, AV.cells, AV.isTuple, setMany, alen, aiaddr, afill, Nat.reduceLeDiff, Nat.reduceMul, Nat.reduceLT, afillE, List.replicate, Bool.not_false, e1]
                rw [no (by rw [hcell]; rintro ⟨h, _⟩; rcases h with h | h; cases h; exact hv h)]; exact out_bool
            | true =>
              simp only [walkS, wl, rgets, retv, argsEnv, ev, cst, cst1, cstL, AEnv.get, AEnv.trim, envput, qstep, abin, aun, evs, evo, deref, qload, target, if_true, if_false, Nat.reduceEqDiff, reduceIte, Nat.reduceAdd, AV.cells, AV.isTuple, setMany, alen, aiaddr, afill, Nat.reduceLeDiff, Nat.reduceMul, Nat.reduceLT, afillE, List.replicate, Bool.not_true, wn]
              refine call_pure (in_ok _ _ _) (frzL_of' (d := 1) rfl) ?_
              by_cases hr : -((N : Int) * 1073741824) ≤ v ∧ v ≤ (N : Int) * 1073741824
              · have e2 : (decide (-((N : Int) * 1073741824) ≤ v) && decide (v ≤ (N : Int) * 1073741824)) = true := by simp [hr.1, hr.2]
                by_cases hij : i = j
                · have e3 : ((i : Int) == (j : Int)) = true := by simp [hij]
                  by_cases hv : v = 0
                  · have e1 : (v != 0) = false := by simp [hv]
                    simp only [walkS, wl, rgets, retv, argsEnv, ev, cst, cst1, cstL, AEnv.get, AEnv.trim, envput, qstep, abin, aun, evs, evo, deref, qload, target, if_true, if_false, Nat.reduceEqDiff, reduceIte, Nat.reduceAdd, AV.cells, AV.isTuple, setMany, alen, aiaddr, afill, Nat.reduceLeDiff, Nat.reduceMul, Nat.reduceLT, afillE, List.replicate, e2, e3, e1, Bool.not_true, Bool.not_false]
                    rw [wrap_id (by omega) (by omega)]
                    exact loop_end (j + 1) ⟨hjl, yes (hcell.2 ⟨.inl rfl, hr, fun h => ⟨rfl, hv⟩⟩)⟩ (by omega) rfl kf
                  · have e1 : (v != 0) = true := by simp [hv]
                    simp only [walkS, wl, rgets, retv, argsEnv, ev, cst, cst1, cstL, AEnv.get, AEnv.trim, envput, qstep, abin, aun, evs, evo, deref, qload, target, if_true, if_false, Nat.reduceEqDiff, reduceIte, Nat.reduceAdd, AV.cells, AV.isTuple, setMany, alen, aiaddr, afill, Nat.reduceLeDiff, Nat.reduceMul, Nat.reduceLT, afillE, List.replicate, e2, e3, e1, Bool.not_true, Bool.not_false]
                    rw [no (by rw [hcell]; rintro ⟨_, _, h⟩; exact hv (h hij).2)]; exact out_bool
                · have e3 : ((i : Int) == (j : Int)) = false := by simp; omega
                  simp only [walkS, wl, rgets, retv, argsEnv, ev, cst, cst1, cstL, AEnv.get, AEnv.trim, envput, qstep, abin, aun, evs, evo, deref, qload, target, if_true, if_false, Nat.reduceEqDiff, reduceIte, Nat.reduceAdd, AV.cells, AV.isTuple, setMany, alen, aiaddr, afill, Nat.reduceLeDiff, Nat.reduceMul, Nat.reduceLT, afillE, List.replicate, e2, e3, Bool.not_true, Bool.not_false]
                  rw [wrap_id (by omega) (by omega)]
                  exact loop_end (j + 1) ⟨hjl, yes (hcell.2 ⟨.inl rfl, hr, fun h => absurd h hij⟩)⟩ (by omega) rfl kf
              · have e2 : (decide (-((N : Int) * 1073741824) ≤ v) && decide (v ≤ (N : Int) * 1073741824)) = false := by simp; omega
                simp only [walkS, wl, rgets, retv, argsEnv, ev, cst, cst1, cstL, AEnv.get, AEnv.trim, envput, qstep, abin, aun, evs, evo, deref, qload, target, if_true, if_false, Nat.reduceEqDiff, reduceIte, Nat.reduceAdd, AV.cells, AV.isTuple, setMany, alen, aiaddr, afill, Nat.reduceLeDiff, Nat.reduceMul, Nat.reduceLT, afillE, List.replicate, e2, Bool.not_true, Bool.not_false]
                rw [no (by rw [hcell]; rintro ⟨_, h, _⟩; exact hr h)]; exact out_bool
          · have hjm : j = N := by simp at hb2; omega
            subst hjm
            rw [wrap_id (by omega) (by omega)]
            refine loop_end (i + 1) ⟨hlt, fun a b' ha hb' => ?_⟩ (by omega) rfl kf
            rcases Nat.lt_succ_iff_lt_or_eq.1 ha with h' | rfl
            · exact hd a b' h' hb'
            · exact hc b' hb'
        · have him : i = N := by simp at hb; omega
          subst him
          have hcells := hd
          clear hd hb hi
          refine awp_loop (σ := Nat) (fun a => [(1, .ptr 0 1 0 0), (5, .ptr g 1 0 0), (94, I i), (95, I a)]) (fun _ H => KF i l m p1 p2 g H) (fun a => a ≤ i ∧ ∀ x y z, x < a → y < i → z < i → Tri i l m x y z) (fun a => i - a) 0 ⟨Nat.zero_le _, by simp⟩ rfl kf ?_
          clear kf H
          rintro a H ⟨hi, hd⟩ kf
          simp only [walkS, wl, rgets, retv, argsEnv, ev, cst, cst1, cstL, AEnv.get, AEnv.trim, envput, qstep, abin, aun, evs, evo, deref, qload, target, if_true, if_false, Nat.reduceEqDiff, reduceIte, Nat.reduceAdd, AV.cells, AV.isTuple, setMany, alen, aiaddr, afill, Nat.reduceLeDiff, Nat.reduceMul, Nat.reduceLT, afillE, List.replicate]
          refine withBool_intro ?_ ?_ <;> intro hb <;> simp only [walkS, wl, rgets, retv, argsEnv, ev, cst, cst1, cstL, AEnv.get, AEnv.trim, envput, qstep, abin, aun, evs, evo, deref, qload, target, if_true, if_false, Nat.reduceEqDiff, reduceIte, Nat.reduceAdd, AV.cells, AV.isTuple, setMany, alen, aiaddr, afill, Nat.reduceLeDiff, Nat.reduceMul, Nat.reduceLT, afillE, List.replicate, kf.o0]
          · have hlt : a < i := by simpa using hb
            refine awp_loop (σ := Nat) (fun j => [(1, .ptr 0 1 0 0), (5, .ptr g 1 0 0), (10, I a), (94, I i), (95, I a), (99, I i), (100, I j)]) (fun _ H => KF i l m p1 p2 g H) (fun j => j ≤ i ∧ ∀ y z, y < j → z < i → Tri i l m a y z) (fun j => i - j) 0 ⟨Nat.zero_le _, by simp⟩ rfl kf ?_
            clear kf H
            rintro j H ⟨hj, hc⟩ kf
            simp only [walkS, wl, rgets, retv, argsEnv, ev, cst, cst1, cstL, AEnv.get, AEnv.trim, envput, qstep, abin, aun, evs, evo, deref, qload, target, if_true, if_false, Nat.reduceEqDiff, reduceIte, Nat.reduceAdd, AV.cells, AV.isTuple, setMany, alen, aiaddr, afill, Nat.reduceLeDiff, Nat.reduceMul, Nat.reduceLT, afillE, List.replicate]
            refine withBool_intro ?_ ?_ <;> intro hb2 <;> simp only [walkS, wl, rgets, retv, argsEnv, ev, cst, cst1, cstL, AEnv.get, AEnv.trim, envput, qstep, abin, aun, evs, evo, deref, qload, target, if_true, if_false, Nat.reduceEqDiff, reduceIte, Nat.reduceAdd, AV.cells, AV.isTuple, setMany, alen, aiaddr, afill, Nat.reduceLeDiff, Nat.reduceMul, Nat.reduceLT, afillE, List.replicate, kf.og]
            · have hjl : j < i := by simpa using hb2
              refine call_pure (get_g (b := false) (c := false) hN hlt hjl h1 h2) (frzL_of' (d := 4) (carL_cons kf.car rfl)) ?_
              simp only [walkS, wl, rgets, retv, argsEnv, ev, cst, cst1, cstL, AEnv.get, AEnv.trim, envput, qstep, abin, aun, evs, evo, deref, qload, target, if_true, if_false, Nat.reduceEqDiff, reduceIte, Nat.reduceAdd, AV.cells, AV.isTuple, setMany, alen, aiaddr, afill, Nat.reduceLeDiff, Nat.reduceMul, Nat.reduceLT, afillE, List.replicate]
              refine awp_loop (σ := Nat) (fun k => [(1, .ptr 0 1 0 0), (5, .ptr g 1 0 0), (10, I a), (11, I j), (12, I (mg l (a * i + j))), (13, .bool (hq m (a * i + j))), (14, I k), (94, I i), (95, I a), (99, I i), (100, I j)]) (fun _ H => KF i l m p1 p2 g H) (fun k => k ≤ i ∧ ∀ z, z < k → Tri i l m a j z) (fun k => i - k) 0 ⟨Nat.zero_le _, by simp⟩ rfl kf ?_
              clear kf H
              rintro k H ⟨hk, he⟩ kf
              simp only [walkS, wl, rgets, retv, argsEnv, ev, cst, cst1, cstL, AEnv.get, AEnv.trim, envput, qstep, abin, aun, evs, evo, deref, qload, target, if_true, if_false, Nat.reduceEqDiff, reduceIte, Nat.reduceAdd, AV.cells, AV.isTuple, setMany, alen, aiaddr, afill, Nat.reduceLeDiff, Nat.reduceMul, Nat.reduceLT, afillE, List.replicate, kf.o0]
              refine withGuard_intro ?_ ?_ <;> intro hb3 <;> simp only [walkS, wl, rgets, retv, argsEnv, ev, cst, cst1, cstL, AEnv.get, AEnv.trim, envput, qstep, abin, aun, evs, evo, deref, qload, target, if_true, if_false, Nat.reduceEqDiff, reduceIte, Nat.reduceAdd, AV.cells, AV.isTuple, setMany, alen, aiaddr, afill, Nat.reduceLeDiff, Nat.reduceMul, Nat.reduceLT, afillE, List.replicate, hb3]
              · have hkl : k < i := by simpa using hb3
                have no : ¬ Tri i l m a j k → tabB i l m = false := fun h => tabB_f fun K hK hT => h (by obtain rfl : K = i := (by omega); exact hT.tri a j k hlt hjl hkl)
                have yes : Tri i l m a j k → ∀ z, z < k + 1 → Tri i l m a j z := fun h z hz => by
                  rcases Nat.lt_succ_iff_lt_or_eq.1 hz with h' | rfl
                  · exact he z h'
                  · exact h
                have htri : Tri i l m a j k ↔ (hq m (a * i + j) = true → hq m (j * i + k) = true → hq m (a * i + k) = true ∧ mg l (a * i + k) ≤ mg l (a * i + j) + mg l (j * i + k)) := Iff.rfl
                have b1 := (hcells a j hlt hjl).2.1
                have b2 := (hcells j k hjl hkl).2.1
                refine withBool_intro ?_ ?_ <;> intro hb4 <;> simp only [walkS, wl, rgets, retv, argsEnv, ev, cst, cst1, cstL, AEnv.get, AEnv.trim, envput, qstep, abin, aun, evs, evo, deref, qload, target, if_true, if_false, Nat.reduceEqDiff, reduceIte, Nat.reduceAdd, AV.cells, AV.isTuple, setMany, alen, aiaddr, afill, Nat.reduceLeDiff, Nat.reduceMul, Nat.reduceLT, afillE, List.replicate, kf.og]
                · refine call_pure (get_g (b := false) (c := false) hN hjl hkl h1 h2) (frzL_of' (d := 4) (carL_cons kf.car rfl)) ?_
                  simp only [walkS, wl, rgets, retv, argsEnv, ev, cst, cst1, cstL, AEnv.get, AEnv.trim, envput, qstep, abin, aun, evs, evo, deref, qload, target, if_true, if_false, Nat.reduceEqDiff, reduceIte, Nat.reduceAdd, AV.cells, AV.isTuple, setMany, alen, aiaddr, afill, Nat.reduceLeDiff, Nat.reduceMul, Nat.reduceLT, afillE, List.replicate, kf.og]
                  refine call_pure (get_g (b := false) (c := false) hN hlt hkl h1 h2) (frzL_of' (d := 4) (carL_cons kf.car rfl)) ?_
                  simp only [walkS, wl, rgets, retv, argsEnv, ev, cst, cst1, cstL, AEnv.get, AEnv.trim, envput, qstep, abin, aun, evs, evo, deref, qload, target, if_true, if_false, Nat.reduceEqDiff, reduceIte, Nat.reduceAdd, AV.cells, AV.isTuple, setMany, alen, aiaddr, afill, Nat.reduceLeDiff, Nat.reduceMul, Nat.reduceLT, afillE, List.replicate]
                  cases e5 : hq m (j * i + k) with
                  | false =>
                    simp only [walkS, wl, rgets, retv, argsEnv, ev, cst, cst1, cstL, AEnv.get, AEnv.trim, envput, qstep, abin, aun, evs, evo, deref, qload, target, if_true, if_false, Nat.reduceEqDiff, reduceIte, Nat.reduceAdd, AV.cells, AV.isTuple, setMany, alen, aiaddr, afill, Nat.reduceLeDiff, Nat.reduceMul, Nat.reduceLT, afillE, List.replicate, e5]
                    rw [wrap_id (by omega) (by omega)]
                    exact loop_end (k + 1) ⟨hkl, yes (htri.2 fun _ h => by rw [e5] at h; cases h)⟩ (by omega) rfl kf
                  | true =>
                    cases e6 : hq m (a * i + k) with
                    | false =>
                      simp only [walkS, wl, rgets, retv, argsEnv, ev, cst, cst1, cstL, AEnv.get, AEnv.trim, envput, qstep, abin, aun, evs, evo, deref, qload, target, if_true, if_false, Nat.reduceEqDiff, reduceIte, Nat.reduceAdd, AV.cells, AV.isTuple, setMany, alen, aiaddr, afill, Nat.reduceLeDiff, Nat.reduceMul, Nat.reduceLT, afillE, List.replicate, e5, e6, Bool.not_false]
                      rw [no (by rw [htri]; intro h; have := (h hb4 e5).1; rw [e6] at this; cases this)]; exact out_bool
                    | true =>
                      simp only [walkS, wl, rgets, retv, argsEnv, ev, cst, cst1, cstL, AEnv.get, AEnv.trim, envput, qstep, abin, aun, evs, evo, deref, qload, target, if_true, if_false, Nat.reduceEqDiff, reduceIte, Nat.reduceAdd, AV.cells, AV.isTuple, setMany, alen, aiaddr, afill, Nat.reduceLeDiff, Nat.reduceMul, Nat.reduceLT, afillE, List.replicate, e5, e6, Bool.not_true, wrap_id (x := mg l (a * i + j) + mg l (j * i + k)) (by omega) (by omega)]
                      refine withBool_intro ?_ ?_ <;> intro hb5 <;> simp only [walkS, wl, rgets, retv, argsEnv, ev, cst, cst1, cstL, AEnv.get, AEnv.trim, envput, qstep, abin, aun, evs, evo, deref, qload, target, if_true, if_false, Nat.reduceEqDiff, reduceIte, Nat.reduceAdd, AV.cells, AV.isTuple, setMany, alen, aiaddr, afill, Nat.reduceLeDiff, Nat.reduceMul, Nat.reduceLT, afillE, List.replicate]
                      · rw [no (by rw [htri]; intro h; have := (h hb4 e5).2; simp at hb5; omega)]; exact out_bool
                      · rw [wrap_id (by omega) (by omega)]
                        exact loop_end (k + 1) ⟨hkl, yes (htri.2 fun _ _ => ⟨e6, by simp at hb5; omega⟩)⟩ (by omega) rfl kf
                · rw [wrap_id (by omega) (by omega)]
                  refine loop_end (j + 1) ⟨hjl, fun y z hy hz => ?_⟩ (by omega) rfl kf
                  rcases Nat.lt_succ_iff_lt_or_eq.1 hy with h' | rfl
                  · exact hc y z h' hz
                  · intro h; rw [hb4] at h; cases h
              · have hki : k = i := by simp at hb3; omega
                subst hki
                rw [wrap_id (by omega) (by omega)]
                refine loop_end (j + 1) ⟨hjl, fun y z hy hz => ?_⟩ (by omega) rfl kf
                rcases Nat.lt_succ_iff_lt_or_eq.1 hy with h' | rfl
                · exact hc y z h' hz
                · exact he z hz
            · have hjm : j = i := by simp at hb2; omega
              subst hjm
              rw [wrap_id (by omega) (by omega)]
              refine loop_end (a + 1) ⟨hlt, fun x y z hx hy hz => ?_⟩ (by omega) rfl kf
              rcases Nat.lt_succ_iff_lt_or_eq.1 hx with h' | rfl
              · exact hd x y z h' hy hz
              · exact hc y z hy hz
          · have hai : a = i := by simp at hb; omega
            subst hai
            rw [tabB_t ⟨by omega, by omega, h1, h2, hcells, hd⟩]; exact out_bool
      · have e1 : ((l.length : Int) != ((N * N : Nat) : Int)) = false := by simp [h1]
        have e2 : ((m.length : Int) != ((N * N : Nat) : Int)) = true := by simp [h2]; omega
        simp only [walkS, wl, rgets, retv, argsEnv, ev, cst, cst1, cstL, AEnv.get, AEnv.trim, envput, qstep, abin, aun, evs, evo, deref, qload, target, if_true, if_false, Nat.reduceEqDiff, reduceIte, Nat.reduceAdd, AV.cells, AV.isTuple, setMany, alen, aiaddr, afill, Nat.reduceLeDiff, Nat.reduceMul, Nat.reduceLT, afillE, List.replicate, e1, e2, bc_length]
        rw [tabB_f (fun K hK hT => h2 (by have := hT.lm; rw [show N = K by omega]; exact this))]; exact out_bool
    · have e1 : ((l.length : Int) != ((N * N : Nat) : Int)) = true := by simp [h1]; omega
      simp only [walkS, wl, rgets, retv, argsEnv, ev, cst, cst1, cstL, AEnv.get, AEnv.trim, envput, qstep, abin, aun, evs, evo, deref, qload, target, if_true, if_false, Nat.reduceEqDiff, reduceIte, Nat.reduceAdd, AV.cells, AV.isTuple, setMany, alen, aiaddr, afill, Nat.reduceLeDiff, Nat.reduceMul, Nat.reduceLT, afillE, List.replicate, e1]
      rw [tabB_f (fun K hK hT => h1 (by have := hT.ll; rw [show N = K by omega]; exact this))]; exact out_bool
  · have e : (decide (1 ≤ n) && decide (n ≤ 64)) = false := by simp; omega
    rw [e]
    simp only [walkS, wl, rgets, retv, argsEnv, ev, cst, cst1, cstL, AEnv.get, AEnv.trim, envput, qstep, abin, aun, evs, evo, deref, qload, target, if_true, if_false, Nat.reduceEqDiff, reduceIte, Nat.reduceAdd, AV.cells, AV.isTuple, setMany, alen, aiaddr, afill, Nat.reduceLeDiff, Nat.reduceMul, Nat.reduceLT, afillE, List.replicate]
    rw [tabB_f (fun K hK hT => h0 (by have := hT.pos; have := hT.most; omega))]; exact out_bool
end Go.Proofs.Ytepnijjgdhldeaa
