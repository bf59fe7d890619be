/- Tables: CheckTable of the specification. -/
import Derived.Test.YtepnijjgdhldeaaQD22
namespace Go.Proofs.Ytepnijjgdhldeaa
open Go.Awp
set_option linter.unusedSimpArgs false
set_option linter.unusedVariables false
set_option maxRecDepth 10000
set_option maxHeartbeats 8000000
noncomputable def tabE (n : Int) (l : List Int) (m : List Bool) : Int := if tabB n l m = true then 0 else 40
theorem tabE_f {n : Int} {l : List Int} {m : List Bool} (h : ∀ N : Nat, n = N → ¬ Tab N l m) : tabE n l m = 40 := by
  unfold tabE; rw [tabB_f h]; rfl
theorem tabE_t {N : Nat} {l : List Int} {m : List Bool} (h : Tab N l m) : tabE N l m = 0 := by
  unfold tabE; rw [tabB_t h]; rfl
theorem ic_mg {l : List Int} {x : Nat} (h : x < l.length) : (ic l)[x]? = some [I (mg l x)] := by rw [ic_get h, mg_eq]
theorem bc_hq {l : List Bool} {x : Nat} (h : x < l.length) : (bc l)[x]? = some [.bool (hq l x)] := by rw [bc_get h, hq_eq]
theorem CheckTable_ok {n : Int} {l : List Int} {m : List Bool} (hl : l.length ≤ big) (hm : m.length ≤ big) : PCall Try.prog 107 [.agg [I n, .ro false (ic l), .ro false (bc m)]] (I (tabE n l m)) := by
  unfold big at hl hm
  refine PCall.intro text107 (by simp) ?_
  unfold ir107
  by_cases h0 : 1 ≤ n ∧ n ≤ 64
  · obtain ⟨N, rfl⟩ : ∃ N : Nat, n = N := ⟨n.toNat, by omega⟩
    have e : (N : Int) * (N : Int) = ((N * N : Nat) : Int) := by simp
    have hNN : N * N ≤ 64 * 64 := Nat.mul_le_mul (by omega) (by omega)
    have wNN : IntKind.i64.wrap ((N * N : Nat) : Int) = ((N * N : Nat) : Int) := wrap_id (by omega) (by omega)
    have e3 : decide ((N : Int) < 1) = false := by simp; omega
    have e4 : decide ((N : Int) > 64) = false := by simp; omega
    by_cases h1 : l.length = N * N
    · by_cases h2 : m.length = N * N
      · have e1 : ((l.length : Int) != ((N * N : Nat) : Int)) = false := by simp [h1]
        have e2 : ((m.length : Int) != ((N * N : Nat) : Int)) = false := by simp [h2]
        have hN : N ≤ 64 := by omega
        have hp : 0 < N * N := Nat.mul_pos (by omega) (by omega)
        simp only [walkS, wl, rgets, retv, argsEnv, ev, cst, cst1, cstL, AEnv.get, AEnv.trim, envput, qstep, abin, aun, evs, evo, deref, qload, target, if_true, if_false, Nat.reduceEqDiff, reduceIte, Nat.reduceAdd, AV.cells, AV.isTuple, setMany, alen, aiaddr, afill, Nat.reduceLeDiff, Nat.reduceMul, Nat.reduceLT, afillE, List.replicate, e3, e4, ic_length, bc_length, e, wNN, e1, e2, wrap_id (x := (N : Int) * 1073741824) (by omega) (by omega)]
        refine awp_loop (σ := Nat) (fun x => [(1, .ptr 0 1 0 0), (3, I (N * 1073741824)), (4, I x)]) (fun _ H => AHeap.obj H 0 = some ⟨73, 3, [[I N, .ro false (ic l), .ro false (bc m)]]⟩) (fun x => x ≤ N * N ∧ ∀ y, y < x → Cell N l m (y / N) (y % N)) (fun x => N * N - x) 0 ⟨Nat.zero_le _, by simp⟩ rfl rfl ?_
        rintro x H ⟨hx, hd⟩ o0
        simp only [walkS, wl, rgets, retv, argsEnv, ev, cst, cst1, cstL, AEnv.get, AEnv.trim, envput, qstep, abin, aun, evs, evo, deref, qload, target, if_true, if_false, Nat.reduceEqDiff, reduceIte, Nat.reduceAdd, AV.cells, AV.isTuple, setMany, alen, aiaddr, afill, Nat.reduceLeDiff, Nat.reduceMul, Nat.reduceLT, afillE, List.replicate, o0, ic_length, h1]
        refine withBool_intro ?_ ?_ <;> intro hb <;> simp only [walkS, wl, rgets, retv, argsEnv, ev, cst, cst1, cstL, AEnv.get, AEnv.trim, envput, qstep, abin, aun, evs, evo, deref, qload, target, if_true, if_false, Nat.reduceEqDiff, reduceIte, Nat.reduceAdd, AV.cells, AV.isTuple, setMany, alen, aiaddr, afill, Nat.reduceLeDiff, Nat.reduceMul, Nat.reduceLT, afillE, List.replicate, o0]
        · have hlt : x < N * N := by have := of_decide_eq_true hb; omega
          have hi : x / N < N := (Nat.div_lt_iff_lt_mul (by omega)).2 hlt
          have hj : x % N < N := Nat.mod_lt _ (by omega)
          have hx2 : x = x / N * N + x % N := by rw [Nat.mul_comm]; exact (Nat.div_add_mod x N).symm
          have q1 : ((x : Int).tdiv (N : Int)) = ((x / N : Nat) : Int) := by simp
          have q2 : ((x : Int).tmod (N : Int)) = ((x % N : Nat) : Int) := by rw [Int.tmod_eq_emod_of_nonneg (by omega)]; simp
          have no : ¬ Cell N l m (x / N) (x % N) → tabE N l m = 40 := fun h => tabE_f fun K hK hT => h (by obtain rfl : K = N := (by omega); exact hT.cell _ _ hi hj)
          have yes : Cell N l m (x / N) (x % N) → ∀ y, y < x + 1 → Cell N l m (y / N) (y % N) := fun h y hy => by
            rcases Nat.lt_succ_iff_lt_or_eq.1 hy with h' | rfl
            · exact hd y h'
            · exact h
          have hcell : Cell N l m (x / N) (x % N) ↔ ((hq m x = true ∨ mg l x = 0) ∧ (-((N : Int) * 1073741824) ≤ mg l x ∧ mg l x ≤ (N : Int) * 1073741824) ∧ (x / N = x % N → hq m x = true ∧ mg l x = 0)) := by unfold Cell; rw [← hx2]
          have wn : IntKind.i64.wrap (0 - (N : Int) * 1073741824) = -((N : Int) * 1073741824) := by rw [wrap_id (by omega) (by omega)]; omega
          have gl := ic_mg (l := l) (x := x) (by omega)
          have gm := bc_hq (l := m) (x := x) (by omega)
          generalize x / N = i at *
          generalize x % N = j at *
          have wi : IntKind.i64.wrap (i : Int) = i := wrap_id (by omega) (by omega)
          simp only [walkS, wl, rgets, retv, argsEnv, ev, cst, cst1, cstL, AEnv.get, AEnv.trim, envput, qstep, abin, aun, evs, evo, deref, qload, target, if_true, if_false, Nat.reduceEqDiff, reduceIte, Nat.reduceAdd, AV.cells, AV.isTuple, setMany, alen, aiaddr, afill, Nat.reduceLeDiff, Nat.reduceMul, Nat.reduceLT, afillE, List.replicate, o0, if_neg (show ¬ ((N : Int) = 0) by omega), q1, q2, wi, gl, wn]
          generalize mg l x = v at *
          by_cases v1 : v < -((N : Int) * 1073741824)
          · simp only [walkS, wl, rgets, retv, argsEnv, ev, cst, cst1, cstL, AEnv.get, AEnv.trim, envput, qstep, abin, aun, evs, evo, deref, qload, target, if_true, if_false, Nat.reduceEqDiff, reduceIte, Nat.reduceAdd, AV.cells, AV.isTuple, setMany, alen, aiaddr, afill, Nat.reduceLeDiff, Nat.reduceMul, Nat.reduceLT, afillE, List.replicate, decide_eq_true v1]
            rw [no (by rw [hcell]; rintro ⟨_, h, _⟩; omega)]; exact out_int
          · by_cases v2 : v > (N : Int) * 1073741824
            · simp only [walkS, wl, rgets, retv, argsEnv, ev, cst, cst1, cstL, AEnv.get, AEnv.trim, envput, qstep, abin, aun, evs, evo, deref, qload, target, if_true, if_false, Nat.reduceEqDiff, reduceIte, Nat.reduceAdd, AV.cells, AV.isTuple, setMany, alen, aiaddr, afill, Nat.reduceLeDiff, Nat.reduceMul, Nat.reduceLT, afillE, List.replicate, o0, gl, decide_eq_false v1, decide_eq_true v2]
              rw [no (by rw [hcell]; rintro ⟨_, h, _⟩; omega)]; exact out_int
            · simp only [walkS, wl, rgets, retv, argsEnv, ev, cst, cst1, cstL, AEnv.get, AEnv.trim, envput, qstep, abin, aun, evs, evo, deref, qload, target, if_true, if_false, Nat.reduceEqDiff, reduceIte, Nat.reduceAdd, AV.cells, AV.isTuple, setMany, alen, aiaddr, afill, Nat.reduceLeDiff, Nat.reduceMul, Nat.reduceLT, afillE, List.replicate, o0, gl, gm, decide_eq_false v1, decide_eq_false v2]
              generalize hq m x = h at *
              by_cases hv : v = 0
              · have f1 : (v != 0) = false := by simp [hv]
                by_cases hij : i = j
                · have f3 : ((i : Int) == (j : Int)) = true := by simp [hij]
                  cases h with
                  | false =>
                    simp only [walkS, wl, rgets, retv, argsEnv, ev, cst, cst1, cstL, AEnv.get, AEnv.trim, envput, qstep, abin, aun, evs, evo, deref, qload, target, if_true, if_false, Nat.reduceEqDiff, reduceIte, Nat.reduceAdd, AV.cells, AV.isTuple, setMany, alen, aiaddr, afill, Nat.reduceLeDiff, Nat.reduceMul, Nat.reduceLT, afillE, List.replicate, o0, gl, gm, f1, f3, Bool.not_false, Bool.not_true]
                    rw [no (by rw [hcell]; rintro ⟨_, _, h⟩; have := (h hij).1; cases this)]; exact out_int
                  | true =>
                    simp only [walkS, wl, rgets, retv, argsEnv, ev, cst, cst1, cstL, AEnv.get, AEnv.trim, envput, qstep, abin, aun, evs, evo, deref, qload, target, if_true, if_false, Nat.reduceEqDiff, reduceIte, Nat.reduceAdd, AV.cells, AV.isTuple, setMany, alen, aiaddr, afill, Nat.reduceLeDiff, Nat.reduceMul, Nat.reduceLT, afillE, List.replicate, o0, gl, gm, f1, f3, Bool.not_false, Bool.not_true]
                    rw [wrap_id (by omega) (by omega)]
                    exact loop_end (x + 1) ⟨hlt, yes (hcell.2 ⟨.inl rfl, by omega, fun h => ⟨rfl, hv⟩⟩)⟩ (by omega) rfl o0
                · have f3 : ((i : Int) == (j : Int)) = false := by simp; omega
                  cases h with
                  | false =>
                    simp only [walkS, wl, rgets, retv, argsEnv, ev, cst, cst1, cstL, AEnv.get, AEnv.trim, envput, qstep, abin, aun, evs, evo, deref, qload, target, if_true, if_false, Nat.reduceEqDiff, reduceIte, Nat.reduceAdd, AV.cells, AV.isTuple, setMany, alen, aiaddr, afill, Nat.reduceLeDiff, Nat.reduceMul, Nat.reduceLT, afillE, List.replicate, o0, gl, gm, f1, f3, Bool.not_false, Bool.not_true]
                    rw [wrap_id (by omega) (by omega)]
                    exact loop_end (x + 1) ⟨hlt, yes (hcell.2 ⟨.inr hv, by omega, fun h => absurd h hij⟩)⟩ (by omega) rfl o0
                  | true =>
                    simp only [walkS, wl, rgets, retv, argsEnv, ev, cst, cst1, cstL, AEnv.get, AEnv.trim, envput, qstep, abin, aun, evs, evo, deref, qload, target, if_true, if_false, Nat.reduceEqDiff, reduceIte, Nat.reduceAdd, AV.cells, AV.isTuple, setMany, alen, aiaddr, afill, Nat.reduceLeDiff, Nat.reduceMul, Nat.reduceLT, afillE, List.replicate, o0, gl, gm, f1, f3, Bool.not_false, Bool.not_true]
                    rw [wrap_id (by omega) (by omega)]
                    exact loop_end (x + 1) ⟨hlt, yes (hcell.2 ⟨.inr hv, by omega, fun h => absurd h hij⟩)⟩ (by omega) rfl o0
              · have f1 : (v != 0) = true := by simp [hv]
                cases h with
                | false =>
                  simp only [walkS, wl, rgets, retv, argsEnv, ev, cst, cst1, cstL, AEnv.get, AEnv.trim, envput, qstep, abin, aun, evs, evo, deref, qload, target, if_true, if_false, Nat.reduceEqDiff, reduceIte, Nat.reduceAdd, AV.cells, AV.isTuple, setMany, alen, aiaddr, afill, Nat.reduceLeDiff, Nat.reduceMul, Nat.reduceLT, afillE, List.replicate, o0, gl, gm, f1, Bool.not_false, Bool.not_true]
                  rw [no (by rw [hcell]; rintro ⟨h, _⟩; rcases h with h | h; cases h; exact hv h)]; exact out_int
                | true =>
                  by_cases hij : i = j
                  · have f3 : ((i : Int) == (j : Int)) = true := by simp [hij]
                    simp only [walkS, wl, rgets, retv, argsEnv, ev, cst, cst1, cstL, AEnv.get, AEnv.trim, envput, qstep, abin, aun, evs, evo, deref, qload, target, if_true, if_false, Nat.reduceEqDiff, reduceIte, Nat.reduceAdd, AV.cells, AV.isTuple, setMany, alen, aiaddr, afill, Nat.reduceLeDiff, Nat.reduceMul, Nat.reduceLT, afillE, List.replicate, o0, gl, gm, f1, f3, Bool.not_false, Bool.not_true]
                    rw [no (by rw [hcell]; rintro ⟨_, _, h⟩; exact hv (h hij).2)]; exact out_int
                  · have f3 : ((i : Int) == (j : Int)) = false := by simp; omega
                    simp only [walkS, wl, rgets, retv, argsEnv, ev, cst, cst1, cstL, AEnv.get, AEnv.trim, envput, qstep, abin, aun, evs, evo, deref, qload, target, if_true, if_false, Nat.reduceEqDiff, reduceIte, Nat.reduceAdd, AV.cells, AV.isTuple, setMany, alen, aiaddr, afill, Nat.reduceLeDiff, Nat.reduceMul, Nat.reduceLT, afillE, List.replicate, o0, gl, gm, f1, f3, Bool.not_false, Bool.not_true]
                    rw [wrap_id (by omega) (by omega)]
                    exact loop_end (x + 1) ⟨hlt, yes (hcell.2 ⟨.inl rfl, by omega, fun h => absurd h hij⟩)⟩ (by omega) rfl o0
        · have hxe : x = N * N := by have := of_decide_eq_false hb; omega
          subst hxe
          have hcells : ∀ a b, a < N → b < N → Cell N l m a b := fun a b ha hb => by
            have := hd (a * N + b) (cell_lt ha hb)
            rwa [(divmod hb).1, (divmod hb).2] at this
          clear hd hb hx
          refine awp_loop (σ := Nat) (fun a => [(1, .ptr 0 1 0 0), (6, I a)]) (fun _ H => AHeap.obj H 0 = some ⟨73, 3, [[I N, .ro false (ic l), .ro false (bc m)]]⟩) (fun a => a ≤ N ∧ ∀ x y z, x < a → y < N → z < N → Tri N l m x y z) (fun a => N - a) 0 ⟨Nat.zero_le _, by simp⟩ rfl o0 ?_
          clear o0 H
          rintro a H ⟨hi, hd⟩ o0
          simp only [walkS, wl, rgets, retv, argsEnv, ev, cst, cst1, cstL, AEnv.get, AEnv.trim, envput, qstep, abin, aun, evs, evo, deref, qload, target, if_true, if_false, Nat.reduceEqDiff, reduceIte, Nat.reduceAdd, AV.cells, AV.isTuple, setMany, alen, aiaddr, afill, Nat.reduceLeDiff, Nat.reduceMul, Nat.reduceLT, afillE, List.replicate, o0]
          refine withBool_intro ?_ ?_ <;> intro hb <;> simp only [walkS, wl, rgets, retv, argsEnv, ev, cst, cst1, cstL, AEnv.get, AEnv.trim, envput, qstep, abin, aun, evs, evo, deref, qload, target, if_true, if_false, Nat.reduceEqDiff, reduceIte, Nat.reduceAdd, AV.cells, AV.isTuple, setMany, alen, aiaddr, afill, Nat.reduceLeDiff, Nat.reduceMul, Nat.reduceLT, afillE, List.replicate]
          · have hlt : a < N := by simpa using hb
            refine awp_loop (σ := Nat) (fun j => [(1, .ptr 0 1 0 0), (6, I a), (7, I j)]) (fun _ H => AHeap.obj H 0 = some ⟨73, 3, [[I N, .ro false (ic l), .ro false (bc m)]]⟩) (fun j => j ≤ N ∧ ∀ y z, y < j → z < N → Tri N l m a y z) (fun j => N - j) 0 ⟨Nat.zero_le _, by simp⟩ rfl o0 ?_
            clear o0 H
            rintro j H ⟨hj, hc⟩ o0
            simp only [walkS, wl, rgets, retv, argsEnv, ev, cst, cst1, cstL, AEnv.get, AEnv.trim, envput, qstep, abin, aun, evs, evo, deref, qload, target, if_true, if_false, Nat.reduceEqDiff, reduceIte, Nat.reduceAdd, AV.cells, AV.isTuple, setMany, alen, aiaddr, afill, Nat.reduceLeDiff, Nat.reduceMul, Nat.reduceLT, afillE, List.replicate, o0]
            refine withBool_intro ?_ ?_ <;> intro hb2 <;> simp only [walkS, wl, rgets, retv, argsEnv, ev, cst, cst1, cstL, AEnv.get, AEnv.trim, envput, qstep, abin, aun, evs, evo, deref, qload, target, if_true, if_false, Nat.reduceEqDiff, reduceIte, Nat.reduceAdd, AV.cells, AV.isTuple, setMany, alen, aiaddr, afill, Nat.reduceLeDiff, Nat.reduceMul, Nat.reduceLT, afillE, List.replicate]
            · have hjl : j < N := by simpa using hb2
              refine awp_loop (σ := Nat) (fun k => [(1, .ptr 0 1 0 0), (6, I a), (7, I j), (8, I k)]) (fun _ H => AHeap.obj H 0 = some ⟨73, 3, [[I N, .ro false (ic l), .ro false (bc m)]]⟩) (fun k => k ≤ N ∧ ∀ z, z < k → Tri N l m a j z) (fun k => N - k) 0 ⟨Nat.zero_le _, by simp⟩ rfl o0 ?_
              clear o0 H
              rintro k H ⟨hk, he⟩ o0
              simp only [walkS, wl, rgets, retv, argsEnv, ev, cst, cst1, cstL, AEnv.get, AEnv.trim, envput, qstep, abin, aun, evs, evo, deref, qload, target, if_true, if_false, Nat.reduceEqDiff, reduceIte, Nat.reduceAdd, AV.cells, AV.isTuple, setMany, alen, aiaddr, afill, Nat.reduceLeDiff, Nat.reduceMul, Nat.reduceLT, afillE, List.replicate, o0]
              refine withBool_intro ?_ ?_ <;> intro hb3 <;> simp only [walkS, wl, rgets, retv, argsEnv, ev, cst, cst1, cstL, AEnv.get, AEnv.trim, envput, qstep, abin, aun, evs, evo, deref, qload, target, if_true, if_false, Nat.reduceEqDiff, reduceIte, Nat.reduceAdd, AV.cells, AV.isTuple, setMany, alen, aiaddr, afill, Nat.reduceLeDiff, Nat.reduceMul, Nat.reduceLT, afillE, List.replicate]
              · have hkl : k < N := by simpa using hb3
                have no : ¬ Tri N l m a j k → tabE N l m = 40 := fun h => tabE_f fun K hK hT => h (by obtain rfl : K = N := (by omega); exact hT.tri a j k hlt hjl hkl)
                have yes : Tri N l m a j k → ∀ z, z < k + 1 → Tri N l m a j z := fun h z hz => by
                  rcases Nat.lt_succ_iff_lt_or_eq.1 hz with h' | rfl
                  · exact he z h'
                  · exact h
                have htri : Tri N l m a j k ↔ (hq m (a * N + j) = true → hq m (j * N + k) = true → hq m (a * N + k) = true ∧ mg l (a * N + k) ≤ mg l (a * N + j) + mg l (j * N + k)) := Iff.rfl
                have b1 := (hcells a j hlt hjl).2.1
                have b2 := (hcells j k hjl hkl).2.1
                have c1 := cell_lt hlt hjl
                have c2 := cell_lt hjl hkl
                have c3 := cell_lt hlt hkl
                have f1 : (a : Int) * (N : Int) = ((a * N : Nat) : Int) := by simp
                have f2 : (j : Int) * (N : Int) = ((j * N : Nat) : Int) := by simp
                have g1 := ic_mg (l := l) (x := a * N + j) (by omega)
                have g2 := ic_mg (l := l) (x := j * N + k) (by omega)
                have g3 := ic_mg (l := l) (x := a * N + k) (by omega)
                have k1 := bc_hq (l := m) (x := a * N + j) (by omega)
                have k2 := bc_hq (l := m) (x := j * N + k) (by omega)
                have k3 := bc_hq (l := m) (x := a * N + k) (by omega)
                have n1 : ((a * N : Nat) : Int) + (j : Int) = ((a * N + j : Nat) : Int) := by omega
                have n2 : ((j * N : Nat) : Int) + (k : Int) = ((j * N + k : Nat) : Int) := by omega
                have n3 : ((a * N : Nat) : Int) + (k : Int) = ((a * N + k : Nat) : Int) := by omega
                simp only [walkS, wl, rgets, retv, argsEnv, ev, cst, cst1, cstL, AEnv.get, AEnv.trim, envput, qstep, abin, aun, evs, evo, deref, qload, target, if_true, if_false, Nat.reduceEqDiff, reduceIte, Nat.reduceAdd, AV.cells, AV.isTuple, setMany, alen, aiaddr, afill, Nat.reduceLeDiff, Nat.reduceMul, Nat.reduceLT, afillE, List.replicate, o0, f1, f2, n1, n2, n3, wrap_id (x := ((a * N : Nat) : Int)) (by omega) (by omega), wrap_id (x := ((j * N : Nat) : Int)) (by omega) (by omega), wrap_id (x := ((a * N + j : Nat) : Int)) (by omega) (by omega), wrap_id (x := ((j * N + k : Nat) : Int)) (by omega) (by omega), wrap_id (x := ((a * N + k : Nat) : Int)) (by omega) (by omega), k1]
                cases e4 : hq m (a * N + j) with
                | false =>
                  simp only [walkS, wl, rgets, retv, argsEnv, ev, cst, cst1, cstL, AEnv.get, AEnv.trim, envput, qstep, abin, aun, evs, evo, deref, qload, target, if_true, if_false, Nat.reduceEqDiff, reduceIte, Nat.reduceAdd, AV.cells, AV.isTuple, setMany, alen, aiaddr, afill, Nat.reduceLeDiff, Nat.reduceMul, Nat.reduceLT, afillE, List.replicate, o0]
                  rw [wrap_id (by omega) (by omega)]
                  exact loop_end (k + 1) ⟨hkl, yes (htri.2 fun h _ => by rw [e4] at h; cases h)⟩ (by omega) rfl o0
                | true =>
                  simp only [walkS, wl, rgets, retv, argsEnv, ev, cst, cst1, cstL, AEnv.get, AEnv.trim, envput, qstep, abin, aun, evs, evo, deref, qload, target, if_true, if_false, Nat.reduceEqDiff, reduceIte, Nat.reduceAdd, AV.cells, AV.isTuple, setMany, alen, aiaddr, afill, Nat.reduceLeDiff, Nat.reduceMul, Nat.reduceLT, afillE, List.replicate, o0, k2]
                  cases e5 : hq m (j * N + k) with
                  | false =>
                    simp only [walkS, wl, rgets, retv, argsEnv, ev, cst, cst1, cstL, AEnv.get, AEnv.trim, envput, qstep, abin, aun, evs, evo, deref, qload, target, if_true, if_false, Nat.reduceEqDiff, reduceIte, Nat.reduceAdd, AV.cells, AV.isTuple, setMany, alen, aiaddr, afill, Nat.reduceLeDiff, Nat.reduceMul, Nat.reduceLT, afillE, List.replicate, o0]
                    rw [wrap_id (by omega) (by omega)]
                    exact loop_end (k + 1) ⟨hkl, yes (htri.2 fun _ h => by rw [e5] at h; cases h)⟩ (by omega) rfl o0
                  | true =>
                    simp only [walkS, wl, rgets, retv, argsEnv, ev, cst, cst1, cstL, AEnv.get, AEnv.trim, envput, qstep, abin, aun, evs, evo, deref, qload, target, if_true, if_false, Nat.reduceEqDiff, reduceIte, Nat.reduceAdd, AV.cells, AV.isTuple, setMany, alen, aiaddr, afill, Nat.reduceLeDiff, Nat.reduceMul, Nat.reduceLT, afillE, List.replicate, o0, k3]
                    cases e6 : hq m (a * N + k) with
                    | false =>
                      simp only [walkS, wl, rgets, retv, argsEnv, ev, cst, cst1, cstL, AEnv.get, AEnv.trim, envput, qstep, abin, aun, evs, evo, deref, qload, target, if_true, if_false, Nat.reduceEqDiff, reduceIte, Nat.reduceAdd, AV.cells, AV.isTuple, setMany, alen, aiaddr, afill, Nat.reduceLeDiff, Nat.reduceMul, Nat.reduceLT, afillE, List.replicate, Bool.not_false]
                      rw [no (by rw [htri]; intro h; have := (h e4 e5).1; rw [e6] at this; cases this)]; exact out_int
                    | true =>
                      simp only [walkS, wl, rgets, retv, argsEnv, ev, cst, cst1, cstL, AEnv.get, AEnv.trim, envput, qstep, abin, aun, evs, evo, deref, qload, target, if_true, if_false, Nat.reduceEqDiff, reduceIte, Nat.reduceAdd, AV.cells, AV.isTuple, setMany, alen, aiaddr, afill, Nat.reduceLeDiff, Nat.reduceMul, Nat.reduceLT, afillE, List.replicate, o0, g1, g2, g3, Bool.not_true, wrap_id (x := mg l (a * N + j) + mg l (j * N + k)) (by omega) (by omega)]
                      refine withBool_intro ?_ ?_ <;> intro hb5 <;> simp only [walkS, wl, rgets, retv, argsEnv, ev, cst, cst1, cstL, AEnv.get, AEnv.trim, envput, qstep, abin, aun, evs, evo, deref, qload, target, if_true, if_false, Nat.reduceEqDiff, reduceIte, Nat.reduceAdd, AV.cells, AV.isTuple, setMany, alen, aiaddr, afill, Nat.reduceLeDiff, Nat.reduceMul, Nat.reduceLT, afillE, List.replicate]
                      · rw [no (by rw [htri]; intro h; have := (h e4 e5).2; simp at hb5; omega)]; exact out_int
                      · rw [wrap_id (by omega) (by omega)]
                        exact loop_end (k + 1) ⟨hkl, yes (htri.2 fun _ _ => ⟨e6, by simp at hb5; omega⟩)⟩ (by omega) rfl o0
              · have hki : k = N := by simp at hb3; omega
                subst hki
                rw [wrap_id (by omega) (by omega)]
                refine loop_end (j + 1) ⟨hjl, fun y z hy hz => ?_⟩ (by omega) rfl o0
                rcases Nat.lt_succ_iff_lt_or_eq.1 hy with h' | rfl
                · exact hc y z h' hz
                · exact he z hz
            · have hjm : j = N := by simp at hb2; omega
              subst hjm
              rw [wrap_id (by omega) (by omega)]
              refine loop_end (a + 1) ⟨hlt, fun x y z hx hy hz => ?_⟩ (by omega) rfl o0
              rcases Nat.lt_succ_iff_lt_or_eq.1 hx with h' | rfl
              · exact hd x y z h' hy hz
              · exact hc y z hy hz
          · have hai : a = N := by simp at hb; omega
            subst hai
            rw [tabE_t ⟨by omega, by omega, h1, h2, hcells, hd⟩]; exact out_int
      · have e1 : ((l.length : Int) != ((N * N : Nat) : Int)) = false := by simp [h1]
        have e2 : ((m.length : Int) != ((N * N : Nat) : Int)) = true := by simp [h2]; omega
        simp only [walkS, wl, rgets, retv, argsEnv, ev, cst, cst1, cstL, AEnv.get, AEnv.trim, envput, qstep, abin, aun, evs, evo, deref, qload, target, if_true, if_false, Nat.reduceEqDiff, reduceIte, Nat.reduceAdd, AV.cells, AV.isTuple, setMany, alen, aiaddr, afill, Nat.reduceLeDiff, Nat.reduceMul, Nat.reduceLT, afillE, List.replicate, e3, e4, ic_length, bc_length, e, wNN, e1, e2]
        rw [tabE_f (fun K hK hT => h2 (by have := hT.lm; rw [show N = K by omega]; exact this))]; exact out_int
    · have e1 : ((l.length : Int) != ((N * N : Nat) : Int)) = true := by simp [h1]; omega
      simp only [walkS, wl, rgets, retv, argsEnv, ev, cst, cst1, cstL, AEnv.get, AEnv.trim, envput, qstep, abin, aun, evs, evo, deref, qload, target, if_true, if_false, Nat.reduceEqDiff, reduceIte, Nat.reduceAdd, AV.cells, AV.isTuple, setMany, alen, aiaddr, afill, Nat.reduceLeDiff, Nat.reduceMul, Nat.reduceLT, afillE, List.replicate, e3, e4, ic_length, bc_length, e, wNN, e1]
      rw [tabE_f (fun K hK hT => h1 (by have := hT.ll; rw [show N = K by omega]; exact this))]; exact out_int
  · by_cases h1 : n < 1
    · simp only [walkS, wl, rgets, retv, argsEnv, ev, cst, cst1, cstL, AEnv.get, AEnv.trim, envput, qstep, abin, aun, evs, evo, deref, qload, target, if_true, if_false, Nat.reduceEqDiff, reduceIte, Nat.reduceAdd, AV.cells, AV.isTuple, setMany, alen, aiaddr, afill, Nat.reduceLeDiff, Nat.reduceMul, Nat.reduceLT, afillE, List.replicate, decide_eq_true h1]
      rw [tabE_f (fun K hK hT => h0 (by have := hT.pos; have := hT.most; omega))]; exact out_int
    · have h2 : n > 64 := by omega
      simp only [walkS, wl, rgets, retv, argsEnv, ev, cst, cst1, cstL, AEnv.get, AEnv.trim, envput, qstep, abin, aun, evs, evo, deref, qload, target, if_true, if_false, Nat.reduceEqDiff, reduceIte, Nat.reduceAdd, AV.cells, AV.isTuple, setMany, alen, aiaddr, afill, Nat.reduceLeDiff, Nat.reduceMul, Nat.reduceLT, afillE, List.replicate, decide_eq_false h1, decide_eq_true h2]
      rw [tabE_f (fun K hK hT => h0 (by have := hT.pos; have := hT.most; omega))]; exact out_int
end Go.Proofs.Ytepnijjgdhldeaa
