/- A use of differences: filled. -/
import Derived.Test.YtepnijjgdhldeaaQV2
namespace Go.Proofs.Ytepnijjgdhldeaa
open Go.Awp
set_option linter.unusedSimpArgs false
set_option linter.unusedVariables false
set_option maxRecDepth 10000
set_option maxHeartbeats 8000000
theorem givL_mem {W : Nat → Int} : ∀ (k : Nat) (x : Int), x ∈ givL W k ↔ x = 0 ∨ ∃ j : Nat, x = j ∧ 0 < j ∧ j < k ∧ W j < 0
  | 0, x => by simp [givL]
  | k + 1, x => by
    unfold givL
    split
    · rename_i h
      rw [List.mem_append, givL_mem k x, List.mem_singleton]
      constructor
      · rintro ((h1 | ⟨j, h1, h2, h3, h4⟩) | h1)
        · exact .inl h1
        · exact .inr ⟨j, h1, h2, by omega, h4⟩
        · exact .inr ⟨k, h1, h.1, by omega, h.2⟩
      · rintro (h1 | ⟨j, h1, h2, h3, h4⟩)
        · exact .inl (.inl h1)
        · by_cases e : j = k
          · subst e; exact .inr h1
          · exact .inl (.inr ⟨j, h1, h2, by omega, h4⟩)
    · rename_i h
      rw [givL_mem k x]
      constructor
      · rintro (h1 | ⟨j, h1, h2, h3, h4⟩)
        · exact .inl h1
        · exact .inr ⟨j, h1, h2, by omega, h4⟩
      · rintro (h1 | ⟨j, h1, h2, h3, h4⟩)
        · exact .inl h1
        · by_cases e : j = k
          · subst e; exact absurd ⟨h2, h4⟩ h
          · exact .inr ⟨j, h1, h2, by omega, h4⟩
theorem marks_giv {W : Nat → Int} {n v : Nat} : marksOf (givL W n) v = true ↔ v = 0 ∨ (0 < v ∧ v < n ∧ W v < 0) := by
  unfold marksOf
  rw [List.any_eq_true]
  constructor
  · rintro ⟨x, h1, h2⟩
    have hx : x = (v : Int) := by simpa using h2
    rcases (givL_mem n x).1 h1 with h | ⟨j, h3, h4, h5, h6⟩
    · exact .inl (by omega)
    · obtain rfl : j = v := by omega
      exact .inr ⟨h4, h5, h6⟩
  · rintro (h | ⟨h1, h2, h3⟩)
    · exact ⟨0, (givL_mem n 0).2 (.inl rfl), by simp [h]⟩
    · exact ⟨v, (givL_mem n v).2 (.inr ⟨v, rfl, h1, h2, h3⟩), by simp⟩
structure Filled (hu hf hw n : Nat) (ds : List Df) (w : Nat → Int) (T : Int) (H0 : AHeap) (x : AV) (H' : AHeap) : Prop where
  len : H0.length ≤ H'.length
  same : ∀ i, i < H0.length → i ≠ hf → i ≠ hw → AHeap.obj H' i = AHeap.obj H0 i
  cas : ∃ F W, UF hu hf hw n ds F W H' ∧ Inv n ds w T F W ∧ ((x = .bool true ∧ Opt n ds w F) ∨ (x = .bool false ∧ ∃ y, Ray n ds w y))
abbrev FW := (Nat → Int) × (Nat → Int)
structure FS (hu hf hw n : Nat) (ds : List Df) (H0 : AHeap) (s : FW) (H : AHeap) : Prop where
  uf : UF hu hf hw n ds s.1 s.2 H
  len : H0.length ≤ H.length
  kp : ∀ i, i < H0.length → i ≠ hf → i ≠ hw → AHeap.obj H i = AHeap.obj H0 i
theorem fill_at {hu hf hw n : Nat} {ds : List Df} {F W w : Nat → Int} {T : Int} (hg : Good n ds) (hl : ds.length ≤ 60) (inv0 : Inv n ds w T F W) (hT : T ≤ 1048576) (hphi0 : phi n W ≤ T) {H0 : AHeap} (uf0 : UF hu hf hw n ds F W H0) (d1 : hu ≠ hf) (d2 : hu ≠ hw) (d3 : hf ≠ hw) :
    ACall Try.prog 110 [.ptr hu 1 0 0] H0 (Filled hu hf hw n ds w T H0) := by
  have hn20 := hg.small
  have hpos := hg.pos
  refine ACall.intro text110 (by simp) ?_
  unfold ir110
  simp only [walkS, wl, rgets, retv, argsEnv, ev, cst, cst1, cstL, AEnv.get, AEnv.trim, envput, qstep, abin, aun, evs, evo, deref, qload, target, if_true, if_false, Nat.reduceEqDiff, reduceIte, Nat.reduceAdd, AV.cells, AV.isTuple, setMany, alen, aiaddr, afill, Nat.reduceLeDiff, Nat.reduceMul, Nat.reduceLT, afillE, List.replicate]
  refine awp_loop (σ := Nat × FW) (fun s => [(0, .ptr hu 1 0 0), (3, I s.1)]) (fun s H => FS hu hf hw n ds H0 s.2 H) (fun s => (0 < s.1 ∧ s.1 ≤ n) ∧ Inv n ds w T s.2.1 s.2.2 ∧ phi n s.2.2 ≤ T ∧ ∀ v, 0 < v → v < s.1 → s.2.2 v ≤ 0) (fun s => n - s.1) (1, (F, W)) ⟨⟨by simp, by simp only; omega⟩, inv0, hphi0, fun v h1 h2 => by simp only at h2; omega⟩ rfl ⟨uf0, Nat.le_refl _, fun _ _ _ _ => rfl⟩ ?_
  clear uf0 inv0 hphi0 F W
  rintro ⟨i, F, W⟩ H ⟨⟨hi0, hi⟩, inv, hphi, hneg⟩ fs
  simp only at hi0 hi inv hphi hneg
  simp only [walkS, wl, rgets, retv, argsEnv, ev, cst, cst1, cstL, AEnv.get, AEnv.trim, envput, qstep, abin, aun, evs, evo, deref, qload, target, if_true, if_false, Nat.reduceEqDiff, reduceIte, Nat.reduceAdd, AV.cells, AV.isTuple, setMany, alen, aiaddr, afill, Nat.reduceLeDiff, Nat.reduceMul, Nat.reduceLT, afillE, List.replicate, fs.uf.ou]
  refine withBool_intro ?_ ?_ <;> intro hb <;> simp only [walkS, wl, rgets, retv, argsEnv, ev, cst, cst1, cstL, AEnv.get, AEnv.trim, envput, qstep, abin, aun, evs, evo, deref, qload, target, if_true, if_false, Nat.reduceEqDiff, reduceIte, Nat.reduceAdd, AV.cells, AV.isTuple, setMany, alen, aiaddr, afill, Nat.reduceLeDiff, Nat.reduceMul, Nat.reduceLT, afillE, List.replicate]
  · have hin : i < n := by simpa using hb
    refine awp_loop (σ := FW × AEnv) (fun s => (0, .ptr hu 1 0 0) :: (3, I i) :: s.2) (fun s H => FS hu hf hw n ds H0 s.1 H) (fun s => Inv n ds w T s.1.1 s.1.2 ∧ phi n s.1.2 ≤ T ∧ ∀ v, 0 < v → v < i → s.1.2 v ≤ 0) (fun s => (phi n s.1.2).toNat) ((F, W), _) ⟨inv, hphi, hneg⟩ rfl fs ?_
    clear fs inv hphi hneg F W H
    rintro ⟨⟨F, W⟩, E⟩ H ⟨inv, hphi, hneg⟩ fs
    simp only at inv hphi hneg
    simp only [walkS, wl, rgets, retv, argsEnv, ev, cst, cst1, cstL, AEnv.get, AEnv.trim, envput, qstep, abin, aun, evs, evo, deref, qload, target, if_true, if_false, Nat.reduceEqDiff, reduceIte, Nat.reduceAdd, AV.cells, AV.isTuple, setMany, alen, aiaddr, afill, Nat.reduceLeDiff, Nat.reduceMul, Nat.reduceLT, afillE, List.replicate, fs.uf.ou, fs.uf.ow, ic_length, li_length, li_get hin, if_pos (show (i : Int) < n by omega)]
    refine withBool_intro ?_ ?_ <;> intro hb2 <;> simp only [walkS, wl, rgets, retv, argsEnv, ev, cst, cst1, cstL, AEnv.get, AEnv.trim, envput, qstep, abin, aun, evs, evo, deref, qload, target, if_true, if_false, Nat.reduceEqDiff, reduceIte, Nat.reduceAdd, AV.cells, AV.isTuple, setMany, alen, aiaddr, afill, Nat.reduceLeDiff, Nat.reduceMul, Nat.reduceLT, afillE, List.replicate]
    · have hWi : 0 < W i := by simpa using hb2
      refine call_pure (givers127 (by omega)) (frzL_of' (d := 5) (carL_cons fs.uf.car rfl)) ?_
      simp only [walkS, wl, rgets, retv, argsEnv, ev, cst, cst1, cstL, AEnv.get, AEnv.trim, envput, qstep, abin, aun, evs, evo, deref, qload, target, if_true, if_false, Nat.reduceEqDiff, reduceIte, Nat.reduceAdd, AV.cells, AV.isTuple, setMany, alen, aiaddr, afill, Nat.reduceLeDiff, Nat.reduceMul, Nat.reduceLT, afillE, List.replicate]
      have hgl := givL_length (W := W) n
      refine (step_at hg hl inv hT (by omega) fs.uf d1 d2 d3 hin (l := givL W n) (fun x hx => ?_) (by omega) (fun H' _ => car_ro_false (d := 4) (ic_simple _)) ?_ (fun _ => hWi) (fun r hr h0 => ?_) (.inl (by omega))).mono fun x H' hx => ?_
      · rcases (givL_mem n x).1 hx with h | ⟨j, h3, h4, h5, h6⟩ <;> omega
      · cases e : marksOf (givL W n) i with
        | false => rfl
        | true => rcases marks_giv.1 e with h | h <;> omega
      · rcases marks_giv.1 hr with h | h
        · omega
        · exact h.2.2
      obtain ⟨l1, l2, l3⟩ := hx
      have kp' : ∀ i, i < H0.length → i ≠ hf → i ≠ hw → AHeap.obj H' i = AHeap.obj H0 i := fun j hj k1 k2 => by rw [l2 j (by have := fs.len; omega) k1 k2, fs.kp j hj k1 k2]
      have hlen' : H0.length ≤ H'.length := Nat.le_trans fs.len l1
      rcases l3 with ⟨rfl, hno, uf'⟩ | ⟨rfl, F', W', uf', inv', hp', hs'⟩
      · simp only [walkS, wl, rgets, retv, argsEnv, ev, cst, cst1, cstL, AEnv.get, AEnv.trim, envput, qstep, abin, aun, evs, evo, deref, qload, target, if_true, if_false, Nat.reduceEqDiff, reduceIte, Nat.reduceAdd, AV.cells, AV.isTuple, setMany, alen, aiaddr, afill, Nat.reduceLeDiff, Nat.reduceMul, Nat.reduceLT, afillE, List.replicate, Bool.not_false]
        refine ⟨hlen', kp', F, W, uf', inv, .inr ⟨rfl, ?_⟩⟩
        obtain ⟨hgr, hcalm⟩ := inv.grown hg (by omega) (marksOf (givL W n))
        exact ray_up hg inv hcalm hin (lens_has (marks_giv.2 (.inl rfl))).1 (fun v h1 h2 h3 => (lens_has (marks_giv.2 (.inr ⟨h1, h2, h3⟩))).1) hWi (by simpa using hno)
      · simp only [walkS, wl, rgets, retv, argsEnv, ev, cst, cst1, cstL, AEnv.get, AEnv.trim, envput, qstep, abin, aun, evs, evo, deref, qload, target, if_true, if_false, Nat.reduceEqDiff, reduceIte, Nat.reduceAdd, AV.cells, AV.isTuple, setMany, alen, aiaddr, afill, Nat.reduceLeDiff, Nat.reduceMul, Nat.reduceLT, afillE, List.replicate, Bool.not_true]
        have h0 := phi_nonneg (n := n) (W := W')
        refine loop_end ((F', W'), _) ⟨inv', by simp only; omega, fun v h1 h2 => (hs' v h1).1 (hneg v h1 h2)⟩ (by simp only; omega) rfl ⟨uf', hlen', kp'⟩
    · have hWi : ¬ 0 < W i := by simpa using hb2
      rw [wrap_id (by omega) (by omega)]
      refine loop_end (i + 1, F, W) ⟨⟨by simp, by simp only; omega⟩, inv, hphi, fun v h1 h2 => ?_⟩ (by simp only; omega) rfl fs
      simp only at h2
      by_cases e : v = i
      · subst e; simp only; omega
      · exact hneg v h1 (by omega)
  · have hie : i = n := by simp at hb; omega
    subst hie
    refine awp_loop (σ := Nat × FW) (fun s => [(0, .ptr hu 1 0 0), (4, I s.1)]) (fun s H => FS hu hf hw i ds H0 s.2 H) (fun s => (0 < s.1 ∧ s.1 ≤ i) ∧ Inv i ds w T s.2.1 s.2.2 ∧ phi i s.2.2 ≤ T ∧ (∀ v, 0 < v → v < i → s.2.2 v ≤ 0) ∧ ∀ v, 0 < v → v < s.1 → s.2.2 v = 0) (fun s => i - s.1) (1, (F, W)) ⟨⟨by simp, by simp only; omega⟩, inv, hphi, hneg, fun v h1 h2 => by simp only at h2; omega⟩ rfl fs ?_
    clear fs inv hphi hneg F W H hb
    rintro ⟨k, F, W⟩ H ⟨⟨hk0, hk⟩, inv, hphi, hneg, hzero⟩ fs
    simp only at hk0 hk inv hphi hneg hzero
    simp only [walkS, wl, rgets, retv, argsEnv, ev, cst, cst1, cstL, AEnv.get, AEnv.trim, envput, qstep, abin, aun, evs, evo, deref, qload, target, if_true, if_false, Nat.reduceEqDiff, reduceIte, Nat.reduceAdd, AV.cells, AV.isTuple, setMany, alen, aiaddr, afill, Nat.reduceLeDiff, Nat.reduceMul, Nat.reduceLT, afillE, List.replicate, fs.uf.ou]
    refine withBool_intro ?_ ?_ <;> intro hb <;> simp only [walkS, wl, rgets, retv, argsEnv, ev, cst, cst1, cstL, AEnv.get, AEnv.trim, envput, qstep, abin, aun, evs, evo, deref, qload, target, if_true, if_false, Nat.reduceEqDiff, reduceIte, Nat.reduceAdd, AV.cells, AV.isTuple, setMany, alen, aiaddr, afill, Nat.reduceLeDiff, Nat.reduceMul, Nat.reduceLT, afillE, List.replicate]
    · have hin : k < i := by simpa using hb
      refine awp_loop (σ := FW × AEnv) (fun s => (0, .ptr hu 1 0 0) :: (4, I k) :: s.2) (fun s H => FS hu hf hw i ds H0 s.1 H) (fun s => Inv i ds w T s.1.1 s.1.2 ∧ phi i s.1.2 ≤ T ∧ (∀ v, 0 < v → v < i → s.1.2 v ≤ 0) ∧ ∀ v, 0 < v → v < k → s.1.2 v = 0) (fun s => (phi i s.1.2).toNat) ((F, W), _) ⟨inv, hphi, hneg, hzero⟩ rfl fs ?_
      clear fs inv hphi hneg hzero F W H
      rintro ⟨⟨F, W⟩, E⟩ H ⟨inv, hphi, hneg, hzero⟩ fs
      simp only at inv hphi hneg hzero
      simp only [walkS, wl, rgets, retv, argsEnv, ev, cst, cst1, cstL, AEnv.get, AEnv.trim, envput, qstep, abin, aun, evs, evo, deref, qload, target, if_true, if_false, Nat.reduceEqDiff, reduceIte, Nat.reduceAdd, AV.cells, AV.isTuple, setMany, alen, aiaddr, afill, Nat.reduceLeDiff, Nat.reduceMul, Nat.reduceLT, afillE, List.replicate, fs.uf.ou, fs.uf.ow, ic_length, li_length, li_get hin, if_pos (show (k : Int) < i by omega)]
      refine withBool_intro ?_ ?_ <;> intro hb2 <;> simp only [walkS, wl, rgets, retv, argsEnv, ev, cst, cst1, cstL, AEnv.get, AEnv.trim, envput, qstep, abin, aun, evs, evo, deref, qload, target, if_true, if_false, Nat.reduceEqDiff, reduceIte, Nat.reduceAdd, AV.cells, AV.isTuple, setMany, alen, aiaddr, afill, Nat.reduceLeDiff, Nat.reduceMul, Nat.reduceLT, afillE, List.replicate]
      · have hWi : W k < 0 := by simpa using hb2
        have ufp : UF hu hf hw i ds F W (H ++ [some ⟨3, 1, [[I k]]⟩]) := fs.uf.keep fun q hq => AHeap.obj_push_lt hq
        refine (step_at hg hl inv hT (by omega) ufp d1 d2 d3 hpos (l := [(k : Int)]) (fun x hx => ?_) (by simp) (fun H' hk' => car_ownN (d := 4) (e := 3) (s := 1) (els := ic [(k : Int)]) ?_ rfl (ic_simple _)) ?_ (fun h => absurd rfl h) (fun r hr h0 => ?_) (.inr ?_)).mono fun x H' hx => ?_
        · simp at hx; omega
        · rw [hk' H.length (by simp)]; exact AHeap.obj_push_eq
        · rw [marks_one]; simp; omega
        · rw [marks_one] at hr
          obtain rfl : r = k := by simpa using hr
          exact hWi
        · rw [marks_one]; simp; omega
        obtain ⟨l1, l2, l3⟩ := hx
        have l1' : H.length ≤ H'.length := by simp at l1; omega
        have kp' : ∀ i, i < H0.length → i ≠ hf → i ≠ hw → AHeap.obj H' i = AHeap.obj H0 i := fun j hj k1 k2 => by
          have := fs.len
          rw [l2 j (by simp; omega) k1 k2, AHeap.obj_push_lt (by omega), fs.kp j hj k1 k2]
        have hlen' : H0.length ≤ H'.length := Nat.le_trans fs.len l1'
        rcases l3 with ⟨rfl, hno, uf'⟩ | ⟨rfl, F', W', uf', inv', hp', hs'⟩
        · simp only [walkS, wl, rgets, retv, argsEnv, ev, cst, cst1, cstL, AEnv.get, AEnv.trim, envput, qstep, abin, aun, evs, evo, deref, qload, target, if_true, if_false, Nat.reduceEqDiff, reduceIte, Nat.reduceAdd, AV.cells, AV.isTuple, setMany, alen, aiaddr, afill, Nat.reduceLeDiff, Nat.reduceMul, Nat.reduceLT, afillE, List.replicate, Bool.not_false]
          refine ⟨hlen', kp', F, W, uf', inv, .inr ⟨rfl, ?_⟩⟩
          obtain ⟨hgr, hcalm⟩ := inv.grown hg (by omega) (marksOf [(k : Int)])
          exact ray_down hg inv hcalm hin (by simpa using hno) hneg hWi (lens_has (by rw [marks_one]; simp)).1
        · simp only [walkS, wl, rgets, retv, argsEnv, ev, cst, cst1, cstL, AEnv.get, AEnv.trim, envput, qstep, abin, aun, evs, evo, deref, qload, target, if_true, if_false, Nat.reduceEqDiff, reduceIte, Nat.reduceAdd, AV.cells, AV.isTuple, setMany, alen, aiaddr, afill, Nat.reduceLeDiff, Nat.reduceMul, Nat.reduceLT, afillE, List.replicate, Bool.not_true]
          have h0 := phi_nonneg (n := i) (W := W')
          refine loop_end ((F', W'), _) ⟨inv', by simp only; omega, fun v h1 h2 => (hs' v h1).1 (hneg v h1 h2), fun v h1 h2 => (hs' v h1).2 (hzero v h1 h2)⟩ (by simp only; omega) rfl ⟨uf', hlen', kp'⟩
      · have hWi : ¬ W k < 0 := by simpa using hb2
        rw [wrap_id (by omega) (by omega)]
        refine loop_end (k + 1, F, W) ⟨⟨by simp, by simp only; omega⟩, inv, hphi, hneg, fun v h1 h2 => ?_⟩ (by simp only; omega) rfl fs
        simp only at h2
        by_cases e : v = k
        · subst e; have := hneg v h1 hin; simp only; omega
        · exact hzero v h1 (by omega)
    · have hke : k = i := by simp at hb; omega
      subst hke
      exact ⟨fs.len, fs.kp, F, W, fs.uf, inv, .inl ⟨rfl, inv.opt hzero⟩⟩
end Go.Proofs.Ytepnijjgdhldeaa
