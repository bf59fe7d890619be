/- Contracts: Flow of the specification. -/
import Derived.Test.YtepnijjgdhldeaaQD32
import Derived.Test.YtepnijjgdhldeaaQW7
import Derived.Test.YtepnijjgdhldeaaQV4
import Derived.Test.YtepnijjgdhldeaaQD11
namespace Go.Proofs.Ytepnijjgdhldeaa
open Go.Awp
set_option linter.unusedSimpArgs false
set_option linter.unusedVariables false
set_option linter.unusedSectionVars false
set_option maxRecDepth 10000
set_option maxHeartbeats 8000000
structure MF (n : Nat) (ds : List Df) (L0 h7 : Nat) (H0 : AHeap) (F L : Nat → Int) (x6 : AV) (p6 : Option Nat) (H : AHeap) : Prop where
  o0 : AHeap.obj H L0 = some ⟨24, 2, [[I n, .ro false (rows ds)]]⟩
  a6 : AccS H x6 3 1 (ic (li ds.length F)) p6
  o7 : AHeap.obj H h7 = some ⟨3, 1, ic (li n L)⟩
  len : L0 ≤ H.length
  keep : ∀ i, i < L0 → AHeap.obj H i = AHeap.obj H0 i
structure MI (n : Nat) (ds : List Df) (w : Nat → Int) (L0 h7 : Nat) (F L : Nat → Int) (p6 : Option Nat) : Prop where
  inv : Inv n ds w (phi n w) F L
  sum : sumN n L = 0
  phi : phi n L ≤ phi n w
  z6 : ∀ h, p6 = some h → L0 < h ∧ h ≠ h7
theorem main_loop {n : Nat} {ds : List Df} {w : Nat → Int} {F L : Nat → Int} {L0 h7 : Nat} {x6 x1 x9 x11 x50 : AV} {p6 : Option Nat} {H H0 : AHeap} {Q : AX → AEnv → AHeap → Prop} (hg : Good n ds) (hn : n ≤ 16) (hK : ds.length ≤ 60) (hw : ∀ v, -4096 ≤ w v ∧ w v ≤ 4096)
    (g7 : L0 < h7) (mi : MI n ds w L0 h7 F L p6) (mf : MF n ds L0 h7 H0 F L x6 p6 H)
    (hYes : ∀ F a p H, Opt n ds w F → (∀ k, k < ds.length → 0 ≤ F k ∧ F k ≤ 65536) → AccS H a 3 1 (ic (li ds.length F)) p → L0 ≤ H.length → (∀ i, i < L0 → AHeap.obj H i = AHeap.obj H0 i) → Q .ret [(4, a), (5, .bool true)] H)
    (hNo : ∀ H, (∃ y, Ray n ds w y) → L0 ≤ H.length → (∀ i, i < L0 → AHeap.obj H i = AHeap.obj H0 i) → Q .ret [(4, .nilSlice), (5, .bool false)] H) :
    awp Try.prog (.block 6 (.loop (.block 7 ir95b))) Q [(1, x1), (2, .ptr L0 1 0 0), (6, x6), (7, .own h7 n 0 n), (9, x9), (11, x11), (50, x50)] H := by
  have hn1 := hg.pos
  have hph := phi_weights (n := n) hw
  simp only [walkS, wl, rgets, retv, argsEnv, ev, cst, cst1, cstL, AEnv.get, AEnv.trim, envput, qstep, abin, aun, evs, evo, deref, qload, target, if_true, if_false, Nat.reduceEqDiff, reduceIte, Nat.reduceAdd, AV.cells, AV.isTuple, setMany, alen, aiaddr, afill, Nat.reduceLeDiff, Nat.reduceMul, Nat.reduceLT, afillE, List.replicate]
  refine awp_loop (σ := Bool × (Nat → Int) × (Nat → Int) × AV × Option Nat) (fun t => if t.1 = true then [(1, x1), (2, .ptr L0 1 0 0), (6, t.2.2.2.1), (7, .own h7 n 0 n), (9, x9), (11, x11), (50, x50)] else [(2, .ptr L0 1 0 0), (6, t.2.2.2.1), (7, .own h7 n 0 n)])
    (fun t H => MF n ds L0 h7 H0 t.2.1 t.2.2.1 t.2.2.2.1 t.2.2.2.2 H) (fun t => MI n ds w L0 h7 t.2.1 t.2.2.1 t.2.2.2.2) (fun t => (phi n t.2.2.1).toNat) (true, F, L, x6, p6) mi rfl mf ?_
  clear mi mf H
  rintro ⟨b, F, L, x6, p6⟩ H mi mf
  simp only at mi mf
  have hT : phi n w ≤ 65536 := by omega
  have h0 := phi_nonneg (n := n) (W := L)
  have hLb := lack_bound hn1 mi.sum (B := 65536) (by have := mi.phi; omega)
  have hFb : ∀ k, k < ds.length → 0 ≤ F k ∧ F k ≤ 65536 := fun k hk => ⟨mi.inv.nonneg k hk, by have := mi.inv.cap k hk; omega⟩
  have sol := mi.inv.sol hg (by omega)
  simp only [walkS, wl, rgets, retv, argsEnv, ev, cst, cst1, cstL, AEnv.get, AEnv.trim, envput, qstep, abin, aun, evs, evo, deref, qload, target, if_true, if_false, Nat.reduceEqDiff, reduceIte, Nat.reduceAdd, AV.cells, AV.isTuple, setMany, alen, aiaddr, afill, Nat.reduceLeDiff, Nat.reduceMul, Nat.reduceLT, afillE, List.replicate]
  refine round_rest (x1 := x1) (x9 := x9) (x11 := x11) (x50 := x50) hn1 (by omega) hK hg.w sol hLb hFb mf.o0 mf.a6 (fun h e => ⟨by have := (mi.z6 h e).1; omega, (mi.z6 h e).2⟩) mf.o7 ?_ ?_ ?_ ?_
  · cases b
    · exact .inl rfl
    · exact .inr rfl
  · intro hall
    have hz := all_zero mi.sum hall
    exact hYes F x6 p6 H (mi.inv.opt fun v _ hv => hz v hv) hFb mf.a6 mf.len mf.keep
  · intro f hf hLf hno H' hl hk
    have hray := ray_cut hg mi.inv (sol.calm1 hf) hf mi.sum hno hLf (sol.self hf).1
    exact hNo H' hray (by have := mf.len; omega) fun i hi => (hk i (by have := mf.len; omega)).trans (mf.keep i hi)
  · intro f a q c h6 hf hLf e6 hw' hLa hc H' hl m6 m7 hk
    have ha := hw'.node
    have hc0 : 0 < min (- L f) (L a) := by omega
    have hcp := muchR_pos hw' hc0 q (Nat.le_refl _)
    have hcl := muchR_le (ds := ds) (F := F) (s := (lens n (lns ds F) (one f)).1) (a := a) (c0 := min (- L f) (L a)) q
    rw [← hc] at hcp hcl
    have st := ref_step hg (by omega) mi.inv hf hw' hLf hLa hcp (by omega) (by omega) hcl.2
    have hne : f ≠ a := fun e => by rw [e] at hLf; omega
    have z := mi.z6 h6 e6
    have lL := AHeap.obj_lt mf.o0
    refine loop_end (false, augs ds F (lens n (lns ds F) (one f)).1 a c q, upd (upd L f (L f + c)) a (upd L f (L f + c) a - c), .own h6 ds.length 0 ds.length, some h6) ⟨st.1, ?_, ?_, fun h e => ?_⟩ ?_ rfl ⟨?_, .inr ⟨h6, rfl, ?_, m6⟩, m7, ?_, fun i hi => ?_⟩
    · exact (sum_move hf ha hne).trans mi.sum
    · have := mi.phi; have := st.2; simp only; omega
    · cases e; exact z
    · have := st.2
      have := phi_nonneg (n := n) (W := upd (upd L f (L f + c)) a (upd L f (L f + c) a - c))
      simp only; omega
    · rw [hk L0 lL (by omega) (by omega)]; exact mf.o0
    · simp only [ic_length, li_length]
    · have := mf.len; omega
    · rw [hk i (by omega) (by omega) (by omega)]; exact mf.keep i hi
def restS (w : Nat → Int) (k : Nat) : Int := sumN k fun v => if v = 0 then 0 else w v
def lack0 (n : Nat) (w : Nat → Int) (v : Nat) : Int := if v = 0 then -(restS w n) else w v
theorem restS_succ {w : Nat → Int} {k : Nat} (h : 0 < k) : restS w (k + 1) = restS w k + w k := by
  show sumN k _ + (if k = 0 then 0 else w k) = _
  rw [if_neg (by omega)]; rfl
theorem restS_bound {w : Nat → Int} (hw : ∀ v, -4096 ≤ w v ∧ w v ≤ 4096) (k : Nat) : -(4096 * (k : Int)) ≤ restS w k ∧ restS w k ≤ 4096 * (k : Int) := by
  have h1 := phi_weights (n := k) hw
  have h2 := phi_sum (n := k) (W := w)
  unfold restS
  omega
theorem lack0_sum {n : Nat} {w : Nat → Int} (hn : 0 < n) : sumN n (lack0 n w) = 0 := by
  rw [lack_zero hn]
  have e : sumN n (fun v => if v = 0 then 0 else lack0 n w v) = restS w n := sumN_congr n fun v _ => by
    unfold lack0
    by_cases e : v = 0
    · simp [e]
    · simp [e]
  rw [e]
  unfold lack0
  rw [if_pos rfl]; omega
theorem wg_ic {ws : List Int} {k : Nat} (h : k < ws.length) : (ic ws)[k]? = some [I (wg ws k)] := by rw [ic_get h, wg_eq]
theorem lacks_loop {n : Nat} {ds : List Df} {ws : List Int} {L0 : Nat} {x6 x10 x38 : AV} {p6 : Option Nat} {H H0 : AHeap} {Q : AX → AEnv → AHeap → Prop} (sol : Sol n ds) (hn : n ≤ 16) (hK : ds.length ≤ 60) (hlw : ws.length = n) (hw : ∀ v, -4096 ≤ wg ws v ∧ wg ws v ≤ 4096)
    (o0 : AHeap.obj H L0 = some ⟨24, 2, [[I n, .ro false (rows ds)]]⟩) (a6 : AccS H x6 3 1 (ic (li ds.length fun _ => 0)) p6) (z6 : ∀ h, p6 = some h → L0 < h) (len : L0 ≤ H.length) (keep : ∀ i, i < L0 → AHeap.obj H i = AHeap.obj H0 i)
    (hYes : ∀ F a p H, Opt n ds (wg ws) F → (∀ k, k < ds.length → 0 ≤ F k ∧ F k ≤ 65536) → AccS H a 3 1 (ic (li ds.length F)) p → L0 ≤ H.length → (∀ i, i < L0 → AHeap.obj H i = AHeap.obj H0 i) → Q .ret [(4, a), (5, .bool true)] H)
    (hNo : ∀ H, (∃ y, Ray n ds (wg ws) y) → L0 ≤ H.length → (∀ i, i < L0 → AHeap.obj H i = AHeap.obj H0 i) → Q .ret [(4, .nilSlice), (5, .bool false)] H) :
    awp Try.prog ir95j Q [(1, .ro false (ic ws)), (2, .ptr L0 1 0 0), (6, x6), (7, .nilSlice), (9, I (restS (wg ws) n)), (10, x10), (38, x38)] H := by
  have hg := sol.good
  have hn1 := hg.pos
  unfold ir95j
  simp only [walkS, wl, rgets, retv, argsEnv, ev, cst, cst1, cstL, AEnv.get, AEnv.trim, envput, qstep, abin, aun, evs, evo, deref, qload, target, if_true, if_false, Nat.reduceEqDiff, reduceIte, Nat.reduceAdd, AV.cells, AV.isTuple, setMany, alen, aiaddr, afill, Nat.reduceLeDiff, Nat.reduceMul, Nat.reduceLT, afillE, List.replicate]
  refine awp_loop (σ := Nat × AV × Option Nat) (fun t => [(1, .ro false (ic ws)), (2, .ptr L0 1 0 0), (6, x6), (7, t.2.1), (9, I (restS (wg ws) n)), (11, I t.1)])
    (fun t H => AHeap.obj H L0 = some ⟨24, 2, [[I n, .ro false (rows ds)]]⟩ ∧ AccS H x6 3 1 (ic (li ds.length fun _ => 0)) p6 ∧ AccS H t.2.1 3 1 (ic (li t.1 (lack0 n (wg ws)))) t.2.2 ∧ L0 ≤ H.length ∧ ∀ i, i < L0 → AHeap.obj H i = AHeap.obj H0 i)
    (fun t => t.1 ≤ n ∧ ∀ h, t.2.2 = some h → L0 < h ∧ p6 ≠ some h) (fun t => n - t.1) (0, .nilSlice, none) ⟨Nat.zero_le _, fun h e => by cases e⟩ rfl ⟨o0, a6, .inl ⟨rfl, rfl, rfl⟩, len, keep⟩ ?_
  clear o0 a6 len keep H
  rintro ⟨k, a7, p7⟩ H ⟨hk, z7⟩ ⟨o0, a6, acc, len, keep⟩
  simp only at hk z7 acc
  have l0 := AHeap.obj_lt o0
  simp only [walkS, wl, rgets, retv, argsEnv, ev, cst, cst1, cstL, AEnv.get, AEnv.trim, envput, qstep, abin, aun, evs, evo, deref, qload, target, if_true, if_false, Nat.reduceEqDiff, reduceIte, Nat.reduceAdd, AV.cells, AV.isTuple, setMany, alen, aiaddr, afill, Nat.reduceLeDiff, Nat.reduceMul, Nat.reduceLT, afillE, List.replicate, o0]
  refine withBool_intro ?_ ?_ <;> intro hb <;> simp only [walkS, wl, rgets, retv, argsEnv, ev, cst, cst1, cstL, AEnv.get, AEnv.trim, envput, qstep, abin, aun, evs, evo, deref, qload, target, if_true, if_false, Nat.reduceEqDiff, reduceIte, Nat.reduceAdd, AV.cells, AV.isTuple, setMany, alen, aiaddr, afill, Nat.reduceLeDiff, Nat.reduceMul, Nat.reduceLT, afillE, List.replicate]
  · have hlt : k < n := by simpa using hb
    have hwk : IntKind.i64.wrap ((k : Int) + 1) = ((k + 1 : Nat) : Int) := by rw [wrap_id (by omega) (by omega)]; simp
    have step : ∀ (v : Int) (hl : Nat) (H1 : AHeap), v = lack0 n (wg ws) k → H1 = H ++ [some ⟨3, 1, [[I v]]⟩] → ∀ h' H', H1.length ≤ H'.length → AHeap.obj H' h' = some ⟨3, 1, ic (li k (lack0 n (wg ws))) ++ [[I v]]⟩ → (p7 = some h' ∨ (p7 = none ∧ H1.length ≤ h')) → (∀ i, i < H1.length → i ≠ h' → AHeap.obj H' i = AHeap.obj H1 i) →
        (∀ h, some h' = some h → L0 < h ∧ p6 ≠ some h) ∧ AHeap.obj H' L0 = some ⟨24, 2, [[I n, .ro false (rows ds)]]⟩ ∧ AccS H' x6 3 1 (ic (li ds.length fun _ => 0)) p6 ∧ AHeap.obj H' h' = some ⟨3, 1, ic (li (k + 1) (lack0 n (wg ws)))⟩ ∧ L0 ≤ H'.length ∧ ∀ i, i < L0 → AHeap.obj H' i = AHeap.obj H0 i := by
      intro v hl H1 hv e1 h' H' m1 m2 m3 m4
      subst e1
      simp only [List.length_append, List.length_cons, List.length_nil] at m1 m3 m4
      have hh : L0 < h' ∧ p6 ≠ some h' := by
        rcases m3 with m3 | ⟨_, m3⟩
        · exact z7 h' m3
        · exact ⟨by omega, fun e => by have := accS_lt a6 h' e; omega⟩
      have kk : ∀ i, i < H.length → i ≠ h' → AHeap.obj H' i = AHeap.obj H i := fun i hi hne => by rw [m4 i (by omega) hne, AHeap.obj_push_lt hi]
      refine ⟨fun h e => by cases e; exact hh, (kk L0 l0 (by omega)).trans o0, a6.keep fun i hi hil => kk i hil fun e => hh.2 (by rw [← e]; exact hi), ?_, by omega, fun i hi => (kk i (by omega) (by omega)).trans (keep i hi)⟩
      rw [m2, hv, li_snoc]
    by_cases hk0 : k = 0
    · have e1 : ((k : Int) == 0) = true := by simp [hk0]
      have hr := restS_bound hw n
      have w1 : IntKind.i64.wrap (-(restS (wg ws) n)) = -(restS (wg ws) n) := wrap_id (by omega) (by omega)
      have w2 : IntKind.i64.wrap (0 - restS (wg ws) n) = -(restS (wg ws) n) := by rw [wrap_id (by omega) (by omega)]; omega
      simp only [walkS, wl, rgets, retv, argsEnv, ev, cst, cst1, cstL, AEnv.get, AEnv.trim, envput, qstep, abin, aun, evs, evo, deref, qload, target, if_true, if_false, Nat.reduceEqDiff, reduceIte, Nat.reduceAdd, AV.cells, AV.isTuple, setMany, alen, aiaddr, afill, Nat.reduceLeDiff, Nat.reduceMul, Nat.reduceLT, afillE, List.replicate, e1, w1, w2]
      refine accS_append (acc.keep fun i _ hi => AHeap.obj_push_lt hi) rfl rfl AHeap.obj_push_eq (by simp [ic_length, li_length]; omega) fun h' H' m1 m2 m3 m4 => ?_
      obtain ⟨s1, s2, s3, s4, s5, s6⟩ := step _ 0 _ (by unfold lack0; rw [if_pos hk0]) rfl h' H' m1 m2 m3 m4
      simp only [walkS, wl, rgets, retv, argsEnv, ev, cst, cst1, cstL, AEnv.get, AEnv.trim, envput, qstep, abin, aun, evs, evo, deref, qload, target, if_true, if_false, Nat.reduceEqDiff, reduceIte, Nat.reduceAdd, AV.cells, AV.isTuple, setMany, alen, aiaddr, afill, Nat.reduceLeDiff, Nat.reduceMul, Nat.reduceLT, afillE, List.replicate, hwk]
      exact loop_end (k + 1, _, some h') ⟨hlt, s1⟩ (by simp only; omega) rfl ⟨s2, s3, .inr ⟨h', rfl, by simp only [ic_length, li_length], s4⟩, s5, s6⟩
    · have e1 : ((k : Int) == 0) = false := by simp; omega
      simp only [walkS, wl, rgets, retv, argsEnv, ev, cst, cst1, cstL, AEnv.get, AEnv.trim, envput, qstep, abin, aun, evs, evo, deref, qload, target, if_true, if_false, Nat.reduceEqDiff, reduceIte, Nat.reduceAdd, AV.cells, AV.isTuple, setMany, alen, aiaddr, afill, Nat.reduceLeDiff, Nat.reduceMul, Nat.reduceLT, afillE, List.replicate, e1, wg_ic (show k < ws.length by omega), ic_length, if_pos (show (k : Int) < (ws.length : Int) by omega)]
      refine accS_append (acc.keep fun i _ hi => AHeap.obj_push_lt hi) rfl rfl AHeap.obj_push_eq (by simp [ic_length, li_length]; omega) fun h' H' m1 m2 m3 m4 => ?_
      obtain ⟨s1, s2, s3, s4, s5, s6⟩ := step _ 0 _ (by unfold lack0; rw [if_neg hk0]) rfl h' H' m1 m2 m3 m4
      simp only [walkS, wl, rgets, retv, argsEnv, ev, cst, cst1, cstL, AEnv.get, AEnv.trim, envput, qstep, abin, aun, evs, evo, deref, qload, target, if_true, if_false, Nat.reduceEqDiff, reduceIte, Nat.reduceAdd, AV.cells, AV.isTuple, setMany, alen, aiaddr, afill, Nat.reduceLeDiff, Nat.reduceMul, Nat.reduceLT, afillE, List.replicate, hwk]
      exact loop_end (k + 1, _, some h') ⟨hlt, s1⟩ (by simp only; omega) rfl ⟨s2, s3, .inr ⟨h', rfl, by simp only [ic_length, li_length], s4⟩, s5, s6⟩
  · have hk' : k = n := by simp at hb; omega
    subst hk'
    obtain ⟨h7, e7, rfl, o7⟩ := acc.resolve_left (by intro h; have := congrArg List.length h.2.1; rw [ic_length, li_length] at this; simp only [List.length_nil] at this; omega)
    have y7 := z7 h7 e7
    simp only [ic_length, li_length]
    have hph : phi k (lack0 k (wg ws)) = phi k (wg ws) := phi_congr fun v h0 _ => by unfold lack0; rw [if_neg (by omega)]
    refine main_loop hg hn hK hw y7.1 ⟨(inv_start sol).congr fun v h0 _ => by unfold lack0; rw [if_neg (by omega)], lack0_sum hn1, by omega, fun h e => ⟨z6 h e, fun e2 => y7.2 (by rw [← e2]; exact e)⟩⟩ ⟨o0, a6, o7, len, keep⟩ hYes hNo
theorem rest_loop {n : Nat} {ds : List Df} {ws : List Int} {L0 : Nat} {x6 x8 x29 : AV} {p6 : Option Nat} {H H0 : AHeap} {Q : AX → AEnv → AHeap → Prop} (sol : Sol n ds) (hn : n ≤ 16) (hK : ds.length ≤ 60) (hlw : ws.length = n) (hw : ∀ v, -4096 ≤ wg ws v ∧ wg ws v ≤ 4096)
    (o0 : AHeap.obj H L0 = some ⟨24, 2, [[I n, .ro false (rows ds)]]⟩) (a6 : AccS H x6 3 1 (ic (li ds.length fun _ => 0)) p6) (z6 : ∀ h, p6 = some h → L0 < h) (len : L0 ≤ H.length) (keep : ∀ i, i < L0 → AHeap.obj H i = AHeap.obj H0 i)
    (hYes : ∀ F a p H, Opt n ds (wg ws) F → (∀ k, k < ds.length → 0 ≤ F k ∧ F k ≤ 65536) → AccS H a 3 1 (ic (li ds.length F)) p → L0 ≤ H.length → (∀ i, i < L0 → AHeap.obj H i = AHeap.obj H0 i) → Q .ret [(4, a), (5, .bool true)] H)
    (hNo : ∀ H, (∃ y, Ray n ds (wg ws) y) → L0 ≤ H.length → (∀ i, i < L0 → AHeap.obj H i = AHeap.obj H0 i) → Q .ret [(4, .nilSlice), (5, .bool false)] H) :
    awp Try.prog ir95i Q [(1, .ro false (ic ws)), (2, .ptr L0 1 0 0), (6, x6), (7, .nilSlice), (8, x8), (29, x29)] H := by
  have hg := sol.good
  have hn1 := hg.pos
  unfold ir95i
  simp only [walkS, wl, rgets, retv, argsEnv, ev, cst, cst1, cstL, AEnv.get, AEnv.trim, envput, qstep, abin, aun, evs, evo, deref, qload, target, if_true, if_false, Nat.reduceEqDiff, reduceIte, Nat.reduceAdd, AV.cells, AV.isTuple, setMany, alen, aiaddr, afill, Nat.reduceLeDiff, Nat.reduceMul, Nat.reduceLT, afillE, List.replicate]
  refine awp_loop (σ := Nat) (fun t => [(1, .ro false (ic ws)), (2, .ptr L0 1 0 0), (6, x6), (7, .nilSlice), (9, I (restS (wg ws) t)), (10, I t)]) (fun _ H1 => H1 = H) (fun t => 1 ≤ t ∧ t ≤ n) (fun t => n - t) 1 ⟨Nat.le_refl _, hn1⟩ rfl rfl ?_
  rintro k H1 ⟨hk1, hk⟩ rfl
  simp only [walkS, wl, rgets, retv, argsEnv, ev, cst, cst1, cstL, AEnv.get, AEnv.trim, envput, qstep, abin, aun, evs, evo, deref, qload, target, if_true, if_false, Nat.reduceEqDiff, reduceIte, Nat.reduceAdd, AV.cells, AV.isTuple, setMany, alen, aiaddr, afill, Nat.reduceLeDiff, Nat.reduceMul, Nat.reduceLT, afillE, List.replicate, o0]
  refine withBool_intro ?_ ?_ <;> intro hb <;> simp only [walkS, wl, rgets, retv, argsEnv, ev, cst, cst1, cstL, AEnv.get, AEnv.trim, envput, qstep, abin, aun, evs, evo, deref, qload, target, if_true, if_false, Nat.reduceEqDiff, reduceIte, Nat.reduceAdd, AV.cells, AV.isTuple, setMany, alen, aiaddr, afill, Nat.reduceLeDiff, Nat.reduceMul, Nat.reduceLT, afillE, List.replicate]
  · have hlt : k < n := by simpa using hb
    have hwk : IntKind.i64.wrap ((k : Int) + 1) = ((k + 1 : Nat) : Int) := by rw [wrap_id (by omega) (by omega)]; simp
    have hr := restS_bound hw k
    have hv := hw k
    have w1 : IntKind.i64.wrap (restS (wg ws) k + wg ws k) = restS (wg ws) (k + 1) := by rw [restS_succ (by omega)]; exact wrap_id (by omega) (by omega)
    simp only [walkS, wl, rgets, retv, argsEnv, ev, cst, cst1, cstL, AEnv.get, AEnv.trim, envput, qstep, abin, aun, evs, evo, deref, qload, target, if_true, if_false, Nat.reduceEqDiff, reduceIte, Nat.reduceAdd, AV.cells, AV.isTuple, setMany, alen, aiaddr, afill, Nat.reduceLeDiff, Nat.reduceMul, Nat.reduceLT, afillE, List.replicate, wg_ic (show k < ws.length by omega), ic_length, if_pos (show (k : Int) < (ws.length : Int) by omega), w1, hwk]
    exact loop_end (k + 1) ⟨by omega, hlt⟩ (by omega) rfl rfl
  · have hk' : k = n := by simp at hb; omega
    subst hk'
    exact lacks_loop sol hn hK hlw hw o0 a6 z6 len keep hYes hNo
structure RefFlowed (n : Nat) (ds : List Df) (ws : List Int) (H0 : AHeap) (x : AV) (H' : AHeap) : Prop where
  len : H0.length ≤ H'.length
  same : ∀ i, i < H0.length → AHeap.obj H' i = AHeap.obj H0 i
  cas : (∃ F a p, x = .tuple [a, .bool true] ∧ AccS H' a 3 1 (ic (li ds.length F)) p ∧ Opt n ds (wg ws) F ∧ ∀ k, k < ds.length → 0 ≤ F k ∧ F k ≤ 65536) ∨ (x = .tuple [.nilSlice, .bool false] ∧ ∃ y, Ray n ds (wg ws) y)
theorem refFlow_at {n : Nat} {ds : List Df} {ws : List Int} (sol : Sol n ds) (hn : n ≤ 16) (hK : ds.length ≤ 60) (hlw : ws.length = n) (hw : ∀ v, -4096 ≤ wg ws v ∧ wg ws v ≤ 4096) (H0 : AHeap) :
    ACall Try.prog 95 [.agg [I n, .ro false (rows ds)], .ro false (ic ws)] H0 (RefFlowed n ds ws H0) := by
  have hg := sol.good
  have hn1 := hg.pos
  refine ACall.intro text95 (by simp) ?_
  unfold ir95
  simp only [walkS, wl, rgets, retv, argsEnv, ev, cst, cst1, cstL, AEnv.get, AEnv.trim, envput, qstep, abin, aun, evs, evo, deref, qload, target, if_true, if_false, Nat.reduceEqDiff, reduceIte, Nat.reduceAdd, AV.cells, AV.isTuple, setMany, alen, aiaddr, afill, Nat.reduceLeDiff, Nat.reduceMul, Nat.reduceLT, afillE, List.replicate]
  refine awp_loop (σ := Nat × AV × Option Nat) (fun t => [(1, .ro false (ic ws)), (2, .ptr H0.length 1 0 0), (6, t.2.1), (7, .nilSlice), (8, I t.1)])
    (fun t H => AHeap.obj H H0.length = some ⟨24, 2, [[I n, .ro false (rows ds)]]⟩ ∧ AccS H t.2.1 3 1 (ic (li t.1 fun _ => 0)) t.2.2 ∧ H0.length ≤ H.length ∧ ∀ i, i < H0.length → AHeap.obj H i = AHeap.obj H0 i)
    (fun t => t.1 ≤ ds.length ∧ ∀ h, t.2.2 = some h → H0.length < h) (fun t => ds.length - t.1) (0, .nilSlice, none) ⟨Nat.zero_le _, fun h e => by cases e⟩ rfl ⟨AHeap.obj_push_eq, .inl ⟨rfl, rfl, rfl⟩, by simp, fun i hi => AHeap.obj_push_lt hi⟩ ?_
  rintro ⟨k, a6, p6⟩ H ⟨hk, z6⟩ ⟨o0, acc, len, keep⟩
  simp only at hk z6 acc
  have l0 := AHeap.obj_lt o0
  simp only [walkS, wl, rgets, retv, argsEnv, ev, cst, cst1, cstL, AEnv.get, AEnv.trim, envput, qstep, abin, aun, evs, evo, deref, qload, target, if_true, if_false, Nat.reduceEqDiff, reduceIte, Nat.reduceAdd, AV.cells, AV.isTuple, setMany, alen, aiaddr, afill, Nat.reduceLeDiff, Nat.reduceMul, Nat.reduceLT, afillE, List.replicate, o0, rows_length]
  refine withBool_intro ?_ ?_ <;> intro hb <;> simp only [walkS, wl, rgets, retv, argsEnv, ev, cst, cst1, cstL, AEnv.get, AEnv.trim, envput, qstep, abin, aun, evs, evo, deref, qload, target, if_true, if_false, Nat.reduceEqDiff, reduceIte, Nat.reduceAdd, AV.cells, AV.isTuple, setMany, alen, aiaddr, afill, Nat.reduceLeDiff, Nat.reduceMul, Nat.reduceLT, afillE, List.replicate]
  · have hlt : k < ds.length := by simpa using hb
    have hwk : IntKind.i64.wrap ((k : Int) + 1) = ((k + 1 : Nat) : Int) := by rw [wrap_id (by omega) (by omega)]; simp
    refine accS_append (acc.keep fun i _ hi => AHeap.obj_push_lt hi) rfl rfl AHeap.obj_push_eq (by simp [ic_length, li_length]; omega) fun h' H' m1 m2 m3 m4 => ?_
    simp only [List.length_append, List.length_cons, List.length_nil] at m1 m3 m4
    have hh : H0.length < h' := by
      rcases m3 with m3 | ⟨_, m3⟩
      · exact z6 h' m3
      · omega
    have kk : ∀ i, i < H.length → i ≠ h' → AHeap.obj H' i = AHeap.obj H i := fun i hi hne => by rw [m4 i (by omega) hne, AHeap.obj_push_lt hi]
    rw [show (0 : Int) = (fun _ : Nat => (0 : Int)) k from rfl, li_snoc] at m2
    simp only [walkS, wl, rgets, retv, argsEnv, ev, cst, cst1, cstL, AEnv.get, AEnv.trim, envput, qstep, abin, aun, evs, evo, deref, qload, target, if_true, if_false, Nat.reduceEqDiff, reduceIte, Nat.reduceAdd, AV.cells, AV.isTuple, setMany, alen, aiaddr, afill, Nat.reduceLeDiff, Nat.reduceMul, Nat.reduceLT, afillE, List.replicate, hwk]
    exact loop_end (k + 1, _, some h') ⟨hlt, fun h e => by cases e; exact hh⟩ (by simp only; omega) rfl ⟨(kk _ l0 (by omega)).trans o0, .inr ⟨h', rfl, by simp only [ic_length, li_length], m2⟩, by omega, fun i hi => (kk i (by omega) (by omega)).trans (keep i hi)⟩
  · have hk' : k = ds.length := by simp at hb; omega
    subst hk'
    refine rest_loop sol hn hK hlw hw o0 acc z6 len keep (fun F a p H ho hF ha hl hkp => ?_) (fun H hr hl hkp => ?_)
    · exact ⟨hl, hkp, .inl ⟨F, a, p, rfl, ha, ho, hF⟩⟩
    · exact ⟨hl, hkp, .inr ⟨rfl, hr⟩⟩
end Go.Proofs.Ytepnijjgdhldeaa
/- Contracts: Most of the specification. -/
namespace Go.Proofs.Ytepnijjgdhldeaa
open Go.Awp
set_option linter.unusedSimpArgs false
set_option linter.unusedVariables false
set_option linter.unusedSectionVars false
set_option maxRecDepth 10000
set_option maxHeartbeats 8000000
theorem weighty_w {n : Int} {ws : List Int} (h : weightyB n ws = true) : (ws.length : Int) = n ∧ ∀ v, -4096 ≤ wg ws v ∧ wg ws v ≤ 4096 := by
  unfold weightyB at h
  simp only [Bool.and_eq_true, decide_eq_true_eq, Bool.not_eq_true'] at h
  refine ⟨h.1, fun v => ?_⟩
  by_cases hv : v < ws.length
  · have := List.any_eq_false.1 h.2 ws[v] (List.getElem_mem hv)
    rw [wg_eq hv] at this
    simp [wfar] at this; omega
  · have : wg ws v = 0 := by simp [wg, List.getElem?_eq_none (by omega : ws.length ≤ v)]
    omega
theorem out_most {H : AHeap} {a e : Int} {b : Bool} : Out H (.tuple [I a, .bool b, I e]) (.tuple [I a, .bool b, I e]) := out_apart
theorem refMost_ok {n : Int} {ds : List Df} {ws : List Int} (hl : ws.length ≤ big) (hs : valid n ds = true → n ≤ 16 ∧ ds.length ≤ 60) : PCall Try.prog 46 [.agg [I n, .ro false (rows ds)], .ro false (ic ws)] (.tuple [I (mostV n ds ws).1, .bool (mostV n ds ws).2.1, I (mostV n ds ws).2.2]) := by
  refine PCall.intro text46 (by simp) ?_
  unfold ir46
  simp only [walkS, wl, rgets, retv, argsEnv, ev, cst, cst1, cstL, AEnv.get, AEnv.trim, envput, qstep, abin, aun, evs, evo, deref, qload, target, if_true, if_false, Nat.reduceEqDiff, reduceIte, Nat.reduceAdd, AV.cells, AV.isTuple, setMany, alen, aiaddr, afill, Nat.reduceLeDiff, Nat.reduceMul, Nat.reduceLT, afillE, List.replicate]
  refine call_pure (refCheck_ok n ds) (frzL_of' (d := 4) (carL_cons car_netF rfl)) ?_
  simp only [walkS, wl, rgets, retv, argsEnv, ev, cst, cst1, cstL, AEnv.get, AEnv.trim, envput, qstep, abin, aun, evs, evo, deref, qload, target, if_true, if_false, Nat.reduceEqDiff, reduceIte, Nat.reduceAdd, AV.cells, AV.isTuple, setMany, alen, aiaddr, afill, Nat.reduceLeDiff, Nat.reduceMul, Nat.reduceLT, afillE, List.replicate]
  cases hv : valid n ds with
  | false =>
    have e1 : check n ds = 40 := by simp [check, hv]
    have e2 : mostV n ds ws = (0, false, 40) := by simp [mostV, bestE, hv]
    rw [e1, e2]
    simp only [walkS, wl, rgets, retv, argsEnv, ev, cst, cst1, cstL, AEnv.get, AEnv.trim, envput, qstep, abin, aun, evs, evo, deref, qload, target, if_true, if_false, Nat.reduceEqDiff, reduceIte, Nat.reduceAdd, AV.cells, AV.isTuple, setMany, alen, aiaddr, afill, Nat.reduceLeDiff, Nat.reduceMul, Nat.reduceLT, afillE, List.replicate, Int.reduceBNe]
    exact out_most
  | true =>
    have e1 : check n ds = 0 := by simp [check, hv]
    rw [e1]
    simp only [walkS, wl, rgets, retv, argsEnv, ev, cst, cst1, cstL, AEnv.get, AEnv.trim, envput, qstep, abin, aun, evs, evo, deref, qload, target, if_true, if_false, Nat.reduceEqDiff, reduceIte, Nat.reduceAdd, AV.cells, AV.isTuple, setMany, alen, aiaddr, afill, Nat.reduceLeDiff, Nat.reduceMul, Nat.reduceLT, afillE, List.replicate, Int.reduceBNe]
    refine call_pure (Weights_ok hl) (frzL_of' (d := 4) (carL_cons car_netF (carL_cons car_icF rfl))) ?_
    cases hwt : weightyB n ws with
    | false =>
      have e2 : mostV n ds ws = (0, false, 1) := by simp [mostV, bestE, hv, hwt]
      rw [e2]
      simp only [walkS, wl, rgets, retv, argsEnv, ev, cst, cst1, cstL, AEnv.get, AEnv.trim, envput, qstep, abin, aun, evs, evo, deref, qload, target, if_true, if_false, Nat.reduceEqDiff, reduceIte, Nat.reduceAdd, AV.cells, AV.isTuple, setMany, alen, aiaddr, afill, Nat.reduceLeDiff, Nat.reduceMul, Nat.reduceLT, afillE, List.replicate]
      exact out_most
    | true =>
      simp only [walkS, wl, rgets, retv, argsEnv, ev, cst, cst1, cstL, AEnv.get, AEnv.trim, envput, qstep, abin, aun, evs, evo, deref, qload, target, if_true, if_false, Nat.reduceEqDiff, reduceIte, Nat.reduceAdd, AV.cells, AV.isTuple, setMany, alen, aiaddr, afill, Nat.reduceLeDiff, Nat.reduceMul, Nat.reduceLT, afillE, List.replicate]
      obtain ⟨hlw, hw⟩ := weighty_w hwt
      obtain ⟨h16, hK⟩ := hs hv
      obtain ⟨m, rfl, hg, hm⟩ := good_of hv h16
      refine call_pure (Solvable_ok hg) (frzL_of' (d := 4) (carL_cons car_netF rfl)) ?_
      cases hsl : (lens m ds (everyone m)).2 with
      | false =>
        have e2 : mostV m ds ws = (0, false, 41) := by simp [mostV, bestE, hv, hwt, hsl]
        rw [e2]
        simp only [walkS, wl, rgets, retv, argsEnv, ev, cst, cst1, cstL, AEnv.get, AEnv.trim, envput, qstep, abin, aun, evs, evo, deref, qload, target, if_true, if_false, Nat.reduceEqDiff, reduceIte, Nat.reduceAdd, AV.cells, AV.isTuple, setMany, alen, aiaddr, afill, Nat.reduceLeDiff, Nat.reduceMul, Nat.reduceLT, afillE, List.replicate]
        exact out_most
      | true =>
        simp only [walkS, wl, rgets, retv, argsEnv, ev, cst, cst1, cstL, AEnv.get, AEnv.trim, envput, qstep, abin, aun, evs, evo, deref, qload, target, if_true, if_false, Nat.reduceEqDiff, reduceIte, Nat.reduceAdd, AV.cells, AV.isTuple, setMany, alen, aiaddr, afill, Nat.reduceLeDiff, Nat.reduceMul, Nat.reduceLT, afillE, List.replicate]
        have hb : bestE m ds ws = 0 := by simp [bestE, hv, hwt, hsl]
        have e2 : mostV m ds ws = ((mostN m ds (wg ws)).1, (mostN m ds (wg ws)).2, 0) := by simp only [mostV, hb, if_true, Int.toNat_natCast]
        rw [e2]
        have hfd : ∀ d, d ∈ ds → fr d < m ∧ to d < m := fun d hd => ⟨hg.fit.fr d hd, hg.fit.to d hd⟩
        refine (refFlow_at ⟨hg, hsl⟩ hm hK (by omega) hw _).mono fun x H1 hx => ?_
        have o0 : AHeap.obj H1 0 = some ⟨24, 2, [[I m, .ro false (rows ds)]]⟩ := by rw [hx.same 0 (by simp)]; rfl
        rcases hx.cas with ⟨F, a, p, rfl, ha, ho, hF⟩ | ⟨rfl, y, hr⟩
        · rw [mostN_t hfd ho]
          simp only [walkS, wl, rgets, retv, argsEnv, ev, cst, cst1, cstL, AEnv.get, AEnv.trim, envput, qstep, abin, aun, evs, evo, deref, qload, target, if_true, if_false, Nat.reduceEqDiff, reduceIte, Nat.reduceAdd, AV.cells, AV.isTuple, setMany, alen, aiaddr, afill, Nat.reduceLeDiff, Nat.reduceMul, Nat.reduceLT, afillE, List.replicate, o0]
          refine call_pure (Cost_ok (b := false) (by omega) (fun k hk => ⟨(hF k hk).1, by have := (hF k hk).2; omega⟩) hg.w) (.cons (frz_car (d := 4) car_netF) (.cons (accS_frz ha (ic_simple _)) .nil)) ?_
          simp only [walkS, wl, rgets, retv, argsEnv, ev, cst, cst1, cstL, AEnv.get, AEnv.trim, envput, qstep, abin, aun, evs, evo, deref, qload, target, if_true, if_false, Nat.reduceEqDiff, reduceIte, Nat.reduceAdd, AV.cells, AV.isTuple, setMany, alen, aiaddr, afill, Nat.reduceLeDiff, Nat.reduceMul, Nat.reduceLT, afillE, List.replicate]
          exact out_most
        · rw [mostN_f hfd hr]
          simp only [walkS, wl, rgets, retv, argsEnv, ev, cst, cst1, cstL, AEnv.get, AEnv.trim, envput, qstep, abin, aun, evs, evo, deref, qload, target, if_true, if_false, Nat.reduceEqDiff, reduceIte, Nat.reduceAdd, AV.cells, AV.isTuple, setMany, alen, aiaddr, afill, Nat.reduceLeDiff, Nat.reduceMul, Nat.reduceLT, afillE, List.replicate]
          exact out_most
end Go.Proofs.Ytepnijjgdhldeaa
