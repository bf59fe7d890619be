/- The law DiffsHidden, walked. -/
import Derived.Test.YtepnijjgdhldeaaQX1
import Derived.Test.YtepnijjgdhldeaaQG7
import Derived.Test.YtepnijjgdhldeaaQE6
import Derived.Test.YtepnijjgdhldeaaQE12
import Derived.Test.YtepnijjgdhldeaaQT615
import Derived.Test.YtepnijjgdhldeaaQT653
namespace Go.Proofs.Ytepnijjgdhldeaa
open Go.Awp
set_option linter.unusedSimpArgs false
set_option linter.unusedVariables false
set_option maxRecDepth 10000
set_option maxHeartbeats 8000000
def hfar (x : Int) : Bool := decide (x < -1048576) || decide (x > 1048576)
theorem hfar_ok (x : Int) : PCall Try.prog 53 [I x] (.bool (hfar x)) := by
  refine PCall.intro text53 (by simp) ?_
  unfold ir53
  by_cases h : x < -1048576
  · simp only [walkS, wl, rgets, retv, argsEnv, ev, cst, cst1, cstL, AEnv.get, AEnv.trim, envput, qstep, abin, aun, evs, evo, deref, qload, target, if_true, if_false, Nat.reduceEqDiff, reduceIte, Nat.reduceAdd, AV.cells, AV.isTuple, setMany, alen, aiaddr, afill, Nat.reduceLeDiff, Nat.reduceMul, Nat.reduceLT, afillE, List.replicate, decide_eq_true h]
    have : hfar x = true := by simp [hfar, h]
    rw [this]; exact out_bool
  · simp only [walkS, wl, rgets, retv, argsEnv, ev, cst, cst1, cstL, AEnv.get, AEnv.trim, envput, qstep, abin, aun, evs, evo, deref, qload, target, if_true, if_false, Nat.reduceEqDiff, reduceIte, Nat.reduceAdd, AV.cells, AV.isTuple, setMany, alen, aiaddr, afill, Nat.reduceLeDiff, Nat.reduceMul, Nat.reduceLT, afillE, List.replicate, decide_eq_false h]
    have : hfar x = decide (x > 1048576) := by simp [hfar, h]
    rw [this]; exact out_bool
def hidp (xs : List Int) (p : Df) : Df := (p.1, p.2.1, at0 xs p.2.1 - at0 xs p.1 + p.2.2)
def hids (xs : List Int) (ps : List Df) : List Df := ps.map (hidp xs)
theorem hids_length {xs : List Int} {ps : List Df} : (hids xs ps).length = ps.length := by simp [hids]
theorem hids_take {xs : List Int} {ps : List Df} {k : Nat} (h : k < ps.length) : rows (hids xs (ps.take (k + 1))) = rows (hids xs (ps.take k)) ++ [[I ps[k].1, I ps[k].2.1, I (at0 xs ps[k].2.1 - at0 xs ps[k].1 + ps[k].2.2)]] := by
  rw [List.take_succ_eq_append_getElem h]
  unfold hids
  rw [List.map_append]
  exact rows_snoc _ _
def okp (L : Nat) (p : Df) : Prop := (0 ≤ p.1 ∧ p.1 < L) ∧ (0 ≤ p.2.1 ∧ p.2.1 < L) ∧ 0 ≤ p.2.2 ∧ p.2.2 ≤ 1048576
/-- What is known behind the first loop. -/
structure D15 (L : Nat) (xs : List Int) (ds : List Df) (ws : List Int) : Prop where
  len : xs.length = L
  pos : 1 ≤ L
  small : L ≤ 13
  lds : ds.length ≤ 40
  zero : at0 xs 0 = 0
  near : ∀ x, x ∈ xs → -1048576 ≤ x ∧ x ≤ 1048576
  each : ∀ d, d ∈ ds → ((0 ≤ d.1 ∧ d.1 < L) ∧ (0 ≤ d.2.1 ∧ d.2.1 < L)) ∧ at0 xs d.2.1 - at0 xs d.1 ≤ d.2.2 ∧ d.2.2 ≤ at0 xs d.2.1 - at0 xs d.1 + 1048576
  lw : ws.length ≤ big
theorem D15.at {L : Nat} {xs ws : List Int} {ds : List Df} (D : D15 L xs ds ws) (i : Int) : -1048576 ≤ at0 xs i ∧ at0 xs i ≤ 1048576 := by
  unfold at0
  rcases Nat.lt_or_ge i.toNat xs.length with hk | hk
  · have : xs.getD i.toNat 0 = xs[i.toNat] := by simp [hk]
    rw [this]; exact D.near _ (List.getElem_mem hk)
  · have : xs.getD i.toNat 0 = 0 := by simp [hk]
    rw [this]; omega
theorem D15.valid {L : Nat} {xs ws : List Int} {ds : List Df} (D : D15 L xs ds ws) : valid L ds = true := by
  have h1 := D.pos
  have h2 := D.small
  have h3 := D.lds
  refine valid_iff.2 ⟨by omega, by omega, fun d hd => ?_⟩
  obtain ⟨a, b, c⟩ := D.each d hd
  have x1 := D.at d.1
  have x2 := D.at d.2.1
  simp [right]; omega
theorem D15.fulf {L : Nat} {xs ws : List Int} {ds : List Df} (D : D15 L xs ds ws) : fulf L ds xs = true := by
  have h1 := D.pos
  refine fulf_iff.2 ⟨⟨by rw [D.len], by rw [D.len]; omega⟩, D.zero, fun x hx => ?_, fun d hd => ?_⟩
  · have := D.near x hx
    simp [far]; omega
  · obtain ⟨a, b, c⟩ := D.each d hd
    rw [D.len]; exact ⟨a, b⟩
theorem D15.good {L : Nat} {xs ws : List Int} {ds : List Df} (D : D15 L xs ds ws) : Good L ds := by
  obtain ⟨m, hm, hg, _⟩ := good_of D.valid (by have := D.small; omega)
  obtain rfl : L = m := by omega
  exact hg
theorem D15.sol {L : Nat} {xs ws : List Int} {ds : List Df} (D : D15 L xs ds ws) : Sol L ds := fulf_sol D.good D.fulf
structure H15 (L : Nat) (xs : List Int) (ds : List Df) (a : AV) (H : AHeap) : Prop where
  o0 : AHeap.obj H 0 = some ⟨3, 1, ic xs⟩
  o1 : AHeap.obj H 1 = some ⟨24, 2, [[I L, a]]⟩
  acc : Acc 2 H a 39 3 (rows ds)
theorem H15.net {L : Nat} {xs : List Int} {ds : List Df} {a : AV} {H : AHeap} (h : H15 L xs ds a H) : Frz H (.agg [I L, a]) (.agg [I L, .ro false (rows ds)]) := acc_net h.acc
theorem H15.xs {L : Nat} {xs : List Int} {ds : List Df} {a : AV} {H : AHeap} (h : H15 L xs ds a H) (hl : xs.length = L) : Frz H (.own 0 L 0 L) (.ro false (ic xs)) := frz_car (d := 2) (car_ownN h.o0 (by rw [ic_length, hl]) (ic_simple _))
theorem mostV_sol2 {m : Nat} {ds : List Df} {ws : List Int} (hv : valid m ds = true) (hw : weightyB m ws = true) (h : Sol m ds) : mostV m ds ws = ((mostN m ds (wg ws)).1, (mostN m ds (wg ws)).2, 0) := by
  have e : bestE m ds ws = 0 := by simp [bestE, hv, hw, h.sol]
  unfold mostV
  rw [if_pos e]; rfl
theorem law15_d {L : Nat} {xs ws : List Int} {ds : List Df} {a : AV} {H : AHeap} (D : D15 L xs ds ws) (h : H15 L xs ds a H) :
    awp Try.prog ir15d (fnPost [.tmp 6] fun x H' => Out H' x (.bool true)) [(2, .ro false (ic ws)), (7, .own 0 L 0 L), (8, .ptr 1 1 0 0)] H := by
  unfold ir15d
  have hp := D.pos
  have hsm := D.small
  have hld := D.lds
  have hv := D.valid
  simp only [walkS, wl, rgets, retv, argsEnv, ev, cst, cst1, cstL, AEnv.get, AEnv.trim, envput, qstep, abin, aun, evs, evo, deref, qload, target, if_true, if_false, Nat.reduceEqDiff, reduceIte, Nat.reduceAdd, AV.cells, AV.isTuple, setMany, alen, aiaddr, afill, Nat.reduceLeDiff, Nat.reduceMul, Nat.reduceLT, afillE, List.replicate, h.o1]
  refine call_pure (Most_ok (n := L) (ds := ds) (ws := ws) D.lw (fun _ => by omega)) (.cons h.net (.cons frz_icF .nil)) ?_
  cases hw : weightyB L ws with
  | false =>
    have e : bestE L ds ws = 1 := by simp [bestE, hv, hw]
    have hmv : mostV L ds ws = (0, false, 1) := by unfold mostV; rw [e, if_neg (by decide)]
    rw [hmv]
    simp only [walkS, wl, rgets, retv, argsEnv, ev, cst, cst1, cstL, AEnv.get, AEnv.trim, envput, qstep, abin, aun, evs, evo, deref, qload, target, if_true, if_false, Nat.reduceEqDiff, reduceIte, Nat.reduceAdd, AV.cells, AV.isTuple, setMany, alen, aiaddr, afill, Nat.reduceLeDiff, Nat.reduceMul, Nat.reduceLT, afillE, List.replicate, Int.reduceBNe, Int.reduceBEq]
    exact out_bool
  | true =>
    obtain ⟨hwl, hwb⟩ := weighty_get hw
    rw [mostV_sol2 hv hw D.sol]
    have e1 : ((ws.length : Int) == (L : Int)) = true := by simp [hwl]
    have ol : alen H (.own 0 L 0 L) = some (I L) := by simp [alen, h.o0, ic_length, D.len]
    cases hb : (mostN L ds (wg ws)).2 with
    | false =>
      simp only [walkS, wl, rgets, retv, argsEnv, ev, cst, cst1, cstL, AEnv.get, AEnv.trim, envput, qstep, abin, aun, evs, evo, deref, qload, target, if_true, if_false, Nat.reduceEqDiff, reduceIte, Nat.reduceAdd, AV.cells, AV.isTuple, setMany, alen, aiaddr, afill, Nat.reduceLeDiff, Nat.reduceMul, Nat.reduceLT, afillE, List.replicate, Int.reduceBNe, h.o0, ic_length, D.len, e1, Bool.not_false]
      exact out_bool
    | true =>
      simp only [walkS, wl, rgets, retv, argsEnv, ev, cst, cst1, cstL, AEnv.get, AEnv.trim, envput, qstep, abin, aun, evs, evo, deref, qload, target, if_true, if_false, Nat.reduceEqDiff, reduceIte, Nat.reduceAdd, AV.cells, AV.isTuple, setMany, alen, aiaddr, afill, Nat.reduceLeDiff, Nat.reduceMul, Nat.reduceLT, afillE, List.replicate, Int.reduceBNe, h.o0, ic_length, D.len, e1, Bool.not_true]
      obtain ⟨f1, f2, f3, f4⟩ := fulf_feas hv D.fulf
      refine call_pure (Sum_ok (b := false) (c := false) (ws := ws) (xs := xs) (by omega) (by omega) hwb f4) (.cons frz_icF (.cons (h.xs D.len) .nil)) ?_
      rw [hwl, dotc_dot f2]
      have hf : ∀ d, d ∈ ds → fr d < L ∧ to d < L := fun d hd => ⟨D.good.fit.fr d hd, D.good.fit.to d hd⟩
      have hle : decide (dot L (wg ws) (wg xs) ≤ (mostN L ds (wg ws)).1) = true := by
        rcases most_cases (w := wg ws) D.sol (by omega) with ⟨F, ho, _, e⟩ | ⟨_, e⟩
        · have := ho.brings.weak hf f2 f3
          rw [e]; simpa using this
        · rw [e] at hb; cases hb
      simp only [walkS, wl, rgets, retv, argsEnv, ev, cst, cst1, cstL, AEnv.get, AEnv.trim, envput, qstep, abin, aun, evs, evo, deref, qload, target, if_true, if_false, Nat.reduceEqDiff, reduceIte, Nat.reduceAdd, AV.cells, AV.isTuple, setMany, alen, aiaddr, afill, Nat.reduceLeDiff, Nat.reduceMul, Nat.reduceLT, afillE, List.replicate, hle]
      exact out_bool
/-- The loop over all nodes. -/
theorem law15_c {L : Nat} {xs ws : List Int} {ds : List Df} {a : AV} {H : AHeap} (D : D15 L xs ds ws) (h : H15 L xs ds a H) :
    awp Try.prog ir15c (fnPost [.tmp 6] fun x H' => Out H' x (.bool true)) [(2, .ro false (ic ws)), (7, .own 0 L 0 L), (8, .ptr 1 1 0 0)] H := by
  unfold ir15c
  have hp := D.pos
  have hsm := D.small
  have hv := D.valid
  simp only [walkS, wl, rgets, retv, argsEnv, ev, cst, cst1, cstL, AEnv.get, AEnv.trim, envput, qstep, abin, aun, evs, evo, deref, qload, target, if_true, if_false, Nat.reduceEqDiff, reduceIte, Nat.reduceAdd, AV.cells, AV.isTuple, setMany, alen, aiaddr, afill, Nat.reduceLeDiff, Nat.reduceMul, Nat.reduceLT, afillE, List.replicate, h.o0, ic_length, D.len]
  refine awp_loop (σ := Nat) (fun k => [(2, .ro false (ic ws)), (7, .own 0 L 0 L), (8, .ptr 1 1 0 0), (151, I L), (152, I k)]) (fun _ H => H15 L xs ds a H) (fun k => k ≤ L) (fun k => L - k) 0 (Nat.zero_le _) rfl h ?_
  clear h H
  rintro k H hk h
  simp only [walkS, wl, rgets, retv, argsEnv, ev, cst, cst1, cstL, AEnv.get, AEnv.trim, envput, qstep, abin, aun, evs, evo, deref, qload, target, if_true, if_false, Nat.reduceEqDiff, reduceIte, Nat.reduceAdd, AV.cells, AV.isTuple, setMany, alen, aiaddr, afill, Nat.reduceLeDiff, Nat.reduceMul, Nat.reduceLT, afillE, List.replicate]
  refine withBool_intro ?_ ?_ <;> intro hb <;> simp only [walkS, wl, rgets, retv, argsEnv, ev, cst, cst1, cstL, AEnv.get, AEnv.trim, envput, qstep, abin, aun, evs, evo, deref, qload, target, if_true, if_false, Nat.reduceEqDiff, reduceIte, Nat.reduceAdd, AV.cells, AV.isTuple, setMany, alen, aiaddr, afill, Nat.reduceLeDiff, Nat.reduceMul, Nat.reduceLT, afillE, List.replicate]
  · have hlt : k < L := by simpa using hb
    simp only [walkS, wl, rgets, retv, argsEnv, ev, cst, cst1, cstL, AEnv.get, AEnv.trim, envput, qstep, abin, aun, evs, evo, deref, qload, target, if_true, if_false, Nat.reduceEqDiff, reduceIte, Nat.reduceAdd, AV.cells, AV.isTuple, setMany, alen, aiaddr, afill, Nat.reduceLeDiff, Nat.reduceMul, Nat.reduceLT, afillE, List.replicate, h.o1]
    refine call_pure (Apart_ok (n := L) (ds := ds) (fun _ => by omega) ((0 : Nat) : Int) k) (.cons h.net (.cons frz_int (.cons frz_int .nil))) ?_
    simp only [walkS, wl, rgets, retv, argsEnv, ev, cst, cst1, cstL, AEnv.get, AEnv.trim, envput, qstep, abin, aun, evs, evo, deref, qload, target, if_true, if_false, Nat.reduceEqDiff, reduceIte, Nat.reduceAdd, AV.cells, AV.isTuple, setMany, alen, aiaddr, afill, Nat.reduceLeDiff, Nat.reduceMul, Nat.reduceLT, afillE, List.replicate, apartV, h.o1]
    refine call_pure (Apart_ok (n := L) (ds := ds) (fun _ => by omega) k ((0 : Nat) : Int)) (.cons h.net (.cons frz_int (.cons frz_int .nil))) ?_
    rw [apart_fine D.sol hv (by omega) hlt, apart_fine D.sol hv hlt (by omega)]
    have gk : (ic xs)[k]? = some [I (at0 xs k)] := by rw [ic_get (by rw [D.len]; exact hlt), at0_nat (by rw [D.len]; exact hlt)]
    have up : (lens L ds (one 0)).1.has k = true → decide (at0 xs k > (lens L ds (one 0)).1.long k) = false := fun hh => by
      have := fulf_le_top D.fulf (by omega) hh
      simpa using this
    have bnd := D.sol.bound hlt 0
    have down : (lens L ds (one k)).1.has 0 = true → decide (at0 xs k < -(lens L ds (one k)).1.long 0) = false := fun hh => by
      have := (lens_under (n := L) (calm_shift (fulf_calm D.fulf) (at0 xs k)) (S := one k) (fun v hv => by
        have : v = k := by simpa [one] using hv
        subst this
        exact ⟨by rw [D.len]; exact hlt, by omega⟩) 0 hh).2
      have hz := D.zero
      simp only [Int.natCast_zero] at this
      simp; omega
    have wn : IntKind.i64.wrap (0 - (lens L ds (one k)).1.long 0) = -(lens L ds (one k)).1.long 0 := by rw [wrap_id (by omega) (by omega)]; omega
    have wn2 : IntKind.i64.wrap (-(lens L ds (one k)).1.long 0) = -(lens L ds (one k)).1.long 0 := wrap_id (by omega) (by omega)
    cases h1 : (lens L ds (one 0)).1.has k <;> cases h2 : (lens L ds (one k)).1.has 0
    all_goals (simp only [walkS, wl, rgets, retv, argsEnv, ev, cst, cst1, cstL, AEnv.get, AEnv.trim, envput, qstep, abin, aun, evs, evo, deref, qload, target, if_true, if_false, Nat.reduceEqDiff, reduceIte, Nat.reduceAdd, AV.cells, AV.isTuple, setMany, alen, aiaddr, afill, Nat.reduceLeDiff, Nat.reduceMul, Nat.reduceLT, afillE, List.replicate, apartV, Bool.false_eq_true, if_true, if_false, bne_self_eq_false, h.o0, gk, ic_length, D.len, if_pos (show (k : Int) < L by omega)]
               try rw [up h1]
               try simp only [walkS, wl, rgets, retv, argsEnv, ev, cst, cst1, cstL, AEnv.get, AEnv.trim, envput, qstep, abin, aun, evs, evo, deref, qload, target, if_true, if_false, Nat.reduceEqDiff, reduceIte, Nat.reduceAdd, AV.cells, AV.isTuple, setMany, alen, aiaddr, afill, Nat.reduceLeDiff, Nat.reduceMul, Nat.reduceLT, afillE, List.replicate, apartV, Bool.false_eq_true, if_true, if_false, bne_self_eq_false, h.o0, gk, ic_length, D.len, if_pos (show (k : Int) < L by omega)]
               try simp only [wn, wn2]
               try rw [down h2]
               try simp only [walkS, wl, rgets, retv, argsEnv, ev, cst, cst1, cstL, AEnv.get, AEnv.trim, envput, qstep, abin, aun, evs, evo, deref, qload, target, if_true, if_false, Nat.reduceEqDiff, reduceIte, Nat.reduceAdd, AV.cells, AV.isTuple, setMany, alen, aiaddr, afill, Nat.reduceLeDiff, Nat.reduceMul, Nat.reduceLT, afillE, List.replicate]
               rw [wrap_id (by omega) (by omega)]
               exact loop_end (k + 1) hlt (by omega) rfl h)
  · exact law15_d D h
/-- Behind the first loop. -/
theorem law15_b {L : Nat} {xs ws : List Int} {ds : List Df} {a : AV} {H : AHeap} (D : D15 L xs ds ws) (h : H15 L xs ds a H) :
    awp Try.prog ir15b (fnPost [.tmp 6] fun x H' => Out H' x (.bool true)) [(2, .ro false (ic ws)), (7, .own 0 L 0 L), (8, .ptr 1 1 0 0)] H := by
  unfold ir15b
  have hp := D.pos
  have hsm := D.small
  have hld := D.lds
  have hv := D.valid
  have hlx : xs.length ≤ big := by rw [D.len]; unfold big; omega
  simp only [walkS, wl, rgets, retv, argsEnv, ev, cst, cst1, cstL, AEnv.get, AEnv.trim, envput, qstep, abin, aun, evs, evo, deref, qload, target, if_true, if_false, Nat.reduceEqDiff, reduceIte, Nat.reduceAdd, AV.cells, AV.isTuple, setMany, alen, aiaddr, afill, Nat.reduceLeDiff, Nat.reduceMul, Nat.reduceLT, afillE, List.replicate, h.o1]
  refine call_pure (Holds_ok L ds xs hlx) (.cons h.net (.cons (h.xs D.len) .nil)) ?_
  obtain ⟨n1, n2⟩ := fulf_numbers D.fulf
  have hh : Holds L ds xs = (true, 0) := by simp [Holds, hv, n1, n2]
  rw [hh]
  simp only [walkS, wl, rgets, retv, argsEnv, ev, cst, cst1, cstL, AEnv.get, AEnv.trim, envput, qstep, abin, aun, evs, evo, deref, qload, target, if_true, if_false, Nat.reduceEqDiff, reduceIte, Nat.reduceAdd, AV.cells, AV.isTuple, setMany, alen, aiaddr, afill, Nat.reduceLeDiff, Nat.reduceMul, Nat.reduceLT, afillE, List.replicate, h.o1]
  have hgr : ¬ 0 ≤ (grown L ds (everyone L)).2 := fun e => by
    have := (solvable_iff D.good).1 e
    rw [D.sol.sol] at this; cases this
  refine call_pure (Clash_none hv D.good hgr) (.cons h.net .nil) ?_
  unfold clashV
  simp only [walkS, wl, rgets, retv, argsEnv, ev, cst, cst1, cstL, AEnv.get, AEnv.trim, envput, qstep, abin, aun, evs, evo, deref, qload, target, if_true, if_false, Nat.reduceEqDiff, reduceIte, Nat.reduceAdd, AV.cells, AV.isTuple, setMany, alen, aiaddr, afill, Nat.reduceLeDiff, Nat.reduceMul, Nat.reduceLT, afillE, List.replicate, h.o1]
  refine call_pure (Solve_ok (n := L) (ds := ds) (fun _ => by omega)) (.cons h.net .nil) ?_
  have hsv : solveV L ds = (solved L ds, 0) := by unfold solveV; rw [if_pos hv, Int.toNat_natCast, if_neg hgr]
  obtain ⟨se, sf⟩ := solved_fulf D.sol
  rw [hsv, se]
  simp only [walkS, wl, rgets, retv, argsEnv, ev, cst, cst1, cstL, AEnv.get, AEnv.trim, envput, qstep, abin, aun, evs, evo, deref, qload, target, if_true, if_false, Nat.reduceEqDiff, reduceIte, Nat.reduceAdd, AV.cells, AV.isTuple, setMany, alen, aiaddr, afill, Nat.reduceLeDiff, Nat.reduceMul, Nat.reduceLT, afillE, List.replicate, Bool.not_true, bne_self_eq_false, h.o1]
  refine call_pure (fulfils_ok (n := L) (ds := ds) (b := false) (by rw [li_length]; unfold big; omega) (by unfold big; omega)) (.cons h.net (.cons frz_icF .nil)) ?_
  rw [sf]
  simp only [walkS, wl, rgets, retv, argsEnv, ev, cst, cst1, cstL, AEnv.get, AEnv.trim, envput, qstep, abin, aun, evs, evo, deref, qload, target, if_true, if_false, Nat.reduceEqDiff, reduceIte, Nat.reduceAdd, AV.cells, AV.isTuple, setMany, alen, aiaddr, afill, Nat.reduceLeDiff, Nat.reduceMul, Nat.reduceLT, afillE, List.replicate, Bool.not_true]
  exact law15_c D h
theorem all_one {l : List Int} : ((ic l).all fun e => e.length == 1) = true := by
  rw [List.all_eq_true]
  intro e he
  obtain ⟨x, _, rfl⟩ := List.mem_map.1 he
  rfl
theorem law15_ok {hs ws : List Int} {ps : List Df} (hlh : hs.length ≤ big) (hlp : ps.length ≤ big) (hlw : ws.length ≤ big) : PCall Try.prog 15 [.ro false (ic hs), .ro false (rows ps), .ro false (ic ws)] (.bool true) := by
  refine PCall.intro text15 (by simp) ?_
  unfold ir15
  simp only [walkS, wl, rgets, retv, argsEnv, ev, cst, cst1, cstL, AEnv.get, AEnv.trim, envput, qstep, abin, aun, evs, evo, deref, qload, target, if_true, if_false, Nat.reduceEqDiff, reduceIte, Nat.reduceAdd, AV.cells, AV.isTuple, setMany, alen, aiaddr, afill, Nat.reduceLeDiff, Nat.reduceMul, Nat.reduceLT, afillE, List.replicate]
  refine call_pure sane_ok (frzL_of' (d := 4) rfl) ?_
  by_cases h1 : (hs.length : Int) > 12
  · simp only [walkS, wl, rgets, retv, argsEnv, ev, cst, cst1, cstL, AEnv.get, AEnv.trim, envput, qstep, abin, aun, evs, evo, deref, qload, target, if_true, if_false, Nat.reduceEqDiff, reduceIte, Nat.reduceAdd, AV.cells, AV.isTuple, setMany, alen, aiaddr, afill, Nat.reduceLeDiff, Nat.reduceMul, Nat.reduceLT, afillE, List.replicate, Bool.not_true, ic_length, decide_eq_true h1]
    exact out_bool
  · by_cases h2 : (ps.length : Int) > 40
    · simp only [walkS, wl, rgets, retv, argsEnv, ev, cst, cst1, cstL, AEnv.get, AEnv.trim, envput, qstep, abin, aun, evs, evo, deref, qload, target, if_true, if_false, Nat.reduceEqDiff, reduceIte, Nat.reduceAdd, AV.cells, AV.isTuple, setMany, alen, aiaddr, afill, Nat.reduceLeDiff, Nat.reduceMul, Nat.reduceLT, afillE, List.replicate, Bool.not_true, ic_length, rows_length, decide_eq_false h1, decide_eq_true h2]
      exact out_bool
    · simp only [walkS, wl, rgets, retv, argsEnv, ev, cst, cst1, cstL, AEnv.get, AEnv.trim, envput, qstep, abin, aun, evs, evo, deref, qload, target, if_true, if_false, Nat.reduceEqDiff, reduceIte, Nat.reduceAdd, AV.cells, AV.isTuple, setMany, alen, aiaddr, afill, Nat.reduceLeDiff, Nat.reduceMul, Nat.reduceLT, afillE, List.replicate, Bool.not_true, ic_length, rows_length, decide_eq_false h1, decide_eq_false h2]
      refine call_pure (contains52 (c := .func (.func 53) [] []) (fn := 53) (caps := []) (p := hfar) rfl (fun _ => rfl) hfar_ok hlh) (frzL_of' (d := 5) (carL_cons (car_ro_false (ic_simple hs)) rfl)) ?_
      cases hany : hs.any hfar with
      | true => simp only [walkS, wl, rgets, retv, argsEnv, ev, cst, cst1, cstL, AEnv.get, AEnv.trim, envput, qstep, abin, aun, evs, evo, deref, qload, target, if_true, if_false, Nat.reduceEqDiff, reduceIte, Nat.reduceAdd, AV.cells, AV.isTuple, setMany, alen, aiaddr, afill, Nat.reduceLeDiff, Nat.reduceMul, Nat.reduceLT, afillE, List.replicate]; exact out_bool
      | false =>
        have hnear : ∀ x, x ∈ hs → -1048576 ≤ x ∧ x ≤ 1048576 := fun x hx => by
          have := List.any_eq_false.1 hany x hx
          simp [hfar] at this; omega
        have hsrc : asrc [some ⟨3, 1, [[I 0]]⟩] 1 (.ro false (ic hs)) = some (ic hs) := by simp only [asrc, all_one, if_true]
        have hL : ((1 : Nat) + hs.length : Nat) = (0 :: hs).length := by simp; omega
        have happ : sstep (.append 3 1 8 (.tmp 41) (.tmp 42)) [(42, .ro false (ic hs)), (41, .own 0 1 0 1), (0, .ro false (ic hs)), (1, .ro false (rows ps)), (2, .ro false (ic ws)), (40, .bool false)] [some ⟨3, 1, [[I 0]]⟩] = some (some (.own 0 (0 :: hs).length 0 (0 :: hs).length), [some ⟨3, 1, ic (0 :: hs)⟩]) := by
          simp only [sstep, ev, AEnv.get, if_true, if_false, Nat.reduceEqDiff, hsrc]
          have : AHeap.obj [some ⟨3, 1, [[I 0]]⟩] 0 = some (⟨3, 1, [[I 0]]⟩ : AObj) := rfl
          simp only [this]
          rw [if_pos (by simp only [ic_length, List.length_cons, List.length_nil, true_and]; omega)]
          rw [ic_length, hL]
          rfl
        obtain ⟨L, hLd⟩ : ∃ L, L = (0 :: hs).length := ⟨_, rfl⟩
        obtain ⟨xs, hxd⟩ : ∃ xs, xs = (0 :: hs : List Int) := ⟨_, rfl⟩
        rw [← hLd, ← hxd] at happ
        have hxl : xs.length = L := by rw [hLd, hxd]
        have hL1 : 1 ≤ L := by rw [hLd]; simp
        have hL13 : L ≤ 13 := by rw [hLd]; simp; omega
        have hxn : ∀ x, x ∈ xs → -1048576 ≤ x ∧ x ≤ 1048576 := fun x hx => by
          rw [hxd] at hx
          rcases List.mem_cons.1 hx with rfl | hx
          · omega
          · exact hnear x hx
        have hx0 : at0 xs 0 = 0 := by rw [hxd]; rfl
        have hxat : ∀ i : Int, -1048576 ≤ at0 xs i ∧ at0 xs i ≤ 1048576 := fun i => by
          unfold at0
          rcases Nat.lt_or_ge i.toNat xs.length with hk | hk
          · have : xs.getD i.toNat 0 = xs[i.toNat] := by simp [hk]
            rw [this]; exact hxn _ (List.getElem_mem hk)
          · have : xs.getD i.toNat 0 = 0 := by simp [hk]
            rw [this]; omega
        simp only [walkS, wl, rgets, retv, argsEnv, ev, cst, cst1, cstL, AEnv.get, AEnv.trim, envput, qstep, abin, aun, evs, evo, deref, qload, target, if_true, if_false, Nat.reduceEqDiff, reduceIte, Nat.reduceAdd, AV.cells, AV.isTuple, setMany, alen, aiaddr, afill, Nat.reduceLeDiff, Nat.reduceMul, Nat.reduceLT, afillE, List.replicate, happ, ic_length, hxl]
        refine storeR rfl rfl rfl rfl ⟨rfl, rfl, rfl, by simp⟩ fun H0 y1 y2 y3 => ?_
        have a0 : AHeap.obj H0 0 = some ⟨3, 1, ic xs⟩ := by rw [y3 _ (by simp)]; rfl
        have hl0 : H0.length = 2 := by rw [y1]; rfl
        simp only [AV.cells, setMany, List.set_cons_zero, List.set_cons_succ, Nat.zero_add, Nat.reduceAdd] at y2
        simp only [walkS, wl, rgets, retv, argsEnv, ev, cst, cst1, cstL, AEnv.get, AEnv.trim, envput, qstep, abin, aun, evs, evo, deref, qload, target, if_true, if_false, Nat.reduceEqDiff, reduceIte, Nat.reduceAdd, AV.cells, AV.isTuple, setMany, alen, aiaddr, afill, Nat.reduceLeDiff, Nat.reduceMul, Nat.reduceLT, afillE, List.replicate, rows_length]
        refine awp_loop (σ := Nat × AV) (fun s => [(2, .ro false (ic ws)), (7, .own 0 L 0 L), (8, .ptr 1 1 0 0), (47, .ro false (rows ps)), (48, I ps.length), (49, I s.1)])
          (fun s H => H15 L xs (hids xs (ps.take s.1)) s.2 H ∧ 2 ≤ H.length)
          (fun s => s.1 ≤ ps.length ∧ ∀ p, p ∈ ps.take s.1 → okp L p) (fun s => ps.length - s.1) (0, .nilSlice) ⟨Nat.zero_le _, by simp⟩ rfl ⟨⟨a0, y2, .inl ⟨rfl, rfl⟩⟩, by omega⟩ ?_
        clear a0 y1 y2 y3 hl0 H0
        rintro ⟨k, a⟩ H ⟨hk, hall⟩ ⟨⟨o0, o1, hacc⟩, hlen⟩
        simp only at hk hall o1 hacc
        simp only [walkS, wl, rgets, retv, argsEnv, ev, cst, cst1, cstL, AEnv.get, AEnv.trim, envput, qstep, abin, aun, evs, evo, deref, qload, target, if_true, if_false, Nat.reduceEqDiff, reduceIte, Nat.reduceAdd, AV.cells, AV.isTuple, setMany, alen, aiaddr, afill, Nat.reduceLeDiff, Nat.reduceMul, Nat.reduceLT, afillE, List.replicate]
        refine withBool_intro ?_ ?_ <;> intro hb <;> simp only [walkS, wl, rgets, retv, argsEnv, ev, cst, cst1, cstL, AEnv.get, AEnv.trim, envput, qstep, abin, aun, evs, evo, deref, qload, target, if_true, if_false, Nat.reduceEqDiff, reduceIte, Nat.reduceAdd, AV.cells, AV.isTuple, setMany, alen, aiaddr, afill, Nat.reduceLeDiff, Nat.reduceMul, Nat.reduceLT, afillE, List.replicate]
        · have hlt : k < ps.length := by simpa using hb
          simp only [walkS, wl, rgets, retv, argsEnv, ev, cst, cst1, cstL, AEnv.get, AEnv.trim, envput, qstep, abin, aun, evs, evo, deref, qload, target, if_true, if_false, Nat.reduceEqDiff, reduceIte, Nat.reduceAdd, AV.cells, AV.isTuple, setMany, alen, aiaddr, afill, Nat.reduceLeDiff, Nat.reduceMul, Nat.reduceLT, afillE, List.replicate, rows_get hlt]
          refine storeR rfl rfl AHeap.obj_push_eq rfl ⟨rfl, rfl, rfl, by simp⟩ fun H1 q1 q2 q3 => ?_
          have hL1 : H1.length = H.length + 1 := by rw [q1]; simp
          have back : ∀ q, q < H.length → AHeap.obj H1 q = AHeap.obj H q := fun q hq => by rw [q3 q (by omega), AHeap.obj_push_lt hq]
          simp only [List.set_cons_zero, List.set_cons_succ, setMany, AV.cells, Nat.zero_add, Nat.reduceAdd] at q2
          have o0' := (back 0 (by omega)).trans o0
          have o1' := (back 1 (by omega)).trans o1
          have hacc1 : Acc 2 H1 a 39 3 (rows (hids xs (ps.take k))) := by
            rcases hacc with h | ⟨q, h1, h2, h3⟩
            · exact .inl h
            · exact .inr ⟨q, h1, h2, by rw [back q (AHeap.obj_lt h3)]; exact h3⟩
          obtain ⟨p, hp⟩ : ∃ p, p = ps[k] := ⟨_, rfl⟩
          rw [← hp] at q2
          have i0 : (0 : Int) ≤ 0 ∧ (0 : Int) < ((3 : Nat) : Int) := by decide
          have i1 : (0 : Int) ≤ 1 ∧ (1 : Int) < ((3 : Nat) : Int) := by decide
          have i2 : (0 : Int) ≤ 2 ∧ (2 : Int) < ((3 : Nat) : Int) := by decide
          by_cases c1 : p.1 < 0
          · simp only [walkS, wl, rgets, retv, argsEnv, ev, cst, cst1, cstL, AEnv.get, AEnv.trim, envput, qstep, abin, aun, evs, evo, deref, qload, target, if_true, if_false, Nat.reduceEqDiff, reduceIte, Nat.reduceAdd, AV.cells, AV.isTuple, setMany, alen, aiaddr, afill, Nat.reduceLeDiff, Nat.reduceMul, Nat.reduceLT, afillE, List.replicate, q2, if_pos i0, if_pos i1, if_pos i2, Int.reduceToNat, decide_eq_true c1]; exact out_bool
          · by_cases c2 : p.1 ≥ (L : Int)
            · simp only [walkS, wl, rgets, retv, argsEnv, ev, cst, cst1, cstL, AEnv.get, AEnv.trim, envput, qstep, abin, aun, evs, evo, deref, qload, target, if_true, if_false, Nat.reduceEqDiff, reduceIte, Nat.reduceAdd, AV.cells, AV.isTuple, setMany, alen, aiaddr, afill, Nat.reduceLeDiff, Nat.reduceMul, Nat.reduceLT, afillE, List.replicate, q2, o0', ic_length, hxl, if_pos i0, if_pos i1, if_pos i2, Int.reduceToNat, decide_eq_false c1, decide_eq_true c2]; exact out_bool
            · by_cases c3 : p.2.1 < 0
              · simp only [walkS, wl, rgets, retv, argsEnv, ev, cst, cst1, cstL, AEnv.get, AEnv.trim, envput, qstep, abin, aun, evs, evo, deref, qload, target, if_true, if_false, Nat.reduceEqDiff, reduceIte, Nat.reduceAdd, AV.cells, AV.isTuple, setMany, alen, aiaddr, afill, Nat.reduceLeDiff, Nat.reduceMul, Nat.reduceLT, afillE, List.replicate, q2, o0', ic_length, hxl, if_pos i0, if_pos i1, if_pos i2, Int.reduceToNat, decide_eq_false c1, decide_eq_false c2, decide_eq_true c3]; exact out_bool
              · by_cases c4 : p.2.1 ≥ (L : Int)
                · simp only [walkS, wl, rgets, retv, argsEnv, ev, cst, cst1, cstL, AEnv.get, AEnv.trim, envput, qstep, abin, aun, evs, evo, deref, qload, target, if_true, if_false, Nat.reduceEqDiff, reduceIte, Nat.reduceAdd, AV.cells, AV.isTuple, setMany, alen, aiaddr, afill, Nat.reduceLeDiff, Nat.reduceMul, Nat.reduceLT, afillE, List.replicate, q2, o0', ic_length, hxl, if_pos i0, if_pos i1, if_pos i2, Int.reduceToNat, decide_eq_false c1, decide_eq_false c2, decide_eq_false c3, decide_eq_true c4]; exact out_bool
                · by_cases c5 : p.2.2 < 0
                  · simp only [walkS, wl, rgets, retv, argsEnv, ev, cst, cst1, cstL, AEnv.get, AEnv.trim, envput, qstep, abin, aun, evs, evo, deref, qload, target, if_true, if_false, Nat.reduceEqDiff, reduceIte, Nat.reduceAdd, AV.cells, AV.isTuple, setMany, alen, aiaddr, afill, Nat.reduceLeDiff, Nat.reduceMul, Nat.reduceLT, afillE, List.replicate, q2, o0', ic_length, hxl, if_pos i0, if_pos i1, if_pos i2, Int.reduceToNat, decide_eq_false c1, decide_eq_false c2, decide_eq_false c3, decide_eq_false c4, decide_eq_true c5]; exact out_bool
                  · by_cases c6 : p.2.2 > 1048576
                    · simp only [walkS, wl, rgets, retv, argsEnv, ev, cst, cst1, cstL, AEnv.get, AEnv.trim, envput, qstep, abin, aun, evs, evo, deref, qload, target, if_true, if_false, Nat.reduceEqDiff, reduceIte, Nat.reduceAdd, AV.cells, AV.isTuple, setMany, alen, aiaddr, afill, Nat.reduceLeDiff, Nat.reduceMul, Nat.reduceLT, afillE, List.replicate, q2, o0', ic_length, hxl, if_pos i0, if_pos i1, if_pos i2, Int.reduceToNat, decide_eq_false c1, decide_eq_false c2, decide_eq_false c3, decide_eq_false c4, decide_eq_false c5, decide_eq_true c6]; exact out_bool
                    · have hok : okp L p := ⟨by omega, by omega, by omega⟩
                      have g1 := at_get (xs := xs) (i := p.1) (by omega) (by omega)
                      have g2 := at_get (xs := xs) (i := p.2.1) (by omega) (by omega)
                      have b1 := hxat p.1
                      have b2 := hxat p.2.1
                      have w1 : IntKind.i64.wrap (at0 xs p.2.1 - at0 xs p.1) = at0 xs p.2.1 - at0 xs p.1 := wrap_id (by omega) (by omega)
                      have w2 : IntKind.i64.wrap (at0 xs p.2.1 - at0 xs p.1 + p.2.2) = at0 xs p.2.1 - at0 xs p.1 + p.2.2 := wrap_id (by omega) (by omega)
                      simp only [walkS, wl, rgets, retv, argsEnv, ev, cst, cst1, cstL, AEnv.get, AEnv.trim, envput, qstep, abin, aun, evs, evo, deref, qload, target, if_true, if_false, Nat.reduceEqDiff, reduceIte, Nat.reduceAdd, AV.cells, AV.isTuple, setMany, alen, aiaddr, afill, Nat.reduceLeDiff, Nat.reduceMul, Nat.reduceLT, afillE, List.replicate, q2, o0', o1', ic_length, hxl, if_pos i0, if_pos i1, if_pos i2, Int.reduceToNat, decide_eq_false c1, decide_eq_false c2, decide_eq_false c3, decide_eq_false c4, decide_eq_false c5, decide_eq_false c6, if_pos (show 0 ≤ p.1 by omega), if_pos (show 0 ≤ p.2.1 by omega), if_pos (show 0 ≤ p.1 ∧ p.1 < (L : Int) by omega), if_pos (show 0 ≤ p.2.1 ∧ p.2.1 < (L : Int) by omega), g1, g2, w1, w2]
                      refine acc_append (lo := 2) (by simp; omega) (hacc1.push _) rfl rfl AHeap.obj_push_eq (by simp only [rows_length, hids_length, List.length_take]; omega) fun a' H2 hl' hacc' hkeep => ?_
                      simp only [List.length_append, List.length_cons, List.length_nil] at hl'
                      have e : ∀ i, i < 2 → AHeap.obj H2 i = AHeap.obj H1 i := fun i hi => by rw [hkeep i hi, AHeap.obj_push_lt (by omega)]
                      simp only [walkS, wl, rgets, retv, argsEnv, ev, cst, cst1, cstL, AEnv.get, AEnv.trim, envput, qstep, abin, aun, evs, evo, deref, qload, target, if_true, if_false, Nat.reduceEqDiff, reduceIte, Nat.reduceAdd, AV.cells, AV.isTuple, setMany, alen, aiaddr, afill, Nat.reduceLeDiff, Nat.reduceMul, Nat.reduceLT, afillE, List.replicate]
                      have hone : a'.cells.length = 1 ∧ a'.isTuple = false ∧ a'.cells = [a'] := by
                        obtain ⟨q, q1, rfl, q3⟩ := hacc'.resolve_left (by simp)
                        exact ⟨rfl, rfl, rfl⟩
                      refine storeR rfl rfl ((e 1 (by omega)).trans o1') rfl ⟨rfl, hone.1, hone.2.1, by simp⟩ fun H3 z1 z2 z3 => ?_
                      simp only [hone.2.2, List.set_cons_zero, List.set_cons_succ, setMany, Nat.zero_add, Nat.reduceAdd] at z2
                      simp only [walkS, wl, rgets, retv, argsEnv, ev, cst, cst1, cstL, AEnv.get, AEnv.trim, envput, qstep, abin, aun, evs, evo, deref, qload, target, if_true, if_false, Nat.reduceEqDiff, reduceIte, Nat.reduceAdd, AV.cells, AV.isTuple, setMany, alen, aiaddr, afill, Nat.reduceLeDiff, Nat.reduceMul, Nat.reduceLT, afillE, List.replicate]
                      rw [wrap_id (by omega) (by omega)]
                      refine loop_end (k + 1, a') ⟨hlt, fun d hd => ?_⟩ (by simp only; omega) rfl ⟨⟨by rw [z3 0 (by omega), e 0 (by omega)]; exact o0', z2, ?_⟩, by omega⟩
                      · simp only [List.take_succ_eq_append_getElem hlt, List.mem_append, List.mem_singleton] at hd
                        rcases hd with hd | rfl
                        · exact hall d hd
                        · rw [← hp]; exact hok
                      · simp only [hids_take hlt, ← hp]
                        obtain ⟨q, q1, h2, h3⟩ := hacc'.resolve_left (by simp)
                        exact .inr ⟨q, q1, h2, by rw [z3 q (by omega)]; exact h3⟩
        · have hk' : k = ps.length := by simp at hb; omega
          subst hk'
          rw [List.take_length] at hacc hall
          have D : D15 L xs (hids xs ps) ws := ⟨hxl, hL1, hL13, by rw [hids_length]; omega, hx0, hxn, fun d hd => by
            obtain ⟨p, hp, rfl⟩ := List.mem_map.1 hd
            obtain ⟨z1, z2, z3, z4⟩ := hall p hp
            refine ⟨⟨z1, z2⟩, ?_, ?_⟩
            · show at0 xs p.2.1 - at0 xs p.1 ≤ at0 xs p.2.1 - at0 xs p.1 + p.2.2
              omega
            · show at0 xs p.2.1 - at0 xs p.1 + p.2.2 ≤ at0 xs p.2.1 - at0 xs p.1 + 1048576
              omega, hlw⟩
          exact law15_b D ⟨o0, o1, hacc⟩
end Go.Proofs.Ytepnijjgdhldeaa
