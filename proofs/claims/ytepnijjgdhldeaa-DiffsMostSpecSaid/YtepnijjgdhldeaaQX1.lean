/- CheckFlow and Sum: what they hand back. -/
import Derived.Test.YtepnijjgdhldeaaQV5
import Derived.Test.YtepnijjgdhldeaaQT71
namespace Go.Proofs.Ytepnijjgdhldeaa
open Go.Awp
set_option linter.unusedSimpArgs false
set_option linter.unusedVariables false
set_option maxRecDepth 10000
set_option maxHeartbeats 4000000
def ffar (x : Int) : Bool := !(decide (0 ≤ x) && decide (x ≤ 1048576))
def flowOk (ds : List Df) (fl : List Int) : Bool := decide (fl.length = ds.length) && !fl.any ffar
theorem ffar_ok (x : Int) : PCall Try.prog 89 [I x] (.bool (ffar x)) := by
  refine PCall.intro text89 (by simp) ?_
  unfold ir89
  simp only [walkS, wl, rgets, retv, argsEnv, ev, cst, cst1, cstL, AEnv.get, AEnv.trim, envput, qstep, abin, aun, evs, evo, deref, qload, target, if_true, if_false, Nat.reduceEqDiff, reduceIte, Nat.reduceAdd, AV.cells, AV.isTuple, setMany, alen, aiaddr, afill, Nat.reduceLeDiff, Nat.reduceMul, Nat.reduceLT, afillE, List.replicate]
  refine call_pure (in_ok _ _ _) (frzL_of' (d := 1) rfl) ?_
  simp only [walkS, wl, rgets, retv, argsEnv, ev, cst, cst1, cstL, AEnv.get, AEnv.trim, envput, qstep, abin, aun, evs, evo, deref, qload, target, if_true, if_false, Nat.reduceEqDiff, reduceIte, Nat.reduceAdd, AV.cells, AV.isTuple, setMany, alen, aiaddr, afill, Nat.reduceLeDiff, Nat.reduceMul, Nat.reduceLT, afillE, List.replicate]
  exact out_bool
def nz (x : Int) : Bool := x != 0
theorem nz_ok (x : Int) : PCall Try.prog 92 [I x] (.bool (nz x)) := by
  refine PCall.intro text92 (by simp) ?_
  unfold ir92
  simp only [walkS, wl, rgets, retv, argsEnv, ev, cst, cst1, cstL, AEnv.get, AEnv.trim, envput, qstep, abin, aun, evs, evo, deref, qload, target, if_true, if_false, Nat.reduceEqDiff, reduceIte, Nat.reduceAdd, AV.cells, AV.isTuple, setMany, alen, aiaddr, afill, Nat.reduceLeDiff, Nat.reduceMul, Nat.reduceLT, afillE, List.replicate]
  exact out_bool
theorem flowOk_get {ds : List Df} {fl : List Int} (h : flowOk ds fl = true) : fl.length = ds.length ∧ ∀ k, k < ds.length → 0 ≤ wg fl k ∧ wg fl k ≤ 1048576 := by
  simp only [flowOk, Bool.and_eq_true, decide_eq_true_eq, Bool.not_eq_true'] at h
  refine ⟨h.1, fun k hk => ?_⟩
  have : ffar (fl[k]'(by omega)) = false := by
    have := List.any_eq_false.1 h.2 _ (List.getElem_mem (show k < fl.length by omega))
    simpa using this
  rw [wg_eq (by omega)] at this
  simp [ffar] at this; omega
/-- That a use proves a sum. -/
def Proves (m : Nat) (ds : List Df) (ws : List Int) (most : Int) (fl : List Int) : Prop := (∀ v, 0 < v → v < m → inn ds (wg fl) v = wg ws v) ∧ costN ds (wg fl) ≤ most
open Classical in
noncomputable def ckFlow (n : Int) (ds : List Df) (ws : List Int) (most : Int) (fl : List Int) : Int := if valid n ds then (if weightyB n ws && flowOk ds fl then (if Proves n.toNat ds ws most fl then 0 else 43) else 1) else 40
theorem prod_bound {a b : Int} (h1 : -4096 ≤ a) (h2 : a ≤ 4096) (h3 : -1099511627776 ≤ b) (h4 : b ≤ 1099511627776) : -4503599627370496 ≤ a * b ∧ a * b ≤ 4503599627370496 := by
  rcases Int.le_total 0 a with h | h
  · have := mul_bound (a := a) (b := b) (A := 4096) (B := 1099511627776) h h2 h3 h4
    omega
  · have := mul_bound (a := -a) (b := b) (A := 4096) (B := 1099511627776) (by omega) (by omega) h3 h4
    rw [Int.neg_mul] at this
    omega
theorem inn_bound {ds : List Df} {F : Nat → Int} (hF : ∀ k, k < ds.length → 0 ≤ F k ∧ F k ≤ 1048576) (v : Nat) : ∀ c, c ≤ ds.length → -(1048576 * (c : Int)) ≤ innc ds F c v ∧ innc ds F c v ≤ 1048576 * (c : Int)
  | 0, _ => by simp [innc, sumN]
  | c + 1, h => by
    have ih := inn_bound hF v c (by omega)
    have h1 := hF c (by omega)
    have e : innc ds F (c + 1) v = innc ds F c v + F c * (dl (to (ed ds c)) v - dl (fr (ed ds c)) v) := rfl
    rw [e]
    have : ((c + 1 : Nat) : Int) = c + 1 := by omega
    have h2 : -1048576 ≤ F c * (dl (to (ed ds c)) v - dl (fr (ed ds c)) v) ∧ F c * (dl (to (ed ds c)) v - dl (fr (ed ds c)) v) ≤ 1048576 := by
      simp only [dl]
      split <;> split <;> simp <;> omega
    omega
theorem upd_upd {f : Nat → Int} {a b v : Nat} {F : Int} (e : Bool) : upd (upd f a (f a - F)) b ((upd f a (f a - F)) b + F) v = f v - F * (dl a v - dl b v) := by
  simp only [dl]
  by_cases h1 : v = b
  · subst h1
    rw [upd_eq]
    by_cases h2 : v = a
    · subst h2; rw [upd_eq, if_pos rfl]; simp
    · rw [upd_ne h2, if_neg (Ne.symm h2), if_pos rfl]; simp <;> omega
  · rw [upd_ne h1, if_neg (Ne.symm h1)]
    by_cases h2 : v = a
    · subst h2; rw [upd_eq, if_pos rfl]; simp
    · rw [upd_ne h2, if_neg (Ne.symm h2)]; simp
theorem asked_two {n : Int} {ds : List Df} {a b : Bool} : asked n ds [a, b] = if valid n ds then (if a && b then 0 else 1) else 40 := by
  simp only [asked, List.all_cons, List.all_nil, id, Bool.and_true]
theorem ckFlow_f {n most : Int} {ds : List Df} {ws fl : List Int} (h : flowOk ds fl = false) : ckFlow n ds ws most fl = asked n ds [weightyB n ws, false] := by
  unfold ckFlow
  rw [asked_two, h]
  simp
open Classical in
theorem CheckFlow_ok {n most : Int} {ds : List Df} {ws fl : List Int} (hlw : ws.length ≤ big) (hlf : fl.length ≤ big) : PCall Try.prog 44 [.agg [I n, .ro false (rows ds)], .ro false (ic ws), I most, .ro false (ic fl)] (I (ckFlow n ds ws most fl)) := by
  refine PCall.intro text44 (by simp) ?_
  unfold ir44
  simp only [walkS, wl, rgets, retv, argsEnv, ev, cst, cst1, cstL, AEnv.get, AEnv.trim, envput, qstep, abin, aun, evs, evo, deref, qload, target, if_true, if_false, Nat.reduceEqDiff, reduceIte, Nat.reduceAdd, AV.cells, AV.isTuple, setMany, alen, aiaddr, afill, Nat.reduceLeDiff, Nat.reduceMul, Nat.reduceLT, afillE, List.replicate, ic_length, rows_length]
  by_cases hl : fl.length = ds.length
  · have e : ((fl.length : Int) == (ds.length : Int)) = true := by simp [hl]
    simp only [walkS, wl, rgets, retv, argsEnv, ev, cst, cst1, cstL, AEnv.get, AEnv.trim, envput, qstep, abin, aun, evs, evo, deref, qload, target, if_true, if_false, Nat.reduceEqDiff, reduceIte, Nat.reduceAdd, AV.cells, AV.isTuple, setMany, alen, aiaddr, afill, Nat.reduceLeDiff, Nat.reduceMul, Nat.reduceLT, afillE, List.replicate, e]
    refine call_pure (contains52 (c := .func (.func 89) [] []) (fn := 89) (caps := []) (p := ffar) rfl (fun _ => rfl) ffar_ok hlf) (frzL_of' (d := 5) (carL_cons (car_ro_false (ic_simple fl)) rfl)) ?_
    cases hany : fl.any ffar with
    | true =>
      have hok : flowOk ds fl = false := by simp [flowOk, hany]
      simp only [walkS, wl, rgets, retv, argsEnv, ev, cst, cst1, cstL, AEnv.get, AEnv.trim, envput, qstep, abin, aun, evs, evo, deref, qload, target, if_true, if_false, Nat.reduceEqDiff, reduceIte, Nat.reduceAdd, AV.cells, AV.isTuple, setMany, alen, aiaddr, afill, Nat.reduceLeDiff, Nat.reduceMul, Nat.reduceLT, afillE, List.replicate, Bool.not_true]
      refine dcall_pure (weighty_ok (n := n) (ds := ds) hlw) (frzL_of (d := 4) (carL_cons car_netF (carL_cons car_icF rfl))) ?_
      simp only [walkS, wl, rgets, retv, argsEnv, ev, cst, cst1, cstL, AEnv.get, AEnv.trim, envput, qstep, abin, aun, evs, evo, deref, qload, target, if_true, if_false, Nat.reduceEqDiff, reduceIte, Nat.reduceAdd, AV.cells, AV.isTuple, setMany, alen, aiaddr, afill, Nat.reduceLeDiff, Nat.reduceMul, Nat.reduceLT, afillE, List.replicate]
      refine call_pure (asked_ok n ds [weightyB n ws, false] (by simp [big])) (frzL_of' (d := 4) (carL_cons car_netF (carL_cons (car_ownN (d := 2) (e := 4) (s := 1) (els := bc [weightyB n ws, false]) rfl rfl (bc_simple _)) rfl))) ?_
      rw [← ckFlow_f (most := most) hok]
      have hne : (ckFlow n ds ws most fl != 0) = true := by
        rw [ckFlow_f hok, asked_two]; simp; split <;> simp
      simp only [walkS, wl, rgets, retv, argsEnv, ev, cst, cst1, cstL, AEnv.get, AEnv.trim, envput, qstep, abin, aun, evs, evo, deref, qload, target, if_true, if_false, Nat.reduceEqDiff, reduceIte, Nat.reduceAdd, AV.cells, AV.isTuple, setMany, alen, aiaddr, afill, Nat.reduceLeDiff, Nat.reduceMul, Nat.reduceLT, afillE, List.replicate, hne]
      exact out_int
    | false =>
      have hok : flowOk ds fl = true := by simp [flowOk, hany, hl]
      simp only [walkS, wl, rgets, retv, argsEnv, ev, cst, cst1, cstL, AEnv.get, AEnv.trim, envput, qstep, abin, aun, evs, evo, deref, qload, target, if_true, if_false, Nat.reduceEqDiff, reduceIte, Nat.reduceAdd, AV.cells, AV.isTuple, setMany, alen, aiaddr, afill, Nat.reduceLeDiff, Nat.reduceMul, Nat.reduceLT, afillE, List.replicate, Bool.not_false]
      refine dcall_pure (weighty_ok (n := n) (ds := ds) hlw) (frzL_of (d := 4) (carL_cons car_netF (carL_cons car_icF rfl))) ?_
      simp only [walkS, wl, rgets, retv, argsEnv, ev, cst, cst1, cstL, AEnv.get, AEnv.trim, envput, qstep, abin, aun, evs, evo, deref, qload, target, if_true, if_false, Nat.reduceEqDiff, reduceIte, Nat.reduceAdd, AV.cells, AV.isTuple, setMany, alen, aiaddr, afill, Nat.reduceLeDiff, Nat.reduceMul, Nat.reduceLT, afillE, List.replicate]
      refine call_pure (asked_ok n ds [weightyB n ws, true] (by simp [big])) (frzL_of' (d := 4) (carL_cons car_netF (carL_cons (car_ownN (d := 2) (e := 4) (s := 1) (els := bc [weightyB n ws, true]) rfl rfl (bc_simple _)) rfl))) ?_
      rw [asked_two]
      cases hv : valid n ds with
      | false =>
        have hc : ckFlow n ds ws most fl = 40 := by simp [ckFlow, hv]
        simp only [walkS, wl, rgets, retv, argsEnv, ev, cst, cst1, cstL, AEnv.get, AEnv.trim, envput, qstep, abin, aun, evs, evo, deref, qload, target, if_true, if_false, Nat.reduceEqDiff, reduceIte, Nat.reduceAdd, AV.cells, AV.isTuple, setMany, alen, aiaddr, afill, Nat.reduceLeDiff, Nat.reduceMul, Nat.reduceLT, afillE, List.replicate, Bool.false_eq_true, if_false, Int.reduceBNe]
        rw [hc]; exact out_int
      | true =>
        cases hw : weightyB n ws with
        | false =>
          have hc : ckFlow n ds ws most fl = 1 := by simp [ckFlow, hv, hw]
          simp only [walkS, wl, rgets, retv, argsEnv, ev, cst, cst1, cstL, AEnv.get, AEnv.trim, envput, qstep, abin, aun, evs, evo, deref, qload, target, if_true, if_false, Nat.reduceEqDiff, reduceIte, Nat.reduceAdd, AV.cells, AV.isTuple, setMany, alen, aiaddr, afill, Nat.reduceLeDiff, Nat.reduceMul, Nat.reduceLT, afillE, List.replicate, Bool.false_and, Bool.false_eq_true, if_false, if_true, Int.reduceBNe]
          rw [hc]; exact out_int
        | true =>
          obtain ⟨hn, hd, hr⟩ := valid_iff.1 hv
          obtain ⟨m, rfl⟩ : ∃ m : Nat, n = m := ⟨n.toNat, by omega⟩
          obtain ⟨hwl, hwb⟩ := weighty_get hw
          obtain ⟨_, hF⟩ := flowOk_get hok
          have hne : ws ≠ [] := by intro h; rw [h] at hwl; simp at hwl; omega
          have hfl : fl = li ds.length (wg fl) := (li_wg hl).symm
          simp only [walkS, wl, rgets, retv, argsEnv, ev, cst, cst1, cstL, AEnv.get, AEnv.trim, envput, qstep, abin, aun, evs, evo, deref, qload, target, if_true, if_false, Nat.reduceEqDiff, reduceIte, Nat.reduceAdd, AV.cells, AV.isTuple, setMany, alen, aiaddr, afill, Nat.reduceLeDiff, Nat.reduceMul, Nat.reduceLT, afillE, List.replicate, Bool.and_self, if_true, Int.reduceBNe]
          refine call_new (clone91_new (b := false) hne (by omega)) (frzL_of' (d := 4) (carL_cons car_icF rfl)) ?_
          simp only [walkS, wl, rgets, retv, argsEnv, ev, cst, cst1, cstL, AEnv.get, AEnv.trim, envput, qstep, abin, aun, evs, evo, deref, qload, target, if_true, if_false, Nat.reduceEqDiff, reduceIte, Nat.reduceAdd, AV.cells, AV.isTuple, setMany, alen, aiaddr, afill, Nat.reduceLeDiff, Nat.reduceMul, Nat.reduceLT, afillE, List.replicate, rows_length]
          refine awp_loop (σ := Nat) (fun k => [(2, I most), (3, .ro false (ic fl)), (4, .ptr 0 1 0 0), (11, .own 2 ws.length 0 ws.length), (38, .ro false (rows ds)), (39, I ds.length), (40, I k)])
            (fun k H => AHeap.obj H 0 = some ⟨24, 2, [[I m, .ro false (rows ds)]]⟩ ∧ AHeap.obj H 2 = some ⟨3, 1, ic (li m fun v => wg ws v - innc ds (wg fl) k v)⟩ ∧ 3 ≤ H.length) (fun k => k ≤ ds.length) (fun k => ds.length - k) 0 (Nat.zero_le _) (by simp only [ic_length]; rfl) ⟨rfl, by
              have : (li m fun v => wg ws v - innc ds (wg fl) 0 v) = ws := by
                rw [show (fun v => wg ws v - innc ds (wg fl) 0 v) = wg ws from by funext v; simp [innc, sumN]]
                exact li_wg hwl
              rw [this]; rfl, by simp⟩ ?_
          rintro k H hk ⟨o0, o2, hlen⟩
          simp only [walkS, wl, rgets, retv, argsEnv, ev, cst, cst1, cstL, AEnv.get, AEnv.trim, envput, qstep, abin, aun, evs, evo, deref, qload, target, if_true, if_false, Nat.reduceEqDiff, reduceIte, Nat.reduceAdd, AV.cells, AV.isTuple, setMany, alen, aiaddr, afill, Nat.reduceLeDiff, Nat.reduceMul, Nat.reduceLT, afillE, List.replicate]
          refine withBool_intro ?_ ?_ <;> intro hb <;> simp only [walkS, wl, rgets, retv, argsEnv, ev, cst, cst1, cstL, AEnv.get, AEnv.trim, envput, qstep, abin, aun, evs, evo, deref, qload, target, if_true, if_false, Nat.reduceEqDiff, reduceIte, Nat.reduceAdd, AV.cells, AV.isTuple, setMany, alen, aiaddr, afill, Nat.reduceLeDiff, Nat.reduceMul, Nat.reduceLT, afillE, List.replicate]
          · have hlt : k < ds.length := by simpa using hb
            have hrt := right_lt (hr _ (List.getElem_mem hlt))
            have hFk := hF k hlt
            have i1 := inn_bound hF (to (ed ds k)) k hk
            have i2 := inn_bound hF (fr (ed ds k)) k hk
            have w1 := hwb (to (ed ds k))
            have w2 := hwb (fr (ed ds k))
            rw [ed_get hlt] at hrt
            have ht : (ed ds k).2.1 = (to (ed ds k) : Int) := by unfold to; omega
            have hf : (ed ds k).1 = (fr (ed ds k) : Int) := by unfold fr; omega
            have htm : to (ed ds k) < m := by omega
            have hfm : fr (ed ds k) < m := by omega
            simp only [walkS, wl, rgets, retv, argsEnv, ev, cst, cst1, cstL, AEnv.get, AEnv.trim, envput, qstep, abin, aun, evs, evo, deref, qload, target, if_true, if_false, Nat.reduceEqDiff, reduceIte, Nat.reduceAdd, AV.cells, AV.isTuple, setMany, alen, aiaddr, afill, Nat.reduceLeDiff, Nat.reduceMul, Nat.reduceLT, afillE, List.replicate, rows_get hlt, ed_get hlt]
            refine storeR rfl rfl AHeap.obj_push_eq rfl ⟨rfl, rfl, rfl, by simp⟩ fun H1 q1 q2 q3 => ?_
            have hL1 : H1.length = H.length + 1 := by rw [q1]; simp
            simp only [List.set_cons_zero, List.set_cons_succ, setMany, AV.cells, Nat.zero_add, Nat.reduceAdd] at q2
            have o0' : AHeap.obj H1 0 = _ := (q3 0 (by omega)).trans ((AHeap.obj_push_lt (by omega)).trans o0)
            have o2' : AHeap.obj H1 2 = _ := (q3 2 (by omega)).trans ((AHeap.obj_push_lt (by omega)).trans o2)
            have gk : (ic fl)[k]? = some [I (wg fl k)] := by rw [ic_get (by omega), wg_eq]
            simp only [walkS, wl, rgets, retv, argsEnv, ev, cst, cst1, cstL, AEnv.get, AEnv.trim, envput, qstep, abin, aun, evs, evo, deref, qload, target, if_true, if_false, Nat.reduceEqDiff, reduceIte, Nat.reduceAdd, AV.cells, AV.isTuple, setMany, alen, aiaddr, afill, Nat.reduceLeDiff, Nat.reduceMul, Nat.reduceLT, afillE, List.replicate, q2, o2', ic_length, li_length, hwl, ht, hf, gk, hl, if_pos (show (to (ed ds k) : Int) < m by omega), li_get htm]
            refine storeR rfl rfl o2' (li_get htm) ⟨by simp [ic_length, li_length], rfl, rfl, by simp⟩ fun H2 y1 y2 y3 => ?_
            simp only [AV.cells, setMany, List.set_cons_zero, li_set] at y2
            have q2' := (y3 H.length (by omega)).trans q2
            rw [wrap_id (by omega) (by omega)] at y2
            have hv2 : upd (fun v => wg ws v - innc ds (wg fl) k v) (to (ed ds k)) (wg ws (to (ed ds k)) - innc ds (wg fl) k (to (ed ds k)) - wg fl k) (fr (ed ds k)) = wg ws (fr (ed ds k)) - innc ds (wg fl) k (fr (ed ds k)) - wg fl k * dl (to (ed ds k)) (fr (ed ds k)) := by
              unfold upd dl
              split
              · rename_i h; rw [if_pos h.symm, h]; omega
              · rename_i h; rw [if_neg (Ne.symm h)]; simp
            have hv3 : -1048576 ≤ wg fl k * dl (to (ed ds k)) (fr (ed ds k)) ∧ wg fl k * dl (to (ed ds k)) (fr (ed ds k)) ≤ 1048576 := by unfold dl; split <;> omega
            simp only [walkS, wl, rgets, retv, argsEnv, ev, cst, cst1, cstL, AEnv.get, AEnv.trim, envput, qstep, abin, aun, evs, evo, deref, qload, target, if_true, if_false, Nat.reduceEqDiff, reduceIte, Nat.reduceAdd, AV.cells, AV.isTuple, setMany, alen, aiaddr, afill, Nat.reduceLeDiff, Nat.reduceMul, Nat.reduceLT, afillE, List.replicate, q2', y2, ic_length, li_length, hwl, ht, hf, gk, hl, if_pos (show (fr (ed ds k) : Int) < m by omega), li_get hfm]
            refine storeR rfl rfl y2 (li_get hfm) ⟨by simp [ic_length, li_length], rfl, rfl, by simp⟩ fun H3 z1 z2 z3 => ?_
            simp only [AV.cells, setMany, List.set_cons_zero, li_set] at z2
            rw [hv2, wrap_id (by omega) (by omega)] at z2
            simp only [walkS, wl, rgets, retv, argsEnv, ev, cst, cst1, cstL, AEnv.get, AEnv.trim, envput, qstep, abin, aun, evs, evo, deref, qload, target, if_true, if_false, Nat.reduceEqDiff, reduceIte, Nat.reduceAdd, AV.cells, AV.isTuple, setMany, alen, aiaddr, afill, Nat.reduceLeDiff, Nat.reduceMul, Nat.reduceLT, afillE, List.replicate]
            rw [wrap_id (by omega) (by omega)]
            refine loop_end (k + 1) hlt (by omega) rfl ⟨(z3 0 (by omega)).trans ((y3 0 (by omega)).trans o0'), ?_, by omega⟩
            rw [z2]
            congr 3
            refine List.map_congr_left (l := List.range m) fun v _ => ?_
            rw [← hv2, upd_upd true]
            show _ = wg ws v - (innc ds (wg fl) k v + wg fl k * (dl (to (ed ds k)) v - dl (fr (ed ds k)) v))
            omega
          · have hk' : k = ds.length := by simp at hb; omega
            subst hk'
            simp only [walkS, wl, rgets, retv, argsEnv, ev, cst, cst1, cstL, AEnv.get, AEnv.trim, envput, qstep, abin, aun, evs, evo, deref, qload, target, if_true, if_false, Nat.reduceEqDiff, reduceIte, Nat.reduceAdd, AV.cells, AV.isTuple, setMany, alen, aiaddr, afill, Nat.reduceLeDiff, Nat.reduceMul, Nat.reduceLT, afillE, List.replicate, o2, ic_length, li_length, hwl, if_pos (show (0 : Int) < m by omega), Int.toNat_zero, Int.le_refl]
            refine storeR rfl rfl o2 (li_get (show 0 < m by omega)) ⟨by simp [ic_length, li_length], rfl, rfl, by simp⟩ fun H1 y1 y2 y3 => ?_
            simp only [AV.cells, setMany, List.set_cons_zero, li_set] at y2
            have o0' := (y3 0 (by omega)).trans o0
            simp only [walkS, wl, rgets, retv, argsEnv, ev, cst, cst1, cstL, AEnv.get, AEnv.trim, envput, qstep, abin, aun, evs, evo, deref, qload, target, if_true, if_false, Nat.reduceEqDiff, reduceIte, Nat.reduceAdd, AV.cells, AV.isTuple, setMany, alen, aiaddr, afill, Nat.reduceLeDiff, Nat.reduceMul, Nat.reduceLT, afillE, List.replicate]
            refine call_pure (contains52 (c := .func (.func 92) [] []) (fn := 92) (caps := []) (p := nz) (xs := li m (upd (fun v => wg ws v - innc ds (wg fl) ds.length v) 0 0)) rfl (fun _ => rfl) nz_ok (by rw [li_length]; unfold big; omega)) (frzL_of' (d := 5) (carL_cons (car_ownN y2 (by rw [ic_length, li_length]) (ic_simple _)) rfl)) ?_
            have hbal : (li m (upd (fun v => wg ws v - innc ds (wg fl) ds.length v) 0 0)).any nz = false ↔ ∀ v, 0 < v → v < m → inn ds (wg fl) v = wg ws v := by
              rw [List.any_eq_false]
              constructor
              · intro h v h0 hv'
                have := h (upd (fun v => wg ws v - innc ds (wg fl) ds.length v) 0 0 v) (List.mem_map.2 ⟨v, List.mem_range.2 hv', rfl⟩)
                rw [upd_ne (by omega)] at this
                simp [nz] at this
                show innc ds (wg fl) ds.length v = _
                omega
              · intro h x hx
                obtain ⟨v, hv', rfl⟩ := List.mem_map.1 hx
                by_cases h0 : v = 0
                · subst h0; rw [upd_eq]; simp [nz]
                · rw [upd_ne h0]
                  have : innc ds (wg fl) ds.length v = _ := h v (by omega) (List.mem_range.1 hv')
                  simp [nz]; omega
            have hck : ckFlow m ds ws most fl = if Proves m ds ws most fl then 0 else 43 := by unfold ckFlow; rw [hv, hw, hok, Int.toNat_natCast]; rfl
            cases hz : (li m (upd (fun v => wg ws v - innc ds (wg fl) ds.length v) 0 0)).any nz with
            | true =>
              simp only [walkS, wl, rgets, retv, argsEnv, ev, cst, cst1, cstL, AEnv.get, AEnv.trim, envput, qstep, abin, aun, evs, evo, deref, qload, target, if_true, if_false, Nat.reduceEqDiff, reduceIte, Nat.reduceAdd, AV.cells, AV.isTuple, setMany, alen, aiaddr, afill, Nat.reduceLeDiff, Nat.reduceMul, Nat.reduceLT, afillE, List.replicate]
              have : ¬ Proves m ds ws most fl := fun h => by rw [hbal.2 h.1] at hz; cases hz
              rw [hck, if_neg this]; exact out_int
            | false =>
              simp only [walkS, wl, rgets, retv, argsEnv, ev, cst, cst1, cstL, AEnv.get, AEnv.trim, envput, qstep, abin, aun, evs, evo, deref, qload, target, if_true, if_false, Nat.reduceEqDiff, reduceIte, Nat.reduceAdd, AV.cells, AV.isTuple, setMany, alen, aiaddr, afill, Nat.reduceLeDiff, Nat.reduceMul, Nat.reduceLT, afillE, List.replicate, o0']
              refine call_pure (cost80 (n := m) (b := false) (F := wg fl) hd hF (fun d hd' => (right_lt (hr d hd')).2.2)) (frzL_of' (d := 4) (carL_cons car_netF (carL_cons (by rw [← hfl]; exact car_icF) rfl))) ?_
              simp only [walkS, wl, rgets, retv, argsEnv, ev, cst, cst1, cstL, AEnv.get, AEnv.trim, envput, qstep, abin, aun, evs, evo, deref, qload, target, if_true, if_false, Nat.reduceEqDiff, reduceIte, Nat.reduceAdd, AV.cells, AV.isTuple, setMany, alen, aiaddr, afill, Nat.reduceLeDiff, Nat.reduceMul, Nat.reduceLT, afillE, List.replicate]
              refine withBool_intro ?_ ?_ <;> intro hc <;> simp only [walkS, wl, rgets, retv, argsEnv, ev, cst, cst1, cstL, AEnv.get, AEnv.trim, envput, qstep, abin, aun, evs, evo, deref, qload, target, if_true, if_false, Nat.reduceEqDiff, reduceIte, Nat.reduceAdd, AV.cells, AV.isTuple, setMany, alen, aiaddr, afill, Nat.reduceLeDiff, Nat.reduceMul, Nat.reduceLT, afillE, List.replicate]
              · have : ¬ Proves m ds ws most fl := fun h => by have := h.2; simp at hc; omega
                rw [hck, if_neg this]; exact out_int
              · have : Proves m ds ws most fl := ⟨hbal.1 hz, by simpa using hc⟩
                rw [hck, if_pos this]; exact out_int
  · have e : ((fl.length : Int) == (ds.length : Int)) = false := by simp; omega
    have hok : flowOk ds fl = false := by simp [flowOk, hl]
    simp only [walkS, wl, rgets, retv, argsEnv, ev, cst, cst1, cstL, AEnv.get, AEnv.trim, envput, qstep, abin, aun, evs, evo, deref, qload, target, if_true, if_false, Nat.reduceEqDiff, reduceIte, Nat.reduceAdd, AV.cells, AV.isTuple, setMany, alen, aiaddr, afill, Nat.reduceLeDiff, Nat.reduceMul, Nat.reduceLT, afillE, List.replicate, e]
    refine dcall_pure (weighty_ok (n := n) (ds := ds) hlw) (frzL_of (d := 4) (carL_cons car_netF (carL_cons car_icF rfl))) ?_
    simp only [walkS, wl, rgets, retv, argsEnv, ev, cst, cst1, cstL, AEnv.get, AEnv.trim, envput, qstep, abin, aun, evs, evo, deref, qload, target, if_true, if_false, Nat.reduceEqDiff, reduceIte, Nat.reduceAdd, AV.cells, AV.isTuple, setMany, alen, aiaddr, afill, Nat.reduceLeDiff, Nat.reduceMul, Nat.reduceLT, afillE, List.replicate]
    refine call_pure (asked_ok n ds [weightyB n ws, false] (by simp [big])) (frzL_of' (d := 4) (carL_cons car_netF (carL_cons (car_ownN (d := 2) (e := 4) (s := 1) (els := bc [weightyB n ws, false]) rfl rfl (bc_simple _)) rfl))) ?_
    rw [← ckFlow_f (most := most) hok]
    have hne : (ckFlow n ds ws most fl != 0) = true := by
      rw [ckFlow_f hok, asked_two]; simp; split <;> simp
    simp only [walkS, wl, rgets, retv, argsEnv, ev, cst, cst1, cstL, AEnv.get, AEnv.trim, envput, qstep, abin, aun, evs, evo, deref, qload, target, if_true, if_false, Nat.reduceEqDiff, reduceIte, Nat.reduceAdd, AV.cells, AV.isTuple, setMany, alen, aiaddr, afill, Nat.reduceLeDiff, Nat.reduceMul, Nat.reduceLT, afillE, List.replicate, hne]
    exact out_int
def dotc (w x : Nat → Int) (c : Nat) : Int := sumN c fun v => if v = 0 then 0 else w v * x v
theorem dotc_dot {n : Nat} {w x : Nat → Int} (h0 : x 0 = 0) : dotc w x n = dot n w x := by
  unfold dotc dot
  refine sumN_congr n fun v _ => ?_
  split
  · rename_i h; subst h; rw [h0]; simp
  · rfl
theorem dotc_bound {w x : Nat → Int} (hw : ∀ v, -4096 ≤ w v ∧ w v ≤ 4096) (hx : ∀ v, -1099511627776 ≤ x v ∧ x v ≤ 1099511627776) : ∀ c : Nat, -(4503599627370496 * (c : Int)) ≤ dotc w x c ∧ dotc w x c ≤ 4503599627370496 * (c : Int)
  | 0 => by simp [dotc, sumN]
  | c + 1 => by
    have ih := dotc_bound hw hx c
    have e : dotc w x (c + 1) = dotc w x c + if c = 0 then 0 else w c * x c := rfl
    rw [e]
    have : ((c + 1 : Nat) : Int) = c + 1 := by omega
    have h := prod_bound (hw c).1 (hw c).2 (hx c).1 (hx c).2
    split <;> omega
theorem Sum_ok {ws xs : List Int} {b c : Bool} (hl : xs.length = ws.length) (hw16 : ws.length ≤ 16) (hw : ∀ v, -4096 ≤ wg ws v ∧ wg ws v ≤ 4096) (hx : ∀ v, -1099511627776 ≤ wg xs v ∧ wg xs v ≤ 1099511627776) : PCall Try.prog 49 [.ro b (ic ws), .ro c (ic xs)] (I (dotc (wg ws) (wg xs) ws.length)) := by
  refine PCall.intro text49 (by simp) ?_
  unfold ir49
  simp only [walkS, wl, rgets, retv, argsEnv, ev, cst, cst1, cstL, AEnv.get, AEnv.trim, envput, qstep, abin, aun, evs, evo, deref, qload, target, if_true, if_false, Nat.reduceEqDiff, reduceIte, Nat.reduceAdd, AV.cells, AV.isTuple, setMany, alen, aiaddr, afill, Nat.reduceLeDiff, Nat.reduceMul, Nat.reduceLT, afillE, List.replicate]
  refine awp_loop (σ := Nat) (fun k => [(0, .ro b (ic ws)), (1, .ro c (ic xs)), (5, I (dotc (wg ws) (wg xs) k)), (6, I k)]) (fun _ _ => True) (fun k => 1 ≤ k ∧ (k ≤ ws.length ∨ k = 1)) (fun k => ws.length - k) 1 ⟨Nat.le_refl _, .inr rfl⟩ (by simp [dotc, sumN]) trivial ?_
  rintro k H ⟨hk1, hk⟩ -
  simp only [walkS, wl, rgets, retv, argsEnv, ev, cst, cst1, cstL, AEnv.get, AEnv.trim, envput, qstep, abin, aun, evs, evo, deref, qload, target, if_true, if_false, Nat.reduceEqDiff, reduceIte, Nat.reduceAdd, AV.cells, AV.isTuple, setMany, alen, aiaddr, afill, Nat.reduceLeDiff, Nat.reduceMul, Nat.reduceLT, afillE, List.replicate, ic_length]
  refine withBool_intro ?_ ?_ <;> intro hb <;> simp only [walkS, wl, rgets, retv, argsEnv, ev, cst, cst1, cstL, AEnv.get, AEnv.trim, envput, qstep, abin, aun, evs, evo, deref, qload, target, if_true, if_false, Nat.reduceEqDiff, reduceIte, Nat.reduceAdd, AV.cells, AV.isTuple, setMany, alen, aiaddr, afill, Nat.reduceLeDiff, Nat.reduceMul, Nat.reduceLT, afillE, List.replicate]
  · have hlt : k < ws.length := by simpa using hb
    have g1 : (ic ws)[k]? = some [I (wg ws k)] := by rw [ic_get hlt, wg_eq]
    have g2 : (ic xs)[k]? = some [I (wg xs k)] := by rw [ic_get (by omega), wg_eq]
    have b1 := dotc_bound hw hx k
    have b2 := prod_bound (hw k).1 (hw k).2 (hx k).1 (hx k).2
    simp only [walkS, wl, rgets, retv, argsEnv, ev, cst, cst1, cstL, AEnv.get, AEnv.trim, envput, qstep, abin, aun, evs, evo, deref, qload, target, if_true, if_false, Nat.reduceEqDiff, reduceIte, Nat.reduceAdd, AV.cells, AV.isTuple, setMany, alen, aiaddr, afill, Nat.reduceLeDiff, Nat.reduceMul, Nat.reduceLT, afillE, List.replicate, g1, g2, ic_length, if_pos (show (k : Int) < ws.length by omega), if_pos (show (k : Int) < xs.length by omega), wrap_id (x := wg ws k * wg xs k) (by omega) (by omega)]
    rw [wrap_id (by omega) (by omega), wrap_id (by omega) (by omega)]
    have e : dotc (wg ws) (wg xs) k + wg ws k * wg xs k = dotc (wg ws) (wg xs) (k + 1) := by
      show _ = dotc (wg ws) (wg xs) k + if k = 0 then 0 else wg ws k * wg xs k
      rw [if_neg (by omega)]
    rw [e]
    exact loop_end (k + 1) ⟨by omega, .inl hlt⟩ (by omega) rfl trivial
  · have hk' : k = ws.length ∨ ws.length = 0 ∧ k = 1 := by simp at hb; omega
    rcases hk' with rfl | ⟨h0, rfl⟩
    · exact out_int
    · have : dotc (wg ws) (wg xs) ws.length = dotc (wg ws) (wg xs) 1 := by rw [h0]; simp [dotc, sumN]
      rw [this]; exact out_int
end Go.Proofs.Ytepnijjgdhldeaa
