/- The cheapest use of differences: best. -/
import Derived.Test.YtepnijjgdhldeaaQV3
namespace Go.Proofs.Ytepnijjgdhldeaa
open Go.Awp
set_option linter.unusedSimpArgs false
set_option linter.unusedVariables false
set_option maxRecDepth 10000
set_option maxHeartbeats 8000000
def wg (l : List Int) (x : Nat) : Int := l.getD x 0
theorem wg_eq {l : List Int} {x : Nat} (h : x < l.length) : l[x] = wg l x := by simp [wg, h]
def wfar (x : Int) : Bool := !(decide (-4096 ≤ x) && decide (x ≤ 4096))
def weightyB (n : Int) (ws : List Int) : Bool := decide ((ws.length : Int) = n) && !ws.any wfar
theorem wfar_ok (x : Int) : PCall Try.prog 113 [I x] (.bool (wfar x)) := by
  refine PCall.intro text113 (by simp) ?_
  unfold ir113
  simp only [walkS, wl, rgets, retv, argsEnv, ev, cst, cst1, cstL, AEnv.get, AEnv.trim, envput, qstep, abin, aun, evs, evo, deref, qload, target, if_true, if_false, Nat.reduceEqDiff, reduceIte, Nat.reduceAdd, AV.cells, AV.isTuple, setMany, alen, aiaddr, afill, Nat.reduceLeDiff, Nat.reduceMul, Nat.reduceLT, afillE, List.replicate]
  refine call_pure (in_ok _ _ _) (frzL_of' (d := 1) rfl) ?_
  simp only [walkS, wl, rgets, retv, argsEnv, ev, cst, cst1, cstL, AEnv.get, AEnv.trim, envput, qstep, abin, aun, evs, evo, deref, qload, target, if_true, if_false, Nat.reduceEqDiff, reduceIte, Nat.reduceAdd, AV.cells, AV.isTuple, setMany, alen, aiaddr, afill, Nat.reduceLeDiff, Nat.reduceMul, Nat.reduceLT, afillE, List.replicate]
  exact out_bool
theorem weighty_ok {n : Int} {ds : List Df} {ws : List Int} (hl : ws.length ≤ big) : PCall Try.prog 90 [.agg [I n, .ro false (rows ds)], .ro false (ic ws)] (.bool (weightyB n ws)) := by
  refine PCall.intro text90 (by simp) ?_
  unfold ir90
  by_cases h : (ws.length : Int) = n
  · have e : ((ws.length : Int) == n) = true := by simp [h]
    simp only [walkS, wl, rgets, retv, argsEnv, ev, cst, cst1, cstL, AEnv.get, AEnv.trim, envput, qstep, abin, aun, evs, evo, deref, qload, target, if_true, if_false, Nat.reduceEqDiff, reduceIte, Nat.reduceAdd, AV.cells, AV.isTuple, setMany, alen, aiaddr, afill, Nat.reduceLeDiff, Nat.reduceMul, Nat.reduceLT, afillE, List.replicate, ic_length, e]
    refine call_pure (contains52 (c := .func (.func 113) [] []) (fn := 113) (caps := []) (p := wfar) rfl (fun _ => rfl) wfar_ok hl) (frzL_of' (d := 5) (carL_cons (car_ro_false (ic_simple ws)) rfl)) ?_
    simp only [walkS, wl, rgets, retv, argsEnv, ev, cst, cst1, cstL, AEnv.get, AEnv.trim, envput, qstep, abin, aun, evs, evo, deref, qload, target, if_true, if_false, Nat.reduceEqDiff, reduceIte, Nat.reduceAdd, AV.cells, AV.isTuple, setMany, alen, aiaddr, afill, Nat.reduceLeDiff, Nat.reduceMul, Nat.reduceLT, afillE, List.replicate]
    have : weightyB n ws = !ws.any wfar := by simp [weightyB, h]
    rw [this]; exact out_bool
  · have e : ((ws.length : Int) == n) = false := by simp [h]
    simp only [walkS, wl, rgets, retv, argsEnv, ev, cst, cst1, cstL, AEnv.get, AEnv.trim, envput, qstep, abin, aun, evs, evo, deref, qload, target, if_true, if_false, Nat.reduceEqDiff, reduceIte, Nat.reduceAdd, AV.cells, AV.isTuple, setMany, alen, aiaddr, afill, Nat.reduceLeDiff, Nat.reduceMul, Nat.reduceLT, afillE, List.replicate, ic_length, e]
    have : weightyB n ws = false := by simp [weightyB, h]
    rw [this]; exact out_bool
theorem weighty_get {m : Nat} {ws : List Int} (h : weightyB m ws = true) : ws.length = m ∧ ∀ v, -4096 ≤ wg ws v ∧ wg ws v ≤ 4096 := by
  simp only [weightyB, Bool.and_eq_true, decide_eq_true_eq, Bool.not_eq_true'] at h
  refine ⟨by omega, fun v => ?_⟩
  rcases Nat.lt_or_ge v ws.length with hv | hv
  · have : wfar ws[v] = false := by
      have := List.any_eq_false.1 h.2 _ (List.getElem_mem hv)
      simpa using this
    rw [wg_eq hv] at this
    simp [wfar] at this; omega
  · have : wg ws v = 0 := by simp [wg, hv]
    omega
theorem li_wg {m : Nat} {ws : List Int} (h : ws.length = m) : li m (wg ws) = ws := by
  apply List.ext_getElem
  · rw [li_length, h]
  · intro i h1 h2
    simp [li, wg, h2]
theorem phi_le {n : Nat} {W : Nat → Int} {c : Nat} (h : ∀ v, -(c : Int) ≤ W v ∧ W v ≤ c) : phi n W ≤ ((n * c : Nat) : Int) := by
  have h1 := sumN_le (f := fun v => if v = 0 then 0 else absI (W v)) (g := fun _ => (c : Int)) n fun i _ => by
    have := h i
    simp only [absI]
    split
    · omega
    · split <;> omega
  have h2 : ∀ k : Nat, sumN k (fun _ => (c : Int)) = ((k * c : Nat) : Int) := by
    intro k
    induction k with
    | zero => simp [sumN]
    | succ k ih => simp only [sumN]; rw [ih, Nat.succ_mul]; omega
  unfold phi
  rw [h2] at h1; exact h1
def bestE (n : Int) (ds : List Df) (ws : List Int) : Int := if valid n ds then (if weightyB n ws then (if (lens n.toNat ds (everyone n.toNat)).2 then 0 else 41) else 1) else 40
structure Bested (n : Int) (ds : List Df) (ws : List Int) (H0 : AHeap) (x : AV) (H' : AHeap) : Prop where
  len : H0.length ≤ H'.length
  same : ∀ i, i < H0.length → AHeap.obj H' i = AHeap.obj H0 i
  cas : (bestE n ds ws ≠ 0 ∧ x = .tuple [.nilPtr, .bool false, I (bestE n ds ws)]) ∨
    (bestE n ds ws = 0 ∧ ∃ (m hu hf hw : Nat) (F W : Nat → Int) (T : Int) (ok : Bool), n = m ∧ Sol m ds ∧ T ≤ 65536 ∧ x = .tuple [.ptr hu 1 0 0, .bool ok, I 0] ∧ H0.length ≤ hu ∧ H0.length ≤ hf ∧ H0.length ≤ hw ∧ UF hu hf hw m ds F W H' ∧ Inv m ds (wg ws) T F W ∧ ((ok = true ∧ Opt m ds (wg ws) F) ∨ (ok = false ∧ ∃ y, Ray m ds (wg ws) y)))
theorem best_at {n : Int} {ds : List Df} {ws : List Int} (hl : ws.length ≤ big) (hs : valid n ds = true → n ≤ 16 ∧ ds.length ≤ 60) (H0 : AHeap) : ACall Try.prog 79 [.agg [I n, .ro false (rows ds)], .ro false (ic ws)] H0 (Bested n ds ws H0) := by
  refine ACall.intro text79 (by simp) ?_
  unfold ir79
  simp only [walkS, wl, rgets, retv, argsEnv, ev, cst, cst1, cstL, AEnv.get, AEnv.trim, envput, qstep, abin, aun, evs, evo, deref, qload, target, if_true, if_false, Nat.reduceEqDiff, reduceIte, Nat.reduceAdd, AV.cells, AV.isTuple, setMany, alen, aiaddr, afill, Nat.reduceLeDiff, Nat.reduceMul, Nat.reduceLT, afillE, List.replicate, AHeap.obj_push_eq]
  refine dcall_pure (weighty_ok (n := n) (ds := ds) hl) (frzL_of (d := 4) (carL_cons car_netF (carL_cons car_icF rfl))) ?_
  simp only [walkS, wl, rgets, retv, argsEnv, ev, cst, cst1, cstL, AEnv.get, AEnv.trim, envput, qstep, abin, aun, evs, evo, deref, qload, target, if_true, if_false, Nat.reduceEqDiff, reduceIte, Nat.reduceAdd, AV.cells, AV.isTuple, setMany, alen, aiaddr, afill, Nat.reduceLeDiff, Nat.reduceMul, Nat.reduceLT, afillE, List.replicate]
  refine call_pure (asked_ok n ds [weightyB n ws] (by simp [big])) (frzL_of' (d := 4) (carL_cons car_netF (carL_cons (car_ownN (d := 2) (e := 4) (s := 1) (els := bc [weightyB n ws]) ?_ rfl (bc_simple _)) rfl))) ?_
  · rw [obj_app_add]; rfl
  cases hv : valid n ds with
  | false =>
    have e1 : asked n ds [weightyB n ws] = 40 := by simp [asked, hv]
    have e2 : bestE n ds ws = 40 := by simp [bestE, hv]
    rw [e1]
    simp only [walkS, wl, rgets, retv, argsEnv, ev, cst, cst1, cstL, AEnv.get, AEnv.trim, envput, qstep, abin, aun, evs, evo, deref, qload, target, if_true, if_false, Nat.reduceEqDiff, reduceIte, Nat.reduceAdd, AV.cells, AV.isTuple, setMany, alen, aiaddr, afill, Nat.reduceLeDiff, Nat.reduceMul, Nat.reduceLT, afillE, List.replicate, Int.reduceBNe]
    refine ⟨by simp, fun i hi => ?_, .inl ⟨by rw [e2]; decide, by rw [e2]⟩⟩
    rw [AHeap.obj_push_lt hi]
  | true =>
    cases hw : weightyB n ws with
    | false =>
      have e1 : asked n ds [false] = 1 := by simp [asked, hv]
      have e2 : bestE n ds ws = 1 := by simp [bestE, hv, hw]
      rw [e1]
      simp only [walkS, wl, rgets, retv, argsEnv, ev, cst, cst1, cstL, AEnv.get, AEnv.trim, envput, qstep, abin, aun, evs, evo, deref, qload, target, if_true, if_false, Nat.reduceEqDiff, reduceIte, Nat.reduceAdd, AV.cells, AV.isTuple, setMany, alen, aiaddr, afill, Nat.reduceLeDiff, Nat.reduceMul, Nat.reduceLT, afillE, List.replicate, Int.reduceBNe]
      refine ⟨by simp, fun i hi => ?_, .inl ⟨by rw [e2]; decide, by rw [e2]⟩⟩
      rw [AHeap.obj_push_lt hi]
    | true =>
      have e1 : asked n ds [true] = 0 := by simp [asked, hv]
      rw [e1]
      obtain ⟨m, rfl, hg, hm⟩ := good_of hv (hs hv).1
      have hK := (hs hv).2
      simp only [walkS, wl, rgets, retv, argsEnv, ev, cst, cst1, cstL, AEnv.get, AEnv.trim, envput, qstep, abin, aun, evs, evo, deref, qload, target, if_true, if_false, Nat.reduceEqDiff, reduceIte, Nat.reduceAdd, AV.cells, AV.isTuple, setMany, alen, aiaddr, afill, Nat.reduceLeDiff, Nat.reduceMul, Nat.reduceLT, afillE, List.replicate, Int.reduceBNe]
      have e2 : bestE m ds ws = if (lens m ds (everyone m)).2 then 0 else 41 := by simp [bestE, hv, hw]
      refine call_pure (solve_ok hg (plain_graph m false ds) (fun H => car_netF)) (frzL_of' (d := 5) (carL_cons (car_iface car_netF) rfl)) ?_
      unfold treeV
      simp only [walkS, wl, rgets, retv, argsEnv, ev, cst, cst1, cstL, AEnv.get, AEnv.trim, envput, qstep, abin, aun, evs, evo, deref, qload, target, if_true, if_false, Nat.reduceEqDiff, reduceIte, Nat.reduceAdd, AV.cells, AV.isTuple, setMany, alen, aiaddr, afill, Nat.reduceLeDiff, Nat.reduceMul, Nat.reduceLT, afillE, List.replicate]
      refine storeR rfl rfl (by rw [obj_app_add]; rfl) rfl ⟨rfl, rfl, rfl, by simp⟩ fun H1 y1 y2 y3 => ?_
      have hL1 : H1.length = H0.length + 3 := by rw [y1]; simp
      have back : ∀ q, q < H0.length → AHeap.obj H1 q = AHeap.obj H0 q := fun q hq => by rw [y3 q (by omega), AHeap.obj_push_lt hq]
      have o0 : AHeap.obj H1 H0.length = some ⟨24, 2, [[I m, .ro false (rows ds)]]⟩ := by rw [y3 _ (by omega), obj_app]
      clear y1 y2 y3
      cases hsol : (lens m ds (everyone m)).2 with
      | false =>
        have hb : decide ((grown m ds (everyone m)).2 ≥ 0) = true := decide_eq_true ((solvable_iff hg).2 hsol)
        rw [hsol] at e2
        simp only [walkS, wl, rgets, retv, argsEnv, ev, cst, cst1, cstL, AEnv.get, AEnv.trim, envput, qstep, abin, aun, evs, evo, deref, qload, target, if_true, if_false, Nat.reduceEqDiff, reduceIte, Nat.reduceAdd, AV.cells, AV.isTuple, setMany, alen, aiaddr, afill, Nat.reduceLeDiff, Nat.reduceMul, Nat.reduceLT, afillE, List.replicate, hb]
        exact ⟨by omega, back, .inl ⟨by rw [e2]; decide, by rw [e2, if_neg (by decide)]⟩⟩
      | true =>
        have hb : decide ((grown m ds (everyone m)).2 ≥ 0) = false := decide_eq_false (fun h => by rw [(solvable_iff hg).1 h] at hsol; cases hsol)
        rw [hsol] at e2
        obtain ⟨hwl, hwb⟩ := weighty_get hw
        have hmp := hg.pos
        have hne : ws ≠ [] := by intro h; rw [h] at hwl; simp at hwl; omega
        have c1 : (ds.length : Int) ≤ ds.length ∧ ((8 : Nat) : Int) * ds.length ≤ 281474976710656 ∧ (ds.length : Int) ≤ 9223372036854775807 := by omega
        simp only [walkS, wl, rgets, retv, argsEnv, ev, cst, cst1, cstL, AEnv.get, AEnv.trim, envput, qstep, abin, aun, evs, evo, deref, qload, target, if_true, if_false, Nat.reduceEqDiff, reduceIte, Nat.reduceAdd, AV.cells, AV.isTuple, setMany, alen, aiaddr, afill, Nat.reduceLeDiff, Nat.reduceMul, Nat.reduceLT, afillE, List.replicate, hb, o0, rows_length, if_pos c1, li_const]
        refine dcall_new (clone91_new (b := false) hne (by omega)) (frzL_of (d := 4) (carL_cons car_icF rfl)) ?_
        simp only [walkS, wl, rgets, retv, argsEnv, ev, cst, cst1, cstL, AEnv.get, AEnv.trim, envput, qstep, abin, aun, evs, evo, deref, qload, target, if_true, if_false, Nat.reduceEqDiff, reduceIte, Nat.reduceAdd, AV.cells, AV.isTuple, setMany, alen, aiaddr, afill, Nat.reduceLeDiff, Nat.reduceMul, Nat.reduceLT, afillE, List.replicate, ic_length, li_length, hwl]
        have gF : AHeap.obj (H1 ++ [some ⟨3, 1, ic (li ds.length fun _ => 0)⟩, some ⟨3, 1, ic ws⟩, some ⟨96, 4, [[I m, .ro false (rows ds), .own H1.length ds.length 0 ds.length, .own (H1.length + 1) m 0 m]]⟩]) H1.length = some ⟨3, 1, ic (li ds.length fun _ => 0)⟩ := by rw [obj_app]
        have gW : AHeap.obj (H1 ++ [some ⟨3, 1, ic (li ds.length fun _ => 0)⟩, some ⟨3, 1, ic ws⟩, some ⟨96, 4, [[I m, .ro false (rows ds), .own H1.length ds.length 0 ds.length, .own (H1.length + 1) m 0 m]]⟩]) (H1.length + 1) = some ⟨3, 1, ic ws⟩ := by rw [obj_app_add]; rfl
        have gU : AHeap.obj (H1 ++ [some ⟨3, 1, ic (li ds.length fun _ => 0)⟩, some ⟨3, 1, ic ws⟩, some ⟨96, 4, [[I m, .ro false (rows ds), .own H1.length ds.length 0 ds.length, .own (H1.length + 1) m 0 m]]⟩]) (H1.length + 2) = some ⟨96, 4, [[I m, .ro false (rows ds), .own H1.length ds.length 0 ds.length, .own (H1.length + 1) m 0 m]]⟩ := by rw [obj_app_add]; rfl
        have uf : UF (H1.length + 2) H1.length (H1.length + 1) m ds (fun _ => 0) (wg ws) (H1 ++ [some ⟨3, 1, ic (li ds.length fun _ => 0)⟩, some ⟨3, 1, ic ws⟩, some ⟨96, 4, [[I m, .ro false (rows ds), .own H1.length ds.length 0 ds.length, .own (H1.length + 1) m 0 m]]⟩]) := ⟨gU, gF, by rw [gW, li_wg hwl]⟩
        have sol : Sol m ds := ⟨hg, hsol⟩
        have hT : phi m (wg ws) ≤ 65536 := by
          have := phi_le (n := m) (W := wg ws) (c := 4096) hwb
          have : m * 4096 ≤ 16 * 4096 := Nat.mul_le_mul_right _ hm
          omega
        refine (fill_at hg hK (inv_start sol) (by omega) (Int.le_refl _) uf (by omega) (by omega) (by omega)).mono fun x H2 hx => ?_
        obtain ⟨l1, l2, F, W, uf2, inv2, hcas⟩ := hx
        simp only [List.length_append, List.length_cons, List.length_nil] at l1 l2
        have same : ∀ i, i < H0.length → AHeap.obj H2 i = AHeap.obj H0 i := fun i hi => by rw [l2 i (by omega) (by omega) (by omega), AHeap.obj_push_lt (by omega), back i hi]
        have e3 : bestE m ds ws = 0 := by rw [e2, if_pos rfl]
        rcases hcas with ⟨rfl, ho⟩ | ⟨rfl, hr⟩
        · simp only [walkS, wl, rgets, retv, argsEnv, ev, cst, cst1, cstL, AEnv.get, AEnv.trim, envput, qstep, abin, aun, evs, evo, deref, qload, target, if_true, if_false, Nat.reduceEqDiff, reduceIte, Nat.reduceAdd, AV.cells, AV.isTuple, setMany, alen, aiaddr, afill, Nat.reduceLeDiff, Nat.reduceMul, Nat.reduceLT, afillE, List.replicate]
          exact ⟨by omega, same, .inr ⟨e3, m, _, _, _, F, W, _, true, rfl, sol, hT, rfl, by omega, by omega, by omega, uf2, inv2, .inl ⟨rfl, ho⟩⟩⟩
        · simp only [walkS, wl, rgets, retv, argsEnv, ev, cst, cst1, cstL, AEnv.get, AEnv.trim, envput, qstep, abin, aun, evs, evo, deref, qload, target, if_true, if_false, Nat.reduceEqDiff, reduceIte, Nat.reduceAdd, AV.cells, AV.isTuple, setMany, alen, aiaddr, afill, Nat.reduceLeDiff, Nat.reduceMul, Nat.reduceLT, afillE, List.replicate]
          exact ⟨by omega, same, .inr ⟨e3, m, _, _, _, F, W, _, false, rfl, sol, hT, rfl, by omega, by omega, by omega, uf2, inv2, .inr ⟨rfl, hr⟩⟩⟩
end Go.Proofs.Ytepnijjgdhldeaa
/- Most: what it hands back. -/
namespace Go.Proofs.Ytepnijjgdhldeaa
open Go.Awp
set_option linter.unusedSimpArgs false
set_option linter.unusedVariables false
set_option maxRecDepth 10000
set_option maxHeartbeats 8000000
theorem mul_bound {a b A B : Int} (h1 : 0 ≤ a) (h2 : a ≤ A) (h3 : -B ≤ b) (h4 : b ≤ B) : -(A * B) ≤ a * b ∧ a * b ≤ A * B := by
  have hB : 0 ≤ B := by omega
  have k1 : a * b ≤ a * B := Int.mul_le_mul_of_nonneg_left h4 h1
  have k2 : a * B ≤ A * B := Int.mul_le_mul_of_nonneg_right h2 hB
  have k3 : a * (-B) ≤ a * b := Int.mul_le_mul_of_nonneg_left h3 h1
  rw [Int.mul_neg] at k3
  omega
def costc (ds : List Df) (F : Nat → Int) (c : Nat) : Int := sumN c fun k => F k * (ed ds k).2.2
theorem costc_bound {ds : List Df} {F : Nat → Int} (hF : ∀ k, k < ds.length → 0 ≤ F k ∧ F k ≤ 1048576) (hw : ∀ d, d ∈ ds → -1073741824 ≤ d.2.2 ∧ d.2.2 ≤ 1073741824) : ∀ c, c ≤ ds.length → -(1125899906842624 * (c : Int)) ≤ costc ds F c ∧ costc ds F c ≤ 1125899906842624 * (c : Int)
  | 0, _ => by simp [costc, sumN]
  | c + 1, h => by
    have ih := costc_bound hF hw c (by omega)
    have h1 := hF c (by omega)
    have h2 := hw _ (ed_mem (ds := ds) (k := c) (by omega))
    have h3 := mul_bound h1.1 h1.2 h2.1 h2.2
    have e : costc ds F (c + 1) = costc ds F c + F c * (ed ds c).2.2 := rfl
    rw [e]
    have : ((c + 1 : Nat) : Int) = c + 1 := by omega
    omega
theorem cost80 {n : Int} {ds : List Df} {F : Nat → Int} {b : Bool} (hl : ds.length ≤ 4096) (hF : ∀ k, k < ds.length → 0 ≤ F k ∧ F k ≤ 1048576) (hw : ∀ d, d ∈ ds → -1073741824 ≤ d.2.2 ∧ d.2.2 ≤ 1073741824) : PCall Try.prog 80 [.agg [I n, .ro false (rows ds)], .ro b (ic (li ds.length F))] (I (costN ds F)) := by
  refine PCall.intro text80 (by simp) ?_
  unfold ir80
  simp only [walkS, wl, rgets, retv, argsEnv, ev, cst, cst1, cstL, AEnv.get, AEnv.trim, envput, qstep, abin, aun, evs, evo, deref, qload, target, if_true, if_false, Nat.reduceEqDiff, reduceIte, Nat.reduceAdd, AV.cells, AV.isTuple, setMany, alen, aiaddr, afill, Nat.reduceLeDiff, Nat.reduceMul, Nat.reduceLT, afillE, List.replicate, rows_length]
  refine awp_loop (σ := Nat) (fun k => [(1, .ro b (ic (li ds.length F))), (5, I (costc ds F k)), (9, .ro false (rows ds)), (10, I ds.length), (11, I k)]) (fun _ _ => True) (fun k => k ≤ ds.length) (fun k => ds.length - k) 0 (Nat.zero_le _) rfl trivial ?_
  rintro k H hk -
  simp only [walkS, wl, rgets, retv, argsEnv, ev, cst, cst1, cstL, AEnv.get, AEnv.trim, envput, qstep, abin, aun, evs, evo, deref, qload, target, if_true, if_false, Nat.reduceEqDiff, reduceIte, Nat.reduceAdd, AV.cells, AV.isTuple, setMany, alen, aiaddr, afill, Nat.reduceLeDiff, Nat.reduceMul, Nat.reduceLT, afillE, List.replicate]
  refine withBool_intro ?_ ?_ <;> intro hb <;> simp only [walkS, wl, rgets, retv, argsEnv, ev, cst, cst1, cstL, AEnv.get, AEnv.trim, envput, qstep, abin, aun, evs, evo, deref, qload, target, if_true, if_false, Nat.reduceEqDiff, reduceIte, Nat.reduceAdd, AV.cells, AV.isTuple, setMany, alen, aiaddr, afill, Nat.reduceLeDiff, Nat.reduceMul, Nat.reduceLT, afillE, List.replicate]
  · have hlt : k < ds.length := by simpa using hb
    have h1 := costc_bound hF hw k hk
    have h1' := costc_bound hF hw (k + 1) hlt
    have h2 := hF k hlt
    have h3 := hw _ (ed_mem hlt)
    have h4 := mul_bound h2.1 h2.2 h3.1 h3.2
    have ec : costc ds F k + F k * (ed ds k).2.2 = costc ds F (k + 1) := rfl
    simp only [walkS, wl, rgets, retv, argsEnv, ev, cst, cst1, cstL, AEnv.get, AEnv.trim, envput, qstep, abin, aun, evs, evo, deref, qload, target, if_true, if_false, Nat.reduceEqDiff, reduceIte, Nat.reduceAdd, AV.cells, AV.isTuple, setMany, alen, aiaddr, afill, Nat.reduceLeDiff, Nat.reduceMul, Nat.reduceLT, afillE, List.replicate, rows_get hlt, ed_get hlt]
    refine storeR rfl rfl AHeap.obj_push_eq rfl ⟨rfl, rfl, rfl, by simp⟩ fun H1 q1 q2 q3 => ?_
    simp only [List.set_cons_zero, List.set_cons_succ, setMany, AV.cells, Nat.zero_add, Nat.reduceAdd] at q2
    simp only [walkS, wl, rgets, retv, argsEnv, ev, cst, cst1, cstL, AEnv.get, AEnv.trim, envput, qstep, abin, aun, evs, evo, deref, qload, target, if_true, if_false, Nat.reduceEqDiff, reduceIte, Nat.reduceAdd, AV.cells, AV.isTuple, setMany, alen, aiaddr, afill, Nat.reduceLeDiff, Nat.reduceMul, Nat.reduceLT, afillE, List.replicate, q2, li_get hlt, ic_length, li_length, wrap_id (x := F k * (ed ds k).2.2) (by omega) (by omega), ec]
    rw [wrap_id (by omega) (by omega), wrap_id (by omega) (by omega)]
    exact loop_end (k + 1) hlt (by omega) rfl trivial
  · have hk' : k = ds.length := by simp at hb; omega
    subst hk'
    exact out_int
noncomputable def mostV (n : Int) (ds : List Df) (ws : List Int) : Int × Bool × Int := if bestE n ds ws = 0 then ((mostN n.toNat ds (wg ws)).1, (mostN n.toNat ds (wg ws)).2, 0) else (0, false, bestE n ds ws)
theorem Most_ok {n : Int} {ds : List Df} {ws : List Int} (hl : ws.length ≤ big) (hs : valid n ds = true → n ≤ 16 ∧ ds.length ≤ 60) : PCall Try.prog 31 [.agg [I n, .ro false (rows ds)], .ro false (ic ws)] (.tuple [I (mostV n ds ws).1, .bool (mostV n ds ws).2.1, I (mostV n ds ws).2.2]) := by
  refine PCall.intro text31 (by simp) ?_
  unfold ir31
  simp only [walkS, wl, rgets, retv, argsEnv, ev, cst, cst1, cstL, AEnv.get, AEnv.trim, envput, qstep, abin, aun, evs, evo, deref, qload, target, if_true, if_false, Nat.reduceEqDiff, reduceIte, Nat.reduceAdd, AV.cells, AV.isTuple, setMany, alen, aiaddr, afill, Nat.reduceLeDiff, Nat.reduceMul, Nat.reduceLT, afillE, List.replicate]
  refine (best_at hl hs _).mono fun x H1 hx => ?_
  obtain ⟨l1, l2, l3⟩ := hx
  simp only [List.length_cons, List.length_nil] at l1 l2
  have o0 : AHeap.obj H1 0 = some ⟨24, 2, [[I n, .ro false (rows ds)]]⟩ := by rw [l2 0 (by omega)]; rfl
  rcases l3 with ⟨he, rfl⟩ | ⟨he, m, hu, hf, hw, F, W, T, ok, rfl, sol, hT, rfl, g1, g2, g3, uf, inv, hc⟩
  · have e1 : (bestE n ds ws != 0) = true := by simp [he]
    have e2 : mostV n ds ws = (0, false, bestE n ds ws) := if_neg he
    rw [e2]
    simp only [walkS, wl, rgets, retv, argsEnv, ev, cst, cst1, cstL, AEnv.get, AEnv.trim, envput, qstep, abin, aun, evs, evo, deref, qload, target, if_true, if_false, Nat.reduceEqDiff, reduceIte, Nat.reduceAdd, AV.cells, AV.isTuple, setMany, alen, aiaddr, afill, Nat.reduceLeDiff, Nat.reduceMul, Nat.reduceLT, afillE, List.replicate, e1]
    exact out_tuple (.cons out_int (.cons out_bool (.cons out_int .nil)))
  · have hf' : ∀ d, d ∈ ds → fr d < m ∧ to d < m := fun d hd => ⟨sol.good.fit.fr d hd, sol.good.fit.to d hd⟩
    have e2 : mostV m ds ws = ((mostN m ds (wg ws)).1, (mostN m ds (wg ws)).2, 0) := by unfold mostV; rw [if_pos he]; rfl
    rw [e2]
    have hv : valid m ds = true := by
      cases h : valid m ds with
      | true => rfl
      | false => simp [bestE, h] at he
    have hsm := (hs hv).2
    rcases hc with ⟨rfl, ho⟩ | ⟨rfl, y, hy⟩
    · rw [mostN_t hf' ho]
      have hph := phi_nonneg (n := m) (W := W)
      simp only [walkS, wl, rgets, retv, argsEnv, ev, cst, cst1, cstL, AEnv.get, AEnv.trim, envput, qstep, abin, aun, evs, evo, deref, qload, target, if_true, if_false, Nat.reduceEqDiff, reduceIte, Nat.reduceAdd, AV.cells, AV.isTuple, setMany, alen, aiaddr, afill, Nat.reduceLeDiff, Nat.reduceMul, Nat.reduceLT, afillE, List.replicate, Int.reduceBNe, Bool.not_true, o0, uf.ou]
      refine call_pure (cost80 (b := false) (by omega) (fun k hk => ⟨inv.nonneg k hk, by have := inv.cap k hk; omega⟩) sol.good.w) (frzL_of' (d := 4) (carL_cons car_netF (carL_cons (car_ownN uf.of (by rw [ic_length, li_length]) (ic_simple _)) rfl))) ?_
      simp only [walkS, wl, rgets, retv, argsEnv, ev, cst, cst1, cstL, AEnv.get, AEnv.trim, envput, qstep, abin, aun, evs, evo, deref, qload, target, if_true, if_false, Nat.reduceEqDiff, reduceIte, Nat.reduceAdd, AV.cells, AV.isTuple, setMany, alen, aiaddr, afill, Nat.reduceLeDiff, Nat.reduceMul, Nat.reduceLT, afillE, List.replicate]
      exact out_tuple (.cons out_int (.cons out_bool (.cons out_int .nil)))
    · rw [mostN_f hf' hy]
      simp only [walkS, wl, rgets, retv, argsEnv, ev, cst, cst1, cstL, AEnv.get, AEnv.trim, envput, qstep, abin, aun, evs, evo, deref, qload, target, if_true, if_false, Nat.reduceEqDiff, reduceIte, Nat.reduceAdd, AV.cells, AV.isTuple, setMany, alen, aiaddr, afill, Nat.reduceLeDiff, Nat.reduceMul, Nat.reduceLT, afillE, List.replicate, Int.reduceBNe, Bool.not_false]
      exact out_tuple (.cons out_int (.cons out_bool (.cons out_int .nil)))
end Go.Proofs.Ytepnijjgdhldeaa
/- The greatest sums for single nodes are the shortest walks. -/
namespace Go.Proofs.Ytepnijjgdhldeaa
open Go.Awp
set_option linter.unusedSimpArgs false
set_option linter.unusedVariables false
end Go.Proofs.Ytepnijjgdhldeaa
