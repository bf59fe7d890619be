/- The law DiffsDuality, walked. -/
import Derived.Test.YtepnijjgdhldeaaQX2
import Derived.Test.YtepnijjgdhldeaaProg
import Derived.Test.YtepnijjgdhldeaaA4
import Derived.Test.YtepnijjgdhldeaaA1
import Derived.KernelRfl
namespace Go.Proofs.Ytepnijjgdhldeaa
open Go.Awp
set_option linter.unusedSimpArgs false
set_option linter.unusedVariables false
set_option maxRecDepth 10000
set_option maxHeartbeats 8000000
theorem inn_congr {ds : List Df} {F G : Nat → Int} (h : ∀ k, k < ds.length → F k = G k) (v : Nat) : inn ds F v = inn ds G v :=
  sumN_congr _ fun k hk => by rw [h k hk]
theorem cost_congr {ds : List Df} {F G : Nat → Int} (h : ∀ k, k < ds.length → F k = G k) : costN ds F = costN ds G :=
  sumN_congr _ fun k hk => by rw [h k hk]
theorem wg_li2 {m : Nat} {f : Nat → Int} {v : Nat} (h : v < m) : wg (li m f) v = f v := by simp [wg, li, h]
theorem ck_flow {m : Nat} {ds : List Df} {ws : List Int} {F : Nat → Int} (hv : valid m ds = true) (hw : weightyB m ws = true) (ho : Opt m ds (wg ws) F) (hF : ∀ k, k < ds.length → 0 ≤ F k ∧ F k ≤ 1048576) : ckFlow m ds ws (costN ds F) (li ds.length F) = 0 := by
  have hok : flowOk ds (li ds.length F) = true := by
    simp only [flowOk, li_length, decide_true, Bool.true_and, Bool.not_eq_true']
    rw [List.any_eq_false]
    intro x hx
    obtain ⟨k, hk, rfl⟩ := List.mem_map.1 hx
    have := hF k (List.mem_range.1 hk)
    simp [ffar]; omega
  have hp : Proves m ds ws (costN ds F) (li ds.length F) := by
    refine ⟨fun v h0 hv' => ?_, ?_⟩
    · rw [inn_congr (G := F) fun k hk => wg_li2 hk]; exact ho.brings.bal v h0 hv'
    · rw [cost_congr (G := F) fun k hk => wg_li2 hk]; exact Int.le_refl _
  unfold ckFlow
  rw [hv, hw, hok, Int.toNat_natCast]
  simp [hp]
theorem fulf_feas {m : Nat} {ds : List Df} {xs : List Int} (hv : valid m ds = true) (h : fulf m ds xs = true) : xs.length = m ∧ wg xs 0 = 0 ∧ Feas ds (wg xs) ∧ ∀ v, -1099511627776 ≤ wg xs v ∧ wg xs v ≤ 1099511627776 := by
  obtain ⟨⟨a, a'⟩, b, c, d⟩ := fulf_iff.1 h
  have hw : ∀ i : Nat, wg xs i = at0 xs i := fun i => by simp [wg, at0]
  refine ⟨by omega, by rw [hw]; exact b, fun k hk => ?_, fun v => ?_⟩
  · obtain ⟨⟨⟨h1, h2⟩, h3, h4⟩, h5⟩ := d _ (ed_mem hk)
    rw [hw, hw]
    have e1 : ((fr (ed ds k) : Nat) : Int) = (ed ds k).1 := by unfold fr; omega
    have e2 : ((to (ed ds k) : Nat) : Int) = (ed ds k).2.1 := by unfold to; omega
    rw [e1, e2]; omega
  · rw [hw]; exact at_far c
theorem wg_li_bound {m : Nat} {f : Nat → Int} {ds : List Df} (hv : valid m ds = true) (h : fulf m ds (li m f) = true) (w : Nat → Int) (h0 : f 0 = 0) : dotc w (wg (li m f)) m = dot m w f := by
  unfold dotc dot
  refine sumN_congr m fun v hv' => ?_
  rw [wg_li2 hv']
  split
  · rename_i e; subst e; rw [h0]; simp
  · rfl
structure D12 (m : Nat) (ds : List Df) (ws xs fl : List Int) (most : Int) : Prop where
  valid : valid m ds = true
  good : Good m ds
  size : (m : Int) ≤ 16 ∧ ds.length ≤ 60
  lw : ws.length = m
  lx : xs.length ≤ big
  lf : fl.length ≤ big
theorem D12.hf {m : Nat} {ds : List Df} {ws xs fl : List Int} {most : Int} (h : D12 m ds ws xs fl most) : ∀ d, d ∈ ds → fr d < m ∧ to d < m := fun d hd => ⟨h.good.fit.fr d hd, h.good.fit.to d hd⟩
/-- The sum at an assignment. -/
theorem D12.sum {m : Nat} {ds : List Df} {ws xs fl ys : List Int} {most : Int} (h : D12 m ds ws xs fl most) {H : AHeap} {b : Bool} (hw : weightyB m ws = true) (hx : fulf m ds ys = true) {K : AV → AHeap → Prop} (hK : K (I (dot m (wg ws) (wg ys))) H) : ACall Try.prog 49 [.ro false (ic ws), .ro b (ic ys)] H K := by
  obtain ⟨f1, f2, f3, f4⟩ := fulf_feas h.valid hx
  have := h.lw
  have := h.size
  refine call_pure (Sum_ok (b := false) (c := false) (by omega) (by omega) (weighty_get hw).2 f4) (frzL_of' (d := 4) (carL_cons car_icF (carL_cons car_icF rfl))) ?_
  rw [h.lw, dotc_dot f2]; exact hK
end Go.Proofs.Ytepnijjgdhldeaa
