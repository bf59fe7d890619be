/- The law DiffsDuality, walked. -/
import Derived.Test.YtepnijjgdhldeaaQX2
import Derived.Test.YtepnijjgdhldeaaProg
import Derived.Test.YtepnijjgdhldeaaA4
import Derived.KernelRfl
namespace Go.Proofs.Ytepnijjgdhldeaa
open Go.Awp
set_option linter.unusedSimpArgs false
set_option linter.unusedVariables false
set_option maxRecDepth 10000
set_option maxHeartbeats 8000000
theorem fulf_feas {m : Nat} {ds : List Df} {xs : List Int} (hv : valid m ds = true) (h : fulf m ds xs = true) : xs.length = m ∧ wg xs 0 = 0 ∧ Feas ds (wg xs) ∧ ∀ v, -1099511627776 ≤ wg xs v ∧ wg xs v ≤ 1099511627776 := by
  obtain ⟨⟨a, a'⟩, b, c, d⟩ := fulf_iff.1 h
  have hw : ∀ i : Nat, wg xs i = at0 xs i := fun i => by simp [wg, at0]
  refine ⟨by omega, by rw [hw]; exact b, fun k hk => ?_, fun v => ?_⟩
  · obtain ⟨⟨⟨h1, h2⟩, h3, h4⟩, h5⟩ := d _ (ed_mem hk)
    rw [hw, hw]
    have e1 : ((fr (ed ds k) : Nat) : Int) = (ed ds k).1 := by unfold fr; omega
    have e2 : ((to (ed ds k) : Nat) : Int) = (ed ds k).2.1 := by unfold to; omega
    rw [e1, e2]; omega
  · rw [hw]; exact at_far c
structure D12 (m : Nat) (ds : List Df) (ws xs fl : List Int) (most : Int) : Prop where
  valid : valid m ds = true
  good : Good m ds
  size : (m : Int) ≤ 16 ∧ ds.length ≤ 60
  lw : ws.length = m
  lx : xs.length ≤ big
  lf : fl.length ≤ big
theorem D12.hf {m : Nat} {ds : List Df} {ws xs fl : List Int} {most : Int} (h : D12 m ds ws xs fl most) : ∀ d, d ∈ ds → fr d < m ∧ to d < m := fun d hd => ⟨h.good.fit.fr d hd, h.good.fit.to d hd⟩
/-- The sum at an assignment. -/
theorem D12.sum {m : Nat} {ds : List Df} {ws xs fl ys : List Int} {most : Int} (h : D12 m ds ws xs fl most) {H : AHeap} {b : Bool} (hw : weightyB m ws = true) (hx : fulf m ds ys = true) {K : AV → AHeap → Prop} (hK : K (I (dot m (wg ws) (wg ys))) H) : ACall Try.prog 49 [.ro false (ic ws), .ro b (ic ys)] H K := by
  obtain ⟨f1, f2, f3, f4⟩ := fulf_feas h.valid hx
  have := h.lw
  have := h.size
  refine call_pure (Sum_ok (b := false) (c := false) (by omega) (by omega) (weighty_get hw).2 f4) (frzL_of' (d := 4) (carL_cons car_icF (carL_cons car_icF rfl))) ?_
  rw [h.lw, dotc_dot f2]; exact hK
end Go.Proofs.Ytepnijjgdhldeaa
