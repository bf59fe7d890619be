/- For every input the law DiffsDuality answers true and leaves its arguments as they were: no condition. -/
import Derived.Test.YtepnijjgdhldeaaQFc
import Derived.Test.YtepnijjgdhldeaaQE12
import Derived.Test.YtepnijjgdhldeaaQK12
namespace Go.Proofs.Ytepnijjgdhldeaa
open Go.ChangeShapes Go.WideShapes Go.ChangeAt Go.RowKit Go.Awp
set_option linter.unusedSimpArgs false
set_option linter.unusedVariables false
set_option maxRecDepth 100000
theorem lifted12 (os : Os) (started : os.Started) (H : Type) (enc : TypeId × Value → H) :
    ReturnsInHanded {} Try.checked os 12 .any (Rows.diffsDualitySpec.pre6 enc Try.prog Try.f12 Rows.diffsDualityRow.domain false) (Rows.diffsDualitySpec.post enc Try.prog Try.f12 false true false false) :=
  lifted_of (C := Try.checked) (ts := [24, 29, 29, 3, 29]) (qs := [tNet, tInts, tInts, tInt, tInts]) (tb := 4) own started (by kernel_rfl) Try.func12
    (ChangeSpec.witness6 (enc := enc) (C := Try.checked) false ⟨#[], #[.agg #[.int .i64 0, .slice none 0 0], .slice none 0 0, .slice none 0 0, .int .i64 0, .slice none 0 0], []⟩ 8 (by kernel_rfl) (by kernel_rfl) (by kernel_rfl) (by kernel_rfl))
    (by kernel_rfl) (by kernel_rfl) (by kernel_rfl) rfl
    (fun ds h => by
      match ds, h with
      | [a, b, c, d, e], _ => rfl)
    (by simp only [List.map_cons, List.map_nil]; rw [show Awp.shape Try.checked.prog 24 = some tNet from shapeNet, show Awp.shape Try.checked.prog 29 = some tInts from shapeInts, show Awp.shape Try.checked.prog 3 = some tInt from shapeInt])
    laidOut (by kernel_rfl)
    (fun xs h => by
      cases h with
      | cons h0 h =>
        cases h with
        | cons h1 h =>
          cases h with
          | cons h2 h =>
            cases h with
            | cons h3 h =>
              cases h with
              | cons h4 h =>
                cases h
                obtain ⟨n0, ds0, rfl, hn0, hb0, hd0⟩ := get_net h0
                obtain ⟨xs1, rfl, hb1, hx1⟩ := get_ints h1
                obtain ⟨xs2, rfl, hb2, hx2⟩ := get_ints h2
                obtain ⟨x3, rfl, hx3⟩ := get_int h3
                obtain ⟨xs4, rfl, hb4, hx4⟩ := get_ints h4
                unfold reachBytes at hb0 hb1 hb2 hb4
                exact law12_ok (by unfold big; omega) (by unfold big; omega) (by unfold big; omega))
theorem over12 : Rows.diffsDualityRow.holds Try.pinned (OpenSpec.ofChange Rows.diffsDualitySpec) :=
  OpenClaim.holds_of_wide 12 Try.f12 rfl rfl rfl rfl rfl rfl rfl ⟨rfl, rfl, rfl, rfl, rfl⟩ rfl rfl rfl rfl rfl (by kernel_rfl) Try.func12 closed12
    (of_decide_eq_true (by kernel_rfl)) (by unfold Func.isWrapper; first | (rw [if_pos (by decide +kernel)]; kernel_rfl) | (rw [if_neg (by decide +kernel)]; exact ⟨rfl, rfl⟩))
    (fun os started H enc _ => lifted12 os started H enc)
theorem diffsDuality : Rows.DiffsDualitySaid := over12
#print axioms diffsDuality
end Go.Proofs.Ytepnijjgdhldeaa
