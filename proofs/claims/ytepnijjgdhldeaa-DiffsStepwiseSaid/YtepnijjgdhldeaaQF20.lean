/- For every input the law DiffsStepwise answers true and leaves its arguments as they were: no condition. -/
import Derived.Test.YtepnijjgdhldeaaQFc
import Derived.Test.YtepnijjgdhldeaaQE20
import Derived.Test.YtepnijjgdhldeaaQK20
namespace Go.Proofs.Ytepnijjgdhldeaa
open Go.ChangeShapes Go.WideShapes Go.ChangeAt Go.RowKit Go.Awp
set_option linter.unusedSimpArgs false
set_option linter.unusedVariables false
set_option maxRecDepth 100000
theorem lifted20 (os : Os) (started : os.Started) (H : Type) (enc : TypeId × Value → H) :
    ReturnsInHanded {} Try.checked os 20 .any (Rows.diffsStepwiseSpec.pre6 enc Try.prog Try.f20 Rows.diffsStepwiseRow.domain false) (Rows.diffsStepwiseSpec.post enc Try.prog Try.f20 false true false false) :=
  lifted_of (C := Try.checked) (ts := [24, 3]) (qs := [tNet, tInt]) (tb := 4) own started (by kernel_rfl) Try.func20
    (ChangeSpec.witness6 (enc := enc) (C := Try.checked) false ⟨#[], #[.agg #[.int .i64 0, .slice none 0 0], .int .i64 0], []⟩ 8 (by kernel_rfl) (by kernel_rfl) (by kernel_rfl) (by kernel_rfl))
    (by kernel_rfl) (by kernel_rfl) (by kernel_rfl) rfl
    (fun ds h => by
      match ds, h with
      | [a, b], _ => rfl)
    (by simp only [List.map_cons, List.map_nil]; rw [show Awp.shape Try.checked.prog 24 = some tNet from shapeNet, show Awp.shape Try.checked.prog 3 = some tInt from shapeInt])
    laidOut (by kernel_rfl)
    (fun xs h => by
      cases h with
      | cons h0 h =>
        cases h with
        | cons h1 h =>
          cases h
          obtain ⟨n0, ds0, rfl, hn0, hb0, hd0⟩ := get_net h0
          obtain ⟨x1, rfl, hx1⟩ := get_int h1
          unfold reachBytes at hb0
          exact law20_ok (by unfold big; omega)) (fun W => fxok W _)
theorem over20 : Rows.diffsStepwiseRow.holds Try.pinned (OpenSpec.ofChange Rows.diffsStepwiseSpec) :=
  OpenClaim.holds_of_wide 20 Try.f20 rfl rfl rfl rfl rfl rfl rfl ⟨rfl, rfl, rfl, rfl, rfl⟩ rfl rfl rfl rfl rfl (by kernel_rfl) Try.func20 closed20
    (of_decide_eq_true (by kernel_rfl)) (by unfold Func.isWrapper; first | (rw [if_pos (by decide +kernel)]; kernel_rfl) | (rw [if_neg (by decide +kernel)]; exact ⟨rfl, rfl⟩))
    (fun os started H enc _ => lifted20 os started H enc)
theorem diffsStepwise : Rows.DiffsStepwiseSaid := over20
#print axioms diffsStepwise
end Go.Proofs.Ytepnijjgdhldeaa
