/- For every input the law DiffsTopSpec answers true and leaves its arguments as they were: no condition. -/
import Derived.Test.YtepnijjgdhldeaaFc
import Derived.Test.YtepnijjgdhldeaaE3
import Derived.Test.YtepnijjgdhldeaaK3
namespace Go.Proofs.Ytepnijjgdhldeaa
open Go.ChangeShapes Go.WideShapes Go.ChangeAt Go.RowKit Go.Awp
set_option linter.unusedSimpArgs false
set_option linter.unusedVariables false
set_option maxRecDepth 100000
theorem lifted3 (os : Os) (started : os.Started) (H : Type) (enc : TypeId × Value → H) :
    ReturnsInHanded {} Try.checked os 3 .any (Rows.diffsTopSpecSpec.pre6 enc Try.prog Try.f3 Rows.diffsTopSpecRow.domain false) (Rows.diffsTopSpecSpec.post enc Try.prog Try.f3 false true false false) :=
  lifted_of (C := Try.checked) (ts := [24]) (qs := [tNet]) (tb := 4) own started (by kernel_rfl) Try.func3
    (ChangeSpec.witness6 (enc := enc) (C := Try.checked) false ⟨#[], #[.agg #[.int .i64 0, .slice none 0 0]], []⟩ 8 (by kernel_rfl) (by kernel_rfl) (by kernel_rfl) (by kernel_rfl))
    (by kernel_rfl) (by kernel_rfl) (by kernel_rfl) rfl
    (fun ds h => by
      match ds, h with
      | [a], _ => rfl)
    (by simp only [List.map_cons, List.map_nil]; rw [show Awp.shape Try.checked.prog 24 = some tNet from shapeNet])
    laidOut (by kernel_rfl)
    (fun xs h => by
      cases h with
      | cons h0 h =>
        cases h
        obtain ⟨n0, ds0, rfl, hn0, hb0, hd0⟩ := get_net h0
        unfold reachBytes at hb0
        exact law3_ok (by omega))
theorem over3 : Rows.diffsTopSpecRow.holds Try.pinned (OpenSpec.ofChange Rows.diffsTopSpecSpec) :=
  OpenClaim.holds_of_wide 3 Try.f3 rfl rfl rfl rfl rfl rfl rfl ⟨rfl, rfl, rfl, rfl, rfl⟩ rfl rfl rfl rfl rfl (by kernel_rfl) Try.func3 closed3
    (of_decide_eq_true (by kernel_rfl)) (by unfold Func.isWrapper; first | (rw [if_pos (by decide +kernel)]; kernel_rfl) | (rw [if_neg (by decide +kernel)]; exact ⟨rfl, rfl⟩))
    (fun os started H enc _ => lifted3 os started H enc)
theorem diffsTopSpec : Rows.DiffsTopSpecSaid := over3
#print axioms diffsTopSpec
end Go.Proofs.Ytepnijjgdhldeaa
