/- For every input the law DiffsAdded answers true and leaves its arguments as they were: no condition. -/
import Derived.Test.YtepnijjgdhldeaaQFc
import Derived.Test.YtepnijjgdhldeaaQE7
import Derived.Test.YtepnijjgdhldeaaQK7
namespace Go.Proofs.Ytepnijjgdhldeaa
open Go.ChangeShapes Go.WideShapes Go.ChangeAt Go.RowKit Go.Awp
set_option linter.unusedSimpArgs false
set_option linter.unusedVariables false
set_option maxRecDepth 100000
theorem lifted7 (os : Os) (started : os.Started) (H : Type) (enc : TypeId × Value → H) :
    ReturnsInHanded {} Try.checked os 7 .any (Rows.diffsAddedSpec.pre6 enc Try.prog Try.f7 Rows.diffsAddedRow.domain false) (Rows.diffsAddedSpec.post enc Try.prog Try.f7 false true false false) :=
  lifted_of (C := Try.checked) (ts := [24, 29, 29]) (qs := [tNet, tInts, tInts]) (tb := 4) own started (by kernel_rfl) Try.func7
    (ChangeSpec.witness6 (enc := enc) (C := Try.checked) false ⟨#[], #[.agg #[.int .i64 0, .slice none 0 0], .slice none 0 0, .slice none 0 0], []⟩ 8 (by kernel_rfl) (by kernel_rfl) (by kernel_rfl) (by kernel_rfl))
    (by kernel_rfl) (by kernel_rfl) (by kernel_rfl) rfl
    (fun ds h => by
      match ds, h with
      | [a, b, c], _ => rfl)
    (by simp only [List.map_cons, List.map_nil]; rw [show Awp.shape Try.checked.prog 24 = some tNet from shapeNet, show Awp.shape Try.checked.prog 29 = some tInts from shapeInts])
    laidOut (by kernel_rfl)
    (fun xs h => by
      cases h with
      | cons h0 h =>
        cases h with
        | cons h1 h =>
          cases h with
          | cons h2 h =>
            cases h
            obtain ⟨n0, ds0, rfl, hn0, hb0, hd0⟩ := get_net h0
            obtain ⟨xs1, rfl, hb1, hx1⟩ := get_ints h1
            obtain ⟨xs2, rfl, hb2, hx2⟩ := get_ints h2
            unfold reachBytes at hb0 hb1 hb2
            exact law7_ok (by unfold big; omega) (by unfold big; omega))
theorem over7 : Rows.diffsAddedRow.holds Try.pinned (OpenSpec.ofChange Rows.diffsAddedSpec) :=
  OpenClaim.holds_of_wide 7 Try.f7 rfl rfl rfl rfl rfl rfl rfl ⟨rfl, rfl, rfl, rfl, rfl⟩ rfl rfl rfl rfl rfl (by kernel_rfl) Try.func7 closed7
    (of_decide_eq_true (by kernel_rfl)) (by unfold Func.isWrapper; first | (rw [if_pos (by decide +kernel)]; kernel_rfl) | (rw [if_neg (by decide +kernel)]; exact ⟨rfl, rfl⟩))
    (fun os started H enc _ => lifted7 os started H enc)
theorem diffsAdded : Rows.DiffsAddedSaid := over7
#print axioms diffsAdded
end Go.Proofs.Ytepnijjgdhldeaa
