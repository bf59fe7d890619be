/- For every input the law DiffsMostSpec answers true and leaves its arguments as they were: no condition. -/
import Derived.Test.YtepnijjgdhldeaaQFc
import Derived.Test.YtepnijjgdhldeaaQE11
import Derived.Test.YtepnijjgdhldeaaQK11
namespace Go.Proofs.Ytepnijjgdhldeaa
open Go.ChangeShapes Go.WideShapes Go.ChangeAt Go.RowKit Go.Awp
set_option linter.unusedSimpArgs false
set_option linter.unusedVariables false
set_option maxRecDepth 100000
theorem lifted11 (os : Os) (started : os.Started) (H : Type) (enc : TypeId × Value → H) :
    ReturnsInHanded {} Try.checked os 11 .any (Rows.diffsMostSpecSpec.pre6 enc Try.prog Try.f11 Rows.diffsMostSpecRow.domain false) (Rows.diffsMostSpecSpec.post enc Try.prog Try.f11 false true false false) :=
  lifted_of (C := Try.checked) (ts := [24, 29, 3, 29]) (qs := [tNet, tInts, tInt, tInts]) (tb := 4) own started (by kernel_rfl) Try.func11
    (ChangeSpec.witness6 (enc := enc) (C := Try.checked) false ⟨#[], #[.agg #[.int .i64 0, .slice none 0 0], .slice none 0 0, .int .i64 0, .slice none 0 0], []⟩ 8 (by kernel_rfl) (by kernel_rfl) (by kernel_rfl) (by kernel_rfl))
    (by kernel_rfl) (by kernel_rfl) (by kernel_rfl) rfl
    (fun ds h => by
      match ds, h with
      | [a, b, c, d], _ => rfl)
    (by simp only [List.map_cons, List.map_nil]; rw [show Awp.shape Try.checked.prog 24 = some tNet from shapeNet, show Awp.shape Try.checked.prog 29 = some tInts from shapeInts, show Awp.shape Try.checked.prog 3 = some tInt from shapeInt])
    laidOut (by kernel_rfl)
    (fun xs h => by
      cases h with
      | cons h0 h =>
        cases h with
        | cons h1 h =>
          cases h with
          | cons h2 h =>
            cases h with
            | cons h3 h =>
              cases h
              obtain ⟨n0, ds0, rfl, hn0, hb0, hd0⟩ := get_net h0
              obtain ⟨xs1, rfl, hb1, hx1⟩ := get_ints h1
              obtain ⟨x2, rfl, hx2⟩ := get_int h2
              obtain ⟨xs3, rfl, hb3, hx3⟩ := get_ints h3
              unfold reachBytes at hb0 hb1 hb3
              exact law11_ok (by unfold big; omega) (by unfold big; omega) (by unfold big; omega)) (fun W => fxok W _)
theorem over11 : Rows.diffsMostSpecRow.holds Try.pinned (OpenSpec.ofChange Rows.diffsMostSpecSpec) :=
  OpenClaim.holds_of_wide 11 Try.f11 rfl rfl rfl rfl rfl rfl rfl ⟨rfl, rfl, rfl, rfl, rfl⟩ rfl rfl rfl rfl rfl (by kernel_rfl) Try.func11 closed11
    (of_decide_eq_true (by kernel_rfl)) (by unfold Func.isWrapper; first | (rw [if_pos (by decide +kernel)]; kernel_rfl) | (rw [if_neg (by decide +kernel)]; exact ⟨rfl, rfl⟩))
    (fun os started H enc _ => lifted11 os started H enc)
theorem diffsMostSpec : Rows.DiffsMostSpecSaid := over11
#print axioms diffsMostSpec
end Go.Proofs.Ytepnijjgdhldeaa
