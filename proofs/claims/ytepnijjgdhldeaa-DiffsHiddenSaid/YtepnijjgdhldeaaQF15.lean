/- For every input the law DiffsHidden answers true and leaves its arguments as they were: no condition. -/
import Derived.Test.YtepnijjgdhldeaaQFc
import Derived.Test.YtepnijjgdhldeaaQE15
import Derived.Test.YtepnijjgdhldeaaQK15
namespace Go.Proofs.Ytepnijjgdhldeaa
open Go.ChangeShapes Go.WideShapes Go.ChangeAt Go.RowKit Go.Awp
set_option linter.unusedSimpArgs false
set_option linter.unusedVariables false
set_option maxRecDepth 100000
abbrev tPrs : Bool × List Cs := (false, [.sl 24 [.int .i64, .int .i64, .int .i64]])
theorem shapePrs : Awp.shape Try.prog 58 = some tPrs := by kernel_rfl
theorem get_prs {x : AV} (h : PFits tPrs x) : ∃ ds : List Df, x = .ro false (rows ds) ∧ ds.length * 24 ≤ reachBytes ∧ ∀ d, d ∈ ds → FitD d := by cases h with | one h => exact fits_rows h
theorem lifted15 (os : Os) (started : os.Started) (H : Type) (enc : TypeId × Value → H) :
    ReturnsInHanded {} Try.checked os 15 .any (Rows.diffsHiddenSpec.pre6 enc Try.prog Try.f15 Rows.diffsHiddenRow.domain false) (Rows.diffsHiddenSpec.post enc Try.prog Try.f15 false true false false) :=
  lifted_of (C := Try.checked) (ts := [29, 58, 29]) (qs := [tInts, tPrs, tInts]) (tb := 4) own started (by kernel_rfl) Try.func15
    (ChangeSpec.witness6 (enc := enc) (C := Try.checked) false ⟨#[], #[.slice none 0 0, .slice none 0 0, .slice none 0 0], []⟩ 8 (by kernel_rfl) (by kernel_rfl) (by kernel_rfl) (by kernel_rfl))
    (by kernel_rfl) (by kernel_rfl) (by kernel_rfl) rfl
    (fun ds h => by
      match ds, h with
      | [a, b, c], _ => rfl)
    (by simp only [List.map_cons, List.map_nil]; rw [show Awp.shape Try.checked.prog 29 = some tInts from shapeInts, show Awp.shape Try.checked.prog 58 = some tPrs from shapePrs])
    laidOut (by kernel_rfl)
    (fun xs h => by
      cases h with
      | cons h0 h =>
        cases h with
        | cons h1 h =>
          cases h with
          | cons h2 h =>
            cases h
            obtain ⟨xs0, rfl, hb0, hx0⟩ := get_ints h0
            obtain ⟨ps1, rfl, hb1, hx1⟩ := get_prs h1
            obtain ⟨xs2, rfl, hb2, hx2⟩ := get_ints h2
            unfold reachBytes at hb0 hb1 hb2
            exact law15_ok (by unfold big; omega) (by unfold big; omega) (by unfold big; omega))
theorem over15 : Rows.diffsHiddenRow.holds Try.pinned (OpenSpec.ofChange Rows.diffsHiddenSpec) :=
  OpenClaim.holds_of_wide 15 Try.f15 rfl rfl rfl rfl rfl rfl rfl ⟨rfl, rfl, rfl, rfl, rfl⟩ rfl rfl rfl rfl rfl (by kernel_rfl) Try.func15 closed15
    (of_decide_eq_true (by kernel_rfl)) (by unfold Func.isWrapper; first | (rw [if_pos (by decide +kernel)]; kernel_rfl) | (rw [if_neg (by decide +kernel)]; exact ⟨rfl, rfl⟩))
    (fun os started H enc _ => lifted15 os started H enc)
theorem diffsHidden : Rows.DiffsHiddenSaid := over15
#print axioms diffsHidden
end Go.Proofs.Ytepnijjgdhldeaa
