/- For every input the law DiffsCloseSpec answers true and leaves its arguments as they were: no condition. -/
import Derived.Test.YtepnijjgdhldeaaQFc
import Derived.Test.YtepnijjgdhldeaaQE19
import Derived.Test.YtepnijjgdhldeaaQK19
namespace Go.Proofs.Ytepnijjgdhldeaa
open Go.ChangeShapes Go.WideShapes Go.ChangeAt Go.RowKit Go.Awp
set_option linter.unusedSimpArgs false
set_option linter.unusedVariables false
set_option maxRecDepth 100000
abbrev tTab : Bool × List Cs := (true, [.int .i64, .sl 8 [.int .i64], .sl 1 [.bool]])
theorem shapeTab : Awp.shape Try.prog 73 = some tTab := by kernel_rfl
theorem fits_bools {x : AV} (h : Fits (.sl 1 [.bool]) x) : ∃ bs : List Bool, x = .ro false (bc bs) ∧ bs.length * 1 ≤ reachBytes := by
  cases h with
  | sl _ _ l hl0 hl h hh =>
    have : ∀ l : List (List AV), (∀ row, row ∈ l → row.length = 1) → (∀ row, row ∈ l → ∀ (i : Nat) c y, [Cs.bool][i]? = some c → row[i]? = some y → Fits c y) → ∃ bs : List Bool, l = bc bs := by
      intro l
      induction l with
      | nil => intro _ _; exact ⟨[], rfl⟩
      | cons r l ih =>
        intro h hh
        obtain ⟨xs, e⟩ := ih (fun row hr => h row (by simp [hr])) (fun row hr => hh row (by simp [hr]))
        match r, h r (by simp) with
        | [y], _ =>
          have hy := hh [y] (by simp) 0 _ y rfl rfl
          cases hy with
          | bool b => exact ⟨b :: xs, by rw [e]; rfl⟩
    obtain ⟨xs, e⟩ := this l h hh
    refine ⟨xs, by rw [e], ?_⟩
    rw [e] at hl; simpa [bc] using hl
theorem get_tab {x : AV} (h : PFits tTab x) : ∃ (n : Int) (l : List Int) (m : List Bool), x = .agg [I n, .ro false (ic l), .ro false (bc m)] ∧ l.length * 8 ≤ reachBytes ∧ m.length * 1 ≤ reachBytes := by
  cases h with
  | agg h =>
    cases h with
    | cons h1 h =>
      cases h with
      | cons h2 h =>
        cases h with
        | cons h3 h =>
          cases h
          obtain ⟨n, rfl, _⟩ := fits_int h1
          obtain ⟨l, rfl, hl, _⟩ := fits_ints h2
          obtain ⟨m, rfl, hm⟩ := fits_bools h3
          exact ⟨n, l, m, rfl, hl, hm⟩
theorem lifted19 (os : Os) (started : os.Started) (H : Type) (enc : TypeId × Value → H) :
    ReturnsInHanded {} Try.checked os 19 .any (Rows.diffsCloseSpecSpec.pre6 enc Try.prog Try.f19 Rows.diffsCloseSpecRow.domain false) (Rows.diffsCloseSpecSpec.post enc Try.prog Try.f19 false true false false) :=
  lifted_of (C := Try.checked) (ts := [24, 73, 39]) (qs := [tNet, tTab, tDiff]) (tb := 4) own started (by kernel_rfl) Try.func19
    (ChangeSpec.witness6 (enc := enc) (C := Try.checked) false ⟨#[], #[.agg #[.int .i64 0, .slice none 0 0], .agg #[.int .i64 0, .slice none 0 0, .slice none 0 0], .agg #[.int .i64 0, .int .i64 0, .int .i64 0]], []⟩ 8 (by kernel_rfl) (by kernel_rfl) (by kernel_rfl) (by kernel_rfl))
    (by kernel_rfl) (by kernel_rfl) (by kernel_rfl) rfl
    (fun ds h => by
      match ds, h with
      | [a, b, c], _ => rfl)
    (by simp only [List.map_cons, List.map_nil]; rw [show Awp.shape Try.checked.prog 24 = some tNet from shapeNet, show Awp.shape Try.checked.prog 73 = some tTab from shapeTab, show Awp.shape Try.checked.prog 39 = some tDiff from shapeDiff])
    laidOut (by kernel_rfl)
    (fun xs h => by
      cases h with
      | cons h0 h =>
        cases h with
        | cons h1 h =>
          cases h with
          | cons h2 h =>
            cases h
            obtain ⟨n0, ds0, rfl, hn0, hb0, hd0⟩ := get_net h0
            obtain ⟨n1, tl1, tm1, rfl, hb1, hc1⟩ := get_tab h1
            obtain ⟨d2, rfl, hd2⟩ := get_diff h2
            unfold reachBytes at hb0 hb1 hc1
            exact law19_ok (by unfold big; omega) (by unfold big; omega)) (fun W => fxok W _)
theorem over19 : Rows.diffsCloseSpecRow.holds Try.pinned (OpenSpec.ofChange Rows.diffsCloseSpecSpec) :=
  OpenClaim.holds_of_wide 19 Try.f19 rfl rfl rfl rfl rfl rfl rfl ⟨rfl, rfl, rfl, rfl, rfl⟩ rfl rfl rfl rfl rfl (by kernel_rfl) Try.func19 closed19
    (of_decide_eq_true (by kernel_rfl)) (by unfold Func.isWrapper; first | (rw [if_pos (by decide +kernel)]; kernel_rfl) | (rw [if_neg (by decide +kernel)]; exact ⟨rfl, rfl⟩))
    (fun os started H enc _ => lifted19 os started H enc)
theorem diffsCloseSpec : Rows.DiffsCloseSpecSaid := over19
#print axioms diffsCloseSpec
end Go.Proofs.Ytepnijjgdhldeaa
