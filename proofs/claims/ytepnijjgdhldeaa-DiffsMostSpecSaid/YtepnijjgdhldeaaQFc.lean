/- What the laws of the differences are handed, as plain data. -/
import Derived.Test.YtepnijjgdhldeaaRows
import Derived.Test.YtepnijjgdhldeaaQ3
import Derived.Test.YtepnijjgdhldeaaA8
namespace Go.Proofs.Ytepnijjgdhldeaa
open Go.ChangeShapes Go.WideShapes Go.ChangeAt Go.RowKit Go.Awp
set_option linter.unusedSimpArgs false
set_option linter.unusedVariables false
set_option maxRecDepth 100000
theorem own : ownKnob Try.prog.godebug = none := by kernel_rfl
theorem laidOut : laidOutB Try.prog = true := by kernel_rfl
abbrev tInt : Bool × List Cs := (false, [.int .i64])
abbrev tInts : Bool × List Cs := (false, [.sl 8 [.int .i64]])
abbrev tDiff : Bool × List Cs := (true, [.int .i64, .int .i64, .int .i64])
abbrev tNet : Bool × List Cs := (true, [.int .i64, .sl 24 [.int .i64, .int .i64, .int .i64]])
theorem shapeInt : Awp.shape Try.prog 3 = some tInt := by kernel_rfl
theorem shapeInts : Awp.shape Try.prog 29 = some tInts := by kernel_rfl
theorem shapeNet : Awp.shape Try.prog 24 = some tNet := by kernel_rfl
def Fit64 (n : Int) : Prop := -9223372036854775808 ≤ n ∧ n ≤ 9223372036854775807
theorem fits_int {x : AV} (h : Fits (.int .i64) x) : ∃ n, x = I n ∧ Fit64 n := by
  cases h with
  | int _ n h =>
    refine ⟨n, rfl, ?_⟩
    simp [Lit.wf, IntKind.min, IntKind.max, IntKind.signed, IntKind.bits] at h
    exact ⟨by omega, by omega⟩
theorem fits_ints {x : AV} (h : Fits (.sl 8 [.int .i64]) x) : ∃ xs : List Int, x = .ro false (ic xs) ∧ xs.length * 8 ≤ reachBytes ∧ ∀ n, n ∈ xs → Fit64 n := by
  cases h with
  | sl _ _ l hl0 hl h hh =>
    have : ∀ l : List (List AV), (∀ row, row ∈ l → row.length = 1) → (∀ row, row ∈ l → ∀ (i : Nat) c y, [Cs.int .i64][i]? = some c → row[i]? = some y → Fits c y) → ∃ xs : List Int, l = ic xs ∧ ∀ n, n ∈ xs → Fit64 n := by
      intro l
      induction l with
      | nil => intro _ _; exact ⟨[], rfl, fun _ h => by cases h⟩
      | cons r l ih =>
        intro h hh
        obtain ⟨xs, e, hx⟩ := ih (fun row hr => h row (by simp [hr])) (fun row hr => hh row (by simp [hr]))
        match r, h r (by simp) with
        | [y], _ =>
          obtain ⟨n, rfl, hn⟩ := fits_int (hh [y] (by simp) 0 _ y rfl rfl)
          refine ⟨n :: xs, by rw [e]; rfl, fun m hm => ?_⟩
          rcases List.mem_cons.1 hm with rfl | hm
          · exact hn
          · exact hx m hm
    obtain ⟨xs, e, hx⟩ := this l h hh
    refine ⟨xs, by rw [e], ?_, hx⟩
    rw [e] at hl; simpa [ic] using hl
def FitD (d : Df) : Prop := Fit64 d.1 ∧ Fit64 d.2.1 ∧ Fit64 d.2.2
theorem fits_rows {x : AV} (h : Fits (.sl 24 [.int .i64, .int .i64, .int .i64]) x) : ∃ ds : List Df, x = .ro false (rows ds) ∧ ds.length * 24 ≤ reachBytes ∧ ∀ d, d ∈ ds → FitD d := by
  cases h with
  | sl _ _ l hl0 hl h hh =>
    have : ∀ l : List (List AV), (∀ row, row ∈ l → row.length = 3) → (∀ row, row ∈ l → ∀ (i : Nat) c y, [Cs.int .i64, .int .i64, .int .i64][i]? = some c → row[i]? = some y → Fits c y) → ∃ ds : List Df, l = rows ds ∧ ∀ d, d ∈ ds → FitD d := by
      intro l
      induction l with
      | nil => intro _ _; exact ⟨[], rfl, fun _ h => by cases h⟩
      | cons r l ih =>
        intro h hh
        obtain ⟨ds, e, hx⟩ := ih (fun row hr => h row (by simp [hr])) (fun row hr => hh row (by simp [hr]))
        match r, h r (by simp) with
        | [a, b, c], _ =>
          obtain ⟨n, rfl, hn⟩ := fits_int (hh [a, b, c] (by simp) 0 _ a rfl rfl)
          obtain ⟨m, rfl, hm⟩ := fits_int (hh [I n, b, c] (by simp) 1 _ b rfl rfl)
          obtain ⟨k, rfl, hk⟩ := fits_int (hh [I n, I m, c] (by simp) 2 _ c rfl rfl)
          refine ⟨(n, m, k) :: ds, by rw [e]; rfl, fun d hd => ?_⟩
          rcases List.mem_cons.1 hd with rfl | hd
          · exact ⟨hn, hm, hk⟩
          · exact hx d hd
    obtain ⟨ds, e, hx⟩ := this l h hh
    refine ⟨ds, by rw [e], ?_, hx⟩
    rw [e] at hl; simpa [rows] using hl
theorem get_int {x : AV} (h : PFits tInt x) : ∃ n, x = I n ∧ Fit64 n := by cases h with | one h => exact fits_int h
theorem get_ints {x : AV} (h : PFits tInts x) : ∃ xs : List Int, x = .ro false (ic xs) ∧ xs.length * 8 ≤ reachBytes ∧ ∀ n, n ∈ xs → Fit64 n := by cases h with | one h => exact fits_ints h
theorem get_net {x : AV} (h : PFits tNet x) : ∃ n ds, x = .agg [I n, .ro false (rows ds)] ∧ Fit64 n ∧ ds.length * 24 ≤ reachBytes ∧ ∀ d, d ∈ ds → FitD d := by
  cases h with
  | agg h =>
    cases h with
    | cons h1 h =>
      cases h with
      | cons h2 h =>
        cases h
        obtain ⟨n, rfl, hn⟩ := fits_int h1
        obtain ⟨ds, rfl, hd⟩ := fits_rows h2
        exact ⟨n, ds, rfl, hn, hd⟩
end Go.Proofs.Ytepnijjgdhldeaa
