/- What the laws of courses are handed, as plain data; the world that holds the tables. -/
import Derived.Test.YtgadlckkmhhmbaaDoorRows
import Derived.Test.YtgadlckkmhhmbaaDoorCards
import Derived.Test.YtgadlckkmhhmbaaDoorTie
import Derived.Test.YtgadlckkmhhmbaaDoorProg
import Derived.Test.YtgadlckkmhhmbaaDoorQFx
import Derived.Test.YtgadlckkmhhmbaaDoorA7
import Derived.Test.YtgadlckkmhhmbaaDoorQC19
import Derived.WalkKit
import Derived.ProofKit
import Derived.OpenShut
import Derived.Deep.DeepHandedRow
import Derived.Lib.LaidTab
import Derived.Stop.LaidErr
set_option linter.unusedVariables false
set_option linter.unusedSimpArgs false
set_option linter.unusedSectionVars false
namespace Go.Proofs.YtgadlckkmhhmbaaDoor
open Go.ChangeShapes Go.WideShapes Go.ChangeAt Go.RowKit Go.Awp Go.Grams
set_option linter.unusedSimpArgs false
set_option linter.unusedVariables false
set_option maxRecDepth 100000
theorem own : ownKnob Tryd.prog.godebug = none := by kernel_rfl
theorem laidOut : laidOutB Tryd.prog = true := by kernel_rfl
abbrev tInt : Bool × List Cs := (false, [.int .i64])
abbrev tScale : Bool × List Cs := (true, [.int .i64, .int .i64, .sl 32 [.int .i64, .int .i64, .int .i64, .int .i64]])
abbrev tTest : Bool × List Cs := (true, [.int .i64, .int .i64, .int .i64, .int .i64])
abbrev tSheet : Bool × List Cs := (true, [.int .i64, .int .i64, .int .i64, .int .i64, .int .i64, .int .i64, .int .i64, .int .i64, .sl 40 [.int .i64, .int .i64, .int .i64, .int .i64, .int .i64]])
abbrev tDays : Bool × List Cs := (true, [.int .i64, .int .i64, .int .i64])
abbrev tInts : Bool × List Cs := (false, [.sl 8 [.int .i64]])
abbrev tSheets : Bool × List Cs := (false, [.sl 88 [.int .i64, .int .i64, .int .i64, .int .i64, .int .i64, .int .i64, .int .i64, .int .i64, .sl 40 [.int .i64, .int .i64, .int .i64, .int .i64, .int .i64]]])
theorem shapeInt : Awp.shape Tryd.prog 3 = some tInt := by kernel_rfl
theorem shapeScale : Awp.shape Tryd.prog 24 = some tScale := by kernel_rfl
theorem shapeInts : Awp.shape Tryd.prog 51 = some tInts := by kernel_rfl
theorem fits_int {x : AV} (h : Fits (.int .i64) x) : ∃ n, x = I n := by
  cases h with
  | int _ n h => exact ⟨n, rfl⟩
theorem fits_ints {x : AV} (h : Fits (.sl 8 [.int .i64]) x) : ∃ xs : List Int, x = .ro false (ic xs) ∧ xs.length * 8 ≤ reachBytes := by
  cases h with
  | sl _ _ l hl0 hl h hh =>
    have : ∀ l : List (List AV), (∀ row, row ∈ l → row.length = 1) → (∀ row, row ∈ l → ∀ (i : Nat) c y, [Cs.int .i64][i]? = some c → row[i]? = some y → Fits c y) → ∃ xs : List Int, l = ic xs := by
      intro l
      induction l with
      | nil => intro _ _; exact ⟨[], rfl⟩
      | cons r l ih =>
        intro h hh
        obtain ⟨xs, e⟩ := ih (fun row hr => h row (by simp [hr])) (fun row hr => hh row (by simp [hr]))
        match r, h r (by simp) with
        | [a], _ =>
          obtain ⟨n, rfl⟩ := fits_int (hh [a] (by simp) 0 _ a rfl rfl)
          exact ⟨n :: xs, by rw [e]; rfl⟩
    obtain ⟨xs, e⟩ := this l h hh
    refine ⟨xs, by rw [e], ?_⟩
    rw [e] at hl; simpa [ic] using hl
theorem fits_trows {x : AV} (h : Fits (.sl 32 [.int .i64, .int .i64, .int .i64, .int .i64]) x) : ∃ ds : List Tst, x = .ro false (trows ds) := by
  cases h with
  | sl _ _ l hl0 hl h hh =>
    have : ∀ l : List (List AV), (∀ row, row ∈ l → row.length = 4) → (∀ row, row ∈ l → ∀ (i : Nat) c y, [Cs.int .i64, .int .i64, .int .i64, .int .i64][i]? = some c → row[i]? = some y → Fits c y) → ∃ ds : List Tst, l = trows ds := by
      intro l
      induction l with
      | nil => intro _ _; exact ⟨[], rfl⟩
      | cons r l ih =>
        intro h hh
        obtain ⟨ds, e⟩ := ih (fun row hr => h row (by simp [hr])) (fun row hr => hh row (by simp [hr]))
        match r, h r (by simp) with
        | [a, b, c, d], _ =>
          obtain ⟨n, rfl⟩ := fits_int (hh [a, b, c, d] (by simp) 0 _ a rfl rfl)
          obtain ⟨m, rfl⟩ := fits_int (hh [I n, b, c, d] (by simp) 1 _ b rfl rfl)
          obtain ⟨k, rfl⟩ := fits_int (hh [I n, I m, c, d] (by simp) 2 _ c rfl rfl)
          obtain ⟨q, rfl⟩ := fits_int (hh [I n, I m, I k, d] (by simp) 3 _ d rfl rfl)
          exact ⟨(n, m, k, q) :: ds, by rw [e]; rfl⟩
    obtain ⟨ds, e⟩ := this l h hh
    exact ⟨ds, by rw [e]⟩
theorem get_int {x : AV} (h : PFits tInt x) : ∃ n, x = I n := by cases h with | one h => exact fits_int h
theorem get_ints {x : AV} (h : PFits tInts x) : ∃ xs : List Int, x = .ro false (ic xs) ∧ xs.length * 8 ≤ reachBytes := by cases h with | one h => exact fits_ints h
theorem get_scale {x : AV} (h : PFits tScale x) : ∃ no rate ts, x = sc no rate ts := by
  cases h with
  | agg h =>
    cases h with
    | cons h1 h =>
      cases h with
      | cons h2 h =>
        cases h with
        | cons h3 h =>
          cases h
          obtain ⟨k, rfl⟩ := fits_int h1
          obtain ⟨m, rfl⟩ := fits_int h2
          obtain ⟨ts, rfl⟩ := fits_trows h3
          exact ⟨k, m, ts, rfl⟩
theorem gTab : Tryd.prog.globalNamed "internal/strconv.uint64pow10" = some 0 := by kernel_rfl
theorem gTabType : (Tryd.prog.globals[0]?).map (·.type) = some 165 := by kernel_rfl
def pows : List Int := (List.range 20).map fun i => ((10 ^ i : Nat) : Int)
abbrev laids : List (String × DataW Unit) := [("math/bits.deBruijn32tab", Rows.laid_math_bits_deBruijn32tab), ("math/bits.deBruijn64tab", Rows.laid_math_bits_deBruijn64tab), ("internal/strconv.uint64pow10", Rows.laid_internal_strconv_uint64pow10)]
theorem fxok (W : World) (h : laidMetH Tryd.checked.prog laids W) : Fx.Ok W W.heap.size := by
  have h1 : laidMet Tryd.prog laids W := h
  have h2 := h1.tail.tail
  have h3 : Lib.TabIs Tryd.prog W "internal/strconv.uint64pow10" .u64 pows :=
    Lib.tabIs_of_head (rest := []) gTab gTabType (e := 158) (n := 20) (by kernel_rfl) (by kernel_rfl) (by kernel_rfl) (by kernel_rfl) h2
  unfold Lib.TabIs World.var? at h3
  rw [gTab] at h3
  simp only [Option.bind_some] at h3
  intro g cs hg
  have hg' : (g, cs) = (0, ((List.range 20).map fun i => Value.int .u64 ((10 ^ i : Nat) : Int)).toArray) := List.mem_singleton.1 hg
  cases hg'
  cases hW : W.heap[0]? with
  | none => rw [hW] at h3; simp at h3
  | some o =>
    rw [hW] at h3
    refine ⟨(Array.getElem?_eq_some_iff.1 hW).1, ?_⟩
    cases o with
    | cells c t q =>
      simp only [Option.some.injEq] at h3
      subst h3
      exact ⟨t, q, by simp [pows, List.map_map]⟩
    | _ => simp at h3
def put (cs : Array Value) : Obj → Obj
  | .cells _ t f => .cells cs t f
  | o => o
def nums : DataW Unit → Array Value
  | .agg l => (l.map fun x => match x with | .lit (.int k z) => Value.int k z | _ => .int .i64 0).toArray
  | _ => #[]
/-- A world for the witness: the settled one, the three tables holding what their initialisers lay. -/
noncomputable def laidWorld (os : Os) : World :=
  { World.holding Tryd.prog os ⟨#[], #[], []⟩ with heap := (((World.holding Tryd.prog os ⟨#[], #[], []⟩).heap.modify 0 (put (nums Rows.laid_internal_strconv_uint64pow10))).modify 1 (put (nums Rows.laid_math_bits_deBruijn32tab))).modify 2 (put (nums Rows.laid_math_bits_deBruijn64tab)) }
end Go.Proofs.YtgadlckkmhhmbaaDoor
