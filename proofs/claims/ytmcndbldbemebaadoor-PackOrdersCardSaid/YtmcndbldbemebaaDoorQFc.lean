/- What the laws of packs are handed, as plain data; the world that holds the tables. -/
import Derived.Test.YtmcndbldbemebaaDoorRows
import Derived.Test.YtmcndbldbemebaaDoorCards
import Derived.Test.YtmcndbldbemebaaDoorTie
import Derived.Test.YtmcndbldbemebaaDoorProg
import Derived.Test.YtmcndbldbemebaaDoorQFx
import Derived.Test.YtmcndbldbemebaaDoorA7
import Derived.WalkKit
import Derived.ProofKit
import Derived.OpenShut
import Derived.Deep.DeepHandedRow
import Derived.Lib.LaidTab
import Derived.Stop.LaidErr
set_option linter.unusedVariables false
set_option linter.unusedSimpArgs false
set_option linter.unusedSectionVars false
namespace Go.Proofs.YtmcndbldbemebaaDoor
open Go.ChangeShapes Go.WideShapes Go.ChangeAt Go.RowKit Go.Awp
set_option linter.unusedSimpArgs false
set_option linter.unusedVariables false
set_option maxRecDepth 100000
theorem own : ownKnob Tryd.prog.godebug = none := by kernel_rfl
theorem laidOut : laidOutB Tryd.prog = true := by kernel_rfl
abbrev tInt : Bool × List Cs := (false, [.int .i64])
abbrev tThree : Bool × List Cs := (true, [.int .i64, .int .i64, .int .i64])
abbrev tSteps : Bool × List Cs := (false, [.sl 24 [.int .i64, .int .i64, .int .i64]])
abbrev tPack : Bool × List Cs := (true, [.sl 24 [.int .i64, .int .i64, .int .i64]])
theorem shapeInt : Awp.shape Tryd.prog 3 = some tInt := by kernel_rfl
theorem shapePack : Awp.shape Tryd.prog 24 = some tPack := by kernel_rfl
theorem shapeStep : Awp.shape Tryd.prog 26 = some tThree := by kernel_rfl
theorem shapeLay : Awp.shape Tryd.prog 43 = some tThree := by kernel_rfl
theorem shapeSteps : Awp.shape Tryd.prog 53 = some tSteps := by kernel_rfl
theorem fits_int {x : AV} (h : Fits (.int .i64) x) : ∃ n, x = I n := by
  cases h with
  | int _ n h => exact ⟨n, rfl⟩
theorem fits_rows {x : AV} (h : Fits (.sl 24 [.int .i64, .int .i64, .int .i64]) x) : ∃ ds : List Df, x = .ro false (rows ds) ∧ ds.length * 24 ≤ reachBytes := by
  cases h with
  | sl _ _ l hl0 hl h hh =>
    have : ∀ l : List (List AV), (∀ row, row ∈ l → row.length = 3) → (∀ row, row ∈ l → ∀ (i : Nat) c y, [Cs.int .i64, .int .i64, .int .i64][i]? = some c → row[i]? = some y → Fits c y) → ∃ ds : List Df, l = rows ds := by
      intro l
      induction l with
      | nil => intro _ _; exact ⟨[], rfl⟩
      | cons r l ih =>
        intro h hh
        obtain ⟨ds, e⟩ := ih (fun row hr => h row (by simp [hr])) (fun row hr => hh row (by simp [hr]))
        match r, h r (by simp) with
        | [a, b, c], _ =>
          obtain ⟨n, rfl⟩ := fits_int (hh [a, b, c] (by simp) 0 _ a rfl rfl)
          obtain ⟨m, rfl⟩ := fits_int (hh [I n, b, c] (by simp) 1 _ b rfl rfl)
          obtain ⟨k, rfl⟩ := fits_int (hh [I n, I m, c] (by simp) 2 _ c rfl rfl)
          exact ⟨(n, m, k) :: ds, by rw [e]; rfl⟩
    obtain ⟨ds, e⟩ := this l h hh
    refine ⟨ds, by rw [e], ?_⟩
    rw [e] at hl; simpa [rows] using hl
theorem get_int {x : AV} (h : PFits tInt x) : ∃ n, x = I n := by cases h with | one h => exact fits_int h
theorem get_steps {x : AV} (h : PFits tSteps x) : ∃ ds : List Df, x = .ro false (rows ds) ∧ ds.length * 24 ≤ reachBytes := by cases h with | one h => exact fits_rows h
theorem get_pack {x : AV} (h : PFits tPack x) : ∃ ds : List Df, x = .agg [.ro false (rows ds)] := by
  cases h with
  | agg h =>
    cases h with
    | cons h1 h =>
      cases h
      obtain ⟨ds, rfl, hd⟩ := fits_rows h1
      exact ⟨ds, rfl⟩
theorem get_three {x : AV} (h : PFits tThree x) : ∃ k m c, x = .agg (dc (k, m, c)) := by
  cases h with
  | agg h =>
    cases h with
    | cons h1 h =>
      cases h with
      | cons h2 h =>
        cases h with
        | cons h3 h =>
          cases h
          obtain ⟨k, rfl⟩ := fits_int h1
          obtain ⟨m, rfl⟩ := fits_int h2
          obtain ⟨c, rfl⟩ := fits_int h3
          exact ⟨k, m, c, rfl⟩
theorem gTab : Tryd.prog.globalNamed "internal/strconv.uint64pow10" = some 0 := by kernel_rfl
theorem gTabType : (Tryd.prog.globals[0]?).map (·.type) = some 128 := by kernel_rfl
def pows : List Int := (List.range 20).map fun i => ((10 ^ i : Nat) : Int)
abbrev laids : List (String × DataW Unit) := [("math/bits.deBruijn32tab", Rows.laid_math_bits_deBruijn32tab), ("math/bits.deBruijn64tab", Rows.laid_math_bits_deBruijn64tab), ("internal/strconv.uint64pow10", Rows.laid_internal_strconv_uint64pow10)]
theorem fxok (W : World) (h : laidMetH Tryd.checked.prog laids W) : Fx.Ok W W.heap.size := by
  have h1 : laidMet Tryd.prog laids W := h
  have h2 := h1.tail.tail
  have h3 : Lib.TabIs Tryd.prog W "internal/strconv.uint64pow10" .u64 pows :=
    Lib.tabIs_of_head (rest := []) gTab gTabType (e := 118) (n := 20) (by kernel_rfl) (by kernel_rfl) (by kernel_rfl) (by kernel_rfl) h2
  unfold Lib.TabIs World.var? at h3
  rw [gTab] at h3
  simp only [Option.bind_some] at h3
  intro g cs hg
  have hg' : (g, cs) = (0, ((List.range 20).map fun i => Value.int .u64 ((10 ^ i : Nat) : Int)).toArray) := List.mem_singleton.1 hg
  cases hg'
  cases hW : W.heap[0]? with
  | none => rw [hW] at h3; simp at h3
  | some o =>
    rw [hW] at h3
    refine ⟨(Array.getElem?_eq_some_iff.1 hW).1, ?_⟩
    cases o with
    | cells c t q =>
      simp only [Option.some.injEq] at h3
      subst h3
      exact ⟨t, q, by simp [pows, List.map_map]⟩
    | _ => simp at h3
def put (cs : Array Value) : Obj → Obj
  | .cells _ t f => .cells cs t f
  | o => o
def nums : DataW Unit → Array Value
  | .agg l => (l.map fun x => match x with | .lit (.int k z) => Value.int k z | _ => .int .i64 0).toArray
  | _ => #[]
/-- A world for the witness: the settled one, the three tables holding what their initialisers lay. -/
noncomputable def laidWorld (os : Os) : World :=
  { World.holding Tryd.prog os ⟨#[], #[], []⟩ with heap := (((World.holding Tryd.prog os ⟨#[], #[], []⟩).heap.modify 0 (put (nums Rows.laid_internal_strconv_uint64pow10))).modify 2 (put (nums Rows.laid_math_bits_deBruijn32tab))).modify 3 (put (nums Rows.laid_math_bits_deBruijn64tab)) }
end Go.Proofs.YtmcndbldbemebaaDoor
