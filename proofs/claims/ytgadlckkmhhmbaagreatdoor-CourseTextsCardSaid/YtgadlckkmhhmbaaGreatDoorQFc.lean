/- What the law of texts is handed, as plain data; the world that holds the tables and the errors. -/
import Derived.Test.YtgadlckkmhhmbaaGreatDoorRows
import Derived.Test.YtgadlckkmhhmbaaGreatDoorCards
import Derived.Test.YtgadlckkmhhmbaaGreatDoorTie
import Derived.Test.YtgadlckkmhhmbaaGreatDoorProg
import Derived.Test.YtgadlckkmhhmbaaGreatDoorQFx
import Derived.Test.YtgadlckkmhhmbaaGreatDoorA7
import Derived.Test.YtgadlckkmhhmbaaGreatDoorQC2
import Derived.WalkKit
import Derived.ProofKit
import Derived.OpenShut
import Derived.Deep.DeepHandedRow
import Derived.Lib.LaidTab
import Derived.Stop.LaidErr
import Derived.Shelf.Vars
set_option linter.unusedVariables false
set_option linter.unusedSimpArgs false
set_option linter.unusedSectionVars false
namespace Go.Proofs.YtgadlckkmhhmbaaGreatDoor
open Go.ChangeShapes Go.WideShapes Go.ChangeAt Go.RowKit Go.Awp Go.Grams
set_option linter.unusedSimpArgs false
set_option linter.unusedVariables false
set_option maxRecDepth 100000
theorem own : ownKnob Tryz.prog.godebug = none := by kernel_rfl
theorem laidOut : laidOutB Tryz.prog = true := by kernel_rfl
abbrev tStr : Bool × List Cs := (false, [.str])
abbrev tTest : Bool × List Cs := (true, [.int .i64, .int .i64, .int .i64, .int .i64])
abbrev tSheet : Bool × List Cs := (true, [.int .i64, .int .i64, .int .i64, .int .i64, .int .i64, .int .i64, .int .i64, .int .i64, .sl 40 [.int .i64, .int .i64, .int .i64, .int .i64, .int .i64]])
theorem shapeStr : Awp.shape Tryz.prog 9 = some tStr := by kernel_rfl
theorem shapeTest : Awp.shape Tryz.prog 23 = some tTest := by kernel_rfl
theorem shapeSheet : Awp.shape Tryz.prog 26 = some tSheet := by kernel_rfl
theorem fits_int {x : AV} (h : Fits (.int .i64) x) : ∃ n, x = I n := by
  cases h with
  | int _ n h => exact ⟨n, rfl⟩
theorem fits_krows {x : AV} (h : Fits (.sl 40 [.int .i64, .int .i64, .int .i64, .int .i64, .int .i64]) x) : ∃ ds : List Stk, x = .ro false (krows ds) := by
  cases h with
  | sl _ _ l hl0 hl h hh =>
    have : ∀ l : List (List AV), (∀ row, row ∈ l → row.length = 5) → (∀ row, row ∈ l → ∀ (i : Nat) c y, [Cs.int .i64, .int .i64, .int .i64, .int .i64, .int .i64][i]? = some c → row[i]? = some y → Fits c y) → ∃ ds : List Stk, l = krows ds := by
      intro l
      induction l with
      | nil => intro _ _; exact ⟨[], rfl⟩
      | cons r l ih =>
        intro h hh
        obtain ⟨ds, e⟩ := ih (fun row hr => h row (by simp [hr])) (fun row hr => hh row (by simp [hr]))
        match r, h r (by simp) with
        | [a, b, c, d, f], _ =>
          obtain ⟨n, rfl⟩ := fits_int (hh [a, b, c, d, f] (by simp) 0 _ a rfl rfl)
          obtain ⟨m, rfl⟩ := fits_int (hh [I n, b, c, d, f] (by simp) 1 _ b rfl rfl)
          obtain ⟨k, rfl⟩ := fits_int (hh [I n, I m, c, d, f] (by simp) 2 _ c rfl rfl)
          obtain ⟨q, rfl⟩ := fits_int (hh [I n, I m, I k, d, f] (by simp) 3 _ d rfl rfl)
          obtain ⟨u, rfl⟩ := fits_int (hh [I n, I m, I k, I q, f] (by simp) 4 _ f rfl rfl)
          exact ⟨(n, m, k, q, u) :: ds, by rw [e]; rfl⟩
    obtain ⟨ds, e⟩ := this l h hh
    exact ⟨ds, by rw [e]⟩
theorem get_str {x : AV} (h : PFits tStr x) : ∃ s : ByteArray, x = .str s := by
  cases h with
  | one h => cases h with
    | str s _ => exact ⟨s, rfl⟩
theorem get_test {x : AV} (h : PFits tTest x) : ∃ t : Tst, x = .agg (td t) := by
  cases h with
  | agg h =>
    cases h with
    | cons h1 h =>
      cases h with
      | cons h2 h =>
        cases h with
        | cons h3 h =>
          cases h with
          | cons h4 h =>
            cases h
            obtain ⟨k, rfl⟩ := fits_int h1
            obtain ⟨m, rfl⟩ := fits_int h2
            obtain ⟨c, rfl⟩ := fits_int h3
            obtain ⟨d, rfl⟩ := fits_int h4
            exact ⟨(k, m, c, d), rfl⟩
theorem get_sheet {x : AV} (h : PFits tSheet x) : ∃ s : Sht, x = sh s := by
  cases h with
  | agg h =>
    cases h with
    | cons h1 h =>
    cases h with
    | cons h2 h =>
    cases h with
    | cons h3 h =>
    cases h with
    | cons h4 h =>
    cases h with
    | cons h5 h =>
    cases h with
    | cons h6 h =>
    cases h with
    | cons h7 h =>
    cases h with
    | cons h8 h =>
    cases h with
    | cons h9 h =>
    cases h
    obtain ⟨a, rfl⟩ := fits_int h1
    obtain ⟨b, rfl⟩ := fits_int h2
    obtain ⟨c, rfl⟩ := fits_int h3
    obtain ⟨d, rfl⟩ := fits_int h4
    obtain ⟨e, rfl⟩ := fits_int h5
    obtain ⟨f, rfl⟩ := fits_int h6
    obtain ⟨g, rfl⟩ := fits_int h7
    obtain ⟨i, rfl⟩ := fits_int h8
    obtain ⟨ks, rfl⟩ := fits_krows h9
    exact ⟨⟨a, b, c, d, e, f, g, i, ks⟩, rfl⟩
theorem gTab : Tryz.prog.globalNamed "internal/strconv.uint64pow10" = some 0 := by kernel_rfl
theorem gTabType : (Tryz.prog.globals[0]?).map (·.type) = some 127 := by kernel_rfl
theorem gSyn : Tryz.prog.globalNamed "strconv.ErrSyntax" = some 4 := by kernel_rfl
theorem gSynType : (Tryz.prog.globals[4]?).map (·.type) = some 63 := by kernel_rfl
theorem gRng : Tryz.prog.globalNamed "strconv.ErrRange" = some 5 := by kernel_rfl
theorem gRngType : (Tryz.prog.globals[5]?).map (·.type) = some 63 := by kernel_rfl
theorem star : "*" ++ "errors.errorString" = "*errors.errorString" := by decide
theorem row155 (u : TypeId) (h : Tryz.prog.typeName? 3 u = some "*errors.errorString") : u = 155 :=
  typeName_ptr_named (nm := "errors.errorString") (by rw [star]; kernel_rfl) (by kernel_rfl) (by decide) u (by rw [star]; exact h)
def pows : List Int := (List.range 20).map fun i => ((10 ^ i : Nat) : Int)
abbrev laids : List (String × DataW Unit) := [("math/bits.deBruijn32tab", Rows.laid_math_bits_deBruijn32tab), ("math/bits.deBruijn64tab", Rows.laid_math_bits_deBruijn64tab), ("internal/strconv.uint64pow10", Rows.laid_internal_strconv_uint64pow10), ("unicode/utf8.acceptRanges", Rows.laid_unicode_utf8_acceptRanges), ("strconv.ErrRange", Rows.laid_strconv_ErrRange), ("strconv.ErrSyntax", Rows.laid_strconv_ErrSyntax), ("unicode/utf8.first", Rows.laid_unicode_utf8_first)]
theorem var_heap {W : World} {n : String} {g : Nat} {cs : Array Value} (hg : Tryz.prog.globalNamed n = some g) (h : W.var? Tryz.prog n = some cs) : g < W.heap.size ∧ ∃ t q, W.heap[g]? = some (.cells cs t q) := by
  unfold World.var? at h
  rw [hg] at h
  simp only [Option.bind_some] at h
  cases hW : W.heap[g]? with
  | none => rw [hW] at h; simp at h
  | some o =>
    rw [hW] at h
    refine ⟨(Array.getElem?_eq_some_iff.1 hW).1, ?_⟩
    cases o with
    | cells c t q =>
      simp only [Option.some.injEq] at h
      subst h
      exact ⟨t, q, rfl⟩
    | _ => simp at h
theorem cell_heap {W : World} {g : Nat} {v : Value} (h : W.cell? ⟨g, 0, none⟩ = some v) : g < W.heap.size ∧ ∃ cs t q, W.heap[g]? = some (.cells cs t q) ∧ cs[0]? = some v := by
  unfold World.cell? at h
  cases hW : W.heap[g]? with
  | none => rw [hW] at h; simp at h
  | some o =>
    rw [hW] at h
    refine ⟨(Array.getElem?_eq_some_iff.1 hW).1, ?_⟩
    cases o with
    | cells c t q => exact ⟨c, t, q, rfl, by simpa using h⟩
    | _ => simp at h
theorem fxok (W : World) (h : laidMetH Tryz.checked.prog laids W) (hs : W.ShapedOpen Tryz.checked.prog) : Fx.Ok W W.heap.size := by
  have h1 : laidMet Tryz.prog laids W := h
  have h2 := h1.tail.tail
  have h3 : Lib.TabIs Tryz.prog W "internal/strconv.uint64pow10" .u64 pows :=
    Lib.tabIs_of_head gTab gTabType (e := 115) (n := 20) (by kernel_rfl) (by kernel_rfl) (by kernel_rfl) (by kernel_rfl) h2
  have h5 := h2.tail.tail
  obtain ⟨ar, sr, hr, -⟩ := laid_sentinel (te := 157) (ts := 9) (tp := 155) (ti := 63) h5 gRng gRngType Tryz.underlying63 row155 Tryz.underlying155 Tryz.underlying157 rfl rfl Tryz.underlying9 (by kernel_rfl) (by kernel_rfl)
  obtain ⟨ay, ss, hy, -⟩ := laid_sentinel (te := 157) (ts := 9) (tp := 155) (ti := 63) h5.tail gSyn gSynType Tryz.underlying63 row155 Tryz.underlying155 Tryz.underlying157 rfl rfl Tryz.underlying9 (by kernel_rfl) (by kernel_rfl)
  obtain ⟨m, hm⟩ := cell_of_shapedOpen_int (P := Tryz.prog) (g := 1) (t := 3) (zero := #[.int .i64 0]) hs (of_decide_eq_true (by kernel_rfl)) (by kernel_rfl) rfl (by kernel_rfl) (by kernel_rfl) Tryz.underlying3
  intro g φ hg
  simp only [Fx.tabs, List.mem_cons, List.not_mem_nil, or_false] at hg
  rcases hg with hg | hg | hg | hg
  · cases hg
    obtain ⟨q1, t, q, q2⟩ := var_heap gTab h3
    exact ⟨q1, _, t, q, q2, by simp [pows, powTab, List.map_map]⟩
  · cases hg
    obtain ⟨q1, cs, t, q, q2, q3⟩ := cell_heap hm
    exact ⟨q1, cs, t, q, q2, m, q3⟩
  · cases hg
    obtain ⟨q1, t, q, q2⟩ := var_heap gSyn hy
    exact ⟨q1, _, t, q, q2, _, _, rfl⟩
  · cases hg
    obtain ⟨q1, t, q, q2⟩ := var_heap gRng hr
    exact ⟨q1, _, t, q, q2, _, _, rfl⟩
def put (cs : Array Value) : Obj → Obj
  | .cells _ t f => .cells cs t f
  | o => o
def oneN : DataW Unit → List Value
  | .lit (.int k z) => [Value.int k z]
  | _ => []
def flatN : DataW Unit → Array Value
  | .agg l => (l.flatMap fun x => match x with | .agg m => m.flatMap oneN | y => oneN y).toArray
  | _ => #[]
noncomputable def low : Nat := (World.holding Tryz.prog default ⟨#[], #[], []⟩).heap.size
def rngS : ByteArray := { data := #[118, 97, 108, 117, 101, 32, 111, 117, 116, 32, 111, 102, 32, 114, 97, 110, 103, 101] }
def synS : ByteArray := { data := #[105, 110, 118, 97, 108, 105, 100, 32, 115, 121, 110, 116, 97, 120] }
/-- A world for the witness: the settled one, the tables holding what their initialisers lay. -/
noncomputable def laidWorld (os : Os) : World :=
  let w0 := World.holding Tryz.prog os ⟨#[.cells #[.string rngS] 157, .cells #[.string synS] 157], #[], []⟩
  { w0 with heap := ((((((w0.heap.modify 0 (put (flatN Rows.laid_internal_strconv_uint64pow10))).modify 6 (put (flatN Rows.laid_math_bits_deBruijn32tab))).modify 7 (put (flatN Rows.laid_math_bits_deBruijn64tab))).modify 3 (put (flatN Rows.laid_unicode_utf8_acceptRanges))).modify 2 (put (flatN Rows.laid_unicode_utf8_first))).modify 5 (put #[.iface 155 (.pointer (some ⟨low, 0, none⟩))])).modify 4 (put #[.iface 155 (.pointer (some ⟨low + 1, 0, none⟩))]) }
end Go.Proofs.YtgadlckkmhhmbaaGreatDoor
