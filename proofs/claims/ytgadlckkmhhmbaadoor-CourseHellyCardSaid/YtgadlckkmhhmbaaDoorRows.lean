/-
  NARROWER THAN 'FOR EVERY INPUT', by the rows' own cells (each row's printed sentence says how): CourseScales: laid · CourseDrifts: laid · CourseSheets: laid · CourseHistories: laid · CourseEnds: laid · CourseAdds: laid · CourseLists: laid · CourseStands: laid · CourseHelly: laid.
  DERIVED. THE GIVEN ROWS OF THIS SEAT. 9 by the template 'for every input the law returns true; each argument reads behind the call as it read before'; 0 by the template 'total and deterministic' (their statements: YtgadlckkmhhmbaaDoorTotals.lean).
  GIVEN WITH THE SEED: the statements are not yours to turn. If you find one false, say at which input.
  Laid BY PROGRAM, IN A SANDBOX (cutbox-rows.mjs): the forced cells as the released guide's own fill.sh prints them over the translation 81ee37c42aba9f62… (all of the seat's roots in one cut). By AI agents, Wed Nov 11 2026. No macro, syntax, notation, axiom, sorry.
-/
import Derived.Test.YtgadlckkmhhmbaaDoorChecked
import GoSem.Claim
import GoSem.ClaimJoined
import GoSem.ClaimMapViews
import Derived.JoinedTies
import Derived.KernelRfl
namespace Go.Proofs.YtgadlckkmhhmbaaDoor
/- THE CELL 'sum', in the pinned program and in every row, IS THE sha256 OF THE DUMP (.gsa) THAT YtgadlckkmhhmbaaDoorProg.lean LOADS. Nothing in Lean hashes anything: it is a label: what it is worth is what the hold of that sum in a sandbox is worth. -/
noncomputable def Tryd.pinned : Pinned := { name := "ytgadlckkmhhmbaadoor", sum := "81ee37c42aba9f6243e1921a96a7700e3e5e6db6b24f86bcdb8d27bdc5642434", checked := Tryd.checked }
namespace Rows
def none {H : Type} : Left H := { results := [], args := [] }

/- WHAT THE LISTED PACKAGE-LEVEL VARIABLES READ AS WHEN THE CALL BEGINS. Each datum BY PROGRAM (the guide's laid-datum.mjs) off the statement by which the dump's own 'gosem.cut.vars' lays the variable. In a bare row this is a premise. The card (YtgadlckkmhhmbaaDoorCards.lean) ties it to the program's text. -/
def laid_math_bits_deBruijn32tab {H : Type} : DataW H := .agg [.lit (.int .u8 0), .lit (.int .u8 1), .lit (.int .u8 28), .lit (.int .u8 2), .lit (.int .u8 29), .lit (.int .u8 14), .lit (.int .u8 24), .lit (.int .u8 3), .lit (.int .u8 30), .lit (.int .u8 22), .lit (.int .u8 20), .lit (.int .u8 15), .lit (.int .u8 25), .lit (.int .u8 17), .lit (.int .u8 4), .lit (.int .u8 8), .lit (.int .u8 31), .lit (.int .u8 27), .lit (.int .u8 13), .lit (.int .u8 23), .lit (.int .u8 21), .lit (.int .u8 19), .lit (.int .u8 16), .lit (.int .u8 7), .lit (.int .u8 26), .lit (.int .u8 12), .lit (.int .u8 18), .lit (.int .u8 6), .lit (.int .u8 11), .lit (.int .u8 5), .lit (.int .u8 10), .lit (.int .u8 9)]
def laid_math_bits_deBruijn64tab {H : Type} : DataW H := .agg [.lit (.int .u8 0), .lit (.int .u8 1), .lit (.int .u8 56), .lit (.int .u8 2), .lit (.int .u8 57), .lit (.int .u8 49), .lit (.int .u8 28), .lit (.int .u8 3), .lit (.int .u8 61), .lit (.int .u8 58), .lit (.int .u8 42), .lit (.int .u8 50), .lit (.int .u8 38), .lit (.int .u8 29), .lit (.int .u8 17), .lit (.int .u8 4), .lit (.int .u8 62), .lit (.int .u8 47), .lit (.int .u8 59), .lit (.int .u8 36), .lit (.int .u8 45), .lit (.int .u8 43), .lit (.int .u8 51), .lit (.int .u8 22), .lit (.int .u8 53), .lit (.int .u8 39), .lit (.int .u8 33), .lit (.int .u8 30), .lit (.int .u8 24), .lit (.int .u8 18), .lit (.int .u8 12), .lit (.int .u8 5), .lit (.int .u8 63), .lit (.int .u8 55), .lit (.int .u8 48), .lit (.int .u8 27), .lit (.int .u8 60), .lit (.int .u8 41), .lit (.int .u8 37), .lit (.int .u8 16), .lit (.int .u8 46), .lit (.int .u8 35), .lit (.int .u8 44), .lit (.int .u8 21), .lit (.int .u8 52), .lit (.int .u8 32), .lit (.int .u8 23), .lit (.int .u8 11), .lit (.int .u8 54), .lit (.int .u8 26), .lit (.int .u8 40), .lit (.int .u8 15), .lit (.int .u8 34), .lit (.int .u8 20), .lit (.int .u8 31), .lit (.int .u8 10), .lit (.int .u8 25), .lit (.int .u8 14), .lit (.int .u8 19), .lit (.int .u8 9), .lit (.int .u8 13), .lit (.int .u8 8), .lit (.int .u8 7), .lit (.int .u8 6)]
def laid_internal_strconv_uint64pow10 {H : Type} : DataW H := .agg [.lit (.int .u64 1), .lit (.int .u64 10), .lit (.int .u64 100), .lit (.int .u64 1000), .lit (.int .u64 10000), .lit (.int .u64 100000), .lit (.int .u64 1000000), .lit (.int .u64 10000000), .lit (.int .u64 100000000), .lit (.int .u64 1000000000), .lit (.int .u64 10000000000), .lit (.int .u64 100000000000), .lit (.int .u64 1000000000000), .lit (.int .u64 10000000000000), .lit (.int .u64 100000000000000), .lit (.int .u64 1000000000000000), .lit (.int .u64 10000000000000000), .lit (.int .u64 100000000000000000), .lit (.int .u64 1000000000000000000), .lit (.int .u64 10000000000000000000)]

/-- 'snowlinelaw01.CourseScales': WHATEVER THE INPUT: true; the input reads as it did. -/
def courseScalesSpec : ChangeSpec := { name := "courseScales", fn := fun _ => fun
  | [d1, d2] => { results := [.lit (.bool true)], args := [d1, d2] }
  | _ => none }
def courseScalesRow : OpenClaim := { program := "ytgadlckkmhhmbaadoor", sum := "81ee37c42aba9f6243e1921a96a7700e3e5e6db6b24f86bcdb8d27bdc5642434", func := "snowline/snowlinelaw01.CourseScales", spec := "courseScales", inPlace := ["internal/abi.NoEscape"], unfollowed := true, recurses := true, named := ["internal/strconv.uint64pow10", "math/bits.deBruijn32tab", "math/bits.deBruijn64tab"], apart := false, laid := [("math/bits.deBruijn32tab", laid_math_bits_deBruijn32tab), ("math/bits.deBruijn64tab", laid_math_bits_deBruijn64tab), ("internal/strconv.uint64pow10", laid_internal_strconv_uint64pow10)] }
def CourseScalesSaid : Prop := courseScalesRow.holds Tryd.pinned (OpenSpec.ofChange courseScalesSpec)

/-- ITS FALSE NEIGHBOUR: 'it returns false'. Refute it at one input. -/
def courseScalesWrong : ChangeSpec := { name := "courseScales", fn := fun _ => fun
  | [d1, d2] => { results := [.lit (.bool false)], args := [d1, d2] }
  | _ => none }
def CourseScalesWrongFalsely : Prop := courseScalesRow.holds Tryd.pinned (OpenSpec.ofChange courseScalesWrong)

/-- 'snowlinelaw01.CourseDrifts': WHATEVER THE INPUT: true; the input reads as it did. -/
def courseDriftsSpec : ChangeSpec := { name := "courseDrifts", fn := fun _ => fun
  | [d1, d2] => { results := [.lit (.bool true)], args := [d1, d2] }
  | _ => none }
def courseDriftsRow : OpenClaim := { program := "ytgadlckkmhhmbaadoor", sum := "81ee37c42aba9f6243e1921a96a7700e3e5e6db6b24f86bcdb8d27bdc5642434", func := "snowline/snowlinelaw01.CourseDrifts", spec := "courseDrifts", inPlace := ["internal/abi.NoEscape"], unfollowed := true, recurses := true, named := ["internal/strconv.uint64pow10", "math/bits.deBruijn32tab", "math/bits.deBruijn64tab"], apart := false, laid := [("math/bits.deBruijn32tab", laid_math_bits_deBruijn32tab), ("math/bits.deBruijn64tab", laid_math_bits_deBruijn64tab), ("internal/strconv.uint64pow10", laid_internal_strconv_uint64pow10)] }
def CourseDriftsSaid : Prop := courseDriftsRow.holds Tryd.pinned (OpenSpec.ofChange courseDriftsSpec)

/-- ITS FALSE NEIGHBOUR: 'it returns false'. Refute it at one input. -/
def courseDriftsWrong : ChangeSpec := { name := "courseDrifts", fn := fun _ => fun
  | [d1, d2] => { results := [.lit (.bool false)], args := [d1, d2] }
  | _ => none }
def CourseDriftsWrongFalsely : Prop := courseDriftsRow.holds Tryd.pinned (OpenSpec.ofChange courseDriftsWrong)

/-- 'snowlinelaw01.CourseSheets': WHATEVER THE INPUT: true; the input reads as it did. -/
def courseSheetsSpec : ChangeSpec := { name := "courseSheets", fn := fun _ => fun
  | [d1, d2, d3, d4] => { results := [.lit (.bool true)], args := [d1, d2, d3, d4] }
  | _ => none }
def courseSheetsRow : OpenClaim := { program := "ytgadlckkmhhmbaadoor", sum := "81ee37c42aba9f6243e1921a96a7700e3e5e6db6b24f86bcdb8d27bdc5642434", func := "snowline/snowlinelaw01.CourseSheets", spec := "courseSheets", inPlace := ["internal/abi.NoEscape"], unfollowed := true, recurses := true, named := ["internal/strconv.uint64pow10", "math/bits.deBruijn32tab", "math/bits.deBruijn64tab"], apart := false, laid := [("math/bits.deBruijn32tab", laid_math_bits_deBruijn32tab), ("math/bits.deBruijn64tab", laid_math_bits_deBruijn64tab), ("internal/strconv.uint64pow10", laid_internal_strconv_uint64pow10)] }
def CourseSheetsSaid : Prop := courseSheetsRow.holds Tryd.pinned (OpenSpec.ofChange courseSheetsSpec)

/-- ITS FALSE NEIGHBOUR: 'it returns false'. Refute it at one input. -/
def courseSheetsWrong : ChangeSpec := { name := "courseSheets", fn := fun _ => fun
  | [d1, d2, d3, d4] => { results := [.lit (.bool false)], args := [d1, d2, d3, d4] }
  | _ => none }
def CourseSheetsWrongFalsely : Prop := courseSheetsRow.holds Tryd.pinned (OpenSpec.ofChange courseSheetsWrong)

/-- 'snowlinelaw01.CourseHistories': WHATEVER THE INPUT: true; the input reads as it did. -/
def courseHistoriesSpec : ChangeSpec := { name := "courseHistories", fn := fun _ => fun
  | [d1, d2, d3, d4, d5] => { results := [.lit (.bool true)], args := [d1, d2, d3, d4, d5] }
  | _ => none }
def courseHistoriesRow : OpenClaim := { program := "ytgadlckkmhhmbaadoor", sum := "81ee37c42aba9f6243e1921a96a7700e3e5e6db6b24f86bcdb8d27bdc5642434", func := "snowline/snowlinelaw01.CourseHistories", spec := "courseHistories", inPlace := ["internal/abi.NoEscape"], unfollowed := true, recurses := true, named := ["internal/strconv.uint64pow10", "math/bits.deBruijn32tab", "math/bits.deBruijn64tab"], apart := false, laid := [("math/bits.deBruijn32tab", laid_math_bits_deBruijn32tab), ("math/bits.deBruijn64tab", laid_math_bits_deBruijn64tab), ("internal/strconv.uint64pow10", laid_internal_strconv_uint64pow10)] }
def CourseHistoriesSaid : Prop := courseHistoriesRow.holds Tryd.pinned (OpenSpec.ofChange courseHistoriesSpec)

/-- ITS FALSE NEIGHBOUR: 'it returns false'. Refute it at one input. -/
def courseHistoriesWrong : ChangeSpec := { name := "courseHistories", fn := fun _ => fun
  | [d1, d2, d3, d4, d5] => { results := [.lit (.bool false)], args := [d1, d2, d3, d4, d5] }
  | _ => none }
def CourseHistoriesWrongFalsely : Prop := courseHistoriesRow.holds Tryd.pinned (OpenSpec.ofChange courseHistoriesWrong)

/-- 'snowlinelaw01.CourseEnds': WHATEVER THE INPUT: true; the input reads as it did. -/
def courseEndsSpec : ChangeSpec := { name := "courseEnds", fn := fun _ => fun
  | [d1, d2, d3, d4, d5, d6] => { results := [.lit (.bool true)], args := [d1, d2, d3, d4, d5, d6] }
  | _ => none }
def courseEndsRow : OpenClaim := { program := "ytgadlckkmhhmbaadoor", sum := "81ee37c42aba9f6243e1921a96a7700e3e5e6db6b24f86bcdb8d27bdc5642434", func := "snowline/snowlinelaw01.CourseEnds", spec := "courseEnds", inPlace := ["internal/abi.NoEscape"], unfollowed := true, recurses := true, named := ["internal/strconv.uint64pow10", "math/bits.deBruijn32tab", "math/bits.deBruijn64tab"], apart := false, laid := [("math/bits.deBruijn32tab", laid_math_bits_deBruijn32tab), ("math/bits.deBruijn64tab", laid_math_bits_deBruijn64tab), ("internal/strconv.uint64pow10", laid_internal_strconv_uint64pow10)] }
def CourseEndsSaid : Prop := courseEndsRow.holds Tryd.pinned (OpenSpec.ofChange courseEndsSpec)

/-- ITS FALSE NEIGHBOUR: 'it returns false'. Refute it at one input. -/
def courseEndsWrong : ChangeSpec := { name := "courseEnds", fn := fun _ => fun
  | [d1, d2, d3, d4, d5, d6] => { results := [.lit (.bool false)], args := [d1, d2, d3, d4, d5, d6] }
  | _ => none }
def CourseEndsWrongFalsely : Prop := courseEndsRow.holds Tryd.pinned (OpenSpec.ofChange courseEndsWrong)

/-- 'snowlinelaw01.CourseAdds': WHATEVER THE INPUT: true; the input reads as it did. -/
def courseAddsSpec : ChangeSpec := { name := "courseAdds", fn := fun _ => fun
  | [d1, d2, d3, d4] => { results := [.lit (.bool true)], args := [d1, d2, d3, d4] }
  | _ => none }
def courseAddsRow : OpenClaim := { program := "ytgadlckkmhhmbaadoor", sum := "81ee37c42aba9f6243e1921a96a7700e3e5e6db6b24f86bcdb8d27bdc5642434", func := "snowline/snowlinelaw01.CourseAdds", spec := "courseAdds", inPlace := ["internal/abi.NoEscape"], unfollowed := true, recurses := true, named := ["internal/strconv.uint64pow10", "math/bits.deBruijn32tab", "math/bits.deBruijn64tab"], apart := false, laid := [("math/bits.deBruijn32tab", laid_math_bits_deBruijn32tab), ("math/bits.deBruijn64tab", laid_math_bits_deBruijn64tab), ("internal/strconv.uint64pow10", laid_internal_strconv_uint64pow10)] }
def CourseAddsSaid : Prop := courseAddsRow.holds Tryd.pinned (OpenSpec.ofChange courseAddsSpec)

/-- ITS FALSE NEIGHBOUR: 'it returns false'. Refute it at one input. -/
def courseAddsWrong : ChangeSpec := { name := "courseAdds", fn := fun _ => fun
  | [d1, d2, d3, d4] => { results := [.lit (.bool false)], args := [d1, d2, d3, d4] }
  | _ => none }
def CourseAddsWrongFalsely : Prop := courseAddsRow.holds Tryd.pinned (OpenSpec.ofChange courseAddsWrong)

/-- 'snowlinelaw01.CourseLists': WHATEVER THE INPUT: true; the input reads as it did. -/
def courseListsSpec : ChangeSpec := { name := "courseLists", fn := fun _ => fun
  | [d1, d2, d3, d4] => { results := [.lit (.bool true)], args := [d1, d2, d3, d4] }
  | _ => none }
def courseListsRow : OpenClaim := { program := "ytgadlckkmhhmbaadoor", sum := "81ee37c42aba9f6243e1921a96a7700e3e5e6db6b24f86bcdb8d27bdc5642434", func := "snowline/snowlinelaw01.CourseLists", spec := "courseLists", inPlace := ["internal/abi.NoEscape"], unfollowed := true, recurses := true, named := ["internal/strconv.uint64pow10", "math/bits.deBruijn32tab", "math/bits.deBruijn64tab"], apart := false, laid := [("math/bits.deBruijn32tab", laid_math_bits_deBruijn32tab), ("math/bits.deBruijn64tab", laid_math_bits_deBruijn64tab), ("internal/strconv.uint64pow10", laid_internal_strconv_uint64pow10)] }
def CourseListsSaid : Prop := courseListsRow.holds Tryd.pinned (OpenSpec.ofChange courseListsSpec)

/-- ITS FALSE NEIGHBOUR: 'it returns false'. Refute it at one input. -/
def courseListsWrong : ChangeSpec := { name := "courseLists", fn := fun _ => fun
  | [d1, d2, d3, d4] => { results := [.lit (.bool false)], args := [d1, d2, d3, d4] }
  | _ => none }
def CourseListsWrongFalsely : Prop := courseListsRow.holds Tryd.pinned (OpenSpec.ofChange courseListsWrong)

/-- 'snowlinelaw01.CourseStands': WHATEVER THE INPUT: true; the input reads as it did. -/
def courseStandsSpec : ChangeSpec := { name := "courseStands", fn := fun _ => fun
  | [d1, d2, d3, d4, d5] => { results := [.lit (.bool true)], args := [d1, d2, d3, d4, d5] }
  | _ => none }
def courseStandsRow : OpenClaim := { program := "ytgadlckkmhhmbaadoor", sum := "81ee37c42aba9f6243e1921a96a7700e3e5e6db6b24f86bcdb8d27bdc5642434", func := "snowline/snowlinelaw01.CourseStands", spec := "courseStands", inPlace := ["internal/abi.NoEscape"], unfollowed := true, recurses := true, named := ["internal/strconv.uint64pow10", "math/bits.deBruijn32tab", "math/bits.deBruijn64tab"], apart := false, laid := [("math/bits.deBruijn32tab", laid_math_bits_deBruijn32tab), ("math/bits.deBruijn64tab", laid_math_bits_deBruijn64tab), ("internal/strconv.uint64pow10", laid_internal_strconv_uint64pow10)] }
def CourseStandsSaid : Prop := courseStandsRow.holds Tryd.pinned (OpenSpec.ofChange courseStandsSpec)

/-- ITS FALSE NEIGHBOUR: 'it returns false'. Refute it at one input. -/
def courseStandsWrong : ChangeSpec := { name := "courseStands", fn := fun _ => fun
  | [d1, d2, d3, d4, d5] => { results := [.lit (.bool false)], args := [d1, d2, d3, d4, d5] }
  | _ => none }
def CourseStandsWrongFalsely : Prop := courseStandsRow.holds Tryd.pinned (OpenSpec.ofChange courseStandsWrong)

/-- 'snowlinelaw01.CourseHelly': WHATEVER THE INPUT: true; the input reads as it did. -/
def courseHellySpec : ChangeSpec := { name := "courseHelly", fn := fun _ => fun
  | [d1, d2, d3, d4, d5] => { results := [.lit (.bool true)], args := [d1, d2, d3, d4, d5] }
  | _ => none }
def courseHellyRow : OpenClaim := { program := "ytgadlckkmhhmbaadoor", sum := "81ee37c42aba9f6243e1921a96a7700e3e5e6db6b24f86bcdb8d27bdc5642434", func := "snowline/snowlinelaw01.CourseHelly", spec := "courseHelly", inPlace := ["internal/abi.NoEscape", "slices.overlaps[int]"], unfollowed := true, recurses := true, named := ["internal/strconv.uint64pow10", "math/bits.deBruijn32tab", "math/bits.deBruijn64tab"], apart := false, laid := [("math/bits.deBruijn32tab", laid_math_bits_deBruijn32tab), ("math/bits.deBruijn64tab", laid_math_bits_deBruijn64tab), ("internal/strconv.uint64pow10", laid_internal_strconv_uint64pow10)] }
def CourseHellySaid : Prop := courseHellyRow.holds Tryd.pinned (OpenSpec.ofChange courseHellySpec)

/-- ITS FALSE NEIGHBOUR: 'it returns false'. Refute it at one input. -/
def courseHellyWrong : ChangeSpec := { name := "courseHelly", fn := fun _ => fun
  | [d1, d2, d3, d4, d5] => { results := [.lit (.bool false)], args := [d1, d2, d3, d4, d5] }
  | _ => none }
def CourseHellyWrongFalsely : Prop := courseHellyRow.holds Tryd.pinned (OpenSpec.ofChange courseHellyWrong)

/- THE SECOND FORM. 'bulk': how many values and letters a reading holds, each counted each time it is reached (what is shared counts as often as it is met; a slice's spare places count too). A statement '..UptoSaid' is the law's where the arguments, and the package variables that the reading takes, are together of bulk at most 1048576: NARROWER than '..Said'. Prove '..Said' where nothing that the law and all that it calls make is longer than what came in: it says more and counts as full. Else prove '..UptoSaid'. A law counts once. -/
mutual
def uptoBulk {H : Type} : DataW H → Nat
  | .lit (.string bytes) => bytes.length + 1
  | .lit _ => 1
  | .nil => 1
  | .ptr d => uptoBulk d + 1
  | .slice elems spare => uptoBulkAll elems + uptoBulkAll spare + 1
  | .agg parts => uptoBulkAll parts + 1
  | .iface _ d => uptoBulk d + 1
  | .map entries => uptoBulkEntries entries + 1
  | .held _ => 1
def uptoBulkAll {H : Type} : List (DataW H) → Nat
  | [] => 0
  | d :: r => uptoBulk d + uptoBulkAll r
def uptoBulkEntries {H : Type} : List (Lit × DataW H) → Nat
  | [] => 0
  | x :: r => uptoBulkEntry x + uptoBulkEntries r
def uptoBulkEntry {H : Type} : Lit × DataW H → Nat
  | (.string bytes, d) => bytes.length + uptoBulk d + 1
  | (_, d) => uptoBulk d + 1
 end
def uptoSmall : (H : Type) → List (DataW H) → Bool := fun _ ds => decide (uptoBulkAll ds ≤ 1048576)
def OpenSpec.upto (s : _root_.Go.ChangeSpec) : _root_.Go.OpenSpec := { _root_.Go.OpenSpec.ofChange s with cond := some uptoSmall }

/-- 'snowlinelaw01.CourseScales', WHERE WHAT IT READS IS OF BULK AT MOST 1048576: true; the input reads as it did. -/
def courseScalesUptoRow : OpenClaim := { program := "ytgadlckkmhhmbaadoor", sum := "81ee37c42aba9f6243e1921a96a7700e3e5e6db6b24f86bcdb8d27bdc5642434", func := "snowline/snowlinelaw01.CourseScales", spec := "courseScales", inPlace := ["internal/abi.NoEscape"], unfollowed := true, recurses := true, named := ["internal/strconv.uint64pow10", "math/bits.deBruijn32tab", "math/bits.deBruijn64tab"], apart := false, laid := [("math/bits.deBruijn32tab", laid_math_bits_deBruijn32tab), ("math/bits.deBruijn64tab", laid_math_bits_deBruijn64tab), ("internal/strconv.uint64pow10", laid_internal_strconv_uint64pow10)], narrowed := true }
def CourseScalesUptoSaid : Prop := courseScalesUptoRow.holds Tryd.pinned (OpenSpec.upto courseScalesSpec)

/-- 'snowlinelaw01.CourseDrifts', WHERE WHAT IT READS IS OF BULK AT MOST 1048576: true; the input reads as it did. -/
def courseDriftsUptoRow : OpenClaim := { program := "ytgadlckkmhhmbaadoor", sum := "81ee37c42aba9f6243e1921a96a7700e3e5e6db6b24f86bcdb8d27bdc5642434", func := "snowline/snowlinelaw01.CourseDrifts", spec := "courseDrifts", inPlace := ["internal/abi.NoEscape"], unfollowed := true, recurses := true, named := ["internal/strconv.uint64pow10", "math/bits.deBruijn32tab", "math/bits.deBruijn64tab"], apart := false, laid := [("math/bits.deBruijn32tab", laid_math_bits_deBruijn32tab), ("math/bits.deBruijn64tab", laid_math_bits_deBruijn64tab), ("internal/strconv.uint64pow10", laid_internal_strconv_uint64pow10)], narrowed := true }
def CourseDriftsUptoSaid : Prop := courseDriftsUptoRow.holds Tryd.pinned (OpenSpec.upto courseDriftsSpec)

/-- 'snowlinelaw01.CourseSheets', WHERE WHAT IT READS IS OF BULK AT MOST 1048576: true; the input reads as it did. -/
def courseSheetsUptoRow : OpenClaim := { program := "ytgadlckkmhhmbaadoor", sum := "81ee37c42aba9f6243e1921a96a7700e3e5e6db6b24f86bcdb8d27bdc5642434", func := "snowline/snowlinelaw01.CourseSheets", spec := "courseSheets", inPlace := ["internal/abi.NoEscape"], unfollowed := true, recurses := true, named := ["internal/strconv.uint64pow10", "math/bits.deBruijn32tab", "math/bits.deBruijn64tab"], apart := false, laid := [("math/bits.deBruijn32tab", laid_math_bits_deBruijn32tab), ("math/bits.deBruijn64tab", laid_math_bits_deBruijn64tab), ("internal/strconv.uint64pow10", laid_internal_strconv_uint64pow10)], narrowed := true }
def CourseSheetsUptoSaid : Prop := courseSheetsUptoRow.holds Tryd.pinned (OpenSpec.upto courseSheetsSpec)

/-- 'snowlinelaw01.CourseHistories', WHERE WHAT IT READS IS OF BULK AT MOST 1048576: true; the input reads as it did. -/
def courseHistoriesUptoRow : OpenClaim := { program := "ytgadlckkmhhmbaadoor", sum := "81ee37c42aba9f6243e1921a96a7700e3e5e6db6b24f86bcdb8d27bdc5642434", func := "snowline/snowlinelaw01.CourseHistories", spec := "courseHistories", inPlace := ["internal/abi.NoEscape"], unfollowed := true, recurses := true, named := ["internal/strconv.uint64pow10", "math/bits.deBruijn32tab", "math/bits.deBruijn64tab"], apart := false, laid := [("math/bits.deBruijn32tab", laid_math_bits_deBruijn32tab), ("math/bits.deBruijn64tab", laid_math_bits_deBruijn64tab), ("internal/strconv.uint64pow10", laid_internal_strconv_uint64pow10)], narrowed := true }
def CourseHistoriesUptoSaid : Prop := courseHistoriesUptoRow.holds Tryd.pinned (OpenSpec.upto courseHistoriesSpec)

/-- 'snowlinelaw01.CourseEnds', WHERE WHAT IT READS IS OF BULK AT MOST 1048576: true; the input reads as it did. -/
def courseEndsUptoRow : OpenClaim := { program := "ytgadlckkmhhmbaadoor", sum := "81ee37c42aba9f6243e1921a96a7700e3e5e6db6b24f86bcdb8d27bdc5642434", func := "snowline/snowlinelaw01.CourseEnds", spec := "courseEnds", inPlace := ["internal/abi.NoEscape"], unfollowed := true, recurses := true, named := ["internal/strconv.uint64pow10", "math/bits.deBruijn32tab", "math/bits.deBruijn64tab"], apart := false, laid := [("math/bits.deBruijn32tab", laid_math_bits_deBruijn32tab), ("math/bits.deBruijn64tab", laid_math_bits_deBruijn64tab), ("internal/strconv.uint64pow10", laid_internal_strconv_uint64pow10)], narrowed := true }
def CourseEndsUptoSaid : Prop := courseEndsUptoRow.holds Tryd.pinned (OpenSpec.upto courseEndsSpec)

/-- 'snowlinelaw01.CourseAdds', WHERE WHAT IT READS IS OF BULK AT MOST 1048576: true; the input reads as it did. -/
def courseAddsUptoRow : OpenClaim := { program := "ytgadlckkmhhmbaadoor", sum := "81ee37c42aba9f6243e1921a96a7700e3e5e6db6b24f86bcdb8d27bdc5642434", func := "snowline/snowlinelaw01.CourseAdds", spec := "courseAdds", inPlace := ["internal/abi.NoEscape"], unfollowed := true, recurses := true, named := ["internal/strconv.uint64pow10", "math/bits.deBruijn32tab", "math/bits.deBruijn64tab"], apart := false, laid := [("math/bits.deBruijn32tab", laid_math_bits_deBruijn32tab), ("math/bits.deBruijn64tab", laid_math_bits_deBruijn64tab), ("internal/strconv.uint64pow10", laid_internal_strconv_uint64pow10)], narrowed := true }
def CourseAddsUptoSaid : Prop := courseAddsUptoRow.holds Tryd.pinned (OpenSpec.upto courseAddsSpec)

/-- 'snowlinelaw01.CourseLists', WHERE WHAT IT READS IS OF BULK AT MOST 1048576: true; the input reads as it did. -/
def courseListsUptoRow : OpenClaim := { program := "ytgadlckkmhhmbaadoor", sum := "81ee37c42aba9f6243e1921a96a7700e3e5e6db6b24f86bcdb8d27bdc5642434", func := "snowline/snowlinelaw01.CourseLists", spec := "courseLists", inPlace := ["internal/abi.NoEscape"], unfollowed := true, recurses := true, named := ["internal/strconv.uint64pow10", "math/bits.deBruijn32tab", "math/bits.deBruijn64tab"], apart := false, laid := [("math/bits.deBruijn32tab", laid_math_bits_deBruijn32tab), ("math/bits.deBruijn64tab", laid_math_bits_deBruijn64tab), ("internal/strconv.uint64pow10", laid_internal_strconv_uint64pow10)], narrowed := true }
def CourseListsUptoSaid : Prop := courseListsUptoRow.holds Tryd.pinned (OpenSpec.upto courseListsSpec)

/-- 'snowlinelaw01.CourseStands', WHERE WHAT IT READS IS OF BULK AT MOST 1048576: true; the input reads as it did. -/
def courseStandsUptoRow : OpenClaim := { program := "ytgadlckkmhhmbaadoor", sum := "81ee37c42aba9f6243e1921a96a7700e3e5e6db6b24f86bcdb8d27bdc5642434", func := "snowline/snowlinelaw01.CourseStands", spec := "courseStands", inPlace := ["internal/abi.NoEscape"], unfollowed := true, recurses := true, named := ["internal/strconv.uint64pow10", "math/bits.deBruijn32tab", "math/bits.deBruijn64tab"], apart := false, laid := [("math/bits.deBruijn32tab", laid_math_bits_deBruijn32tab), ("math/bits.deBruijn64tab", laid_math_bits_deBruijn64tab), ("internal/strconv.uint64pow10", laid_internal_strconv_uint64pow10)], narrowed := true }
def CourseStandsUptoSaid : Prop := courseStandsUptoRow.holds Tryd.pinned (OpenSpec.upto courseStandsSpec)

/-- 'snowlinelaw01.CourseHelly', WHERE WHAT IT READS IS OF BULK AT MOST 1048576: true; the input reads as it did. -/
def courseHellyUptoRow : OpenClaim := { program := "ytgadlckkmhhmbaadoor", sum := "81ee37c42aba9f6243e1921a96a7700e3e5e6db6b24f86bcdb8d27bdc5642434", func := "snowline/snowlinelaw01.CourseHelly", spec := "courseHelly", inPlace := ["internal/abi.NoEscape", "slices.overlaps[int]"], unfollowed := true, recurses := true, named := ["internal/strconv.uint64pow10", "math/bits.deBruijn32tab", "math/bits.deBruijn64tab"], apart := false, laid := [("math/bits.deBruijn32tab", laid_math_bits_deBruijn32tab), ("math/bits.deBruijn64tab", laid_math_bits_deBruijn64tab), ("internal/strconv.uint64pow10", laid_internal_strconv_uint64pow10)], narrowed := true }
def CourseHellyUptoSaid : Prop := courseHellyUptoRow.holds Tryd.pinned (OpenSpec.upto courseHellySpec)

end Rows
end Go.Proofs.YtgadlckkmhhmbaaDoor
