/-
  NARROWER THAN 'FOR EVERY INPUT', by the rows' own cells (each row's printed sentence says how): PackApplies: laid · PackConserved: laid · PackParts: laid · PackReady: laid · PackJoined: laid · PackBreaks: laid · PackSlopes: laid · PackChecks: laid · PackRuns: laid · PackRun: laid · PackDrift: laid · PackReadies: laid · PackYields: laid · PackLess: laid · PackOrders: laid.
  DERIVED. THE GIVEN ROWS OF THIS SEAT. 15 by the template 'for every input the law returns true; each argument reads behind the call as it read before'; 0 by the template 'total and deterministic' (their statements: YtmcndbldbemebaaDoorTotals.lean).
  GIVEN WITH THE SEED: the statements are not yours to turn. If you find one false, say at which input.
  Laid BY PROGRAM, IN A SANDBOX (cutbox-rows.mjs): the forced cells as the released guide's own fill.sh prints them over the translation bbefe9d9c3ad2bdb… (all of the seat's roots in one cut). By AI agents, Wed Nov 11 2026. No macro, syntax, notation, axiom, sorry.
-/
import Derived.Test.YtmcndbldbemebaaDoorChecked
import GoSem.Claim
import GoSem.ClaimJoined
import GoSem.ClaimMapViews
import Derived.JoinedTies
import Derived.KernelRfl
namespace Go.Proofs.YtmcndbldbemebaaDoor
/- THE CELL 'sum', in the pinned program and in every row, IS THE sha256 OF THE DUMP (.gsa) THAT YtmcndbldbemebaaDoorProg.lean LOADS. Nothing in Lean hashes anything: it is a label: what it is worth is what the hold of that sum in a sandbox is worth. -/
noncomputable def Tryd.pinned : Pinned := { name := "ytmcndbldbemebaadoor", sum := "bbefe9d9c3ad2bdb9874e945a92e116a085093e782c3e3588347112a5f3a5a57", checked := Tryd.checked }
namespace Rows
def none {H : Type} : Left H := { results := [], args := [] }

/- WHAT THE LISTED PACKAGE-LEVEL VARIABLES READ AS WHEN THE CALL BEGINS. Each datum BY PROGRAM (the guide's laid-datum.mjs) off the statement by which the dump's own 'gosem.cut.vars' lays the variable. In a bare row this is a premise. The card (YtmcndbldbemebaaDoorCards.lean) ties it to the program's text. -/
def laid_math_bits_deBruijn32tab {H : Type} : DataW H := .agg [.lit (.int .u8 0), .lit (.int .u8 1), .lit (.int .u8 28), .lit (.int .u8 2), .lit (.int .u8 29), .lit (.int .u8 14), .lit (.int .u8 24), .lit (.int .u8 3), .lit (.int .u8 30), .lit (.int .u8 22), .lit (.int .u8 20), .lit (.int .u8 15), .lit (.int .u8 25), .lit (.int .u8 17), .lit (.int .u8 4), .lit (.int .u8 8), .lit (.int .u8 31), .lit (.int .u8 27), .lit (.int .u8 13), .lit (.int .u8 23), .lit (.int .u8 21), .lit (.int .u8 19), .lit (.int .u8 16), .lit (.int .u8 7), .lit (.int .u8 26), .lit (.int .u8 12), .lit (.int .u8 18), .lit (.int .u8 6), .lit (.int .u8 11), .lit (.int .u8 5), .lit (.int .u8 10), .lit (.int .u8 9)]
def laid_math_bits_deBruijn64tab {H : Type} : DataW H := .agg [.lit (.int .u8 0), .lit (.int .u8 1), .lit (.int .u8 56), .lit (.int .u8 2), .lit (.int .u8 57), .lit (.int .u8 49), .lit (.int .u8 28), .lit (.int .u8 3), .lit (.int .u8 61), .lit (.int .u8 58), .lit (.int .u8 42), .lit (.int .u8 50), .lit (.int .u8 38), .lit (.int .u8 29), .lit (.int .u8 17), .lit (.int .u8 4), .lit (.int .u8 62), .lit (.int .u8 47), .lit (.int .u8 59), .lit (.int .u8 36), .lit (.int .u8 45), .lit (.int .u8 43), .lit (.int .u8 51), .lit (.int .u8 22), .lit (.int .u8 53), .lit (.int .u8 39), .lit (.int .u8 33), .lit (.int .u8 30), .lit (.int .u8 24), .lit (.int .u8 18), .lit (.int .u8 12), .lit (.int .u8 5), .lit (.int .u8 63), .lit (.int .u8 55), .lit (.int .u8 48), .lit (.int .u8 27), .lit (.int .u8 60), .lit (.int .u8 41), .lit (.int .u8 37), .lit (.int .u8 16), .lit (.int .u8 46), .lit (.int .u8 35), .lit (.int .u8 44), .lit (.int .u8 21), .lit (.int .u8 52), .lit (.int .u8 32), .lit (.int .u8 23), .lit (.int .u8 11), .lit (.int .u8 54), .lit (.int .u8 26), .lit (.int .u8 40), .lit (.int .u8 15), .lit (.int .u8 34), .lit (.int .u8 20), .lit (.int .u8 31), .lit (.int .u8 10), .lit (.int .u8 25), .lit (.int .u8 14), .lit (.int .u8 19), .lit (.int .u8 9), .lit (.int .u8 13), .lit (.int .u8 8), .lit (.int .u8 7), .lit (.int .u8 6)]
def laid_internal_strconv_uint64pow10 {H : Type} : DataW H := .agg [.lit (.int .u64 1), .lit (.int .u64 10), .lit (.int .u64 100), .lit (.int .u64 1000), .lit (.int .u64 10000), .lit (.int .u64 100000), .lit (.int .u64 1000000), .lit (.int .u64 10000000), .lit (.int .u64 100000000), .lit (.int .u64 1000000000), .lit (.int .u64 10000000000), .lit (.int .u64 100000000000), .lit (.int .u64 1000000000000), .lit (.int .u64 10000000000000), .lit (.int .u64 100000000000000), .lit (.int .u64 1000000000000000), .lit (.int .u64 10000000000000000), .lit (.int .u64 100000000000000000), .lit (.int .u64 1000000000000000000), .lit (.int .u64 10000000000000000000)]

/-- 'snowlinelaw02.PackApplies': WHATEVER THE INPUT: true; the input reads as it did. -/
def packAppliesSpec : ChangeSpec := { name := "packApplies", fn := fun _ => fun
  | [d1, d2] => { results := [.lit (.bool true)], args := [d1, d2] }
  | _ => none }
def packAppliesRow : OpenClaim := { program := "ytmcndbldbemebaadoor", sum := "bbefe9d9c3ad2bdb9874e945a92e116a085093e782c3e3588347112a5f3a5a57", func := "snowline/snowlinelaw02.PackApplies", spec := "packApplies", inPlace := ["internal/abi.NoEscape", "internal/bytealg.MakeNoZero"], unfollowed := true, recurses := true, named := ["internal/strconv.uint64pow10", "math/bits.deBruijn32tab", "math/bits.deBruijn64tab"], apart := false, laid := [("math/bits.deBruijn32tab", laid_math_bits_deBruijn32tab), ("math/bits.deBruijn64tab", laid_math_bits_deBruijn64tab), ("internal/strconv.uint64pow10", laid_internal_strconv_uint64pow10)] }
def PackAppliesSaid : Prop := packAppliesRow.holds Tryd.pinned (OpenSpec.ofChange packAppliesSpec)

/-- ITS FALSE NEIGHBOUR: 'it returns false'. Refute it at one input. -/
def packAppliesWrong : ChangeSpec := { name := "packApplies", fn := fun _ => fun
  | [d1, d2] => { results := [.lit (.bool false)], args := [d1, d2] }
  | _ => none }
def PackAppliesWrongFalsely : Prop := packAppliesRow.holds Tryd.pinned (OpenSpec.ofChange packAppliesWrong)

/-- 'snowlinelaw02.PackConserved': WHATEVER THE INPUT: true; the input reads as it did. -/
def packConservedSpec : ChangeSpec := { name := "packConserved", fn := fun _ => fun
  | [d1, d2] => { results := [.lit (.bool true)], args := [d1, d2] }
  | _ => none }
def packConservedRow : OpenClaim := { program := "ytmcndbldbemebaadoor", sum := "bbefe9d9c3ad2bdb9874e945a92e116a085093e782c3e3588347112a5f3a5a57", func := "snowline/snowlinelaw02.PackConserved", spec := "packConserved", inPlace := ["internal/abi.NoEscape", "internal/bytealg.MakeNoZero"], unfollowed := true, recurses := true, named := ["internal/strconv.uint64pow10", "math/bits.deBruijn32tab", "math/bits.deBruijn64tab"], apart := false, laid := [("math/bits.deBruijn32tab", laid_math_bits_deBruijn32tab), ("math/bits.deBruijn64tab", laid_math_bits_deBruijn64tab), ("internal/strconv.uint64pow10", laid_internal_strconv_uint64pow10)] }
def PackConservedSaid : Prop := packConservedRow.holds Tryd.pinned (OpenSpec.ofChange packConservedSpec)

/-- ITS FALSE NEIGHBOUR: 'it returns false'. Refute it at one input. -/
def packConservedWrong : ChangeSpec := { name := "packConserved", fn := fun _ => fun
  | [d1, d2] => { results := [.lit (.bool false)], args := [d1, d2] }
  | _ => none }
def PackConservedWrongFalsely : Prop := packConservedRow.holds Tryd.pinned (OpenSpec.ofChange packConservedWrong)

/-- 'snowlinelaw02.PackParts': WHATEVER THE INPUT: true; the input reads as it did. -/
def packPartsSpec : ChangeSpec := { name := "packParts", fn := fun _ => fun
  | [d1, d2, d3, d4] => { results := [.lit (.bool true)], args := [d1, d2, d3, d4] }
  | _ => none }
def packPartsRow : OpenClaim := { program := "ytmcndbldbemebaadoor", sum := "bbefe9d9c3ad2bdb9874e945a92e116a085093e782c3e3588347112a5f3a5a57", func := "snowline/snowlinelaw02.PackParts", spec := "packParts", inPlace := ["internal/abi.NoEscape", "internal/bytealg.MakeNoZero"], unfollowed := true, recurses := true, named := ["internal/strconv.uint64pow10", "math/bits.deBruijn32tab", "math/bits.deBruijn64tab"], apart := false, laid := [("math/bits.deBruijn32tab", laid_math_bits_deBruijn32tab), ("math/bits.deBruijn64tab", laid_math_bits_deBruijn64tab), ("internal/strconv.uint64pow10", laid_internal_strconv_uint64pow10)] }
def PackPartsSaid : Prop := packPartsRow.holds Tryd.pinned (OpenSpec.ofChange packPartsSpec)

/-- ITS FALSE NEIGHBOUR: 'it returns false'. Refute it at one input. -/
def packPartsWrong : ChangeSpec := { name := "packParts", fn := fun _ => fun
  | [d1, d2, d3, d4] => { results := [.lit (.bool false)], args := [d1, d2, d3, d4] }
  | _ => none }
def PackPartsWrongFalsely : Prop := packPartsRow.holds Tryd.pinned (OpenSpec.ofChange packPartsWrong)

/-- 'snowlinelaw02.PackReady': WHATEVER THE INPUT: true; the input reads as it did. -/
def packReadySpec : ChangeSpec := { name := "packReady", fn := fun _ => fun
  | [d1, d2] => { results := [.lit (.bool true)], args := [d1, d2] }
  | _ => none }
def packReadyRow : OpenClaim := { program := "ytmcndbldbemebaadoor", sum := "bbefe9d9c3ad2bdb9874e945a92e116a085093e782c3e3588347112a5f3a5a57", func := "snowline/snowlinelaw02.PackReady", spec := "packReady", inPlace := ["internal/abi.NoEscape", "internal/bytealg.MakeNoZero"], unfollowed := true, recurses := true, named := ["internal/strconv.uint64pow10", "math/bits.deBruijn32tab", "math/bits.deBruijn64tab"], apart := false, laid := [("math/bits.deBruijn32tab", laid_math_bits_deBruijn32tab), ("math/bits.deBruijn64tab", laid_math_bits_deBruijn64tab), ("internal/strconv.uint64pow10", laid_internal_strconv_uint64pow10)] }
def PackReadySaid : Prop := packReadyRow.holds Tryd.pinned (OpenSpec.ofChange packReadySpec)

/-- ITS FALSE NEIGHBOUR: 'it returns false'. Refute it at one input. -/
def packReadyWrong : ChangeSpec := { name := "packReady", fn := fun _ => fun
  | [d1, d2] => { results := [.lit (.bool false)], args := [d1, d2] }
  | _ => none }
def PackReadyWrongFalsely : Prop := packReadyRow.holds Tryd.pinned (OpenSpec.ofChange packReadyWrong)

/-- 'snowlinelaw02.PackJoined': WHATEVER THE INPUT: true; the input reads as it did. -/
def packJoinedSpec : ChangeSpec := { name := "packJoined", fn := fun _ => fun
  | [d1, d2, d3] => { results := [.lit (.bool true)], args := [d1, d2, d3] }
  | _ => none }
def packJoinedRow : OpenClaim := { program := "ytmcndbldbemebaadoor", sum := "bbefe9d9c3ad2bdb9874e945a92e116a085093e782c3e3588347112a5f3a5a57", func := "snowline/snowlinelaw02.PackJoined", spec := "packJoined", inPlace := ["internal/abi.NoEscape", "internal/bytealg.MakeNoZero"], unfollowed := true, recurses := true, named := ["internal/strconv.uint64pow10", "math/bits.deBruijn32tab", "math/bits.deBruijn64tab"], apart := false, laid := [("math/bits.deBruijn32tab", laid_math_bits_deBruijn32tab), ("math/bits.deBruijn64tab", laid_math_bits_deBruijn64tab), ("internal/strconv.uint64pow10", laid_internal_strconv_uint64pow10)] }
def PackJoinedSaid : Prop := packJoinedRow.holds Tryd.pinned (OpenSpec.ofChange packJoinedSpec)

/-- ITS FALSE NEIGHBOUR: 'it returns false'. Refute it at one input. -/
def packJoinedWrong : ChangeSpec := { name := "packJoined", fn := fun _ => fun
  | [d1, d2, d3] => { results := [.lit (.bool false)], args := [d1, d2, d3] }
  | _ => none }
def PackJoinedWrongFalsely : Prop := packJoinedRow.holds Tryd.pinned (OpenSpec.ofChange packJoinedWrong)

/-- 'snowlinelaw02.PackBreaks': WHATEVER THE INPUT: true; the input reads as it did. -/
def packBreaksSpec : ChangeSpec := { name := "packBreaks", fn := fun _ => fun
  | [d1, d2] => { results := [.lit (.bool true)], args := [d1, d2] }
  | _ => none }
def packBreaksRow : OpenClaim := { program := "ytmcndbldbemebaadoor", sum := "bbefe9d9c3ad2bdb9874e945a92e116a085093e782c3e3588347112a5f3a5a57", func := "snowline/snowlinelaw02.PackBreaks", spec := "packBreaks", inPlace := ["internal/abi.NoEscape", "internal/bytealg.MakeNoZero"], unfollowed := true, recurses := true, named := ["internal/strconv.uint64pow10", "math/bits.deBruijn32tab", "math/bits.deBruijn64tab"], apart := false, laid := [("math/bits.deBruijn32tab", laid_math_bits_deBruijn32tab), ("math/bits.deBruijn64tab", laid_math_bits_deBruijn64tab), ("internal/strconv.uint64pow10", laid_internal_strconv_uint64pow10)] }
def PackBreaksSaid : Prop := packBreaksRow.holds Tryd.pinned (OpenSpec.ofChange packBreaksSpec)

/-- ITS FALSE NEIGHBOUR: 'it returns false'. Refute it at one input. -/
def packBreaksWrong : ChangeSpec := { name := "packBreaks", fn := fun _ => fun
  | [d1, d2] => { results := [.lit (.bool false)], args := [d1, d2] }
  | _ => none }
def PackBreaksWrongFalsely : Prop := packBreaksRow.holds Tryd.pinned (OpenSpec.ofChange packBreaksWrong)

/-- 'snowlinelaw02.PackSlopes': WHATEVER THE INPUT: true; the input reads as it did. -/
def packSlopesSpec : ChangeSpec := { name := "packSlopes", fn := fun _ => fun
  | [d1, d2, d3] => { results := [.lit (.bool true)], args := [d1, d2, d3] }
  | _ => none }
def packSlopesRow : OpenClaim := { program := "ytmcndbldbemebaadoor", sum := "bbefe9d9c3ad2bdb9874e945a92e116a085093e782c3e3588347112a5f3a5a57", func := "snowline/snowlinelaw02.PackSlopes", spec := "packSlopes", inPlace := ["internal/abi.NoEscape", "internal/bytealg.MakeNoZero"], unfollowed := true, recurses := true, named := ["internal/strconv.uint64pow10", "math/bits.deBruijn32tab", "math/bits.deBruijn64tab"], apart := false, laid := [("math/bits.deBruijn32tab", laid_math_bits_deBruijn32tab), ("math/bits.deBruijn64tab", laid_math_bits_deBruijn64tab), ("internal/strconv.uint64pow10", laid_internal_strconv_uint64pow10)] }
def PackSlopesSaid : Prop := packSlopesRow.holds Tryd.pinned (OpenSpec.ofChange packSlopesSpec)

/-- ITS FALSE NEIGHBOUR: 'it returns false'. Refute it at one input. -/
def packSlopesWrong : ChangeSpec := { name := "packSlopes", fn := fun _ => fun
  | [d1, d2, d3] => { results := [.lit (.bool false)], args := [d1, d2, d3] }
  | _ => none }
def PackSlopesWrongFalsely : Prop := packSlopesRow.holds Tryd.pinned (OpenSpec.ofChange packSlopesWrong)

/-- 'snowlinelaw02.PackChecks': WHATEVER THE INPUT: true; the input reads as it did. -/
def packChecksSpec : ChangeSpec := { name := "packChecks", fn := fun _ => fun
  | [d1, d2, d3] => { results := [.lit (.bool true)], args := [d1, d2, d3] }
  | _ => none }
def packChecksRow : OpenClaim := { program := "ytmcndbldbemebaadoor", sum := "bbefe9d9c3ad2bdb9874e945a92e116a085093e782c3e3588347112a5f3a5a57", func := "snowline/snowlinelaw02.PackChecks", spec := "packChecks", inPlace := ["internal/abi.NoEscape", "internal/bytealg.MakeNoZero"], unfollowed := true, recurses := true, named := ["internal/strconv.uint64pow10", "math/bits.deBruijn32tab", "math/bits.deBruijn64tab"], apart := false, laid := [("math/bits.deBruijn32tab", laid_math_bits_deBruijn32tab), ("math/bits.deBruijn64tab", laid_math_bits_deBruijn64tab), ("internal/strconv.uint64pow10", laid_internal_strconv_uint64pow10)] }
def PackChecksSaid : Prop := packChecksRow.holds Tryd.pinned (OpenSpec.ofChange packChecksSpec)

/-- ITS FALSE NEIGHBOUR: 'it returns false'. Refute it at one input. -/
def packChecksWrong : ChangeSpec := { name := "packChecks", fn := fun _ => fun
  | [d1, d2, d3] => { results := [.lit (.bool false)], args := [d1, d2, d3] }
  | _ => none }
def PackChecksWrongFalsely : Prop := packChecksRow.holds Tryd.pinned (OpenSpec.ofChange packChecksWrong)

/-- 'snowlinelaw02.PackRuns': WHATEVER THE INPUT: true; the input reads as it did. -/
def packRunsSpec : ChangeSpec := { name := "packRuns", fn := fun _ => fun
  | [d1, d2] => { results := [.lit (.bool true)], args := [d1, d2] }
  | _ => none }
def packRunsRow : OpenClaim := { program := "ytmcndbldbemebaadoor", sum := "bbefe9d9c3ad2bdb9874e945a92e116a085093e782c3e3588347112a5f3a5a57", func := "snowline/snowlinelaw02.PackRuns", spec := "packRuns", inPlace := ["internal/abi.NoEscape", "internal/bytealg.MakeNoZero"], unfollowed := true, recurses := true, named := ["internal/strconv.uint64pow10", "math/bits.deBruijn32tab", "math/bits.deBruijn64tab"], apart := false, laid := [("math/bits.deBruijn32tab", laid_math_bits_deBruijn32tab), ("math/bits.deBruijn64tab", laid_math_bits_deBruijn64tab), ("internal/strconv.uint64pow10", laid_internal_strconv_uint64pow10)] }
def PackRunsSaid : Prop := packRunsRow.holds Tryd.pinned (OpenSpec.ofChange packRunsSpec)

/-- ITS FALSE NEIGHBOUR: 'it returns false'. Refute it at one input. -/
def packRunsWrong : ChangeSpec := { name := "packRuns", fn := fun _ => fun
  | [d1, d2] => { results := [.lit (.bool false)], args := [d1, d2] }
  | _ => none }
def PackRunsWrongFalsely : Prop := packRunsRow.holds Tryd.pinned (OpenSpec.ofChange packRunsWrong)

/-- 'snowlinelaw02.PackRun': WHATEVER THE INPUT: true; the input reads as it did. -/
def packRunSpec : ChangeSpec := { name := "packRun", fn := fun _ => fun
  | [d1, d2, d3] => { results := [.lit (.bool true)], args := [d1, d2, d3] }
  | _ => none }
def packRunRow : OpenClaim := { program := "ytmcndbldbemebaadoor", sum := "bbefe9d9c3ad2bdb9874e945a92e116a085093e782c3e3588347112a5f3a5a57", func := "snowline/snowlinelaw02.PackRun", spec := "packRun", inPlace := ["internal/abi.NoEscape", "internal/bytealg.MakeNoZero"], unfollowed := true, recurses := true, named := ["internal/strconv.uint64pow10", "math/bits.deBruijn32tab", "math/bits.deBruijn64tab"], apart := false, laid := [("math/bits.deBruijn32tab", laid_math_bits_deBruijn32tab), ("math/bits.deBruijn64tab", laid_math_bits_deBruijn64tab), ("internal/strconv.uint64pow10", laid_internal_strconv_uint64pow10)] }
def PackRunSaid : Prop := packRunRow.holds Tryd.pinned (OpenSpec.ofChange packRunSpec)

/-- ITS FALSE NEIGHBOUR: 'it returns false'. Refute it at one input. -/
def packRunWrong : ChangeSpec := { name := "packRun", fn := fun _ => fun
  | [d1, d2, d3] => { results := [.lit (.bool false)], args := [d1, d2, d3] }
  | _ => none }
def PackRunWrongFalsely : Prop := packRunRow.holds Tryd.pinned (OpenSpec.ofChange packRunWrong)

/-- 'snowlinelaw02.PackDrift': WHATEVER THE INPUT: true; the input reads as it did. -/
def packDriftSpec : ChangeSpec := { name := "packDrift", fn := fun _ => fun
  | [d1, d2, d3] => { results := [.lit (.bool true)], args := [d1, d2, d3] }
  | _ => none }
def packDriftRow : OpenClaim := { program := "ytmcndbldbemebaadoor", sum := "bbefe9d9c3ad2bdb9874e945a92e116a085093e782c3e3588347112a5f3a5a57", func := "snowline/snowlinelaw02.PackDrift", spec := "packDrift", inPlace := ["internal/abi.NoEscape", "internal/bytealg.MakeNoZero"], unfollowed := true, recurses := true, named := ["internal/strconv.uint64pow10", "math/bits.deBruijn32tab", "math/bits.deBruijn64tab"], apart := false, laid := [("math/bits.deBruijn32tab", laid_math_bits_deBruijn32tab), ("math/bits.deBruijn64tab", laid_math_bits_deBruijn64tab), ("internal/strconv.uint64pow10", laid_internal_strconv_uint64pow10)] }
def PackDriftSaid : Prop := packDriftRow.holds Tryd.pinned (OpenSpec.ofChange packDriftSpec)

/-- ITS FALSE NEIGHBOUR: 'it returns false'. Refute it at one input. -/
def packDriftWrong : ChangeSpec := { name := "packDrift", fn := fun _ => fun
  | [d1, d2, d3] => { results := [.lit (.bool false)], args := [d1, d2, d3] }
  | _ => none }
def PackDriftWrongFalsely : Prop := packDriftRow.holds Tryd.pinned (OpenSpec.ofChange packDriftWrong)

/-- 'snowlinelaw02.PackReadies': WHATEVER THE INPUT: true; the input reads as it did. -/
def packReadiesSpec : ChangeSpec := { name := "packReadies", fn := fun _ => fun
  | [d1, d2, d3] => { results := [.lit (.bool true)], args := [d1, d2, d3] }
  | _ => none }
def packReadiesRow : OpenClaim := { program := "ytmcndbldbemebaadoor", sum := "bbefe9d9c3ad2bdb9874e945a92e116a085093e782c3e3588347112a5f3a5a57", func := "snowline/snowlinelaw02.PackReadies", spec := "packReadies", inPlace := ["internal/abi.NoEscape", "internal/bytealg.MakeNoZero"], unfollowed := true, recurses := true, named := ["internal/strconv.uint64pow10", "math/bits.deBruijn32tab", "math/bits.deBruijn64tab"], apart := false, laid := [("math/bits.deBruijn32tab", laid_math_bits_deBruijn32tab), ("math/bits.deBruijn64tab", laid_math_bits_deBruijn64tab), ("internal/strconv.uint64pow10", laid_internal_strconv_uint64pow10)] }
def PackReadiesSaid : Prop := packReadiesRow.holds Tryd.pinned (OpenSpec.ofChange packReadiesSpec)

/-- ITS FALSE NEIGHBOUR: 'it returns false'. Refute it at one input. -/
def packReadiesWrong : ChangeSpec := { name := "packReadies", fn := fun _ => fun
  | [d1, d2, d3] => { results := [.lit (.bool false)], args := [d1, d2, d3] }
  | _ => none }
def PackReadiesWrongFalsely : Prop := packReadiesRow.holds Tryd.pinned (OpenSpec.ofChange packReadiesWrong)

/-- 'snowlinelaw02.PackYields': WHATEVER THE INPUT: true; the input reads as it did. -/
def packYieldsSpec : ChangeSpec := { name := "packYields", fn := fun _ => fun
  | [d1, d2, d3, d4] => { results := [.lit (.bool true)], args := [d1, d2, d3, d4] }
  | _ => none }
def packYieldsRow : OpenClaim := { program := "ytmcndbldbemebaadoor", sum := "bbefe9d9c3ad2bdb9874e945a92e116a085093e782c3e3588347112a5f3a5a57", func := "snowline/snowlinelaw02.PackYields", spec := "packYields", inPlace := ["internal/abi.NoEscape", "internal/bytealg.MakeNoZero"], unfollowed := true, recurses := true, named := ["internal/strconv.uint64pow10", "math/bits.deBruijn32tab", "math/bits.deBruijn64tab"], apart := false, laid := [("math/bits.deBruijn32tab", laid_math_bits_deBruijn32tab), ("math/bits.deBruijn64tab", laid_math_bits_deBruijn64tab), ("internal/strconv.uint64pow10", laid_internal_strconv_uint64pow10)] }
def PackYieldsSaid : Prop := packYieldsRow.holds Tryd.pinned (OpenSpec.ofChange packYieldsSpec)

/-- ITS FALSE NEIGHBOUR: 'it returns false'. Refute it at one input. -/
def packYieldsWrong : ChangeSpec := { name := "packYields", fn := fun _ => fun
  | [d1, d2, d3, d4] => { results := [.lit (.bool false)], args := [d1, d2, d3, d4] }
  | _ => none }
def PackYieldsWrongFalsely : Prop := packYieldsRow.holds Tryd.pinned (OpenSpec.ofChange packYieldsWrong)

/-- 'snowlinelaw02.PackLess': WHATEVER THE INPUT: true; the input reads as it did. -/
def packLessSpec : ChangeSpec := { name := "packLess", fn := fun _ => fun
  | [d1, d2, d3, d4] => { results := [.lit (.bool true)], args := [d1, d2, d3, d4] }
  | _ => none }
def packLessRow : OpenClaim := { program := "ytmcndbldbemebaadoor", sum := "bbefe9d9c3ad2bdb9874e945a92e116a085093e782c3e3588347112a5f3a5a57", func := "snowline/snowlinelaw02.PackLess", spec := "packLess", inPlace := ["internal/abi.NoEscape", "internal/bytealg.MakeNoZero"], unfollowed := true, recurses := true, named := ["internal/strconv.uint64pow10", "math/bits.deBruijn32tab", "math/bits.deBruijn64tab"], apart := false, laid := [("math/bits.deBruijn32tab", laid_math_bits_deBruijn32tab), ("math/bits.deBruijn64tab", laid_math_bits_deBruijn64tab), ("internal/strconv.uint64pow10", laid_internal_strconv_uint64pow10)] }
def PackLessSaid : Prop := packLessRow.holds Tryd.pinned (OpenSpec.ofChange packLessSpec)

/-- ITS FALSE NEIGHBOUR: 'it returns false'. Refute it at one input. -/
def packLessWrong : ChangeSpec := { name := "packLess", fn := fun _ => fun
  | [d1, d2, d3, d4] => { results := [.lit (.bool false)], args := [d1, d2, d3, d4] }
  | _ => none }
def PackLessWrongFalsely : Prop := packLessRow.holds Tryd.pinned (OpenSpec.ofChange packLessWrong)

/-- 'snowlinelaw02.PackOrders': WHATEVER THE INPUT: true; the input reads as it did. -/
def packOrdersSpec : ChangeSpec := { name := "packOrders", fn := fun _ => fun
  | [d1, d2, d3, d4] => { results := [.lit (.bool true)], args := [d1, d2, d3, d4] }
  | _ => none }
def packOrdersRow : OpenClaim := { program := "ytmcndbldbemebaadoor", sum := "bbefe9d9c3ad2bdb9874e945a92e116a085093e782c3e3588347112a5f3a5a57", func := "snowline/snowlinelaw02.PackOrders", spec := "packOrders", inPlace := ["internal/abi.NoEscape", "internal/bytealg.MakeNoZero"], unfollowed := true, recurses := true, named := ["internal/strconv.uint64pow10", "math/bits.deBruijn32tab", "math/bits.deBruijn64tab"], apart := false, laid := [("math/bits.deBruijn32tab", laid_math_bits_deBruijn32tab), ("math/bits.deBruijn64tab", laid_math_bits_deBruijn64tab), ("internal/strconv.uint64pow10", laid_internal_strconv_uint64pow10)] }
def PackOrdersSaid : Prop := packOrdersRow.holds Tryd.pinned (OpenSpec.ofChange packOrdersSpec)

/-- ITS FALSE NEIGHBOUR: 'it returns false'. Refute it at one input. -/
def packOrdersWrong : ChangeSpec := { name := "packOrders", fn := fun _ => fun
  | [d1, d2, d3, d4] => { results := [.lit (.bool false)], args := [d1, d2, d3, d4] }
  | _ => none }
def PackOrdersWrongFalsely : Prop := packOrdersRow.holds Tryd.pinned (OpenSpec.ofChange packOrdersWrong)

/- THE SECOND FORM. 'bulk': how many values and letters a reading holds, each counted each time it is reached (what is shared counts as often as it is met; a slice's spare places count too). A statement '..UptoSaid' is the law's where the arguments, and the package variables that the reading takes, are together of bulk at most 1048576: NARROWER than '..Said'. Prove '..Said' where nothing that the law and all that it calls make is longer than what came in: it says more and counts as full. Else prove '..UptoSaid'. A law counts once. -/
mutual
def uptoBulk {H : Type} : DataW H → Nat
  | .lit (.string bytes) => bytes.length + 1
  | .lit _ => 1
  | .nil => 1
  | .ptr d => uptoBulk d + 1
  | .slice elems spare => uptoBulkAll elems + uptoBulkAll spare + 1
  | .agg parts => uptoBulkAll parts + 1
  | .iface _ d => uptoBulk d + 1
  | .map entries => uptoBulkEntries entries + 1
  | .held _ => 1
def uptoBulkAll {H : Type} : List (DataW H) → Nat
  | [] => 0
  | d :: r => uptoBulk d + uptoBulkAll r
def uptoBulkEntries {H : Type} : List (Lit × DataW H) → Nat
  | [] => 0
  | x :: r => uptoBulkEntry x + uptoBulkEntries r
def uptoBulkEntry {H : Type} : Lit × DataW H → Nat
  | (.string bytes, d) => bytes.length + uptoBulk d + 1
  | (_, d) => uptoBulk d + 1
 end
def uptoSmall : (H : Type) → List (DataW H) → Bool := fun _ ds => decide (uptoBulkAll ds ≤ 1048576)
def OpenSpec.upto (s : _root_.Go.ChangeSpec) : _root_.Go.OpenSpec := { _root_.Go.OpenSpec.ofChange s with cond := some uptoSmall }

/-- 'snowlinelaw02.PackApplies', WHERE WHAT IT READS IS OF BULK AT MOST 1048576: true; the input reads as it did. -/
def packAppliesUptoRow : OpenClaim := { program := "ytmcndbldbemebaadoor", sum := "bbefe9d9c3ad2bdb9874e945a92e116a085093e782c3e3588347112a5f3a5a57", func := "snowline/snowlinelaw02.PackApplies", spec := "packApplies", inPlace := ["internal/abi.NoEscape", "internal/bytealg.MakeNoZero"], unfollowed := true, recurses := true, named := ["internal/strconv.uint64pow10", "math/bits.deBruijn32tab", "math/bits.deBruijn64tab"], apart := false, laid := [("math/bits.deBruijn32tab", laid_math_bits_deBruijn32tab), ("math/bits.deBruijn64tab", laid_math_bits_deBruijn64tab), ("internal/strconv.uint64pow10", laid_internal_strconv_uint64pow10)], narrowed := true }
def PackAppliesUptoSaid : Prop := packAppliesUptoRow.holds Tryd.pinned (OpenSpec.upto packAppliesSpec)

/-- 'snowlinelaw02.PackConserved', WHERE WHAT IT READS IS OF BULK AT MOST 1048576: true; the input reads as it did. -/
def packConservedUptoRow : OpenClaim := { program := "ytmcndbldbemebaadoor", sum := "bbefe9d9c3ad2bdb9874e945a92e116a085093e782c3e3588347112a5f3a5a57", func := "snowline/snowlinelaw02.PackConserved", spec := "packConserved", inPlace := ["internal/abi.NoEscape", "internal/bytealg.MakeNoZero"], unfollowed := true, recurses := true, named := ["internal/strconv.uint64pow10", "math/bits.deBruijn32tab", "math/bits.deBruijn64tab"], apart := false, laid := [("math/bits.deBruijn32tab", laid_math_bits_deBruijn32tab), ("math/bits.deBruijn64tab", laid_math_bits_deBruijn64tab), ("internal/strconv.uint64pow10", laid_internal_strconv_uint64pow10)], narrowed := true }
def PackConservedUptoSaid : Prop := packConservedUptoRow.holds Tryd.pinned (OpenSpec.upto packConservedSpec)

/-- 'snowlinelaw02.PackParts', WHERE WHAT IT READS IS OF BULK AT MOST 1048576: true; the input reads as it did. -/
def packPartsUptoRow : OpenClaim := { program := "ytmcndbldbemebaadoor", sum := "bbefe9d9c3ad2bdb9874e945a92e116a085093e782c3e3588347112a5f3a5a57", func := "snowline/snowlinelaw02.PackParts", spec := "packParts", inPlace := ["internal/abi.NoEscape", "internal/bytealg.MakeNoZero"], unfollowed := true, recurses := true, named := ["internal/strconv.uint64pow10", "math/bits.deBruijn32tab", "math/bits.deBruijn64tab"], apart := false, laid := [("math/bits.deBruijn32tab", laid_math_bits_deBruijn32tab), ("math/bits.deBruijn64tab", laid_math_bits_deBruijn64tab), ("internal/strconv.uint64pow10", laid_internal_strconv_uint64pow10)], narrowed := true }
def PackPartsUptoSaid : Prop := packPartsUptoRow.holds Tryd.pinned (OpenSpec.upto packPartsSpec)

/-- 'snowlinelaw02.PackReady', WHERE WHAT IT READS IS OF BULK AT MOST 1048576: true; the input reads as it did. -/
def packReadyUptoRow : OpenClaim := { program := "ytmcndbldbemebaadoor", sum := "bbefe9d9c3ad2bdb9874e945a92e116a085093e782c3e3588347112a5f3a5a57", func := "snowline/snowlinelaw02.PackReady", spec := "packReady", inPlace := ["internal/abi.NoEscape", "internal/bytealg.MakeNoZero"], unfollowed := true, recurses := true, named := ["internal/strconv.uint64pow10", "math/bits.deBruijn32tab", "math/bits.deBruijn64tab"], apart := false, laid := [("math/bits.deBruijn32tab", laid_math_bits_deBruijn32tab), ("math/bits.deBruijn64tab", laid_math_bits_deBruijn64tab), ("internal/strconv.uint64pow10", laid_internal_strconv_uint64pow10)], narrowed := true }
def PackReadyUptoSaid : Prop := packReadyUptoRow.holds Tryd.pinned (OpenSpec.upto packReadySpec)

/-- 'snowlinelaw02.PackJoined', WHERE WHAT IT READS IS OF BULK AT MOST 1048576: true; the input reads as it did. -/
def packJoinedUptoRow : OpenClaim := { program := "ytmcndbldbemebaadoor", sum := "bbefe9d9c3ad2bdb9874e945a92e116a085093e782c3e3588347112a5f3a5a57", func := "snowline/snowlinelaw02.PackJoined", spec := "packJoined", inPlace := ["internal/abi.NoEscape", "internal/bytealg.MakeNoZero"], unfollowed := true, recurses := true, named := ["internal/strconv.uint64pow10", "math/bits.deBruijn32tab", "math/bits.deBruijn64tab"], apart := false, laid := [("math/bits.deBruijn32tab", laid_math_bits_deBruijn32tab), ("math/bits.deBruijn64tab", laid_math_bits_deBruijn64tab), ("internal/strconv.uint64pow10", laid_internal_strconv_uint64pow10)], narrowed := true }
def PackJoinedUptoSaid : Prop := packJoinedUptoRow.holds Tryd.pinned (OpenSpec.upto packJoinedSpec)

/-- 'snowlinelaw02.PackBreaks', WHERE WHAT IT READS IS OF BULK AT MOST 1048576: true; the input reads as it did. -/
def packBreaksUptoRow : OpenClaim := { program := "ytmcndbldbemebaadoor", sum := "bbefe9d9c3ad2bdb9874e945a92e116a085093e782c3e3588347112a5f3a5a57", func := "snowline/snowlinelaw02.PackBreaks", spec := "packBreaks", inPlace := ["internal/abi.NoEscape", "internal/bytealg.MakeNoZero"], unfollowed := true, recurses := true, named := ["internal/strconv.uint64pow10", "math/bits.deBruijn32tab", "math/bits.deBruijn64tab"], apart := false, laid := [("math/bits.deBruijn32tab", laid_math_bits_deBruijn32tab), ("math/bits.deBruijn64tab", laid_math_bits_deBruijn64tab), ("internal/strconv.uint64pow10", laid_internal_strconv_uint64pow10)], narrowed := true }
def PackBreaksUptoSaid : Prop := packBreaksUptoRow.holds Tryd.pinned (OpenSpec.upto packBreaksSpec)

/-- 'snowlinelaw02.PackSlopes', WHERE WHAT IT READS IS OF BULK AT MOST 1048576: true; the input reads as it did. -/
def packSlopesUptoRow : OpenClaim := { program := "ytmcndbldbemebaadoor", sum := "bbefe9d9c3ad2bdb9874e945a92e116a085093e782c3e3588347112a5f3a5a57", func := "snowline/snowlinelaw02.PackSlopes", spec := "packSlopes", inPlace := ["internal/abi.NoEscape", "internal/bytealg.MakeNoZero"], unfollowed := true, recurses := true, named := ["internal/strconv.uint64pow10", "math/bits.deBruijn32tab", "math/bits.deBruijn64tab"], apart := false, laid := [("math/bits.deBruijn32tab", laid_math_bits_deBruijn32tab), ("math/bits.deBruijn64tab", laid_math_bits_deBruijn64tab), ("internal/strconv.uint64pow10", laid_internal_strconv_uint64pow10)], narrowed := true }
def PackSlopesUptoSaid : Prop := packSlopesUptoRow.holds Tryd.pinned (OpenSpec.upto packSlopesSpec)

/-- 'snowlinelaw02.PackChecks', WHERE WHAT IT READS IS OF BULK AT MOST 1048576: true; the input reads as it did. -/
def packChecksUptoRow : OpenClaim := { program := "ytmcndbldbemebaadoor", sum := "bbefe9d9c3ad2bdb9874e945a92e116a085093e782c3e3588347112a5f3a5a57", func := "snowline/snowlinelaw02.PackChecks", spec := "packChecks", inPlace := ["internal/abi.NoEscape", "internal/bytealg.MakeNoZero"], unfollowed := true, recurses := true, named := ["internal/strconv.uint64pow10", "math/bits.deBruijn32tab", "math/bits.deBruijn64tab"], apart := false, laid := [("math/bits.deBruijn32tab", laid_math_bits_deBruijn32tab), ("math/bits.deBruijn64tab", laid_math_bits_deBruijn64tab), ("internal/strconv.uint64pow10", laid_internal_strconv_uint64pow10)], narrowed := true }
def PackChecksUptoSaid : Prop := packChecksUptoRow.holds Tryd.pinned (OpenSpec.upto packChecksSpec)

/-- 'snowlinelaw02.PackRuns', WHERE WHAT IT READS IS OF BULK AT MOST 1048576: true; the input reads as it did. -/
def packRunsUptoRow : OpenClaim := { program := "ytmcndbldbemebaadoor", sum := "bbefe9d9c3ad2bdb9874e945a92e116a085093e782c3e3588347112a5f3a5a57", func := "snowline/snowlinelaw02.PackRuns", spec := "packRuns", inPlace := ["internal/abi.NoEscape", "internal/bytealg.MakeNoZero"], unfollowed := true, recurses := true, named := ["internal/strconv.uint64pow10", "math/bits.deBruijn32tab", "math/bits.deBruijn64tab"], apart := false, laid := [("math/bits.deBruijn32tab", laid_math_bits_deBruijn32tab), ("math/bits.deBruijn64tab", laid_math_bits_deBruijn64tab), ("internal/strconv.uint64pow10", laid_internal_strconv_uint64pow10)], narrowed := true }
def PackRunsUptoSaid : Prop := packRunsUptoRow.holds Tryd.pinned (OpenSpec.upto packRunsSpec)

/-- 'snowlinelaw02.PackRun', WHERE WHAT IT READS IS OF BULK AT MOST 1048576: true; the input reads as it did. -/
def packRunUptoRow : OpenClaim := { program := "ytmcndbldbemebaadoor", sum := "bbefe9d9c3ad2bdb9874e945a92e116a085093e782c3e3588347112a5f3a5a57", func := "snowline/snowlinelaw02.PackRun", spec := "packRun", inPlace := ["internal/abi.NoEscape", "internal/bytealg.MakeNoZero"], unfollowed := true, recurses := true, named := ["internal/strconv.uint64pow10", "math/bits.deBruijn32tab", "math/bits.deBruijn64tab"], apart := false, laid := [("math/bits.deBruijn32tab", laid_math_bits_deBruijn32tab), ("math/bits.deBruijn64tab", laid_math_bits_deBruijn64tab), ("internal/strconv.uint64pow10", laid_internal_strconv_uint64pow10)], narrowed := true }
def PackRunUptoSaid : Prop := packRunUptoRow.holds Tryd.pinned (OpenSpec.upto packRunSpec)

/-- 'snowlinelaw02.PackDrift', WHERE WHAT IT READS IS OF BULK AT MOST 1048576: true; the input reads as it did. -/
def packDriftUptoRow : OpenClaim := { program := "ytmcndbldbemebaadoor", sum := "bbefe9d9c3ad2bdb9874e945a92e116a085093e782c3e3588347112a5f3a5a57", func := "snowline/snowlinelaw02.PackDrift", spec := "packDrift", inPlace := ["internal/abi.NoEscape", "internal/bytealg.MakeNoZero"], unfollowed := true, recurses := true, named := ["internal/strconv.uint64pow10", "math/bits.deBruijn32tab", "math/bits.deBruijn64tab"], apart := false, laid := [("math/bits.deBruijn32tab", laid_math_bits_deBruijn32tab), ("math/bits.deBruijn64tab", laid_math_bits_deBruijn64tab), ("internal/strconv.uint64pow10", laid_internal_strconv_uint64pow10)], narrowed := true }
def PackDriftUptoSaid : Prop := packDriftUptoRow.holds Tryd.pinned (OpenSpec.upto packDriftSpec)

/-- 'snowlinelaw02.PackReadies', WHERE WHAT IT READS IS OF BULK AT MOST 1048576: true; the input reads as it did. -/
def packReadiesUptoRow : OpenClaim := { program := "ytmcndbldbemebaadoor", sum := "bbefe9d9c3ad2bdb9874e945a92e116a085093e782c3e3588347112a5f3a5a57", func := "snowline/snowlinelaw02.PackReadies", spec := "packReadies", inPlace := ["internal/abi.NoEscape", "internal/bytealg.MakeNoZero"], unfollowed := true, recurses := true, named := ["internal/strconv.uint64pow10", "math/bits.deBruijn32tab", "math/bits.deBruijn64tab"], apart := false, laid := [("math/bits.deBruijn32tab", laid_math_bits_deBruijn32tab), ("math/bits.deBruijn64tab", laid_math_bits_deBruijn64tab), ("internal/strconv.uint64pow10", laid_internal_strconv_uint64pow10)], narrowed := true }
def PackReadiesUptoSaid : Prop := packReadiesUptoRow.holds Tryd.pinned (OpenSpec.upto packReadiesSpec)

/-- 'snowlinelaw02.PackYields', WHERE WHAT IT READS IS OF BULK AT MOST 1048576: true; the input reads as it did. -/
def packYieldsUptoRow : OpenClaim := { program := "ytmcndbldbemebaadoor", sum := "bbefe9d9c3ad2bdb9874e945a92e116a085093e782c3e3588347112a5f3a5a57", func := "snowline/snowlinelaw02.PackYields", spec := "packYields", inPlace := ["internal/abi.NoEscape", "internal/bytealg.MakeNoZero"], unfollowed := true, recurses := true, named := ["internal/strconv.uint64pow10", "math/bits.deBruijn32tab", "math/bits.deBruijn64tab"], apart := false, laid := [("math/bits.deBruijn32tab", laid_math_bits_deBruijn32tab), ("math/bits.deBruijn64tab", laid_math_bits_deBruijn64tab), ("internal/strconv.uint64pow10", laid_internal_strconv_uint64pow10)], narrowed := true }
def PackYieldsUptoSaid : Prop := packYieldsUptoRow.holds Tryd.pinned (OpenSpec.upto packYieldsSpec)

/-- 'snowlinelaw02.PackLess', WHERE WHAT IT READS IS OF BULK AT MOST 1048576: true; the input reads as it did. -/
def packLessUptoRow : OpenClaim := { program := "ytmcndbldbemebaadoor", sum := "bbefe9d9c3ad2bdb9874e945a92e116a085093e782c3e3588347112a5f3a5a57", func := "snowline/snowlinelaw02.PackLess", spec := "packLess", inPlace := ["internal/abi.NoEscape", "internal/bytealg.MakeNoZero"], unfollowed := true, recurses := true, named := ["internal/strconv.uint64pow10", "math/bits.deBruijn32tab", "math/bits.deBruijn64tab"], apart := false, laid := [("math/bits.deBruijn32tab", laid_math_bits_deBruijn32tab), ("math/bits.deBruijn64tab", laid_math_bits_deBruijn64tab), ("internal/strconv.uint64pow10", laid_internal_strconv_uint64pow10)], narrowed := true }
def PackLessUptoSaid : Prop := packLessUptoRow.holds Tryd.pinned (OpenSpec.upto packLessSpec)

/-- 'snowlinelaw02.PackOrders', WHERE WHAT IT READS IS OF BULK AT MOST 1048576: true; the input reads as it did. -/
def packOrdersUptoRow : OpenClaim := { program := "ytmcndbldbemebaadoor", sum := "bbefe9d9c3ad2bdb9874e945a92e116a085093e782c3e3588347112a5f3a5a57", func := "snowline/snowlinelaw02.PackOrders", spec := "packOrders", inPlace := ["internal/abi.NoEscape", "internal/bytealg.MakeNoZero"], unfollowed := true, recurses := true, named := ["internal/strconv.uint64pow10", "math/bits.deBruijn32tab", "math/bits.deBruijn64tab"], apart := false, laid := [("math/bits.deBruijn32tab", laid_math_bits_deBruijn32tab), ("math/bits.deBruijn64tab", laid_math_bits_deBruijn64tab), ("internal/strconv.uint64pow10", laid_internal_strconv_uint64pow10)], narrowed := true }
def PackOrdersUptoSaid : Prop := packOrdersUptoRow.holds Tryd.pinned (OpenSpec.upto packOrdersSpec)

end Rows
end Go.Proofs.YtmcndbldbemebaaDoor
