/-
  No cell of these rows narrows 'for every input' (looked for: loops, veiled, ifaces, maps, wideKeys, modest, calm, conditions, laid).
  DERIVED. THE GIVEN ROWS OF THIS SEAT. 18 by the template 'for every input the law returns true; each argument reads behind the call as it read before'; 0 by the template 'total and deterministic' (their statements: YtepnijjgdhldeaaTotals.lean).
  GIVEN WITH THE SEED: the statements are not yours to turn. If you find one false, say at which input.
  Laid BY PROGRAM, IN A SANDBOX (cutbox-rows.mjs): the forced cells as the released guide's own fill.sh prints them over the translation 754883031510cdc0… (all of the seat's roots in one cut). By AI agents, Wed Nov 11 2026. No macro, syntax, notation, axiom, sorry.
-/
import Derived.Test.YtepnijjgdhldeaaChecked
import GoSem.Claim
import GoSem.ClaimJoined
import GoSem.ClaimMapViews
import Derived.JoinedTies
import Derived.KernelRfl
namespace Go.Proofs.Ytepnijjgdhldeaa
/- THE CELL 'sum', in the pinned program and in every row, IS THE sha256 OF THE DUMP (.gsa) THAT YtepnijjgdhldeaaProg.lean LOADS. Nothing in Lean hashes anything: it is a label: what it is worth is what the hold of that sum in a sandbox is worth. -/
noncomputable def Try.pinned : Pinned := { name := "ytepnijjgdhldeaa", sum := "754883031510cdc07894e4565743b75afa3fd16283828eead301d4a00b6a6d1d", checked := Try.checked }
namespace Rows
def none {H : Type} : Left H := { results := [], args := [] }

/-- 'snowlinelaw04.DiffsTopSpec': WHATEVER THE INPUT: true; the input reads as it did. -/
def diffsTopSpecSpec : ChangeSpec := { name := "diffsTopSpec", fn := fun _ => fun
  | [d] => { results := [.lit (.bool true)], args := [d] }
  | _ => none }
def diffsTopSpecRow : OpenClaim := { program := "ytepnijjgdhldeaa", sum := "754883031510cdc07894e4565743b75afa3fd16283828eead301d4a00b6a6d1d", func := "snowline/snowlinelaw04.DiffsTopSpec", spec := "diffsTopSpec", unfollowed := true, recurses := true, apart := false }
def DiffsTopSpecSaid : Prop := diffsTopSpecRow.holds Try.pinned (OpenSpec.ofChange diffsTopSpecSpec)

/-- ITS FALSE NEIGHBOUR: 'it returns false'. Refute it at one input. -/
def diffsTopSpecWrong : ChangeSpec := { name := "diffsTopSpec", fn := fun _ => fun
  | [d] => { results := [.lit (.bool false)], args := [d] }
  | _ => none }
def DiffsTopSpecWrongFalsely : Prop := diffsTopSpecRow.holds Try.pinned (OpenSpec.ofChange diffsTopSpecWrong)

/-- 'snowlinelaw04.DiffsMetric': WHATEVER THE INPUT: true; the input reads as it did. -/
def diffsMetricSpec : ChangeSpec := { name := "diffsMetric", fn := fun _ => fun
  | [d1, d2, d3, d4] => { results := [.lit (.bool true)], args := [d1, d2, d3, d4] }
  | _ => none }
def diffsMetricRow : OpenClaim := { program := "ytepnijjgdhldeaa", sum := "754883031510cdc07894e4565743b75afa3fd16283828eead301d4a00b6a6d1d", func := "snowline/snowlinelaw04.DiffsMetric", spec := "diffsMetric", unfollowed := true, recurses := true, apart := false }
def DiffsMetricSaid : Prop := diffsMetricRow.holds Try.pinned (OpenSpec.ofChange diffsMetricSpec)

/-- ITS FALSE NEIGHBOUR: 'it returns false'. Refute it at one input. -/
def diffsMetricWrong : ChangeSpec := { name := "diffsMetric", fn := fun _ => fun
  | [d1, d2, d3, d4] => { results := [.lit (.bool false)], args := [d1, d2, d3, d4] }
  | _ => none }
def DiffsMetricWrongFalsely : Prop := diffsMetricRow.holds Try.pinned (OpenSpec.ofChange diffsMetricWrong)

/-- 'snowlinelaw04.DiffsUnits': WHATEVER THE INPUT: true; the input reads as it did. -/
def diffsUnitsSpec : ChangeSpec := { name := "diffsUnits", fn := fun _ => fun
  | [d1, d2, d3] => { results := [.lit (.bool true)], args := [d1, d2, d3] }
  | _ => none }
def diffsUnitsRow : OpenClaim := { program := "ytepnijjgdhldeaa", sum := "754883031510cdc07894e4565743b75afa3fd16283828eead301d4a00b6a6d1d", func := "snowline/snowlinelaw04.DiffsUnits", spec := "diffsUnits", unfollowed := true, recurses := true, apart := false }
def DiffsUnitsSaid : Prop := diffsUnitsRow.holds Try.pinned (OpenSpec.ofChange diffsUnitsSpec)

/-- ITS FALSE NEIGHBOUR: 'it returns false'. Refute it at one input. -/
def diffsUnitsWrong : ChangeSpec := { name := "diffsUnits", fn := fun _ => fun
  | [d1, d2, d3] => { results := [.lit (.bool false)], args := [d1, d2, d3] }
  | _ => none }
def DiffsUnitsWrongFalsely : Prop := diffsUnitsRow.holds Try.pinned (OpenSpec.ofChange diffsUnitsWrong)

/-- 'snowlinelaw04.DiffsScaled': WHATEVER THE INPUT: true; the input reads as it did. -/
def diffsScaledSpec : ChangeSpec := { name := "diffsScaled", fn := fun _ => fun
  | [d1, d2, d3, d4, d5] => { results := [.lit (.bool true)], args := [d1, d2, d3, d4, d5] }
  | _ => none }
def diffsScaledRow : OpenClaim := { program := "ytepnijjgdhldeaa", sum := "754883031510cdc07894e4565743b75afa3fd16283828eead301d4a00b6a6d1d", func := "snowline/snowlinelaw04.DiffsScaled", spec := "diffsScaled", unfollowed := true, recurses := true, apart := false }
def DiffsScaledSaid : Prop := diffsScaledRow.holds Try.pinned (OpenSpec.ofChange diffsScaledSpec)

/-- ITS FALSE NEIGHBOUR: 'it returns false'. Refute it at one input. -/
def diffsScaledWrong : ChangeSpec := { name := "diffsScaled", fn := fun _ => fun
  | [d1, d2, d3, d4, d5] => { results := [.lit (.bool false)], args := [d1, d2, d3, d4, d5] }
  | _ => none }
def DiffsScaledWrongFalsely : Prop := diffsScaledRow.holds Try.pinned (OpenSpec.ofChange diffsScaledWrong)

/-- 'snowlinelaw04.DiffsAdded': WHATEVER THE INPUT: true; the input reads as it did. -/
def diffsAddedSpec : ChangeSpec := { name := "diffsAdded", fn := fun _ => fun
  | [d1, d2, d3] => { results := [.lit (.bool true)], args := [d1, d2, d3] }
  | _ => none }
def diffsAddedRow : OpenClaim := { program := "ytepnijjgdhldeaa", sum := "754883031510cdc07894e4565743b75afa3fd16283828eead301d4a00b6a6d1d", func := "snowline/snowlinelaw04.DiffsAdded", spec := "diffsAdded", unfollowed := true, recurses := true, apart := false }
def DiffsAddedSaid : Prop := diffsAddedRow.holds Try.pinned (OpenSpec.ofChange diffsAddedSpec)

/-- ITS FALSE NEIGHBOUR: 'it returns false'. Refute it at one input. -/
def diffsAddedWrong : ChangeSpec := { name := "diffsAdded", fn := fun _ => fun
  | [d1, d2, d3] => { results := [.lit (.bool false)], args := [d1, d2, d3] }
  | _ => none }
def DiffsAddedWrongFalsely : Prop := diffsAddedRow.holds Try.pinned (OpenSpec.ofChange diffsAddedWrong)

/-- 'snowlinelaw04.DiffsSolveSpec': WHATEVER THE INPUT: true; the input reads as it did. -/
def diffsSolveSpecSpec : ChangeSpec := { name := "diffsSolveSpec", fn := fun _ => fun
  | [d1, d2] => { results := [.lit (.bool true)], args := [d1, d2] }
  | _ => none }
def diffsSolveSpecRow : OpenClaim := { program := "ytepnijjgdhldeaa", sum := "754883031510cdc07894e4565743b75afa3fd16283828eead301d4a00b6a6d1d", func := "snowline/snowlinelaw04.DiffsSolveSpec", spec := "diffsSolveSpec", unfollowed := true, recurses := true, apart := false }
def DiffsSolveSpecSaid : Prop := diffsSolveSpecRow.holds Try.pinned (OpenSpec.ofChange diffsSolveSpecSpec)

/-- ITS FALSE NEIGHBOUR: 'it returns false'. Refute it at one input. -/
def diffsSolveSpecWrong : ChangeSpec := { name := "diffsSolveSpec", fn := fun _ => fun
  | [d1, d2] => { results := [.lit (.bool false)], args := [d1, d2] }
  | _ => none }
def DiffsSolveSpecWrongFalsely : Prop := diffsSolveSpecRow.holds Try.pinned (OpenSpec.ofChange diffsSolveSpecWrong)

/-- 'snowlinelaw04.DiffsApartSpec': WHATEVER THE INPUT: true; the input reads as it did. -/
def diffsApartSpecSpec : ChangeSpec := { name := "diffsApartSpec", fn := fun _ => fun
  | [d1, d2, d3, d4, d5] => { results := [.lit (.bool true)], args := [d1, d2, d3, d4, d5] }
  | _ => none }
def diffsApartSpecRow : OpenClaim := { program := "ytepnijjgdhldeaa", sum := "754883031510cdc07894e4565743b75afa3fd16283828eead301d4a00b6a6d1d", func := "snowline/snowlinelaw04.DiffsApartSpec", spec := "diffsApartSpec", unfollowed := true, recurses := true, apart := false }
def DiffsApartSpecSaid : Prop := diffsApartSpecRow.holds Try.pinned (OpenSpec.ofChange diffsApartSpecSpec)

/-- ITS FALSE NEIGHBOUR: 'it returns false'. Refute it at one input. -/
def diffsApartSpecWrong : ChangeSpec := { name := "diffsApartSpec", fn := fun _ => fun
  | [d1, d2, d3, d4, d5] => { results := [.lit (.bool false)], args := [d1, d2, d3, d4, d5] }
  | _ => none }
def DiffsApartSpecWrongFalsely : Prop := diffsApartSpecRow.holds Try.pinned (OpenSpec.ofChange diffsApartSpecWrong)

/-- 'snowlinelaw04.DiffsPaths': WHATEVER THE INPUT: true; the input reads as it did. -/
def diffsPathsSpec : ChangeSpec := { name := "diffsPaths", fn := fun _ => fun
  | [d1, d2, d3, d4, d5, d6] => { results := [.lit (.bool true)], args := [d1, d2, d3, d4, d5, d6] }
  | _ => none }
def diffsPathsRow : OpenClaim := { program := "ytepnijjgdhldeaa", sum := "754883031510cdc07894e4565743b75afa3fd16283828eead301d4a00b6a6d1d", func := "snowline/snowlinelaw04.DiffsPaths", spec := "diffsPaths", unfollowed := true, recurses := true, apart := false }
def DiffsPathsSaid : Prop := diffsPathsRow.holds Try.pinned (OpenSpec.ofChange diffsPathsSpec)

/-- ITS FALSE NEIGHBOUR: 'it returns false'. Refute it at one input. -/
def diffsPathsWrong : ChangeSpec := { name := "diffsPaths", fn := fun _ => fun
  | [d1, d2, d3, d4, d5, d6] => { results := [.lit (.bool false)], args := [d1, d2, d3, d4, d5, d6] }
  | _ => none }
def DiffsPathsWrongFalsely : Prop := diffsPathsRow.holds Try.pinned (OpenSpec.ofChange diffsPathsWrong)

/-- 'snowlinelaw04.DiffsMostSpec': WHATEVER THE INPUT: true; the input reads as it did. -/
def diffsMostSpecSpec : ChangeSpec := { name := "diffsMostSpec", fn := fun _ => fun
  | [d1, d2, d3, d4] => { results := [.lit (.bool true)], args := [d1, d2, d3, d4] }
  | _ => none }
def diffsMostSpecRow : OpenClaim := { program := "ytepnijjgdhldeaa", sum := "754883031510cdc07894e4565743b75afa3fd16283828eead301d4a00b6a6d1d", func := "snowline/snowlinelaw04.DiffsMostSpec", spec := "diffsMostSpec", unfollowed := true, recurses := true, apart := false }
def DiffsMostSpecSaid : Prop := diffsMostSpecRow.holds Try.pinned (OpenSpec.ofChange diffsMostSpecSpec)

/-- ITS FALSE NEIGHBOUR: 'it returns false'. Refute it at one input. -/
def diffsMostSpecWrong : ChangeSpec := { name := "diffsMostSpec", fn := fun _ => fun
  | [d1, d2, d3, d4] => { results := [.lit (.bool false)], args := [d1, d2, d3, d4] }
  | _ => none }
def DiffsMostSpecWrongFalsely : Prop := diffsMostSpecRow.holds Try.pinned (OpenSpec.ofChange diffsMostSpecWrong)

/-- 'snowlinelaw04.DiffsDuality': WHATEVER THE INPUT: true; the input reads as it did. -/
def diffsDualitySpec : ChangeSpec := { name := "diffsDuality", fn := fun _ => fun
  | [d1, d2, d3, d4, d5] => { results := [.lit (.bool true)], args := [d1, d2, d3, d4, d5] }
  | _ => none }
def diffsDualityRow : OpenClaim := { program := "ytepnijjgdhldeaa", sum := "754883031510cdc07894e4565743b75afa3fd16283828eead301d4a00b6a6d1d", func := "snowline/snowlinelaw04.DiffsDuality", spec := "diffsDuality", unfollowed := true, recurses := true, apart := false }
def DiffsDualitySaid : Prop := diffsDualityRow.holds Try.pinned (OpenSpec.ofChange diffsDualitySpec)

/-- ITS FALSE NEIGHBOUR: 'it returns false'. Refute it at one input. -/
def diffsDualityWrong : ChangeSpec := { name := "diffsDuality", fn := fun _ => fun
  | [d1, d2, d3, d4, d5] => { results := [.lit (.bool false)], args := [d1, d2, d3, d4, d5] }
  | _ => none }
def DiffsDualityWrongFalsely : Prop := diffsDualityRow.holds Try.pinned (OpenSpec.ofChange diffsDualityWrong)

/-- 'snowlinelaw04.DiffsLattice': WHATEVER THE INPUT: true; the input reads as it did. -/
def diffsLatticeSpec : ChangeSpec := { name := "diffsLattice", fn := fun _ => fun
  | [d1, d2, d3] => { results := [.lit (.bool true)], args := [d1, d2, d3] }
  | _ => none }
def diffsLatticeRow : OpenClaim := { program := "ytepnijjgdhldeaa", sum := "754883031510cdc07894e4565743b75afa3fd16283828eead301d4a00b6a6d1d", func := "snowline/snowlinelaw04.DiffsLattice", spec := "diffsLattice", unfollowed := true, recurses := true, apart := false }
def DiffsLatticeSaid : Prop := diffsLatticeRow.holds Try.pinned (OpenSpec.ofChange diffsLatticeSpec)

/-- ITS FALSE NEIGHBOUR: 'it returns false'. Refute it at one input. -/
def diffsLatticeWrong : ChangeSpec := { name := "diffsLattice", fn := fun _ => fun
  | [d1, d2, d3] => { results := [.lit (.bool false)], args := [d1, d2, d3] }
  | _ => none }
def DiffsLatticeWrongFalsely : Prop := diffsLatticeRow.holds Try.pinned (OpenSpec.ofChange diffsLatticeWrong)

/-- 'snowlinelaw04.DiffsRounds': WHATEVER THE INPUT: true; the input reads as it did. -/
def diffsRoundsSpec : ChangeSpec := { name := "diffsRounds", fn := fun _ => fun
  | [d1, d2, d3] => { results := [.lit (.bool true)], args := [d1, d2, d3] }
  | _ => none }
def diffsRoundsRow : OpenClaim := { program := "ytepnijjgdhldeaa", sum := "754883031510cdc07894e4565743b75afa3fd16283828eead301d4a00b6a6d1d", func := "snowline/snowlinelaw04.DiffsRounds", spec := "diffsRounds", unfollowed := true, recurses := true, apart := false }
def DiffsRoundsSaid : Prop := diffsRoundsRow.holds Try.pinned (OpenSpec.ofChange diffsRoundsSpec)

/-- ITS FALSE NEIGHBOUR: 'it returns false'. Refute it at one input. -/
def diffsRoundsWrong : ChangeSpec := { name := "diffsRounds", fn := fun _ => fun
  | [d1, d2, d3] => { results := [.lit (.bool false)], args := [d1, d2, d3] }
  | _ => none }
def DiffsRoundsWrongFalsely : Prop := diffsRoundsRow.holds Try.pinned (OpenSpec.ofChange diffsRoundsWrong)

/-- 'snowlinelaw04.DiffsHidden': WHATEVER THE INPUT: true; the input reads as it did. -/
def diffsHiddenSpec : ChangeSpec := { name := "diffsHidden", fn := fun _ => fun
  | [d1, d2, d3] => { results := [.lit (.bool true)], args := [d1, d2, d3] }
  | _ => none }
def diffsHiddenRow : OpenClaim := { program := "ytepnijjgdhldeaa", sum := "754883031510cdc07894e4565743b75afa3fd16283828eead301d4a00b6a6d1d", func := "snowline/snowlinelaw04.DiffsHidden", spec := "diffsHidden", unfollowed := true, recurses := true, apart := false }
def DiffsHiddenSaid : Prop := diffsHiddenRow.holds Try.pinned (OpenSpec.ofChange diffsHiddenSpec)

/-- ITS FALSE NEIGHBOUR: 'it returns false'. Refute it at one input. -/
def diffsHiddenWrong : ChangeSpec := { name := "diffsHidden", fn := fun _ => fun
  | [d1, d2, d3] => { results := [.lit (.bool false)], args := [d1, d2, d3] }
  | _ => none }
def DiffsHiddenWrongFalsely : Prop := diffsHiddenRow.holds Try.pinned (OpenSpec.ofChange diffsHiddenWrong)

/-- 'snowlinelaw04.DiffsSpareSpec': WHATEVER THE INPUT: true; the input reads as it did. -/
def diffsSpareSpecSpec : ChangeSpec := { name := "diffsSpareSpec", fn := fun _ => fun
  | [d1, d2] => { results := [.lit (.bool true)], args := [d1, d2] }
  | _ => none }
def diffsSpareSpecRow : OpenClaim := { program := "ytepnijjgdhldeaa", sum := "754883031510cdc07894e4565743b75afa3fd16283828eead301d4a00b6a6d1d", func := "snowline/snowlinelaw04.DiffsSpareSpec", spec := "diffsSpareSpec", unfollowed := true, recurses := true, apart := false }
def DiffsSpareSpecSaid : Prop := diffsSpareSpecRow.holds Try.pinned (OpenSpec.ofChange diffsSpareSpecSpec)

/-- ITS FALSE NEIGHBOUR: 'it returns false'. Refute it at one input. -/
def diffsSpareSpecWrong : ChangeSpec := { name := "diffsSpareSpec", fn := fun _ => fun
  | [d1, d2] => { results := [.lit (.bool false)], args := [d1, d2] }
  | _ => none }
def DiffsSpareSpecWrongFalsely : Prop := diffsSpareSpecRow.holds Try.pinned (OpenSpec.ofChange diffsSpareSpecWrong)

/-- 'snowlinelaw04.DiffsSpared': WHATEVER THE INPUT: true; the input reads as it did. -/
def diffsSparedSpec : ChangeSpec := { name := "diffsSpared", fn := fun _ => fun
  | [d1, d2, d3, d4] => { results := [.lit (.bool true)], args := [d1, d2, d3, d4] }
  | _ => none }
def diffsSparedRow : OpenClaim := { program := "ytepnijjgdhldeaa", sum := "754883031510cdc07894e4565743b75afa3fd16283828eead301d4a00b6a6d1d", func := "snowline/snowlinelaw04.DiffsSpared", spec := "diffsSpared", unfollowed := true, recurses := true, apart := false }
def DiffsSparedSaid : Prop := diffsSparedRow.holds Try.pinned (OpenSpec.ofChange diffsSparedSpec)

/-- ITS FALSE NEIGHBOUR: 'it returns false'. Refute it at one input. -/
def diffsSparedWrong : ChangeSpec := { name := "diffsSpared", fn := fun _ => fun
  | [d1, d2, d3, d4] => { results := [.lit (.bool false)], args := [d1, d2, d3, d4] }
  | _ => none }
def DiffsSparedWrongFalsely : Prop := diffsSparedRow.holds Try.pinned (OpenSpec.ofChange diffsSparedWrong)

/-- 'snowlinelaw04.DiffsCheckSpec': WHATEVER THE INPUT: true; the input reads as it did. -/
def diffsCheckSpecSpec : ChangeSpec := { name := "diffsCheckSpec", fn := fun _ => fun
  | [d1, d2, d3, d4] => { results := [.lit (.bool true)], args := [d1, d2, d3, d4] }
  | _ => none }
def diffsCheckSpecRow : OpenClaim := { program := "ytepnijjgdhldeaa", sum := "754883031510cdc07894e4565743b75afa3fd16283828eead301d4a00b6a6d1d", func := "snowline/snowlinelaw04.DiffsCheckSpec", spec := "diffsCheckSpec", unfollowed := true, recurses := true, apart := false }
def DiffsCheckSpecSaid : Prop := diffsCheckSpecRow.holds Try.pinned (OpenSpec.ofChange diffsCheckSpecSpec)

/-- ITS FALSE NEIGHBOUR: 'it returns false'. Refute it at one input. -/
def diffsCheckSpecWrong : ChangeSpec := { name := "diffsCheckSpec", fn := fun _ => fun
  | [d1, d2, d3, d4] => { results := [.lit (.bool false)], args := [d1, d2, d3, d4] }
  | _ => none }
def DiffsCheckSpecWrongFalsely : Prop := diffsCheckSpecRow.holds Try.pinned (OpenSpec.ofChange diffsCheckSpecWrong)

/-- 'snowlinelaw04.DiffsCloseSpec': WHATEVER THE INPUT: true; the input reads as it did. -/
def diffsCloseSpecSpec : ChangeSpec := { name := "diffsCloseSpec", fn := fun _ => fun
  | [d1, d2, d3] => { results := [.lit (.bool true)], args := [d1, d2, d3] }
  | _ => none }
def diffsCloseSpecRow : OpenClaim := { program := "ytepnijjgdhldeaa", sum := "754883031510cdc07894e4565743b75afa3fd16283828eead301d4a00b6a6d1d", func := "snowline/snowlinelaw04.DiffsCloseSpec", spec := "diffsCloseSpec", unfollowed := true, recurses := true, apart := false }
def DiffsCloseSpecSaid : Prop := diffsCloseSpecRow.holds Try.pinned (OpenSpec.ofChange diffsCloseSpecSpec)

/-- ITS FALSE NEIGHBOUR: 'it returns false'. Refute it at one input. -/
def diffsCloseSpecWrong : ChangeSpec := { name := "diffsCloseSpec", fn := fun _ => fun
  | [d1, d2, d3] => { results := [.lit (.bool false)], args := [d1, d2, d3] }
  | _ => none }
def DiffsCloseSpecWrongFalsely : Prop := diffsCloseSpecRow.holds Try.pinned (OpenSpec.ofChange diffsCloseSpecWrong)

/-- 'snowlinelaw04.DiffsStepwise': WHATEVER THE INPUT: true; the input reads as it did. -/
def diffsStepwiseSpec : ChangeSpec := { name := "diffsStepwise", fn := fun _ => fun
  | [d1, d2] => { results := [.lit (.bool true)], args := [d1, d2] }
  | _ => none }
def diffsStepwiseRow : OpenClaim := { program := "ytepnijjgdhldeaa", sum := "754883031510cdc07894e4565743b75afa3fd16283828eead301d4a00b6a6d1d", func := "snowline/snowlinelaw04.DiffsStepwise", spec := "diffsStepwise", unfollowed := true, recurses := true, apart := false }
def DiffsStepwiseSaid : Prop := diffsStepwiseRow.holds Try.pinned (OpenSpec.ofChange diffsStepwiseSpec)

/-- ITS FALSE NEIGHBOUR: 'it returns false'. Refute it at one input. -/
def diffsStepwiseWrong : ChangeSpec := { name := "diffsStepwise", fn := fun _ => fun
  | [d1, d2] => { results := [.lit (.bool false)], args := [d1, d2] }
  | _ => none }
def DiffsStepwiseWrongFalsely : Prop := diffsStepwiseRow.holds Try.pinned (OpenSpec.ofChange diffsStepwiseWrong)

/- THE SECOND FORM. 'bulk': how many values and letters a reading holds, each counted each time it is reached (what is shared counts as often as it is met; a slice's spare places count too). A statement '..UptoSaid' is the law's where the arguments, and the package variables that the reading takes, are together of bulk at most 1048576: NARROWER than '..Said'. Prove '..Said' where nothing that the law and all that it calls make is longer than what came in: it says more and counts as full. Else prove '..UptoSaid'. A law counts once. -/
mutual
def uptoBulk {H : Type} : DataW H → Nat
  | .lit (.string bytes) => bytes.length + 1
  | .lit _ => 1
  | .nil => 1
  | .ptr d => uptoBulk d + 1
  | .slice elems spare => uptoBulkAll elems + uptoBulkAll spare + 1
  | .agg parts => uptoBulkAll parts + 1
  | .iface _ d => uptoBulk d + 1
  | .map entries => uptoBulkEntries entries + 1
  | .held _ => 1
def uptoBulkAll {H : Type} : List (DataW H) → Nat
  | [] => 0
  | d :: r => uptoBulk d + uptoBulkAll r
def uptoBulkEntries {H : Type} : List (Lit × DataW H) → Nat
  | [] => 0
  | x :: r => uptoBulkEntry x + uptoBulkEntries r
def uptoBulkEntry {H : Type} : Lit × DataW H → Nat
  | (.string bytes, d) => bytes.length + uptoBulk d + 1
  | (_, d) => uptoBulk d + 1
 end
def uptoSmall : (H : Type) → List (DataW H) → Bool := fun _ ds => decide (uptoBulkAll ds ≤ 1048576)
def OpenSpec.upto (s : _root_.Go.ChangeSpec) : _root_.Go.OpenSpec := { _root_.Go.OpenSpec.ofChange s with cond := some uptoSmall }

/-- 'snowlinelaw04.DiffsTopSpec', WHERE WHAT IT READS IS OF BULK AT MOST 1048576: true; the input reads as it did. -/
def diffsTopSpecUptoRow : OpenClaim := { program := "ytepnijjgdhldeaa", sum := "754883031510cdc07894e4565743b75afa3fd16283828eead301d4a00b6a6d1d", func := "snowline/snowlinelaw04.DiffsTopSpec", spec := "diffsTopSpec", unfollowed := true, recurses := true, apart := false, narrowed := true }
def DiffsTopSpecUptoSaid : Prop := diffsTopSpecUptoRow.holds Try.pinned (OpenSpec.upto diffsTopSpecSpec)

/-- 'snowlinelaw04.DiffsMetric', WHERE WHAT IT READS IS OF BULK AT MOST 1048576: true; the input reads as it did. -/
def diffsMetricUptoRow : OpenClaim := { program := "ytepnijjgdhldeaa", sum := "754883031510cdc07894e4565743b75afa3fd16283828eead301d4a00b6a6d1d", func := "snowline/snowlinelaw04.DiffsMetric", spec := "diffsMetric", unfollowed := true, recurses := true, apart := false, narrowed := true }
def DiffsMetricUptoSaid : Prop := diffsMetricUptoRow.holds Try.pinned (OpenSpec.upto diffsMetricSpec)

/-- 'snowlinelaw04.DiffsUnits', WHERE WHAT IT READS IS OF BULK AT MOST 1048576: true; the input reads as it did. -/
def diffsUnitsUptoRow : OpenClaim := { program := "ytepnijjgdhldeaa", sum := "754883031510cdc07894e4565743b75afa3fd16283828eead301d4a00b6a6d1d", func := "snowline/snowlinelaw04.DiffsUnits", spec := "diffsUnits", unfollowed := true, recurses := true, apart := false, narrowed := true }
def DiffsUnitsUptoSaid : Prop := diffsUnitsUptoRow.holds Try.pinned (OpenSpec.upto diffsUnitsSpec)

/-- 'snowlinelaw04.DiffsScaled', WHERE WHAT IT READS IS OF BULK AT MOST 1048576: true; the input reads as it did. -/
def diffsScaledUptoRow : OpenClaim := { program := "ytepnijjgdhldeaa", sum := "754883031510cdc07894e4565743b75afa3fd16283828eead301d4a00b6a6d1d", func := "snowline/snowlinelaw04.DiffsScaled", spec := "diffsScaled", unfollowed := true, recurses := true, apart := false, narrowed := true }
def DiffsScaledUptoSaid : Prop := diffsScaledUptoRow.holds Try.pinned (OpenSpec.upto diffsScaledSpec)

/-- 'snowlinelaw04.DiffsAdded', WHERE WHAT IT READS IS OF BULK AT MOST 1048576: true; the input reads as it did. -/
def diffsAddedUptoRow : OpenClaim := { program := "ytepnijjgdhldeaa", sum := "754883031510cdc07894e4565743b75afa3fd16283828eead301d4a00b6a6d1d", func := "snowline/snowlinelaw04.DiffsAdded", spec := "diffsAdded", unfollowed := true, recurses := true, apart := false, narrowed := true }
def DiffsAddedUptoSaid : Prop := diffsAddedUptoRow.holds Try.pinned (OpenSpec.upto diffsAddedSpec)

/-- 'snowlinelaw04.DiffsSolveSpec', WHERE WHAT IT READS IS OF BULK AT MOST 1048576: true; the input reads as it did. -/
def diffsSolveSpecUptoRow : OpenClaim := { program := "ytepnijjgdhldeaa", sum := "754883031510cdc07894e4565743b75afa3fd16283828eead301d4a00b6a6d1d", func := "snowline/snowlinelaw04.DiffsSolveSpec", spec := "diffsSolveSpec", unfollowed := true, recurses := true, apart := false, narrowed := true }
def DiffsSolveSpecUptoSaid : Prop := diffsSolveSpecUptoRow.holds Try.pinned (OpenSpec.upto diffsSolveSpecSpec)

/-- 'snowlinelaw04.DiffsApartSpec', WHERE WHAT IT READS IS OF BULK AT MOST 1048576: true; the input reads as it did. -/
def diffsApartSpecUptoRow : OpenClaim := { program := "ytepnijjgdhldeaa", sum := "754883031510cdc07894e4565743b75afa3fd16283828eead301d4a00b6a6d1d", func := "snowline/snowlinelaw04.DiffsApartSpec", spec := "diffsApartSpec", unfollowed := true, recurses := true, apart := false, narrowed := true }
def DiffsApartSpecUptoSaid : Prop := diffsApartSpecUptoRow.holds Try.pinned (OpenSpec.upto diffsApartSpecSpec)

/-- 'snowlinelaw04.DiffsPaths', WHERE WHAT IT READS IS OF BULK AT MOST 1048576: true; the input reads as it did. -/
def diffsPathsUptoRow : OpenClaim := { program := "ytepnijjgdhldeaa", sum := "754883031510cdc07894e4565743b75afa3fd16283828eead301d4a00b6a6d1d", func := "snowline/snowlinelaw04.DiffsPaths", spec := "diffsPaths", unfollowed := true, recurses := true, apart := false, narrowed := true }
def DiffsPathsUptoSaid : Prop := diffsPathsUptoRow.holds Try.pinned (OpenSpec.upto diffsPathsSpec)

/-- 'snowlinelaw04.DiffsMostSpec', WHERE WHAT IT READS IS OF BULK AT MOST 1048576: true; the input reads as it did. -/
def diffsMostSpecUptoRow : OpenClaim := { program := "ytepnijjgdhldeaa", sum := "754883031510cdc07894e4565743b75afa3fd16283828eead301d4a00b6a6d1d", func := "snowline/snowlinelaw04.DiffsMostSpec", spec := "diffsMostSpec", unfollowed := true, recurses := true, apart := false, narrowed := true }
def DiffsMostSpecUptoSaid : Prop := diffsMostSpecUptoRow.holds Try.pinned (OpenSpec.upto diffsMostSpecSpec)

/-- 'snowlinelaw04.DiffsDuality', WHERE WHAT IT READS IS OF BULK AT MOST 1048576: true; the input reads as it did. -/
def diffsDualityUptoRow : OpenClaim := { program := "ytepnijjgdhldeaa", sum := "754883031510cdc07894e4565743b75afa3fd16283828eead301d4a00b6a6d1d", func := "snowline/snowlinelaw04.DiffsDuality", spec := "diffsDuality", unfollowed := true, recurses := true, apart := false, narrowed := true }
def DiffsDualityUptoSaid : Prop := diffsDualityUptoRow.holds Try.pinned (OpenSpec.upto diffsDualitySpec)

/-- 'snowlinelaw04.DiffsLattice', WHERE WHAT IT READS IS OF BULK AT MOST 1048576: true; the input reads as it did. -/
def diffsLatticeUptoRow : OpenClaim := { program := "ytepnijjgdhldeaa", sum := "754883031510cdc07894e4565743b75afa3fd16283828eead301d4a00b6a6d1d", func := "snowline/snowlinelaw04.DiffsLattice", spec := "diffsLattice", unfollowed := true, recurses := true, apart := false, narrowed := true }
def DiffsLatticeUptoSaid : Prop := diffsLatticeUptoRow.holds Try.pinned (OpenSpec.upto diffsLatticeSpec)

/-- 'snowlinelaw04.DiffsRounds', WHERE WHAT IT READS IS OF BULK AT MOST 1048576: true; the input reads as it did. -/
def diffsRoundsUptoRow : OpenClaim := { program := "ytepnijjgdhldeaa", sum := "754883031510cdc07894e4565743b75afa3fd16283828eead301d4a00b6a6d1d", func := "snowline/snowlinelaw04.DiffsRounds", spec := "diffsRounds", unfollowed := true, recurses := true, apart := false, narrowed := true }
def DiffsRoundsUptoSaid : Prop := diffsRoundsUptoRow.holds Try.pinned (OpenSpec.upto diffsRoundsSpec)

/-- 'snowlinelaw04.DiffsHidden', WHERE WHAT IT READS IS OF BULK AT MOST 1048576: true; the input reads as it did. -/
def diffsHiddenUptoRow : OpenClaim := { program := "ytepnijjgdhldeaa", sum := "754883031510cdc07894e4565743b75afa3fd16283828eead301d4a00b6a6d1d", func := "snowline/snowlinelaw04.DiffsHidden", spec := "diffsHidden", unfollowed := true, recurses := true, apart := false, narrowed := true }
def DiffsHiddenUptoSaid : Prop := diffsHiddenUptoRow.holds Try.pinned (OpenSpec.upto diffsHiddenSpec)

/-- 'snowlinelaw04.DiffsSpareSpec', WHERE WHAT IT READS IS OF BULK AT MOST 1048576: true; the input reads as it did. -/
def diffsSpareSpecUptoRow : OpenClaim := { program := "ytepnijjgdhldeaa", sum := "754883031510cdc07894e4565743b75afa3fd16283828eead301d4a00b6a6d1d", func := "snowline/snowlinelaw04.DiffsSpareSpec", spec := "diffsSpareSpec", unfollowed := true, recurses := true, apart := false, narrowed := true }
def DiffsSpareSpecUptoSaid : Prop := diffsSpareSpecUptoRow.holds Try.pinned (OpenSpec.upto diffsSpareSpecSpec)

/-- 'snowlinelaw04.DiffsSpared', WHERE WHAT IT READS IS OF BULK AT MOST 1048576: true; the input reads as it did. -/
def diffsSparedUptoRow : OpenClaim := { program := "ytepnijjgdhldeaa", sum := "754883031510cdc07894e4565743b75afa3fd16283828eead301d4a00b6a6d1d", func := "snowline/snowlinelaw04.DiffsSpared", spec := "diffsSpared", unfollowed := true, recurses := true, apart := false, narrowed := true }
def DiffsSparedUptoSaid : Prop := diffsSparedUptoRow.holds Try.pinned (OpenSpec.upto diffsSparedSpec)

/-- 'snowlinelaw04.DiffsCheckSpec', WHERE WHAT IT READS IS OF BULK AT MOST 1048576: true; the input reads as it did. -/
def diffsCheckSpecUptoRow : OpenClaim := { program := "ytepnijjgdhldeaa", sum := "754883031510cdc07894e4565743b75afa3fd16283828eead301d4a00b6a6d1d", func := "snowline/snowlinelaw04.DiffsCheckSpec", spec := "diffsCheckSpec", unfollowed := true, recurses := true, apart := false, narrowed := true }
def DiffsCheckSpecUptoSaid : Prop := diffsCheckSpecUptoRow.holds Try.pinned (OpenSpec.upto diffsCheckSpecSpec)

/-- 'snowlinelaw04.DiffsCloseSpec', WHERE WHAT IT READS IS OF BULK AT MOST 1048576: true; the input reads as it did. -/
def diffsCloseSpecUptoRow : OpenClaim := { program := "ytepnijjgdhldeaa", sum := "754883031510cdc07894e4565743b75afa3fd16283828eead301d4a00b6a6d1d", func := "snowline/snowlinelaw04.DiffsCloseSpec", spec := "diffsCloseSpec", unfollowed := true, recurses := true, apart := false, narrowed := true }
def DiffsCloseSpecUptoSaid : Prop := diffsCloseSpecUptoRow.holds Try.pinned (OpenSpec.upto diffsCloseSpecSpec)

/-- 'snowlinelaw04.DiffsStepwise', WHERE WHAT IT READS IS OF BULK AT MOST 1048576: true; the input reads as it did. -/
def diffsStepwiseUptoRow : OpenClaim := { program := "ytepnijjgdhldeaa", sum := "754883031510cdc07894e4565743b75afa3fd16283828eead301d4a00b6a6d1d", func := "snowline/snowlinelaw04.DiffsStepwise", spec := "diffsStepwise", unfollowed := true, recurses := true, apart := false, narrowed := true }
def DiffsStepwiseUptoSaid : Prop := diffsStepwiseUptoRow.holds Try.pinned (OpenSpec.upto diffsStepwiseSpec)

end Rows
end Go.Proofs.Ytepnijjgdhldeaa
