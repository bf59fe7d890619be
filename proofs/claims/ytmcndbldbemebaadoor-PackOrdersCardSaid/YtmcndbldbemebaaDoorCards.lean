/-
  DERIVED. GIVEN WITH THE SEED: THE CARDS: each row of YtmcndbldbemebaaDoorRows.lean that lists a variable, with what it lists TIED to the program's text (the seventh form; the later family's looks); each row that meets fmt, with fmt's text TOLD by the authors' own Lean function (tested against real Go, not proved from fmt's source: count such statements apart). THE CARD IS WHAT COUNTS. Prove the row's statement (the work); the ties are given (YtmcndbldbemebaaDoorTie.lean); close each card by the builder's one call (the guide's Derived/Test/ToyasCard.lean, 'card_holds'). Laid BY PROGRAM, IN A SANDBOX (cutbox-door.mjs). By AI agents, Wed Nov 11 2026. No macro, syntax, notation, axiom, sorry.
-/
import Derived.Test.YtmcndbldbemebaaDoorRows
import GoSem.ClaimSeven
namespace Go.Proofs.YtmcndbldbemebaaDoor
namespace Rows

/-- THE TIED CARD OF 'snowlinelaw02.PackApplies'. -/
def packAppliesCard : Claim7 := { stood := { row := packAppliesRow, standIns := [], harness := (true, "6c952e18c2e683eab683b258bf8567f02bfa147883cd1d0020a7483a7f4dd0d9"), looks := false }, kinds := [], alts := [], laidByText := true, laidKinds := [.data, .data, .data], laidTests := true, laidLooks := .later }
def PackAppliesCardSaid : Prop := Claim7.holds Tryd.pinned (.plain (OpenSpec.ofChange packAppliesSpec)) packAppliesCard

/-- THE TIED CARD OF 'snowlinelaw02.PackConserved'. -/
def packConservedCard : Claim7 := { stood := { row := packConservedRow, standIns := [], harness := (true, "6c952e18c2e683eab683b258bf8567f02bfa147883cd1d0020a7483a7f4dd0d9"), looks := false }, kinds := [], alts := [], laidByText := true, laidKinds := [.data, .data, .data], laidTests := true, laidLooks := .later }
def PackConservedCardSaid : Prop := Claim7.holds Tryd.pinned (.plain (OpenSpec.ofChange packConservedSpec)) packConservedCard

/-- THE TIED CARD OF 'snowlinelaw02.PackParts'. -/
def packPartsCard : Claim7 := { stood := { row := packPartsRow, standIns := [], harness := (true, "6c952e18c2e683eab683b258bf8567f02bfa147883cd1d0020a7483a7f4dd0d9"), looks := false }, kinds := [], alts := [], laidByText := true, laidKinds := [.data, .data, .data], laidTests := true, laidLooks := .later }
def PackPartsCardSaid : Prop := Claim7.holds Tryd.pinned (.plain (OpenSpec.ofChange packPartsSpec)) packPartsCard

/-- THE TIED CARD OF 'snowlinelaw02.PackReady'. -/
def packReadyCard : Claim7 := { stood := { row := packReadyRow, standIns := [], harness := (true, "6c952e18c2e683eab683b258bf8567f02bfa147883cd1d0020a7483a7f4dd0d9"), looks := false }, kinds := [], alts := [], laidByText := true, laidKinds := [.data, .data, .data], laidTests := true, laidLooks := .later }
def PackReadyCardSaid : Prop := Claim7.holds Tryd.pinned (.plain (OpenSpec.ofChange packReadySpec)) packReadyCard

/-- THE TIED CARD OF 'snowlinelaw02.PackJoined'. -/
def packJoinedCard : Claim7 := { stood := { row := packJoinedRow, standIns := [], harness := (true, "6c952e18c2e683eab683b258bf8567f02bfa147883cd1d0020a7483a7f4dd0d9"), looks := false }, kinds := [], alts := [], laidByText := true, laidKinds := [.data, .data, .data], laidTests := true, laidLooks := .later }
def PackJoinedCardSaid : Prop := Claim7.holds Tryd.pinned (.plain (OpenSpec.ofChange packJoinedSpec)) packJoinedCard

/-- THE TIED CARD OF 'snowlinelaw02.PackBreaks'. -/
def packBreaksCard : Claim7 := { stood := { row := packBreaksRow, standIns := [], harness := (true, "6c952e18c2e683eab683b258bf8567f02bfa147883cd1d0020a7483a7f4dd0d9"), looks := false }, kinds := [], alts := [], laidByText := true, laidKinds := [.data, .data, .data], laidTests := true, laidLooks := .later }
def PackBreaksCardSaid : Prop := Claim7.holds Tryd.pinned (.plain (OpenSpec.ofChange packBreaksSpec)) packBreaksCard

/-- THE TIED CARD OF 'snowlinelaw02.PackSlopes'. -/
def packSlopesCard : Claim7 := { stood := { row := packSlopesRow, standIns := [], harness := (true, "6c952e18c2e683eab683b258bf8567f02bfa147883cd1d0020a7483a7f4dd0d9"), looks := false }, kinds := [], alts := [], laidByText := true, laidKinds := [.data, .data, .data], laidTests := true, laidLooks := .later }
def PackSlopesCardSaid : Prop := Claim7.holds Tryd.pinned (.plain (OpenSpec.ofChange packSlopesSpec)) packSlopesCard

/-- THE TIED CARD OF 'snowlinelaw02.PackChecks'. -/
def packChecksCard : Claim7 := { stood := { row := packChecksRow, standIns := [], harness := (true, "6c952e18c2e683eab683b258bf8567f02bfa147883cd1d0020a7483a7f4dd0d9"), looks := false }, kinds := [], alts := [], laidByText := true, laidKinds := [.data, .data, .data], laidTests := true, laidLooks := .later }
def PackChecksCardSaid : Prop := Claim7.holds Tryd.pinned (.plain (OpenSpec.ofChange packChecksSpec)) packChecksCard

/-- THE TIED CARD OF 'snowlinelaw02.PackRuns'. -/
def packRunsCard : Claim7 := { stood := { row := packRunsRow, standIns := [], harness := (true, "6c952e18c2e683eab683b258bf8567f02bfa147883cd1d0020a7483a7f4dd0d9"), looks := false }, kinds := [], alts := [], laidByText := true, laidKinds := [.data, .data, .data], laidTests := true, laidLooks := .later }
def PackRunsCardSaid : Prop := Claim7.holds Tryd.pinned (.plain (OpenSpec.ofChange packRunsSpec)) packRunsCard

/-- THE TIED CARD OF 'snowlinelaw02.PackRun'. -/
def packRunCard : Claim7 := { stood := { row := packRunRow, standIns := [], harness := (true, "6c952e18c2e683eab683b258bf8567f02bfa147883cd1d0020a7483a7f4dd0d9"), looks := false }, kinds := [], alts := [], laidByText := true, laidKinds := [.data, .data, .data], laidTests := true, laidLooks := .later }
def PackRunCardSaid : Prop := Claim7.holds Tryd.pinned (.plain (OpenSpec.ofChange packRunSpec)) packRunCard

/-- THE TIED CARD OF 'snowlinelaw02.PackDrift'. -/
def packDriftCard : Claim7 := { stood := { row := packDriftRow, standIns := [], harness := (true, "6c952e18c2e683eab683b258bf8567f02bfa147883cd1d0020a7483a7f4dd0d9"), looks := false }, kinds := [], alts := [], laidByText := true, laidKinds := [.data, .data, .data], laidTests := true, laidLooks := .later }
def PackDriftCardSaid : Prop := Claim7.holds Tryd.pinned (.plain (OpenSpec.ofChange packDriftSpec)) packDriftCard

/-- THE TIED CARD OF 'snowlinelaw02.PackReadies'. -/
def packReadiesCard : Claim7 := { stood := { row := packReadiesRow, standIns := [], harness := (true, "6c952e18c2e683eab683b258bf8567f02bfa147883cd1d0020a7483a7f4dd0d9"), looks := false }, kinds := [], alts := [], laidByText := true, laidKinds := [.data, .data, .data], laidTests := true, laidLooks := .later }
def PackReadiesCardSaid : Prop := Claim7.holds Tryd.pinned (.plain (OpenSpec.ofChange packReadiesSpec)) packReadiesCard

/-- THE TIED CARD OF 'snowlinelaw02.PackYields'. -/
def packYieldsCard : Claim7 := { stood := { row := packYieldsRow, standIns := [], harness := (true, "6c952e18c2e683eab683b258bf8567f02bfa147883cd1d0020a7483a7f4dd0d9"), looks := false }, kinds := [], alts := [], laidByText := true, laidKinds := [.data, .data, .data], laidTests := true, laidLooks := .later }
def PackYieldsCardSaid : Prop := Claim7.holds Tryd.pinned (.plain (OpenSpec.ofChange packYieldsSpec)) packYieldsCard

/-- THE TIED CARD OF 'snowlinelaw02.PackLess'. -/
def packLessCard : Claim7 := { stood := { row := packLessRow, standIns := [], harness := (true, "6c952e18c2e683eab683b258bf8567f02bfa147883cd1d0020a7483a7f4dd0d9"), looks := false }, kinds := [], alts := [], laidByText := true, laidKinds := [.data, .data, .data], laidTests := true, laidLooks := .later }
def PackLessCardSaid : Prop := Claim7.holds Tryd.pinned (.plain (OpenSpec.ofChange packLessSpec)) packLessCard

/-- THE TIED CARD OF 'snowlinelaw02.PackOrders'. -/
def packOrdersCard : Claim7 := { stood := { row := packOrdersRow, standIns := [], harness := (true, "6c952e18c2e683eab683b258bf8567f02bfa147883cd1d0020a7483a7f4dd0d9"), looks := false }, kinds := [], alts := [], laidByText := true, laidKinds := [.data, .data, .data], laidTests := true, laidLooks := .later }
def PackOrdersCardSaid : Prop := Claim7.holds Tryd.pinned (.plain (OpenSpec.ofChange packOrdersSpec)) packOrdersCard

/-- THE SECOND FORM's CARD OF 'snowlinelaw02.PackApplies'. -/
def packAppliesUptoCard : Claim7 := { stood := { row := packAppliesUptoRow, standIns := [], harness := (true, "6c952e18c2e683eab683b258bf8567f02bfa147883cd1d0020a7483a7f4dd0d9"), looks := false }, kinds := [], alts := [], laidByText := true, laidKinds := [.data, .data, .data], laidTests := true, laidLooks := .later }
def PackAppliesUptoCardSaid : Prop := Claim7.holds Tryd.pinned (.plain (OpenSpec.upto packAppliesSpec)) packAppliesUptoCard

/-- THE SECOND FORM's CARD OF 'snowlinelaw02.PackConserved'. -/
def packConservedUptoCard : Claim7 := { stood := { row := packConservedUptoRow, standIns := [], harness := (true, "6c952e18c2e683eab683b258bf8567f02bfa147883cd1d0020a7483a7f4dd0d9"), looks := false }, kinds := [], alts := [], laidByText := true, laidKinds := [.data, .data, .data], laidTests := true, laidLooks := .later }
def PackConservedUptoCardSaid : Prop := Claim7.holds Tryd.pinned (.plain (OpenSpec.upto packConservedSpec)) packConservedUptoCard

/-- THE SECOND FORM's CARD OF 'snowlinelaw02.PackParts'. -/
def packPartsUptoCard : Claim7 := { stood := { row := packPartsUptoRow, standIns := [], harness := (true, "6c952e18c2e683eab683b258bf8567f02bfa147883cd1d0020a7483a7f4dd0d9"), looks := false }, kinds := [], alts := [], laidByText := true, laidKinds := [.data, .data, .data], laidTests := true, laidLooks := .later }
def PackPartsUptoCardSaid : Prop := Claim7.holds Tryd.pinned (.plain (OpenSpec.upto packPartsSpec)) packPartsUptoCard

/-- THE SECOND FORM's CARD OF 'snowlinelaw02.PackReady'. -/
def packReadyUptoCard : Claim7 := { stood := { row := packReadyUptoRow, standIns := [], harness := (true, "6c952e18c2e683eab683b258bf8567f02bfa147883cd1d0020a7483a7f4dd0d9"), looks := false }, kinds := [], alts := [], laidByText := true, laidKinds := [.data, .data, .data], laidTests := true, laidLooks := .later }
def PackReadyUptoCardSaid : Prop := Claim7.holds Tryd.pinned (.plain (OpenSpec.upto packReadySpec)) packReadyUptoCard

/-- THE SECOND FORM's CARD OF 'snowlinelaw02.PackJoined'. -/
def packJoinedUptoCard : Claim7 := { stood := { row := packJoinedUptoRow, standIns := [], harness := (true, "6c952e18c2e683eab683b258bf8567f02bfa147883cd1d0020a7483a7f4dd0d9"), looks := false }, kinds := [], alts := [], laidByText := true, laidKinds := [.data, .data, .data], laidTests := true, laidLooks := .later }
def PackJoinedUptoCardSaid : Prop := Claim7.holds Tryd.pinned (.plain (OpenSpec.upto packJoinedSpec)) packJoinedUptoCard

/-- THE SECOND FORM's CARD OF 'snowlinelaw02.PackBreaks'. -/
def packBreaksUptoCard : Claim7 := { stood := { row := packBreaksUptoRow, standIns := [], harness := (true, "6c952e18c2e683eab683b258bf8567f02bfa147883cd1d0020a7483a7f4dd0d9"), looks := false }, kinds := [], alts := [], laidByText := true, laidKinds := [.data, .data, .data], laidTests := true, laidLooks := .later }
def PackBreaksUptoCardSaid : Prop := Claim7.holds Tryd.pinned (.plain (OpenSpec.upto packBreaksSpec)) packBreaksUptoCard

/-- THE SECOND FORM's CARD OF 'snowlinelaw02.PackSlopes'. -/
def packSlopesUptoCard : Claim7 := { stood := { row := packSlopesUptoRow, standIns := [], harness := (true, "6c952e18c2e683eab683b258bf8567f02bfa147883cd1d0020a7483a7f4dd0d9"), looks := false }, kinds := [], alts := [], laidByText := true, laidKinds := [.data, .data, .data], laidTests := true, laidLooks := .later }
def PackSlopesUptoCardSaid : Prop := Claim7.holds Tryd.pinned (.plain (OpenSpec.upto packSlopesSpec)) packSlopesUptoCard

/-- THE SECOND FORM's CARD OF 'snowlinelaw02.PackChecks'. -/
def packChecksUptoCard : Claim7 := { stood := { row := packChecksUptoRow, standIns := [], harness := (true, "6c952e18c2e683eab683b258bf8567f02bfa147883cd1d0020a7483a7f4dd0d9"), looks := false }, kinds := [], alts := [], laidByText := true, laidKinds := [.data, .data, .data], laidTests := true, laidLooks := .later }
def PackChecksUptoCardSaid : Prop := Claim7.holds Tryd.pinned (.plain (OpenSpec.upto packChecksSpec)) packChecksUptoCard

/-- THE SECOND FORM's CARD OF 'snowlinelaw02.PackRuns'. -/
def packRunsUptoCard : Claim7 := { stood := { row := packRunsUptoRow, standIns := [], harness := (true, "6c952e18c2e683eab683b258bf8567f02bfa147883cd1d0020a7483a7f4dd0d9"), looks := false }, kinds := [], alts := [], laidByText := true, laidKinds := [.data, .data, .data], laidTests := true, laidLooks := .later }
def PackRunsUptoCardSaid : Prop := Claim7.holds Tryd.pinned (.plain (OpenSpec.upto packRunsSpec)) packRunsUptoCard

/-- THE SECOND FORM's CARD OF 'snowlinelaw02.PackRun'. -/
def packRunUptoCard : Claim7 := { stood := { row := packRunUptoRow, standIns := [], harness := (true, "6c952e18c2e683eab683b258bf8567f02bfa147883cd1d0020a7483a7f4dd0d9"), looks := false }, kinds := [], alts := [], laidByText := true, laidKinds := [.data, .data, .data], laidTests := true, laidLooks := .later }
def PackRunUptoCardSaid : Prop := Claim7.holds Tryd.pinned (.plain (OpenSpec.upto packRunSpec)) packRunUptoCard

/-- THE SECOND FORM's CARD OF 'snowlinelaw02.PackDrift'. -/
def packDriftUptoCard : Claim7 := { stood := { row := packDriftUptoRow, standIns := [], harness := (true, "6c952e18c2e683eab683b258bf8567f02bfa147883cd1d0020a7483a7f4dd0d9"), looks := false }, kinds := [], alts := [], laidByText := true, laidKinds := [.data, .data, .data], laidTests := true, laidLooks := .later }
def PackDriftUptoCardSaid : Prop := Claim7.holds Tryd.pinned (.plain (OpenSpec.upto packDriftSpec)) packDriftUptoCard

/-- THE SECOND FORM's CARD OF 'snowlinelaw02.PackReadies'. -/
def packReadiesUptoCard : Claim7 := { stood := { row := packReadiesUptoRow, standIns := [], harness := (true, "6c952e18c2e683eab683b258bf8567f02bfa147883cd1d0020a7483a7f4dd0d9"), looks := false }, kinds := [], alts := [], laidByText := true, laidKinds := [.data, .data, .data], laidTests := true, laidLooks := .later }
def PackReadiesUptoCardSaid : Prop := Claim7.holds Tryd.pinned (.plain (OpenSpec.upto packReadiesSpec)) packReadiesUptoCard

/-- THE SECOND FORM's CARD OF 'snowlinelaw02.PackYields'. -/
def packYieldsUptoCard : Claim7 := { stood := { row := packYieldsUptoRow, standIns := [], harness := (true, "6c952e18c2e683eab683b258bf8567f02bfa147883cd1d0020a7483a7f4dd0d9"), looks := false }, kinds := [], alts := [], laidByText := true, laidKinds := [.data, .data, .data], laidTests := true, laidLooks := .later }
def PackYieldsUptoCardSaid : Prop := Claim7.holds Tryd.pinned (.plain (OpenSpec.upto packYieldsSpec)) packYieldsUptoCard

/-- THE SECOND FORM's CARD OF 'snowlinelaw02.PackLess'. -/
def packLessUptoCard : Claim7 := { stood := { row := packLessUptoRow, standIns := [], harness := (true, "6c952e18c2e683eab683b258bf8567f02bfa147883cd1d0020a7483a7f4dd0d9"), looks := false }, kinds := [], alts := [], laidByText := true, laidKinds := [.data, .data, .data], laidTests := true, laidLooks := .later }
def PackLessUptoCardSaid : Prop := Claim7.holds Tryd.pinned (.plain (OpenSpec.upto packLessSpec)) packLessUptoCard

/-- THE SECOND FORM's CARD OF 'snowlinelaw02.PackOrders'. -/
def packOrdersUptoCard : Claim7 := { stood := { row := packOrdersUptoRow, standIns := [], harness := (true, "6c952e18c2e683eab683b258bf8567f02bfa147883cd1d0020a7483a7f4dd0d9"), looks := false }, kinds := [], alts := [], laidByText := true, laidKinds := [.data, .data, .data], laidTests := true, laidLooks := .later }
def PackOrdersUptoCardSaid : Prop := Claim7.holds Tryd.pinned (.plain (OpenSpec.upto packOrdersSpec)) packOrdersUptoCard
end Rows
end Go.Proofs.YtmcndbldbemebaaDoor
