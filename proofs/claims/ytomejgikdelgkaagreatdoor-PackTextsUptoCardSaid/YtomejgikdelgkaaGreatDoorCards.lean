/-
  DERIVED. GIVEN WITH THE SEED: THE CARDS: each row of YtomejgikdelgkaaGreatDoorRows.lean that lists a variable, with what it lists TIED to the program's text (the seventh form; the later family's looks); each row that meets fmt, with fmt's text TOLD by the authors' own Lean function (tested against real Go, not proved from fmt's source: count such statements apart). THE CARD IS WHAT COUNTS. Prove the row's statement (the work); the ties are given (YtomejgikdelgkaaGreatDoorTie.lean); close each card by the builder's one call (the guide's Derived/Test/ToyasCard.lean, 'card_holds'). Laid BY PROGRAM, IN A SANDBOX (cutbox-door.mjs). By AI agents, Wed Nov 11 2026. No macro, syntax, notation, axiom, sorry.
-/
import Derived.Test.YtomejgikdelgkaaGreatDoorRows
import GoSem.ClaimSeven
namespace Go.Proofs.YtomejgikdelgkaaGreatDoor
namespace Rows

/-- THE TIED CARD OF 'snowlinelaw02.PackTexts'. -/
def packTextsCard : Claim7 := { stood := { row := packTextsRow, standIns := [], harness := (true, "0e95c3795f30623662a8dd83a350fdcd4450a1f3577949967fd7e55d6a90b045"), looks := true }, kinds := [], alts := [], laidByText := true, laidKinds := [.data, .data, .data, .data, .sentinel, .sentinel, .pinned], laidTests := true, laidLooks := .later }
def PackTextsCardSaid : Prop := Claim7.holds Tryz.pinned (.plain (OpenSpec.ofChange packTextsSpec)) packTextsCard

/-- THE SECOND FORM's CARD OF 'snowlinelaw02.PackTexts'. -/
def packTextsUptoCard : Claim7 := { stood := { row := packTextsUptoRow, standIns := [], harness := (true, "0e95c3795f30623662a8dd83a350fdcd4450a1f3577949967fd7e55d6a90b045"), looks := true }, kinds := [], alts := [], laidByText := true, laidKinds := [.data, .data, .data, .data, .sentinel, .sentinel, .pinned], laidTests := true, laidLooks := .later }
def PackTextsUptoCardSaid : Prop := Claim7.holds Tryz.pinned (.plain (OpenSpec.upto packTextsSpec)) packTextsUptoCard
end Rows
end Go.Proofs.YtomejgikdelgkaaGreatDoor
