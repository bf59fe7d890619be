/-
  DERIVED. GIVEN WITH THE SEED: THE CARDS: each row of YtgadlckkmhhmbaaGreatDoorRows.lean that lists a variable, with what it lists TIED to the program's text (the seventh form; the later family's looks); each row that meets fmt, with fmt's text TOLD by the authors' own Lean function (tested against real Go, not proved from fmt's source: count such statements apart). THE CARD IS WHAT COUNTS. Prove the row's statement (the work); the ties are given (YtgadlckkmhhmbaaGreatDoorTie.lean); close each card by the builder's one call (the guide's Derived/Test/ToyasCard.lean, 'card_holds'). Laid BY PROGRAM, IN A SANDBOX (cutbox-door.mjs). By AI agents, Wed Nov 11 2026. No macro, syntax, notation, axiom, sorry.
-/
import Derived.Test.YtgadlckkmhhmbaaGreatDoorRows
import GoSem.ClaimSeven
namespace Go.Proofs.YtgadlckkmhhmbaaGreatDoor
namespace Rows

/-- THE TIED CARD OF 'snowlinelaw01.CourseTexts'. -/
def courseTextsCard : Claim7 := { stood := { row := courseTextsRow, standIns := [], harness := (true, "95529d65644d8f82038a7d747e73ba295a2a520624d36f80ff12664cb760b70b"), looks := true }, kinds := [], alts := [], laidByText := true, laidKinds := [.data, .data, .data, .data, .sentinel, .sentinel, .pinned], laidTests := true, laidLooks := .later }
def CourseTextsCardSaid : Prop := Claim7.holds Tryz.pinned (.plain (OpenSpec.ofChange courseTextsSpec)) courseTextsCard

/-- THE SECOND FORM's CARD OF 'snowlinelaw01.CourseTexts'. -/
def courseTextsUptoCard : Claim7 := { stood := { row := courseTextsUptoRow, standIns := [], harness := (true, "95529d65644d8f82038a7d747e73ba295a2a520624d36f80ff12664cb760b70b"), looks := true }, kinds := [], alts := [], laidByText := true, laidKinds := [.data, .data, .data, .data, .sentinel, .sentinel, .pinned], laidTests := true, laidLooks := .later }
def CourseTextsUptoCardSaid : Prop := Claim7.holds Tryz.pinned (.plain (OpenSpec.upto courseTextsSpec)) courseTextsUptoCard
end Rows
end Go.Proofs.YtgadlckkmhhmbaaGreatDoor
