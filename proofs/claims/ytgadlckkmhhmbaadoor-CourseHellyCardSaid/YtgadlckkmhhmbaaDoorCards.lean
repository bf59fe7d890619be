/-
  DERIVED. GIVEN WITH THE SEED: THE CARDS: each row of YtgadlckkmhhmbaaDoorRows.lean that lists a variable, with what it lists TIED to the program's text (the seventh form; the later family's looks); each row that meets fmt, with fmt's text TOLD by the authors' own Lean function (tested against real Go, not proved from fmt's source: count such statements apart). THE CARD IS WHAT COUNTS. Prove the row's statement (the work); the ties are given (YtgadlckkmhhmbaaDoorTie.lean); close each card by the builder's one call (the guide's Derived/Test/ToyasCard.lean, 'card_holds'). Laid BY PROGRAM, IN A SANDBOX (cutbox-door.mjs). By AI agents, Wed Nov 11 2026. No macro, syntax, notation, axiom, sorry.
-/
import Derived.Test.YtgadlckkmhhmbaaDoorRows
import GoSem.ClaimSeven
namespace Go.Proofs.YtgadlckkmhhmbaaDoor
namespace Rows

/-- THE TIED CARD OF 'snowlinelaw01.CourseScales'. -/
def courseScalesCard : Claim7 := { stood := { row := courseScalesRow, standIns := [], harness := (true, "76eb651f8ade29158b0366cc891d72ea5178cf2f244f1faecb094b687551a614"), looks := false }, kinds := [], alts := [], laidByText := true, laidKinds := [.data, .data, .data], laidTests := true, laidLooks := .later }
def CourseScalesCardSaid : Prop := Claim7.holds Tryd.pinned (.plain (OpenSpec.ofChange courseScalesSpec)) courseScalesCard

/-- THE TIED CARD OF 'snowlinelaw01.CourseDrifts'. -/
def courseDriftsCard : Claim7 := { stood := { row := courseDriftsRow, standIns := [], harness := (true, "76eb651f8ade29158b0366cc891d72ea5178cf2f244f1faecb094b687551a614"), looks := false }, kinds := [], alts := [], laidByText := true, laidKinds := [.data, .data, .data], laidTests := true, laidLooks := .later }
def CourseDriftsCardSaid : Prop := Claim7.holds Tryd.pinned (.plain (OpenSpec.ofChange courseDriftsSpec)) courseDriftsCard

/-- THE TIED CARD OF 'snowlinelaw01.CourseSheets'. -/
def courseSheetsCard : Claim7 := { stood := { row := courseSheetsRow, standIns := [], harness := (true, "76eb651f8ade29158b0366cc891d72ea5178cf2f244f1faecb094b687551a614"), looks := false }, kinds := [], alts := [], laidByText := true, laidKinds := [.data, .data, .data], laidTests := true, laidLooks := .later }
def CourseSheetsCardSaid : Prop := Claim7.holds Tryd.pinned (.plain (OpenSpec.ofChange courseSheetsSpec)) courseSheetsCard

/-- THE TIED CARD OF 'snowlinelaw01.CourseHistories'. -/
def courseHistoriesCard : Claim7 := { stood := { row := courseHistoriesRow, standIns := [], harness := (true, "76eb651f8ade29158b0366cc891d72ea5178cf2f244f1faecb094b687551a614"), looks := false }, kinds := [], alts := [], laidByText := true, laidKinds := [.data, .data, .data], laidTests := true, laidLooks := .later }
def CourseHistoriesCardSaid : Prop := Claim7.holds Tryd.pinned (.plain (OpenSpec.ofChange courseHistoriesSpec)) courseHistoriesCard

/-- THE TIED CARD OF 'snowlinelaw01.CourseEnds'. -/
def courseEndsCard : Claim7 := { stood := { row := courseEndsRow, standIns := [], harness := (true, "76eb651f8ade29158b0366cc891d72ea5178cf2f244f1faecb094b687551a614"), looks := false }, kinds := [], alts := [], laidByText := true, laidKinds := [.data, .data, .data], laidTests := true, laidLooks := .later }
def CourseEndsCardSaid : Prop := Claim7.holds Tryd.pinned (.plain (OpenSpec.ofChange courseEndsSpec)) courseEndsCard

/-- THE TIED CARD OF 'snowlinelaw01.CourseAdds'. -/
def courseAddsCard : Claim7 := { stood := { row := courseAddsRow, standIns := [], harness := (true, "76eb651f8ade29158b0366cc891d72ea5178cf2f244f1faecb094b687551a614"), looks := false }, kinds := [], alts := [], laidByText := true, laidKinds := [.data, .data, .data], laidTests := true, laidLooks := .later }
def CourseAddsCardSaid : Prop := Claim7.holds Tryd.pinned (.plain (OpenSpec.ofChange courseAddsSpec)) courseAddsCard

/-- THE TIED CARD OF 'snowlinelaw01.CourseLists'. -/
def courseListsCard : Claim7 := { stood := { row := courseListsRow, standIns := [], harness := (true, "76eb651f8ade29158b0366cc891d72ea5178cf2f244f1faecb094b687551a614"), looks := false }, kinds := [], alts := [], laidByText := true, laidKinds := [.data, .data, .data], laidTests := true, laidLooks := .later }
def CourseListsCardSaid : Prop := Claim7.holds Tryd.pinned (.plain (OpenSpec.ofChange courseListsSpec)) courseListsCard

/-- THE TIED CARD OF 'snowlinelaw01.CourseStands'. -/
def courseStandsCard : Claim7 := { stood := { row := courseStandsRow, standIns := [], harness := (true, "76eb651f8ade29158b0366cc891d72ea5178cf2f244f1faecb094b687551a614"), looks := false }, kinds := [], alts := [], laidByText := true, laidKinds := [.data, .data, .data], laidTests := true, laidLooks := .later }
def CourseStandsCardSaid : Prop := Claim7.holds Tryd.pinned (.plain (OpenSpec.ofChange courseStandsSpec)) courseStandsCard

/-- THE TIED CARD OF 'snowlinelaw01.CourseHelly'. -/
def courseHellyCard : Claim7 := { stood := { row := courseHellyRow, standIns := [], harness := (true, "76eb651f8ade29158b0366cc891d72ea5178cf2f244f1faecb094b687551a614"), looks := false }, kinds := [], alts := [], laidByText := true, laidKinds := [.data, .data, .data], laidTests := true, laidLooks := .later }
def CourseHellyCardSaid : Prop := Claim7.holds Tryd.pinned (.plain (OpenSpec.ofChange courseHellySpec)) courseHellyCard

/-- THE SECOND FORM's CARD OF 'snowlinelaw01.CourseScales'. -/
def courseScalesUptoCard : Claim7 := { stood := { row := courseScalesUptoRow, standIns := [], harness := (true, "76eb651f8ade29158b0366cc891d72ea5178cf2f244f1faecb094b687551a614"), looks := false }, kinds := [], alts := [], laidByText := true, laidKinds := [.data, .data, .data], laidTests := true, laidLooks := .later }
def CourseScalesUptoCardSaid : Prop := Claim7.holds Tryd.pinned (.plain (OpenSpec.upto courseScalesSpec)) courseScalesUptoCard

/-- THE SECOND FORM's CARD OF 'snowlinelaw01.CourseDrifts'. -/
def courseDriftsUptoCard : Claim7 := { stood := { row := courseDriftsUptoRow, standIns := [], harness := (true, "76eb651f8ade29158b0366cc891d72ea5178cf2f244f1faecb094b687551a614"), looks := false }, kinds := [], alts := [], laidByText := true, laidKinds := [.data, .data, .data], laidTests := true, laidLooks := .later }
def CourseDriftsUptoCardSaid : Prop := Claim7.holds Tryd.pinned (.plain (OpenSpec.upto courseDriftsSpec)) courseDriftsUptoCard

/-- THE SECOND FORM's CARD OF 'snowlinelaw01.CourseSheets'. -/
def courseSheetsUptoCard : Claim7 := { stood := { row := courseSheetsUptoRow, standIns := [], harness := (true, "76eb651f8ade29158b0366cc891d72ea5178cf2f244f1faecb094b687551a614"), looks := false }, kinds := [], alts := [], laidByText := true, laidKinds := [.data, .data, .data], laidTests := true, laidLooks := .later }
def CourseSheetsUptoCardSaid : Prop := Claim7.holds Tryd.pinned (.plain (OpenSpec.upto courseSheetsSpec)) courseSheetsUptoCard

/-- THE SECOND FORM's CARD OF 'snowlinelaw01.CourseHistories'. -/
def courseHistoriesUptoCard : Claim7 := { stood := { row := courseHistoriesUptoRow, standIns := [], harness := (true, "76eb651f8ade29158b0366cc891d72ea5178cf2f244f1faecb094b687551a614"), looks := false }, kinds := [], alts := [], laidByText := true, laidKinds := [.data, .data, .data], laidTests := true, laidLooks := .later }
def CourseHistoriesUptoCardSaid : Prop := Claim7.holds Tryd.pinned (.plain (OpenSpec.upto courseHistoriesSpec)) courseHistoriesUptoCard

/-- THE SECOND FORM's CARD OF 'snowlinelaw01.CourseEnds'. -/
def courseEndsUptoCard : Claim7 := { stood := { row := courseEndsUptoRow, standIns := [], harness := (true, "76eb651f8ade29158b0366cc891d72ea5178cf2f244f1faecb094b687551a614"), looks := false }, kinds := [], alts := [], laidByText := true, laidKinds := [.data, .data, .data], laidTests := true, laidLooks := .later }
def CourseEndsUptoCardSaid : Prop := Claim7.holds Tryd.pinned (.plain (OpenSpec.upto courseEndsSpec)) courseEndsUptoCard

/-- THE SECOND FORM's CARD OF 'snowlinelaw01.CourseAdds'. -/
def courseAddsUptoCard : Claim7 := { stood := { row := courseAddsUptoRow, standIns := [], harness := (true, "76eb651f8ade29158b0366cc891d72ea5178cf2f244f1faecb094b687551a614"), looks := false }, kinds := [], alts := [], laidByText := true, laidKinds := [.data, .data, .data], laidTests := true, laidLooks := .later }
def CourseAddsUptoCardSaid : Prop := Claim7.holds Tryd.pinned (.plain (OpenSpec.upto courseAddsSpec)) courseAddsUptoCard

/-- THE SECOND FORM's CARD OF 'snowlinelaw01.CourseLists'. -/
def courseListsUptoCard : Claim7 := { stood := { row := courseListsUptoRow, standIns := [], harness := (true, "76eb651f8ade29158b0366cc891d72ea5178cf2f244f1faecb094b687551a614"), looks := false }, kinds := [], alts := [], laidByText := true, laidKinds := [.data, .data, .data], laidTests := true, laidLooks := .later }
def CourseListsUptoCardSaid : Prop := Claim7.holds Tryd.pinned (.plain (OpenSpec.upto courseListsSpec)) courseListsUptoCard

/-- THE SECOND FORM's CARD OF 'snowlinelaw01.CourseStands'. -/
def courseStandsUptoCard : Claim7 := { stood := { row := courseStandsUptoRow, standIns := [], harness := (true, "76eb651f8ade29158b0366cc891d72ea5178cf2f244f1faecb094b687551a614"), looks := false }, kinds := [], alts := [], laidByText := true, laidKinds := [.data, .data, .data], laidTests := true, laidLooks := .later }
def CourseStandsUptoCardSaid : Prop := Claim7.holds Tryd.pinned (.plain (OpenSpec.upto courseStandsSpec)) courseStandsUptoCard

/-- THE SECOND FORM's CARD OF 'snowlinelaw01.CourseHelly'. -/
def courseHellyUptoCard : Claim7 := { stood := { row := courseHellyUptoRow, standIns := [], harness := (true, "76eb651f8ade29158b0366cc891d72ea5178cf2f244f1faecb094b687551a614"), looks := false }, kinds := [], alts := [], laidByText := true, laidKinds := [.data, .data, .data], laidTests := true, laidLooks := .later }
def CourseHellyUptoCardSaid : Prop := Claim7.holds Tryd.pinned (.plain (OpenSpec.upto courseHellySpec)) courseHellyUptoCard
end Rows
end Go.Proofs.YtgadlckkmhhmbaaDoor
