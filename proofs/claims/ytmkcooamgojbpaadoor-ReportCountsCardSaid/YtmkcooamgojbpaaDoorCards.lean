/-
  DERIVED. GIVEN WITH THE SEED: THE CARDS: each row of YtmkcooamgojbpaaDoorRows.lean that lists a variable, with what it lists TIED to the program's text (the seventh form; the later family's looks); each row that meets fmt, with fmt's text TOLD by the authors' own Lean function (tested against real Go, not proved from fmt's source: count such statements apart). THE CARD IS WHAT COUNTS. Prove the row's statement (the work); the ties are given (YtmkcooamgojbpaaDoorTie.lean); close each card by the builder's one call (the guide's Derived/Test/ToyasCard.lean, 'card_holds'). Laid BY PROGRAM, IN A SANDBOX (cutbox-door.mjs). By AI agents, Wed Nov 11 2026. No macro, syntax, notation, axiom, sorry.
-/
import Derived.Test.YtmkcooamgojbpaaDoorRows
import GoSem.ClaimSeven
namespace Go.Proofs.YtmkcooamgojbpaaDoor
namespace Rows

/-- THE TIED CARD OF 'damperlaw40.SheetLines'. -/
def sheetLinesCard : Claim7 := { stood := { row := sheetLinesRow, standIns := [], harness := (true, "395c84bb3a42a5acbe7605b0b44c3cff19584a1ee32ebfd01b46b52c1e236fb1"), looks := true }, kinds := [], alts := [], laidByText := true, laidKinds := [.data, .pinned], laidTests := true, laidLooks := .later }
def SheetLinesCardSaid : Prop := Claim7.holds Tryd.pinned (.plain (OpenSpec.ofChange sheetLinesSpec)) sheetLinesCard

/-- THE TIED CARD OF 'damperlaw40.SheetFields'. -/
def sheetFieldsCard : Claim7 := { stood := { row := sheetFieldsRow, standIns := [], harness := (true, "395c84bb3a42a5acbe7605b0b44c3cff19584a1ee32ebfd01b46b52c1e236fb1"), looks := true }, kinds := [], alts := [], laidByText := true, laidKinds := [.data, .pinned], laidTests := true, laidLooks := .later }
def SheetFieldsCardSaid : Prop := Claim7.holds Tryd.pinned (.plain (OpenSpec.ofChange sheetFieldsSpec)) sheetFieldsCard

/-- THE TIED CARD OF 'damperlaw35.WordsParses'. -/
def wordsParsesCard : Claim7 := { stood := { row := wordsParsesRow, standIns := [], harness := (true, "395c84bb3a42a5acbe7605b0b44c3cff19584a1ee32ebfd01b46b52c1e236fb1"), looks := true }, kinds := [], alts := [], laidByText := true, laidKinds := [.data, .pinned], laidTests := true, laidLooks := .later }
def WordsParsesCardSaid : Prop := Claim7.holds Tryd.pinned (.plain (OpenSpec.ofChange wordsParsesSpec)) wordsParsesCard

/-- THE TIED CARD OF 'damperlaw35.WordsNumbers'. -/
def wordsNumbersCard : Claim7 := { stood := { row := wordsNumbersRow, standIns := [], harness := (true, "395c84bb3a42a5acbe7605b0b44c3cff19584a1ee32ebfd01b46b52c1e236fb1"), looks := true }, kinds := [], alts := [], laidByText := true, laidKinds := [.data, .pinned], laidTests := true, laidLooks := .later }
def WordsNumbersCardSaid : Prop := Claim7.holds Tryd.pinned (.plain (OpenSpec.ofChange wordsNumbersSpec)) wordsNumbersCard

/-- THE TIED CARD OF 'damperlaw40.SheetReads'. -/
def sheetReadsCard : Claim7 := { stood := { row := sheetReadsRow, standIns := [], harness := (true, "395c84bb3a42a5acbe7605b0b44c3cff19584a1ee32ebfd01b46b52c1e236fb1"), looks := true }, kinds := [], alts := [], laidByText := true, laidKinds := [.data, .pinned], laidTests := true, laidLooks := .later }
def SheetReadsCardSaid : Prop := Claim7.holds Tryd.pinned (.plain (OpenSpec.ofChange sheetReadsSpec)) sheetReadsCard

/-- THE TIED CARD OF 'damperlaw35.WordsReads'. -/
def wordsReadsCard : Claim7 := { stood := { row := wordsReadsRow, standIns := [], harness := (true, "395c84bb3a42a5acbe7605b0b44c3cff19584a1ee32ebfd01b46b52c1e236fb1"), looks := true }, kinds := [], alts := [], laidByText := true, laidKinds := [.data, .pinned], laidTests := true, laidLooks := .later }
def WordsReadsCardSaid : Prop := Claim7.holds Tryd.pinned (.plain (OpenSpec.ofChange wordsReadsSpec)) wordsReadsCard

/-- THE TIED CARD OF 'damperlaw36.ReportParses'. -/
def reportParsesCard : Claim7 := { stood := { row := reportParsesRow, standIns := [], harness := (true, "395c84bb3a42a5acbe7605b0b44c3cff19584a1ee32ebfd01b46b52c1e236fb1"), looks := true }, kinds := [], alts := [], laidByText := true, laidKinds := [.data, .pinned], laidTests := true, laidLooks := .later }
def ReportParsesCardSaid : Prop := Claim7.holds Tryd.pinned (.plain (OpenSpec.ofChange reportParsesSpec)) reportParsesCard

/-- THE TIED CARD OF 'damperlaw36.ReportLines'. -/
def reportLinesCard : Claim7 := { stood := { row := reportLinesRow, standIns := [], harness := (true, "395c84bb3a42a5acbe7605b0b44c3cff19584a1ee32ebfd01b46b52c1e236fb1"), looks := true }, kinds := [], alts := [], laidByText := true, laidKinds := [.data, .pinned], laidTests := true, laidLooks := .later }
def ReportLinesCardSaid : Prop := Claim7.holds Tryd.pinned (.plain (OpenSpec.ofChange reportLinesSpec)) reportLinesCard

/-- THE TIED CARD OF 'damperlaw36.ReportReads'. -/
def reportReadsCard : Claim7 := { stood := { row := reportReadsRow, standIns := [], harness := (true, "395c84bb3a42a5acbe7605b0b44c3cff19584a1ee32ebfd01b46b52c1e236fb1"), looks := true }, kinds := [], alts := [], laidByText := true, laidKinds := [.data, .pinned], laidTests := true, laidLooks := .later }
def ReportReadsCardSaid : Prop := Claim7.holds Tryd.pinned (.plain (OpenSpec.ofChange reportReadsSpec)) reportReadsCard

/-- THE TIED CARD OF 'damperlaw36.ReportBack'. -/
def reportBackCard : Claim7 := { stood := { row := reportBackRow, standIns := [], harness := (true, "395c84bb3a42a5acbe7605b0b44c3cff19584a1ee32ebfd01b46b52c1e236fb1"), looks := true }, kinds := [], alts := [], laidByText := true, laidKinds := [.data, .pinned], laidTests := true, laidLooks := .later }
def ReportBackCardSaid : Prop := Claim7.holds Tryd.pinned (.plain (OpenSpec.ofChange reportBackSpec)) reportBackCard

/-- THE TIED CARD OF 'damperlaw35.WordsLines'. -/
def wordsLinesCard : Claim7 := { stood := { row := wordsLinesRow, standIns := [], harness := (true, "395c84bb3a42a5acbe7605b0b44c3cff19584a1ee32ebfd01b46b52c1e236fb1"), looks := true }, kinds := [], alts := [], laidByText := true, laidKinds := [.data, .pinned], laidTests := true, laidLooks := .later }
def WordsLinesCardSaid : Prop := Claim7.holds Tryd.pinned (.plain (OpenSpec.ofChange wordsLinesSpec)) wordsLinesCard

/-- THE TIED CARD OF 'damperlaw35.WordsBack'. -/
def wordsBackCard : Claim7 := { stood := { row := wordsBackRow, standIns := [], harness := (true, "395c84bb3a42a5acbe7605b0b44c3cff19584a1ee32ebfd01b46b52c1e236fb1"), looks := true }, kinds := [], alts := [], laidByText := true, laidKinds := [.data, .pinned], laidTests := true, laidLooks := .later }
def WordsBackCardSaid : Prop := Claim7.holds Tryd.pinned (.plain (OpenSpec.ofChange wordsBackSpec)) wordsBackCard

/-- THE TIED CARD OF 'damperlaw36.ReportCounts'. -/
def reportCountsCard : Claim7 := { stood := { row := reportCountsRow, standIns := [], harness := (true, "395c84bb3a42a5acbe7605b0b44c3cff19584a1ee32ebfd01b46b52c1e236fb1"), looks := true }, kinds := [], alts := [], laidByText := true, laidKinds := [.data, .pinned], laidTests := true, laidLooks := .later }
def ReportCountsCardSaid : Prop := Claim7.holds Tryd.pinned (.plain (OpenSpec.ofChange reportCountsSpec)) reportCountsCard

/-- THE SECOND FORM's CARD OF 'damperlaw40.SheetLines'. -/
def sheetLinesUptoCard : Claim7 := { stood := { row := sheetLinesUptoRow, standIns := [], harness := (true, "395c84bb3a42a5acbe7605b0b44c3cff19584a1ee32ebfd01b46b52c1e236fb1"), looks := true }, kinds := [], alts := [], laidByText := true, laidKinds := [.data, .pinned], laidTests := true, laidLooks := .later }
def SheetLinesUptoCardSaid : Prop := Claim7.holds Tryd.pinned (.plain (OpenSpec.upto sheetLinesSpec)) sheetLinesUptoCard

/-- THE SECOND FORM's CARD OF 'damperlaw40.SheetFields'. -/
def sheetFieldsUptoCard : Claim7 := { stood := { row := sheetFieldsUptoRow, standIns := [], harness := (true, "395c84bb3a42a5acbe7605b0b44c3cff19584a1ee32ebfd01b46b52c1e236fb1"), looks := true }, kinds := [], alts := [], laidByText := true, laidKinds := [.data, .pinned], laidTests := true, laidLooks := .later }
def SheetFieldsUptoCardSaid : Prop := Claim7.holds Tryd.pinned (.plain (OpenSpec.upto sheetFieldsSpec)) sheetFieldsUptoCard

/-- THE SECOND FORM's CARD OF 'damperlaw35.WordsParses'. -/
def wordsParsesUptoCard : Claim7 := { stood := { row := wordsParsesUptoRow, standIns := [], harness := (true, "395c84bb3a42a5acbe7605b0b44c3cff19584a1ee32ebfd01b46b52c1e236fb1"), looks := true }, kinds := [], alts := [], laidByText := true, laidKinds := [.data, .pinned], laidTests := true, laidLooks := .later }
def WordsParsesUptoCardSaid : Prop := Claim7.holds Tryd.pinned (.plain (OpenSpec.upto wordsParsesSpec)) wordsParsesUptoCard

/-- THE SECOND FORM's CARD OF 'damperlaw35.WordsNumbers'. -/
def wordsNumbersUptoCard : Claim7 := { stood := { row := wordsNumbersUptoRow, standIns := [], harness := (true, "395c84bb3a42a5acbe7605b0b44c3cff19584a1ee32ebfd01b46b52c1e236fb1"), looks := true }, kinds := [], alts := [], laidByText := true, laidKinds := [.data, .pinned], laidTests := true, laidLooks := .later }
def WordsNumbersUptoCardSaid : Prop := Claim7.holds Tryd.pinned (.plain (OpenSpec.upto wordsNumbersSpec)) wordsNumbersUptoCard

/-- THE SECOND FORM's CARD OF 'damperlaw40.SheetReads'. -/
def sheetReadsUptoCard : Claim7 := { stood := { row := sheetReadsUptoRow, standIns := [], harness := (true, "395c84bb3a42a5acbe7605b0b44c3cff19584a1ee32ebfd01b46b52c1e236fb1"), looks := true }, kinds := [], alts := [], laidByText := true, laidKinds := [.data, .pinned], laidTests := true, laidLooks := .later }
def SheetReadsUptoCardSaid : Prop := Claim7.holds Tryd.pinned (.plain (OpenSpec.upto sheetReadsSpec)) sheetReadsUptoCard

/-- THE SECOND FORM's CARD OF 'damperlaw35.WordsReads'. -/
def wordsReadsUptoCard : Claim7 := { stood := { row := wordsReadsUptoRow, standIns := [], harness := (true, "395c84bb3a42a5acbe7605b0b44c3cff19584a1ee32ebfd01b46b52c1e236fb1"), looks := true }, kinds := [], alts := [], laidByText := true, laidKinds := [.data, .pinned], laidTests := true, laidLooks := .later }
def WordsReadsUptoCardSaid : Prop := Claim7.holds Tryd.pinned (.plain (OpenSpec.upto wordsReadsSpec)) wordsReadsUptoCard

/-- THE SECOND FORM's CARD OF 'damperlaw36.ReportParses'. -/
def reportParsesUptoCard : Claim7 := { stood := { row := reportParsesUptoRow, standIns := [], harness := (true, "395c84bb3a42a5acbe7605b0b44c3cff19584a1ee32ebfd01b46b52c1e236fb1"), looks := true }, kinds := [], alts := [], laidByText := true, laidKinds := [.data, .pinned], laidTests := true, laidLooks := .later }
def ReportParsesUptoCardSaid : Prop := Claim7.holds Tryd.pinned (.plain (OpenSpec.upto reportParsesSpec)) reportParsesUptoCard

/-- THE SECOND FORM's CARD OF 'damperlaw36.ReportLines'. -/
def reportLinesUptoCard : Claim7 := { stood := { row := reportLinesUptoRow, standIns := [], harness := (true, "395c84bb3a42a5acbe7605b0b44c3cff19584a1ee32ebfd01b46b52c1e236fb1"), looks := true }, kinds := [], alts := [], laidByText := true, laidKinds := [.data, .pinned], laidTests := true, laidLooks := .later }
def ReportLinesUptoCardSaid : Prop := Claim7.holds Tryd.pinned (.plain (OpenSpec.upto reportLinesSpec)) reportLinesUptoCard

/-- THE SECOND FORM's CARD OF 'damperlaw36.ReportReads'. -/
def reportReadsUptoCard : Claim7 := { stood := { row := reportReadsUptoRow, standIns := [], harness := (true, "395c84bb3a42a5acbe7605b0b44c3cff19584a1ee32ebfd01b46b52c1e236fb1"), looks := true }, kinds := [], alts := [], laidByText := true, laidKinds := [.data, .pinned], laidTests := true, laidLooks := .later }
def ReportReadsUptoCardSaid : Prop := Claim7.holds Tryd.pinned (.plain (OpenSpec.upto reportReadsSpec)) reportReadsUptoCard

/-- THE SECOND FORM's CARD OF 'damperlaw36.ReportBack'. -/
def reportBackUptoCard : Claim7 := { stood := { row := reportBackUptoRow, standIns := [], harness := (true, "395c84bb3a42a5acbe7605b0b44c3cff19584a1ee32ebfd01b46b52c1e236fb1"), looks := true }, kinds := [], alts := [], laidByText := true, laidKinds := [.data, .pinned], laidTests := true, laidLooks := .later }
def ReportBackUptoCardSaid : Prop := Claim7.holds Tryd.pinned (.plain (OpenSpec.upto reportBackSpec)) reportBackUptoCard

/-- THE SECOND FORM's CARD OF 'damperlaw35.WordsLines'. -/
def wordsLinesUptoCard : Claim7 := { stood := { row := wordsLinesUptoRow, standIns := [], harness := (true, "395c84bb3a42a5acbe7605b0b44c3cff19584a1ee32ebfd01b46b52c1e236fb1"), looks := true }, kinds := [], alts := [], laidByText := true, laidKinds := [.data, .pinned], laidTests := true, laidLooks := .later }
def WordsLinesUptoCardSaid : Prop := Claim7.holds Tryd.pinned (.plain (OpenSpec.upto wordsLinesSpec)) wordsLinesUptoCard

/-- THE SECOND FORM's CARD OF 'damperlaw35.WordsBack'. -/
def wordsBackUptoCard : Claim7 := { stood := { row := wordsBackUptoRow, standIns := [], harness := (true, "395c84bb3a42a5acbe7605b0b44c3cff19584a1ee32ebfd01b46b52c1e236fb1"), looks := true }, kinds := [], alts := [], laidByText := true, laidKinds := [.data, .pinned], laidTests := true, laidLooks := .later }
def WordsBackUptoCardSaid : Prop := Claim7.holds Tryd.pinned (.plain (OpenSpec.upto wordsBackSpec)) wordsBackUptoCard

/-- THE SECOND FORM's CARD OF 'damperlaw36.ReportCounts'. -/
def reportCountsUptoCard : Claim7 := { stood := { row := reportCountsUptoRow, standIns := [], harness := (true, "395c84bb3a42a5acbe7605b0b44c3cff19584a1ee32ebfd01b46b52c1e236fb1"), looks := true }, kinds := [], alts := [], laidByText := true, laidKinds := [.data, .pinned], laidTests := true, laidLooks := .later }
def ReportCountsUptoCardSaid : Prop := Claim7.holds Tryd.pinned (.plain (OpenSpec.upto reportCountsSpec)) reportCountsUptoCard
end Rows
end Go.Proofs.YtmkcooamgojbpaaDoor
