/-
  NARROWER THAN 'FOR EVERY INPUT', by the rows' own cells (each row's printed sentence says how): SheetLines: laid · SheetFields: laid · WordsParses: laid · WordsNumbers: laid · SheetReads: laid · WordsReads: laid · ReportParses: laid · ReportLines: laid · ReportReads: laid · ReportBack: laid · WordsLines: laid · WordsBack: laid · ReportCounts: laid.
  DERIVED. THE GIVEN ROWS OF THIS SEAT. 13 by the template 'for every input the law returns true; each argument reads behind the call as it read before'; 0 by the template 'total and deterministic' (their statements: YtmkcooamgojbpaaDoorTotals.lean).
  GIVEN WITH THE SEED: the statements are not yours to turn. If you find one false, say at which input.
  Laid BY PROGRAM, IN A SANDBOX (cutbox-rows.mjs): the forced cells as the released guide's own fill.sh prints them over the translation e8d0f671a3d95880… (all of the seat's roots in one cut). By AI agents, Wed Nov 11 2026. No macro, syntax, notation, axiom, sorry.
-/
import Derived.Test.YtmkcooamgojbpaaDoorChecked
import GoSem.PinnedTables
import GoSem.Claim
import GoSem.ClaimJoined
import GoSem.ClaimMapViews
import Derived.JoinedTies
import Derived.KernelRfl
namespace Go.Proofs.YtmkcooamgojbpaaDoor
/- THE CELL 'sum', in the pinned program and in every row, IS THE sha256 OF THE DUMP (.gsa) THAT YtmkcooamgojbpaaDoorProg.lean LOADS. Nothing in Lean hashes anything: it is a label: what it is worth is what the hold of that sum in a sandbox is worth. -/
noncomputable def Tryd.pinned : Pinned := { name := "ytmkcooamgojbpaadoor", sum := "e8d0f671a3d95880de8897d91d21321fe3f0cab9a1089c75534af627ab5c0ba9", checked := Tryd.checked }
namespace Rows
def none {H : Type} : Left H := { results := [], args := [] }

/- WHAT THE LISTED PACKAGE-LEVEL VARIABLES READ AS WHEN THE CALL BEGINS. Each datum BY PROGRAM (the guide's laid-datum.mjs) off the statement by which the dump's own 'gosem.cut.vars' lays the variable. In a bare row this is a premise. The card (YtmkcooamgojbpaaDoorCards.lean) ties it to the program's text. -/
def laid_unicode_utf8_acceptRanges {H : Type} : DataW H := .agg [.agg [.lit (.int .u8 128), .lit (.int .u8 191)], .agg [.lit (.int .u8 160), .lit (.int .u8 191)], .agg [.lit (.int .u8 128), .lit (.int .u8 159)], .agg [.lit (.int .u8 144), .lit (.int .u8 191)], .agg [.lit (.int .u8 128), .lit (.int .u8 143)], .agg [.lit (.int .u8 0), .lit (.int .u8 0)], .agg [.lit (.int .u8 0), .lit (.int .u8 0)], .agg [.lit (.int .u8 0), .lit (.int .u8 0)], .agg [.lit (.int .u8 0), .lit (.int .u8 0)], .agg [.lit (.int .u8 0), .lit (.int .u8 0)], .agg [.lit (.int .u8 0), .lit (.int .u8 0)], .agg [.lit (.int .u8 0), .lit (.int .u8 0)], .agg [.lit (.int .u8 0), .lit (.int .u8 0)], .agg [.lit (.int .u8 0), .lit (.int .u8 0)], .agg [.lit (.int .u8 0), .lit (.int .u8 0)], .agg [.lit (.int .u8 0), .lit (.int .u8 0)]]
/-- One of Go's own tables, pinned by name: the form's constant. -/
def laid_unicode_utf8_first : DataW Unit := Go.Pinned.utf8First

/-- 'damperlaw40.SheetLines': WHATEVER THE INPUT: true; the input reads as it did. -/
def sheetLinesSpec : ChangeSpec := { name := "sheetLines", fn := fun _ => fun
  | [d] => { results := [.lit (.bool true)], args := [d] }
  | _ => none }
def sheetLinesRow : OpenClaim := { program := "ytmkcooamgojbpaadoor", sum := "e8d0f671a3d95880de8897d91d21321fe3f0cab9a1089c75534af627ab5c0ba9", func := "damper/damperlaw40.SheetLines", spec := "sheetLines", inPlace := ["internal/bytealg.IndexByteString", "internal/bytealg.IndexString", "internal/bytealg.CountString"], unfollowed := true, recurses := true, named := ["internal/bytealg.MaxLen", "unicode/utf8.first", "unicode/utf8.acceptRanges"], plainKeys := false, apart := false, laid := [("unicode/utf8.acceptRanges", laid_unicode_utf8_acceptRanges), ("unicode/utf8.first", laid_unicode_utf8_first)] }
def SheetLinesSaid : Prop := sheetLinesRow.holds Tryd.pinned (OpenSpec.ofChange sheetLinesSpec)

/-- ITS FALSE NEIGHBOUR: 'it returns false'. Refute it at one input. -/
def sheetLinesWrong : ChangeSpec := { name := "sheetLines", fn := fun _ => fun
  | [d] => { results := [.lit (.bool false)], args := [d] }
  | _ => none }
def SheetLinesWrongFalsely : Prop := sheetLinesRow.holds Tryd.pinned (OpenSpec.ofChange sheetLinesWrong)

/-- 'damperlaw40.SheetFields': WHATEVER THE INPUT: true; the input reads as it did. -/
def sheetFieldsSpec : ChangeSpec := { name := "sheetFields", fn := fun _ => fun
  | [d1, d2] => { results := [.lit (.bool true)], args := [d1, d2] }
  | _ => none }
def sheetFieldsRow : OpenClaim := { program := "ytmkcooamgojbpaadoor", sum := "e8d0f671a3d95880de8897d91d21321fe3f0cab9a1089c75534af627ab5c0ba9", func := "damper/damperlaw40.SheetFields", spec := "sheetFields", inPlace := ["internal/bytealg.IndexByteString", "internal/bytealg.IndexString", "internal/bytealg.CountString"], unfollowed := true, recurses := true, named := ["internal/bytealg.MaxLen", "unicode/utf8.first", "unicode/utf8.acceptRanges"], plainKeys := false, apart := false, laid := [("unicode/utf8.acceptRanges", laid_unicode_utf8_acceptRanges), ("unicode/utf8.first", laid_unicode_utf8_first)] }
def SheetFieldsSaid : Prop := sheetFieldsRow.holds Tryd.pinned (OpenSpec.ofChange sheetFieldsSpec)

/-- ITS FALSE NEIGHBOUR: 'it returns false'. Refute it at one input. -/
def sheetFieldsWrong : ChangeSpec := { name := "sheetFields", fn := fun _ => fun
  | [d1, d2] => { results := [.lit (.bool false)], args := [d1, d2] }
  | _ => none }
def SheetFieldsWrongFalsely : Prop := sheetFieldsRow.holds Tryd.pinned (OpenSpec.ofChange sheetFieldsWrong)

/-- 'damperlaw35.WordsParses': WHATEVER THE INPUT: true; the input reads as it did. -/
def wordsParsesSpec : ChangeSpec := { name := "wordsParses", fn := fun _ => fun
  | [d] => { results := [.lit (.bool true)], args := [d] }
  | _ => none }
def wordsParsesRow : OpenClaim := { program := "ytmkcooamgojbpaadoor", sum := "e8d0f671a3d95880de8897d91d21321fe3f0cab9a1089c75534af627ab5c0ba9", func := "damper/damperlaw35.WordsParses", spec := "wordsParses", inPlace := ["internal/bytealg.CountString", "internal/bytealg.IndexByteString", "internal/bytealg.IndexString"], unfollowed := true, recurses := true, named := ["unicode/utf8.first", "unicode/utf8.acceptRanges", "internal/bytealg.MaxLen"], plainKeys := false, apart := false, laid := [("unicode/utf8.acceptRanges", laid_unicode_utf8_acceptRanges), ("unicode/utf8.first", laid_unicode_utf8_first)] }
def WordsParsesSaid : Prop := wordsParsesRow.holds Tryd.pinned (OpenSpec.ofChange wordsParsesSpec)

/-- ITS FALSE NEIGHBOUR: 'it returns false'. Refute it at one input. -/
def wordsParsesWrong : ChangeSpec := { name := "wordsParses", fn := fun _ => fun
  | [d] => { results := [.lit (.bool false)], args := [d] }
  | _ => none }
def WordsParsesWrongFalsely : Prop := wordsParsesRow.holds Tryd.pinned (OpenSpec.ofChange wordsParsesWrong)

/-- 'damperlaw35.WordsNumbers': WHATEVER THE INPUT: true; the input reads as it did. -/
def wordsNumbersSpec : ChangeSpec := { name := "wordsNumbers", fn := fun _ => fun
  | [d] => { results := [.lit (.bool true)], args := [d] }
  | _ => none }
def wordsNumbersRow : OpenClaim := { program := "ytmkcooamgojbpaadoor", sum := "e8d0f671a3d95880de8897d91d21321fe3f0cab9a1089c75534af627ab5c0ba9", func := "damper/damperlaw35.WordsNumbers", spec := "wordsNumbers", inPlace := ["internal/bytealg.CountString", "internal/bytealg.IndexByteString", "internal/bytealg.IndexString"], unfollowed := true, recurses := true, named := ["unicode/utf8.first", "unicode/utf8.acceptRanges", "internal/bytealg.MaxLen"], plainKeys := false, apart := false, laid := [("unicode/utf8.acceptRanges", laid_unicode_utf8_acceptRanges), ("unicode/utf8.first", laid_unicode_utf8_first)] }
def WordsNumbersSaid : Prop := wordsNumbersRow.holds Tryd.pinned (OpenSpec.ofChange wordsNumbersSpec)

/-- ITS FALSE NEIGHBOUR: 'it returns false'. Refute it at one input. -/
def wordsNumbersWrong : ChangeSpec := { name := "wordsNumbers", fn := fun _ => fun
  | [d] => { results := [.lit (.bool false)], args := [d] }
  | _ => none }
def WordsNumbersWrongFalsely : Prop := wordsNumbersRow.holds Tryd.pinned (OpenSpec.ofChange wordsNumbersWrong)

/-- 'damperlaw40.SheetReads': WHATEVER THE INPUT: true; the input reads as it did. -/
def sheetReadsSpec : ChangeSpec := { name := "sheetReads", fn := fun _ => fun
  | [d] => { results := [.lit (.bool true)], args := [d] }
  | _ => none }
def sheetReadsRow : OpenClaim := { program := "ytmkcooamgojbpaadoor", sum := "e8d0f671a3d95880de8897d91d21321fe3f0cab9a1089c75534af627ab5c0ba9", func := "damper/damperlaw40.SheetReads", spec := "sheetReads", inPlace := ["internal/bytealg.IndexByteString", "internal/bytealg.IndexString", "internal/bytealg.CountString"], unfollowed := true, recurses := true, named := ["internal/bytealg.MaxLen", "unicode/utf8.first", "unicode/utf8.acceptRanges"], plainKeys := false, apart := false, laid := [("unicode/utf8.acceptRanges", laid_unicode_utf8_acceptRanges), ("unicode/utf8.first", laid_unicode_utf8_first)] }
def SheetReadsSaid : Prop := sheetReadsRow.holds Tryd.pinned (OpenSpec.ofChange sheetReadsSpec)

/-- ITS FALSE NEIGHBOUR: 'it returns false'. Refute it at one input. -/
def sheetReadsWrong : ChangeSpec := { name := "sheetReads", fn := fun _ => fun
  | [d] => { results := [.lit (.bool false)], args := [d] }
  | _ => none }
def SheetReadsWrongFalsely : Prop := sheetReadsRow.holds Tryd.pinned (OpenSpec.ofChange sheetReadsWrong)

/-- 'damperlaw35.WordsReads': WHATEVER THE INPUT: true; the input reads as it did. -/
def wordsReadsSpec : ChangeSpec := { name := "wordsReads", fn := fun _ => fun
  | [d] => { results := [.lit (.bool true)], args := [d] }
  | _ => none }
def wordsReadsRow : OpenClaim := { program := "ytmkcooamgojbpaadoor", sum := "e8d0f671a3d95880de8897d91d21321fe3f0cab9a1089c75534af627ab5c0ba9", func := "damper/damperlaw35.WordsReads", spec := "wordsReads", inPlace := ["internal/bytealg.CountString", "internal/bytealg.IndexByteString", "internal/bytealg.IndexString"], unfollowed := true, recurses := true, named := ["unicode/utf8.first", "unicode/utf8.acceptRanges", "internal/bytealg.MaxLen"], plainKeys := false, apart := false, laid := [("unicode/utf8.acceptRanges", laid_unicode_utf8_acceptRanges), ("unicode/utf8.first", laid_unicode_utf8_first)] }
def WordsReadsSaid : Prop := wordsReadsRow.holds Tryd.pinned (OpenSpec.ofChange wordsReadsSpec)

/-- ITS FALSE NEIGHBOUR: 'it returns false'. Refute it at one input. -/
def wordsReadsWrong : ChangeSpec := { name := "wordsReads", fn := fun _ => fun
  | [d] => { results := [.lit (.bool false)], args := [d] }
  | _ => none }
def WordsReadsWrongFalsely : Prop := wordsReadsRow.holds Tryd.pinned (OpenSpec.ofChange wordsReadsWrong)

/-- 'damperlaw36.ReportParses': WHATEVER THE INPUT: true; the input reads as it did. -/
def reportParsesSpec : ChangeSpec := { name := "reportParses", fn := fun _ => fun
  | [d] => { results := [.lit (.bool true)], args := [d] }
  | _ => none }
def reportParsesRow : OpenClaim := { program := "ytmkcooamgojbpaadoor", sum := "e8d0f671a3d95880de8897d91d21321fe3f0cab9a1089c75534af627ab5c0ba9", func := "damper/damperlaw36.ReportParses", spec := "reportParses", inPlace := ["internal/abi.NoEscape", "internal/bytealg.MakeNoZero", "internal/bytealg.IndexByteString", "internal/bytealg.IndexString", "internal/bytealg.CountString"], unfollowed := true, recurses := true, named := ["internal/bytealg.MaxLen", "unicode/utf8.first", "unicode/utf8.acceptRanges"], plainKeys := false, apart := false, laid := [("unicode/utf8.acceptRanges", laid_unicode_utf8_acceptRanges), ("unicode/utf8.first", laid_unicode_utf8_first)] }
def ReportParsesSaid : Prop := reportParsesRow.holds Tryd.pinned (OpenSpec.ofChange reportParsesSpec)

/-- ITS FALSE NEIGHBOUR: 'it returns false'. Refute it at one input. -/
def reportParsesWrong : ChangeSpec := { name := "reportParses", fn := fun _ => fun
  | [d] => { results := [.lit (.bool false)], args := [d] }
  | _ => none }
def ReportParsesWrongFalsely : Prop := reportParsesRow.holds Tryd.pinned (OpenSpec.ofChange reportParsesWrong)

/-- 'damperlaw36.ReportLines': WHATEVER THE INPUT: true; the input reads as it did. -/
def reportLinesSpec : ChangeSpec := { name := "reportLines", fn := fun _ => fun
  | [d1, d2] => { results := [.lit (.bool true)], args := [d1, d2] }
  | _ => none }
def reportLinesRow : OpenClaim := { program := "ytmkcooamgojbpaadoor", sum := "e8d0f671a3d95880de8897d91d21321fe3f0cab9a1089c75534af627ab5c0ba9", func := "damper/damperlaw36.ReportLines", spec := "reportLines", inPlace := ["internal/abi.NoEscape", "internal/bytealg.MakeNoZero", "internal/bytealg.IndexByteString", "internal/bytealg.IndexString", "internal/bytealg.CountString"], unfollowed := true, recurses := true, named := ["internal/bytealg.MaxLen", "unicode/utf8.first", "unicode/utf8.acceptRanges"], plainKeys := false, apart := false, laid := [("unicode/utf8.acceptRanges", laid_unicode_utf8_acceptRanges), ("unicode/utf8.first", laid_unicode_utf8_first)] }
def ReportLinesSaid : Prop := reportLinesRow.holds Tryd.pinned (OpenSpec.ofChange reportLinesSpec)

/-- ITS FALSE NEIGHBOUR: 'it returns false'. Refute it at one input. -/
def reportLinesWrong : ChangeSpec := { name := "reportLines", fn := fun _ => fun
  | [d1, d2] => { results := [.lit (.bool false)], args := [d1, d2] }
  | _ => none }
def ReportLinesWrongFalsely : Prop := reportLinesRow.holds Tryd.pinned (OpenSpec.ofChange reportLinesWrong)

/-- 'damperlaw36.ReportReads': WHATEVER THE INPUT: true; the input reads as it did. -/
def reportReadsSpec : ChangeSpec := { name := "reportReads", fn := fun _ => fun
  | [d] => { results := [.lit (.bool true)], args := [d] }
  | _ => none }
def reportReadsRow : OpenClaim := { program := "ytmkcooamgojbpaadoor", sum := "e8d0f671a3d95880de8897d91d21321fe3f0cab9a1089c75534af627ab5c0ba9", func := "damper/damperlaw36.ReportReads", spec := "reportReads", inPlace := ["internal/abi.NoEscape", "internal/bytealg.MakeNoZero", "internal/bytealg.IndexByteString", "internal/bytealg.IndexString", "internal/bytealg.CountString"], unfollowed := true, recurses := true, named := ["internal/bytealg.MaxLen", "unicode/utf8.first", "unicode/utf8.acceptRanges"], plainKeys := false, apart := false, laid := [("unicode/utf8.acceptRanges", laid_unicode_utf8_acceptRanges), ("unicode/utf8.first", laid_unicode_utf8_first)] }
def ReportReadsSaid : Prop := reportReadsRow.holds Tryd.pinned (OpenSpec.ofChange reportReadsSpec)

/-- ITS FALSE NEIGHBOUR: 'it returns false'. Refute it at one input. -/
def reportReadsWrong : ChangeSpec := { name := "reportReads", fn := fun _ => fun
  | [d] => { results := [.lit (.bool false)], args := [d] }
  | _ => none }
def ReportReadsWrongFalsely : Prop := reportReadsRow.holds Tryd.pinned (OpenSpec.ofChange reportReadsWrong)

/-- 'damperlaw36.ReportBack': WHATEVER THE INPUT: true; the input reads as it did. -/
def reportBackSpec : ChangeSpec := { name := "reportBack", fn := fun _ => fun
  | [d1, d2] => { results := [.lit (.bool true)], args := [d1, d2] }
  | _ => none }
def reportBackRow : OpenClaim := { program := "ytmkcooamgojbpaadoor", sum := "e8d0f671a3d95880de8897d91d21321fe3f0cab9a1089c75534af627ab5c0ba9", func := "damper/damperlaw36.ReportBack", spec := "reportBack", inPlace := ["internal/abi.NoEscape", "internal/bytealg.MakeNoZero", "internal/bytealg.IndexByteString", "internal/bytealg.IndexString", "internal/bytealg.CountString"], unfollowed := true, recurses := true, named := ["internal/bytealg.MaxLen", "unicode/utf8.first", "unicode/utf8.acceptRanges"], plainKeys := false, apart := false, laid := [("unicode/utf8.acceptRanges", laid_unicode_utf8_acceptRanges), ("unicode/utf8.first", laid_unicode_utf8_first)] }
def ReportBackSaid : Prop := reportBackRow.holds Tryd.pinned (OpenSpec.ofChange reportBackSpec)

/-- ITS FALSE NEIGHBOUR: 'it returns false'. Refute it at one input. -/
def reportBackWrong : ChangeSpec := { name := "reportBack", fn := fun _ => fun
  | [d1, d2] => { results := [.lit (.bool false)], args := [d1, d2] }
  | _ => none }
def ReportBackWrongFalsely : Prop := reportBackRow.holds Tryd.pinned (OpenSpec.ofChange reportBackWrong)

/-- 'damperlaw35.WordsLines': WHATEVER THE INPUT: true; the input reads as it did. -/
def wordsLinesSpec : ChangeSpec := { name := "wordsLines", fn := fun _ => fun
  | [d] => { results := [.lit (.bool true)], args := [d] }
  | _ => none }
def wordsLinesRow : OpenClaim := { program := "ytmkcooamgojbpaadoor", sum := "e8d0f671a3d95880de8897d91d21321fe3f0cab9a1089c75534af627ab5c0ba9", func := "damper/damperlaw35.WordsLines", spec := "wordsLines", inPlace := ["internal/bytealg.CountString", "internal/bytealg.IndexByteString", "internal/bytealg.IndexString", "internal/abi.NoEscape", "internal/bytealg.MakeNoZero"], unfollowed := true, recurses := true, named := ["unicode/utf8.first", "unicode/utf8.acceptRanges", "internal/bytealg.MaxLen"], plainKeys := false, apart := false, laid := [("unicode/utf8.acceptRanges", laid_unicode_utf8_acceptRanges), ("unicode/utf8.first", laid_unicode_utf8_first)] }
def WordsLinesSaid : Prop := wordsLinesRow.holds Tryd.pinned (OpenSpec.ofChange wordsLinesSpec)

/-- ITS FALSE NEIGHBOUR: 'it returns false'. Refute it at one input. -/
def wordsLinesWrong : ChangeSpec := { name := "wordsLines", fn := fun _ => fun
  | [d] => { results := [.lit (.bool false)], args := [d] }
  | _ => none }
def WordsLinesWrongFalsely : Prop := wordsLinesRow.holds Tryd.pinned (OpenSpec.ofChange wordsLinesWrong)

/-- 'damperlaw35.WordsBack': WHATEVER THE INPUT: true; the input reads as it did. -/
def wordsBackSpec : ChangeSpec := { name := "wordsBack", fn := fun _ => fun
  | [d1, d2] => { results := [.lit (.bool true)], args := [d1, d2] }
  | _ => none }
def wordsBackRow : OpenClaim := { program := "ytmkcooamgojbpaadoor", sum := "e8d0f671a3d95880de8897d91d21321fe3f0cab9a1089c75534af627ab5c0ba9", func := "damper/damperlaw35.WordsBack", spec := "wordsBack", inPlace := ["internal/bytealg.CountString", "internal/bytealg.IndexByteString", "internal/bytealg.IndexString", "internal/abi.NoEscape", "internal/bytealg.MakeNoZero"], unfollowed := true, recurses := true, named := ["unicode/utf8.first", "unicode/utf8.acceptRanges", "internal/bytealg.MaxLen"], plainKeys := false, apart := false, laid := [("unicode/utf8.acceptRanges", laid_unicode_utf8_acceptRanges), ("unicode/utf8.first", laid_unicode_utf8_first)] }
def WordsBackSaid : Prop := wordsBackRow.holds Tryd.pinned (OpenSpec.ofChange wordsBackSpec)

/-- ITS FALSE NEIGHBOUR: 'it returns false'. Refute it at one input. -/
def wordsBackWrong : ChangeSpec := { name := "wordsBack", fn := fun _ => fun
  | [d1, d2] => { results := [.lit (.bool false)], args := [d1, d2] }
  | _ => none }
def WordsBackWrongFalsely : Prop := wordsBackRow.holds Tryd.pinned (OpenSpec.ofChange wordsBackWrong)

/-- 'damperlaw36.ReportCounts': WHATEVER THE INPUT: true; the input reads as it did. -/
def reportCountsSpec : ChangeSpec := { name := "reportCounts", fn := fun _ => fun
  | [d1, d2, d3] => { results := [.lit (.bool true)], args := [d1, d2, d3] }
  | _ => none }
def reportCountsRow : OpenClaim := { program := "ytmkcooamgojbpaadoor", sum := "e8d0f671a3d95880de8897d91d21321fe3f0cab9a1089c75534af627ab5c0ba9", func := "damper/damperlaw36.ReportCounts", spec := "reportCounts", inPlace := ["internal/abi.NoEscape", "internal/bytealg.MakeNoZero", "internal/bytealg.IndexByteString", "internal/bytealg.IndexString", "internal/bytealg.CountString"], unfollowed := true, recurses := true, named := ["internal/bytealg.MaxLen", "unicode/utf8.first", "unicode/utf8.acceptRanges"], plainKeys := false, apart := false, laid := [("unicode/utf8.acceptRanges", laid_unicode_utf8_acceptRanges), ("unicode/utf8.first", laid_unicode_utf8_first)] }
def ReportCountsSaid : Prop := reportCountsRow.holds Tryd.pinned (OpenSpec.ofChange reportCountsSpec)

/-- ITS FALSE NEIGHBOUR: 'it returns false'. Refute it at one input. -/
def reportCountsWrong : ChangeSpec := { name := "reportCounts", fn := fun _ => fun
  | [d1, d2, d3] => { results := [.lit (.bool false)], args := [d1, d2, d3] }
  | _ => none }
def ReportCountsWrongFalsely : Prop := reportCountsRow.holds Tryd.pinned (OpenSpec.ofChange reportCountsWrong)

/- THE SECOND FORM. 'bulk': how many values and letters a reading holds, each counted each time it is reached (what is shared counts as often as it is met; a slice's spare places count too). A statement '..UptoSaid' is the law's where the arguments, and the package variables that the reading takes, are together of bulk at most 1048576: NARROWER than '..Said'. Prove '..Said' where nothing that the law and all that it calls make is longer than what came in: it says more and counts as full. Else prove '..UptoSaid'. A law counts once. -/
mutual
def uptoBulk {H : Type} : DataW H → Nat
  | .lit (.string bytes) => bytes.length + 1
  | .lit _ => 1
  | .nil => 1
  | .ptr d => uptoBulk d + 1
  | .slice elems spare => uptoBulkAll elems + uptoBulkAll spare + 1
  | .agg parts => uptoBulkAll parts + 1
  | .iface _ d => uptoBulk d + 1
  | .map entries => uptoBulkEntries entries + 1
  | .held _ => 1
def uptoBulkAll {H : Type} : List (DataW H) → Nat
  | [] => 0
  | d :: r => uptoBulk d + uptoBulkAll r
def uptoBulkEntries {H : Type} : List (Lit × DataW H) → Nat
  | [] => 0
  | x :: r => uptoBulkEntry x + uptoBulkEntries r
def uptoBulkEntry {H : Type} : Lit × DataW H → Nat
  | (.string bytes, d) => bytes.length + uptoBulk d + 1
  | (_, d) => uptoBulk d + 1
 end
def uptoSmall : (H : Type) → List (DataW H) → Bool := fun _ ds => decide (uptoBulkAll ds ≤ 1048576)
def OpenSpec.upto (s : _root_.Go.ChangeSpec) : _root_.Go.OpenSpec := { _root_.Go.OpenSpec.ofChange s with cond := some uptoSmall }

/-- 'damperlaw40.SheetLines', WHERE WHAT IT READS IS OF BULK AT MOST 1048576: true; the input reads as it did. -/
def sheetLinesUptoRow : OpenClaim := { program := "ytmkcooamgojbpaadoor", sum := "e8d0f671a3d95880de8897d91d21321fe3f0cab9a1089c75534af627ab5c0ba9", func := "damper/damperlaw40.SheetLines", spec := "sheetLines", inPlace := ["internal/bytealg.IndexByteString", "internal/bytealg.IndexString", "internal/bytealg.CountString"], unfollowed := true, recurses := true, named := ["internal/bytealg.MaxLen", "unicode/utf8.first", "unicode/utf8.acceptRanges"], plainKeys := false, apart := false, laid := [("unicode/utf8.acceptRanges", laid_unicode_utf8_acceptRanges), ("unicode/utf8.first", laid_unicode_utf8_first)], narrowed := true }
def SheetLinesUptoSaid : Prop := sheetLinesUptoRow.holds Tryd.pinned (OpenSpec.upto sheetLinesSpec)

/-- 'damperlaw40.SheetFields', WHERE WHAT IT READS IS OF BULK AT MOST 1048576: true; the input reads as it did. -/
def sheetFieldsUptoRow : OpenClaim := { program := "ytmkcooamgojbpaadoor", sum := "e8d0f671a3d95880de8897d91d21321fe3f0cab9a1089c75534af627ab5c0ba9", func := "damper/damperlaw40.SheetFields", spec := "sheetFields", inPlace := ["internal/bytealg.IndexByteString", "internal/bytealg.IndexString", "internal/bytealg.CountString"], unfollowed := true, recurses := true, named := ["internal/bytealg.MaxLen", "unicode/utf8.first", "unicode/utf8.acceptRanges"], plainKeys := false, apart := false, laid := [("unicode/utf8.acceptRanges", laid_unicode_utf8_acceptRanges), ("unicode/utf8.first", laid_unicode_utf8_first)], narrowed := true }
def SheetFieldsUptoSaid : Prop := sheetFieldsUptoRow.holds Tryd.pinned (OpenSpec.upto sheetFieldsSpec)

/-- 'damperlaw35.WordsParses', WHERE WHAT IT READS IS OF BULK AT MOST 1048576: true; the input reads as it did. -/
def wordsParsesUptoRow : OpenClaim := { program := "ytmkcooamgojbpaadoor", sum := "e8d0f671a3d95880de8897d91d21321fe3f0cab9a1089c75534af627ab5c0ba9", func := "damper/damperlaw35.WordsParses", spec := "wordsParses", inPlace := ["internal/bytealg.CountString", "internal/bytealg.IndexByteString", "internal/bytealg.IndexString"], unfollowed := true, recurses := true, named := ["unicode/utf8.first", "unicode/utf8.acceptRanges", "internal/bytealg.MaxLen"], plainKeys := false, apart := false, laid := [("unicode/utf8.acceptRanges", laid_unicode_utf8_acceptRanges), ("unicode/utf8.first", laid_unicode_utf8_first)], narrowed := true }
def WordsParsesUptoSaid : Prop := wordsParsesUptoRow.holds Tryd.pinned (OpenSpec.upto wordsParsesSpec)

/-- 'damperlaw35.WordsNumbers', WHERE WHAT IT READS IS OF BULK AT MOST 1048576: true; the input reads as it did. -/
def wordsNumbersUptoRow : OpenClaim := { program := "ytmkcooamgojbpaadoor", sum := "e8d0f671a3d95880de8897d91d21321fe3f0cab9a1089c75534af627ab5c0ba9", func := "damper/damperlaw35.WordsNumbers", spec := "wordsNumbers", inPlace := ["internal/bytealg.CountString", "internal/bytealg.IndexByteString", "internal/bytealg.IndexString"], unfollowed := true, recurses := true, named := ["unicode/utf8.first", "unicode/utf8.acceptRanges", "internal/bytealg.MaxLen"], plainKeys := false, apart := false, laid := [("unicode/utf8.acceptRanges", laid_unicode_utf8_acceptRanges), ("unicode/utf8.first", laid_unicode_utf8_first)], narrowed := true }
def WordsNumbersUptoSaid : Prop := wordsNumbersUptoRow.holds Tryd.pinned (OpenSpec.upto wordsNumbersSpec)

/-- 'damperlaw40.SheetReads', WHERE WHAT IT READS IS OF BULK AT MOST 1048576: true; the input reads as it did. -/
def sheetReadsUptoRow : OpenClaim := { program := "ytmkcooamgojbpaadoor", sum := "e8d0f671a3d95880de8897d91d21321fe3f0cab9a1089c75534af627ab5c0ba9", func := "damper/damperlaw40.SheetReads", spec := "sheetReads", inPlace := ["internal/bytealg.IndexByteString", "internal/bytealg.IndexString", "internal/bytealg.CountString"], unfollowed := true, recurses := true, named := ["internal/bytealg.MaxLen", "unicode/utf8.first", "unicode/utf8.acceptRanges"], plainKeys := false, apart := false, laid := [("unicode/utf8.acceptRanges", laid_unicode_utf8_acceptRanges), ("unicode/utf8.first", laid_unicode_utf8_first)], narrowed := true }
def SheetReadsUptoSaid : Prop := sheetReadsUptoRow.holds Tryd.pinned (OpenSpec.upto sheetReadsSpec)

/-- 'damperlaw35.WordsReads', WHERE WHAT IT READS IS OF BULK AT MOST 1048576: true; the input reads as it did. -/
def wordsReadsUptoRow : OpenClaim := { program := "ytmkcooamgojbpaadoor", sum := "e8d0f671a3d95880de8897d91d21321fe3f0cab9a1089c75534af627ab5c0ba9", func := "damper/damperlaw35.WordsReads", spec := "wordsReads", inPlace := ["internal/bytealg.CountString", "internal/bytealg.IndexByteString", "internal/bytealg.IndexString"], unfollowed := true, recurses := true, named := ["unicode/utf8.first", "unicode/utf8.acceptRanges", "internal/bytealg.MaxLen"], plainKeys := false, apart := false, laid := [("unicode/utf8.acceptRanges", laid_unicode_utf8_acceptRanges), ("unicode/utf8.first", laid_unicode_utf8_first)], narrowed := true }
def WordsReadsUptoSaid : Prop := wordsReadsUptoRow.holds Tryd.pinned (OpenSpec.upto wordsReadsSpec)

/-- 'damperlaw36.ReportParses', WHERE WHAT IT READS IS OF BULK AT MOST 1048576: true; the input reads as it did. -/
def reportParsesUptoRow : OpenClaim := { program := "ytmkcooamgojbpaadoor", sum := "e8d0f671a3d95880de8897d91d21321fe3f0cab9a1089c75534af627ab5c0ba9", func := "damper/damperlaw36.ReportParses", spec := "reportParses", inPlace := ["internal/abi.NoEscape", "internal/bytealg.MakeNoZero", "internal/bytealg.IndexByteString", "internal/bytealg.IndexString", "internal/bytealg.CountString"], unfollowed := true, recurses := true, named := ["internal/bytealg.MaxLen", "unicode/utf8.first", "unicode/utf8.acceptRanges"], plainKeys := false, apart := false, laid := [("unicode/utf8.acceptRanges", laid_unicode_utf8_acceptRanges), ("unicode/utf8.first", laid_unicode_utf8_first)], narrowed := true }
def ReportParsesUptoSaid : Prop := reportParsesUptoRow.holds Tryd.pinned (OpenSpec.upto reportParsesSpec)

/-- 'damperlaw36.ReportLines', WHERE WHAT IT READS IS OF BULK AT MOST 1048576: true; the input reads as it did. -/
def reportLinesUptoRow : OpenClaim := { program := "ytmkcooamgojbpaadoor", sum := "e8d0f671a3d95880de8897d91d21321fe3f0cab9a1089c75534af627ab5c0ba9", func := "damper/damperlaw36.ReportLines", spec := "reportLines", inPlace := ["internal/abi.NoEscape", "internal/bytealg.MakeNoZero", "internal/bytealg.IndexByteString", "internal/bytealg.IndexString", "internal/bytealg.CountString"], unfollowed := true, recurses := true, named := ["internal/bytealg.MaxLen", "unicode/utf8.first", "unicode/utf8.acceptRanges"], plainKeys := false, apart := false, laid := [("unicode/utf8.acceptRanges", laid_unicode_utf8_acceptRanges), ("unicode/utf8.first", laid_unicode_utf8_first)], narrowed := true }
def ReportLinesUptoSaid : Prop := reportLinesUptoRow.holds Tryd.pinned (OpenSpec.upto reportLinesSpec)

/-- 'damperlaw36.ReportReads', WHERE WHAT IT READS IS OF BULK AT MOST 1048576: true; the input reads as it did. -/
def reportReadsUptoRow : OpenClaim := { program := "ytmkcooamgojbpaadoor", sum := "e8d0f671a3d95880de8897d91d21321fe3f0cab9a1089c75534af627ab5c0ba9", func := "damper/damperlaw36.ReportReads", spec := "reportReads", inPlace := ["internal/abi.NoEscape", "internal/bytealg.MakeNoZero", "internal/bytealg.IndexByteString", "internal/bytealg.IndexString", "internal/bytealg.CountString"], unfollowed := true, recurses := true, named := ["internal/bytealg.MaxLen", "unicode/utf8.first", "unicode/utf8.acceptRanges"], plainKeys := false, apart := false, laid := [("unicode/utf8.acceptRanges", laid_unicode_utf8_acceptRanges), ("unicode/utf8.first", laid_unicode_utf8_first)], narrowed := true }
def ReportReadsUptoSaid : Prop := reportReadsUptoRow.holds Tryd.pinned (OpenSpec.upto reportReadsSpec)

/-- 'damperlaw36.ReportBack', WHERE WHAT IT READS IS OF BULK AT MOST 1048576: true; the input reads as it did. -/
def reportBackUptoRow : OpenClaim := { program := "ytmkcooamgojbpaadoor", sum := "e8d0f671a3d95880de8897d91d21321fe3f0cab9a1089c75534af627ab5c0ba9", func := "damper/damperlaw36.ReportBack", spec := "reportBack", inPlace := ["internal/abi.NoEscape", "internal/bytealg.MakeNoZero", "internal/bytealg.IndexByteString", "internal/bytealg.IndexString", "internal/bytealg.CountString"], unfollowed := true, recurses := true, named := ["internal/bytealg.MaxLen", "unicode/utf8.first", "unicode/utf8.acceptRanges"], plainKeys := false, apart := false, laid := [("unicode/utf8.acceptRanges", laid_unicode_utf8_acceptRanges), ("unicode/utf8.first", laid_unicode_utf8_first)], narrowed := true }
def ReportBackUptoSaid : Prop := reportBackUptoRow.holds Tryd.pinned (OpenSpec.upto reportBackSpec)

/-- 'damperlaw35.WordsLines', WHERE WHAT IT READS IS OF BULK AT MOST 1048576: true; the input reads as it did. -/
def wordsLinesUptoRow : OpenClaim := { program := "ytmkcooamgojbpaadoor", sum := "e8d0f671a3d95880de8897d91d21321fe3f0cab9a1089c75534af627ab5c0ba9", func := "damper/damperlaw35.WordsLines", spec := "wordsLines", inPlace := ["internal/bytealg.CountString", "internal/bytealg.IndexByteString", "internal/bytealg.IndexString", "internal/abi.NoEscape", "internal/bytealg.MakeNoZero"], unfollowed := true, recurses := true, named := ["unicode/utf8.first", "unicode/utf8.acceptRanges", "internal/bytealg.MaxLen"], plainKeys := false, apart := false, laid := [("unicode/utf8.acceptRanges", laid_unicode_utf8_acceptRanges), ("unicode/utf8.first", laid_unicode_utf8_first)], narrowed := true }
def WordsLinesUptoSaid : Prop := wordsLinesUptoRow.holds Tryd.pinned (OpenSpec.upto wordsLinesSpec)

/-- 'damperlaw35.WordsBack', WHERE WHAT IT READS IS OF BULK AT MOST 1048576: true; the input reads as it did. -/
def wordsBackUptoRow : OpenClaim := { program := "ytmkcooamgojbpaadoor", sum := "e8d0f671a3d95880de8897d91d21321fe3f0cab9a1089c75534af627ab5c0ba9", func := "damper/damperlaw35.WordsBack", spec := "wordsBack", inPlace := ["internal/bytealg.CountString", "internal/bytealg.IndexByteString", "internal/bytealg.IndexString", "internal/abi.NoEscape", "internal/bytealg.MakeNoZero"], unfollowed := true, recurses := true, named := ["unicode/utf8.first", "unicode/utf8.acceptRanges", "internal/bytealg.MaxLen"], plainKeys := false, apart := false, laid := [("unicode/utf8.acceptRanges", laid_unicode_utf8_acceptRanges), ("unicode/utf8.first", laid_unicode_utf8_first)], narrowed := true }
def WordsBackUptoSaid : Prop := wordsBackUptoRow.holds Tryd.pinned (OpenSpec.upto wordsBackSpec)

/-- 'damperlaw36.ReportCounts', WHERE WHAT IT READS IS OF BULK AT MOST 1048576: true; the input reads as it did. -/
def reportCountsUptoRow : OpenClaim := { program := "ytmkcooamgojbpaadoor", sum := "e8d0f671a3d95880de8897d91d21321fe3f0cab9a1089c75534af627ab5c0ba9", func := "damper/damperlaw36.ReportCounts", spec := "reportCounts", inPlace := ["internal/abi.NoEscape", "internal/bytealg.MakeNoZero", "internal/bytealg.IndexByteString", "internal/bytealg.IndexString", "internal/bytealg.CountString"], unfollowed := true, recurses := true, named := ["internal/bytealg.MaxLen", "unicode/utf8.first", "unicode/utf8.acceptRanges"], plainKeys := false, apart := false, laid := [("unicode/utf8.acceptRanges", laid_unicode_utf8_acceptRanges), ("unicode/utf8.first", laid_unicode_utf8_first)], narrowed := true }
def ReportCountsUptoSaid : Prop := reportCountsUptoRow.holds Tryd.pinned (OpenSpec.upto reportCountsSpec)

end Rows
end Go.Proofs.YtmkcooamgojbpaaDoor
