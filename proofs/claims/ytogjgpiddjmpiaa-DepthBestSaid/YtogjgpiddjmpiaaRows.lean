/-
  No cell of these rows narrows 'for every input' (looked for: loops, veiled, ifaces, maps, wideKeys, modest, calm, conditions, laid).
  DERIVED. THE GIVEN ROWS OF THIS SEAT. 11 by the template 'for every input the law returns true; each argument reads behind the call as it read before'; 0 by the template 'total and deterministic' (their statements: YtogjgpiddjmpiaaTotals.lean).
  GIVEN WITH THE SEED: the statements are not yours to turn. If you find one false, say at which input.
  Laid BY PROGRAM, IN A SANDBOX (cutbox-rows.mjs): the forced cells as the released guide's own fill.sh prints them over the translation 0b054259b633f198… (all of the seat's roots in one cut). By AI agents, Wed Nov 11 2026. No macro, syntax, notation, axiom, sorry.
-/
import Derived.Test.YtogjgpiddjmpiaaChecked
import GoSem.Claim
import GoSem.ClaimJoined
import GoSem.ClaimMapViews
import Derived.JoinedTies
import Derived.KernelRfl
namespace Go.Proofs.Ytogjgpiddjmpiaa
/- THE CELL 'sum', in the pinned program and in every row, IS THE sha256 OF THE DUMP (.gsa) THAT YtogjgpiddjmpiaaProg.lean LOADS. Nothing in Lean hashes anything: it is a label: what it is worth is what the hold of that sum in a sandbox is worth. -/
noncomputable def Try.pinned : Pinned := { name := "ytogjgpiddjmpiaa", sum := "0b054259b633f19872ac2d90c878b1eee91dca233ff52f89088ed06cecf67fac", checked := Try.checked }
namespace Rows
def none {H : Type} : Left H := { results := [], args := [] }

/-- 'damperlaw37.DrillKinds': WHATEVER THE INPUT: true; the input reads as it did. -/
def drillKindsSpec : ChangeSpec := { name := "drillKinds", fn := fun _ => fun
  | [d] => { results := [.lit (.bool true)], args := [d] }
  | _ => none }
def drillKindsRow : OpenClaim := { program := "ytogjgpiddjmpiaa", sum := "0b054259b633f19872ac2d90c878b1eee91dca233ff52f89088ed06cecf67fac", func := "damper/damperlaw37.DrillKinds", spec := "drillKinds", unfollowed := true, recurses := true, plainKeys := false, apart := false }
def DrillKindsSaid : Prop := drillKindsRow.holds Try.pinned (OpenSpec.ofChange drillKindsSpec)

/-- ITS FALSE NEIGHBOUR: 'it returns false'. Refute it at one input. -/
def drillKindsWrong : ChangeSpec := { name := "drillKinds", fn := fun _ => fun
  | [d] => { results := [.lit (.bool false)], args := [d] }
  | _ => none }
def DrillKindsWrongFalsely : Prop := drillKindsRow.holds Try.pinned (OpenSpec.ofChange drillKindsWrong)

/-- 'damperlaw37.DrillSteps': WHATEVER THE INPUT: true; the input reads as it did. -/
def drillStepsSpec : ChangeSpec := { name := "drillSteps", fn := fun _ => fun
  | [d1, d2, d3, d4] => { results := [.lit (.bool true)], args := [d1, d2, d3, d4] }
  | _ => none }
def drillStepsRow : OpenClaim := { program := "ytogjgpiddjmpiaa", sum := "0b054259b633f19872ac2d90c878b1eee91dca233ff52f89088ed06cecf67fac", func := "damper/damperlaw37.DrillSteps", spec := "drillSteps", unfollowed := true, recurses := true, plainKeys := false, apart := false }
def DrillStepsSaid : Prop := drillStepsRow.holds Try.pinned (OpenSpec.ofChange drillStepsSpec)

/-- ITS FALSE NEIGHBOUR: 'it returns false'. Refute it at one input. -/
def drillStepsWrong : ChangeSpec := { name := "drillSteps", fn := fun _ => fun
  | [d1, d2, d3, d4] => { results := [.lit (.bool false)], args := [d1, d2, d3, d4] }
  | _ => none }
def DrillStepsWrongFalsely : Prop := drillStepsRow.holds Try.pinned (OpenSpec.ofChange drillStepsWrong)

/-- 'damperlaw34.TapeBars': WHATEVER THE INPUT: true; the input reads as it did. -/
def tapeBarsSpec : ChangeSpec := { name := "tapeBars", fn := fun _ => fun
  | [d1, d2, d3] => { results := [.lit (.bool true)], args := [d1, d2, d3] }
  | _ => none }
def tapeBarsRow : OpenClaim := { program := "ytogjgpiddjmpiaa", sum := "0b054259b633f19872ac2d90c878b1eee91dca233ff52f89088ed06cecf67fac", func := "damper/damperlaw34.TapeBars", spec := "tapeBars", unfollowed := true, recurses := true, plainKeys := false, apart := false }
def TapeBarsSaid : Prop := tapeBarsRow.holds Try.pinned (OpenSpec.ofChange tapeBarsSpec)

/-- ITS FALSE NEIGHBOUR: 'it returns false'. Refute it at one input. -/
def tapeBarsWrong : ChangeSpec := { name := "tapeBars", fn := fun _ => fun
  | [d1, d2, d3] => { results := [.lit (.bool false)], args := [d1, d2, d3] }
  | _ => none }
def TapeBarsWrongFalsely : Prop := tapeBarsRow.holds Try.pinned (OpenSpec.ofChange tapeBarsWrong)

/-- 'damperlaw34.TapeSums': WHATEVER THE INPUT: true; the input reads as it did. -/
def tapeSumsSpec : ChangeSpec := { name := "tapeSums", fn := fun _ => fun
  | [d1, d2, d3] => { results := [.lit (.bool true)], args := [d1, d2, d3] }
  | _ => none }
def tapeSumsRow : OpenClaim := { program := "ytogjgpiddjmpiaa", sum := "0b054259b633f19872ac2d90c878b1eee91dca233ff52f89088ed06cecf67fac", func := "damper/damperlaw34.TapeSums", spec := "tapeSums", unfollowed := true, recurses := true, plainKeys := false, apart := false }
def TapeSumsSaid : Prop := tapeSumsRow.holds Try.pinned (OpenSpec.ofChange tapeSumsSpec)

/-- ITS FALSE NEIGHBOUR: 'it returns false'. Refute it at one input. -/
def tapeSumsWrong : ChangeSpec := { name := "tapeSums", fn := fun _ => fun
  | [d1, d2, d3] => { results := [.lit (.bool false)], args := [d1, d2, d3] }
  | _ => none }
def TapeSumsWrongFalsely : Prop := tapeSumsRow.holds Try.pinned (OpenSpec.ofChange tapeSumsWrong)

/-- 'damperlaw34.TapeWholes': WHATEVER THE INPUT: true; the input reads as it did. -/
def tapeWholesSpec : ChangeSpec := { name := "tapeWholes", fn := fun _ => fun
  | [d1, d2, d3] => { results := [.lit (.bool true)], args := [d1, d2, d3] }
  | _ => none }
def tapeWholesRow : OpenClaim := { program := "ytogjgpiddjmpiaa", sum := "0b054259b633f19872ac2d90c878b1eee91dca233ff52f89088ed06cecf67fac", func := "damper/damperlaw34.TapeWholes", spec := "tapeWholes", unfollowed := true, recurses := true, plainKeys := false, apart := false }
def TapeWholesSaid : Prop := tapeWholesRow.holds Try.pinned (OpenSpec.ofChange tapeWholesSpec)

/-- ITS FALSE NEIGHBOUR: 'it returns false'. Refute it at one input. -/
def tapeWholesWrong : ChangeSpec := { name := "tapeWholes", fn := fun _ => fun
  | [d1, d2, d3] => { results := [.lit (.bool false)], args := [d1, d2, d3] }
  | _ => none }
def TapeWholesWrongFalsely : Prop := tapeWholesRow.holds Try.pinned (OpenSpec.ofChange tapeWholesWrong)

/-- 'damperlaw33.DepthPlays': WHATEVER THE INPUT: true; the input reads as it did. -/
def depthPlaysSpec : ChangeSpec := { name := "depthPlays", fn := fun _ => fun
  | [d1, d2, d3] => { results := [.lit (.bool true)], args := [d1, d2, d3] }
  | _ => none }
def depthPlaysRow : OpenClaim := { program := "ytogjgpiddjmpiaa", sum := "0b054259b633f19872ac2d90c878b1eee91dca233ff52f89088ed06cecf67fac", func := "damper/damperlaw33.DepthPlays", spec := "depthPlays", unfollowed := true, recurses := true, plainKeys := false, apart := false }
def DepthPlaysSaid : Prop := depthPlaysRow.holds Try.pinned (OpenSpec.ofChange depthPlaysSpec)

/-- ITS FALSE NEIGHBOUR: 'it returns false'. Refute it at one input. -/
def depthPlaysWrong : ChangeSpec := { name := "depthPlays", fn := fun _ => fun
  | [d1, d2, d3] => { results := [.lit (.bool false)], args := [d1, d2, d3] }
  | _ => none }
def DepthPlaysWrongFalsely : Prop := depthPlaysRow.holds Try.pinned (OpenSpec.ofChange depthPlaysWrong)

/-- 'damperlaw33.DepthOrders': WHATEVER THE INPUT: true; the input reads as it did. -/
def depthOrdersSpec : ChangeSpec := { name := "depthOrders", fn := fun _ => fun
  | [d1, d2] => { results := [.lit (.bool true)], args := [d1, d2] }
  | _ => none }
def depthOrdersRow : OpenClaim := { program := "ytogjgpiddjmpiaa", sum := "0b054259b633f19872ac2d90c878b1eee91dca233ff52f89088ed06cecf67fac", func := "damper/damperlaw33.DepthOrders", spec := "depthOrders", unfollowed := true, recurses := true, plainKeys := false, apart := false }
def DepthOrdersSaid : Prop := depthOrdersRow.holds Try.pinned (OpenSpec.ofChange depthOrdersSpec)

/-- ITS FALSE NEIGHBOUR: 'it returns false'. Refute it at one input. -/
def depthOrdersWrong : ChangeSpec := { name := "depthOrders", fn := fun _ => fun
  | [d1, d2] => { results := [.lit (.bool false)], args := [d1, d2] }
  | _ => none }
def DepthOrdersWrongFalsely : Prop := depthOrdersRow.holds Try.pinned (OpenSpec.ofChange depthOrdersWrong)

/-- 'damperlaw33.DepthBest': WHATEVER THE INPUT: true; the input reads as it did. -/
def depthBestSpec : ChangeSpec := { name := "depthBest", fn := fun _ => fun
  | [d1, d2] => { results := [.lit (.bool true)], args := [d1, d2] }
  | _ => none }
def depthBestRow : OpenClaim := { program := "ytogjgpiddjmpiaa", sum := "0b054259b633f19872ac2d90c878b1eee91dca233ff52f89088ed06cecf67fac", func := "damper/damperlaw33.DepthBest", spec := "depthBest", unfollowed := true, recurses := true, plainKeys := false, apart := false }
def DepthBestSaid : Prop := depthBestRow.holds Try.pinned (OpenSpec.ofChange depthBestSpec)

/-- ITS FALSE NEIGHBOUR: 'it returns false'. Refute it at one input. -/
def depthBestWrong : ChangeSpec := { name := "depthBest", fn := fun _ => fun
  | [d1, d2] => { results := [.lit (.bool false)], args := [d1, d2] }
  | _ => none }
def DepthBestWrongFalsely : Prop := depthBestRow.holds Try.pinned (OpenSpec.ofChange depthBestWrong)

/-- 'damperlaw33.DepthNils': WHATEVER THE INPUT: true; the input reads as it did. -/
def depthNilsSpec : ChangeSpec := { name := "depthNils", fn := fun _ => fun
  | [d1, d2, d3] => { results := [.lit (.bool true)], args := [d1, d2, d3] }
  | _ => none }
def depthNilsRow : OpenClaim := { program := "ytogjgpiddjmpiaa", sum := "0b054259b633f19872ac2d90c878b1eee91dca233ff52f89088ed06cecf67fac", func := "damper/damperlaw33.DepthNils", spec := "depthNils", unfollowed := true, recurses := true, plainKeys := false, apart := false }
def DepthNilsSaid : Prop := depthNilsRow.holds Try.pinned (OpenSpec.ofChange depthNilsSpec)

/-- ITS FALSE NEIGHBOUR: 'it returns false'. Refute it at one input. -/
def depthNilsWrong : ChangeSpec := { name := "depthNils", fn := fun _ => fun
  | [d1, d2, d3] => { results := [.lit (.bool false)], args := [d1, d2, d3] }
  | _ => none }
def DepthNilsWrongFalsely : Prop := depthNilsRow.holds Try.pinned (OpenSpec.ofChange depthNilsWrong)

/-- 'damperlaw31.LedgerOpen': WHATEVER THE INPUT: true; the input reads as it did. -/
def ledgerOpenSpec : ChangeSpec := { name := "ledgerOpen", fn := fun _ => fun
  | [d1, d2, d3] => { results := [.lit (.bool true)], args := [d1, d2, d3] }
  | _ => none }
def ledgerOpenRow : OpenClaim := { program := "ytogjgpiddjmpiaa", sum := "0b054259b633f19872ac2d90c878b1eee91dca233ff52f89088ed06cecf67fac", func := "damper/damperlaw31.LedgerOpen", spec := "ledgerOpen", unfollowed := true, recurses := true, plainKeys := false, apart := false }
def LedgerOpenSaid : Prop := ledgerOpenRow.holds Try.pinned (OpenSpec.ofChange ledgerOpenSpec)

/-- ITS FALSE NEIGHBOUR: 'it returns false'. Refute it at one input. -/
def ledgerOpenWrong : ChangeSpec := { name := "ledgerOpen", fn := fun _ => fun
  | [d1, d2, d3] => { results := [.lit (.bool false)], args := [d1, d2, d3] }
  | _ => none }
def LedgerOpenWrongFalsely : Prop := ledgerOpenRow.holds Try.pinned (OpenSpec.ofChange ledgerOpenWrong)

/-- 'damperlaw31.LedgerNils': WHATEVER THE INPUT: true; the input reads as it did. -/
def ledgerNilsSpec : ChangeSpec := { name := "ledgerNils", fn := fun _ => fun
  | [d] => { results := [.lit (.bool true)], args := [d] }
  | _ => none }
def ledgerNilsRow : OpenClaim := { program := "ytogjgpiddjmpiaa", sum := "0b054259b633f19872ac2d90c878b1eee91dca233ff52f89088ed06cecf67fac", func := "damper/damperlaw31.LedgerNils", spec := "ledgerNils", unfollowed := true, recurses := true, plainKeys := false, apart := false }
def LedgerNilsSaid : Prop := ledgerNilsRow.holds Try.pinned (OpenSpec.ofChange ledgerNilsSpec)

/-- ITS FALSE NEIGHBOUR: 'it returns false'. Refute it at one input. -/
def ledgerNilsWrong : ChangeSpec := { name := "ledgerNils", fn := fun _ => fun
  | [d] => { results := [.lit (.bool false)], args := [d] }
  | _ => none }
def LedgerNilsWrongFalsely : Prop := ledgerNilsRow.holds Try.pinned (OpenSpec.ofChange ledgerNilsWrong)

/- THE SECOND FORM. 'bulk': how many values and letters a reading holds, each counted each time it is reached (what is shared counts as often as it is met; a slice's spare places count too). A statement '..UptoSaid' is the law's where the arguments, and the package variables that the reading takes, are together of bulk at most 1048576: NARROWER than '..Said'. Prove '..Said' where nothing that the law and all that it calls make is longer than what came in: it says more and counts as full. Else prove '..UptoSaid'. A law counts once. -/
mutual
def uptoBulk {H : Type} : DataW H → Nat
  | .lit (.string bytes) => bytes.length + 1
  | .lit _ => 1
  | .nil => 1
  | .ptr d => uptoBulk d + 1
  | .slice elems spare => uptoBulkAll elems + uptoBulkAll spare + 1
  | .agg parts => uptoBulkAll parts + 1
  | .iface _ d => uptoBulk d + 1
  | .map entries => uptoBulkEntries entries + 1
  | .held _ => 1
def uptoBulkAll {H : Type} : List (DataW H) → Nat
  | [] => 0
  | d :: r => uptoBulk d + uptoBulkAll r
def uptoBulkEntries {H : Type} : List (Lit × DataW H) → Nat
  | [] => 0
  | x :: r => uptoBulkEntry x + uptoBulkEntries r
def uptoBulkEntry {H : Type} : Lit × DataW H → Nat
  | (.string bytes, d) => bytes.length + uptoBulk d + 1
  | (_, d) => uptoBulk d + 1
 end
def uptoSmall : (H : Type) → List (DataW H) → Bool := fun _ ds => decide (uptoBulkAll ds ≤ 1048576)
def OpenSpec.upto (s : _root_.Go.ChangeSpec) : _root_.Go.OpenSpec := { _root_.Go.OpenSpec.ofChange s with cond := some uptoSmall }

/-- 'damperlaw37.DrillKinds', WHERE WHAT IT READS IS OF BULK AT MOST 1048576: true; the input reads as it did. -/
def drillKindsUptoRow : OpenClaim := { program := "ytogjgpiddjmpiaa", sum := "0b054259b633f19872ac2d90c878b1eee91dca233ff52f89088ed06cecf67fac", func := "damper/damperlaw37.DrillKinds", spec := "drillKinds", unfollowed := true, recurses := true, plainKeys := false, apart := false, narrowed := true }
def DrillKindsUptoSaid : Prop := drillKindsUptoRow.holds Try.pinned (OpenSpec.upto drillKindsSpec)

/-- 'damperlaw37.DrillSteps', WHERE WHAT IT READS IS OF BULK AT MOST 1048576: true; the input reads as it did. -/
def drillStepsUptoRow : OpenClaim := { program := "ytogjgpiddjmpiaa", sum := "0b054259b633f19872ac2d90c878b1eee91dca233ff52f89088ed06cecf67fac", func := "damper/damperlaw37.DrillSteps", spec := "drillSteps", unfollowed := true, recurses := true, plainKeys := false, apart := false, narrowed := true }
def DrillStepsUptoSaid : Prop := drillStepsUptoRow.holds Try.pinned (OpenSpec.upto drillStepsSpec)

/-- 'damperlaw34.TapeBars', WHERE WHAT IT READS IS OF BULK AT MOST 1048576: true; the input reads as it did. -/
def tapeBarsUptoRow : OpenClaim := { program := "ytogjgpiddjmpiaa", sum := "0b054259b633f19872ac2d90c878b1eee91dca233ff52f89088ed06cecf67fac", func := "damper/damperlaw34.TapeBars", spec := "tapeBars", unfollowed := true, recurses := true, plainKeys := false, apart := false, narrowed := true }
def TapeBarsUptoSaid : Prop := tapeBarsUptoRow.holds Try.pinned (OpenSpec.upto tapeBarsSpec)

/-- 'damperlaw34.TapeSums', WHERE WHAT IT READS IS OF BULK AT MOST 1048576: true; the input reads as it did. -/
def tapeSumsUptoRow : OpenClaim := { program := "ytogjgpiddjmpiaa", sum := "0b054259b633f19872ac2d90c878b1eee91dca233ff52f89088ed06cecf67fac", func := "damper/damperlaw34.TapeSums", spec := "tapeSums", unfollowed := true, recurses := true, plainKeys := false, apart := false, narrowed := true }
def TapeSumsUptoSaid : Prop := tapeSumsUptoRow.holds Try.pinned (OpenSpec.upto tapeSumsSpec)

/-- 'damperlaw34.TapeWholes', WHERE WHAT IT READS IS OF BULK AT MOST 1048576: true; the input reads as it did. -/
def tapeWholesUptoRow : OpenClaim := { program := "ytogjgpiddjmpiaa", sum := "0b054259b633f19872ac2d90c878b1eee91dca233ff52f89088ed06cecf67fac", func := "damper/damperlaw34.TapeWholes", spec := "tapeWholes", unfollowed := true, recurses := true, plainKeys := false, apart := false, narrowed := true }
def TapeWholesUptoSaid : Prop := tapeWholesUptoRow.holds Try.pinned (OpenSpec.upto tapeWholesSpec)

/-- 'damperlaw33.DepthPlays', WHERE WHAT IT READS IS OF BULK AT MOST 1048576: true; the input reads as it did. -/
def depthPlaysUptoRow : OpenClaim := { program := "ytogjgpiddjmpiaa", sum := "0b054259b633f19872ac2d90c878b1eee91dca233ff52f89088ed06cecf67fac", func := "damper/damperlaw33.DepthPlays", spec := "depthPlays", unfollowed := true, recurses := true, plainKeys := false, apart := false, narrowed := true }
def DepthPlaysUptoSaid : Prop := depthPlaysUptoRow.holds Try.pinned (OpenSpec.upto depthPlaysSpec)

/-- 'damperlaw33.DepthOrders', WHERE WHAT IT READS IS OF BULK AT MOST 1048576: true; the input reads as it did. -/
def depthOrdersUptoRow : OpenClaim := { program := "ytogjgpiddjmpiaa", sum := "0b054259b633f19872ac2d90c878b1eee91dca233ff52f89088ed06cecf67fac", func := "damper/damperlaw33.DepthOrders", spec := "depthOrders", unfollowed := true, recurses := true, plainKeys := false, apart := false, narrowed := true }
def DepthOrdersUptoSaid : Prop := depthOrdersUptoRow.holds Try.pinned (OpenSpec.upto depthOrdersSpec)

/-- 'damperlaw33.DepthBest', WHERE WHAT IT READS IS OF BULK AT MOST 1048576: true; the input reads as it did. -/
def depthBestUptoRow : OpenClaim := { program := "ytogjgpiddjmpiaa", sum := "0b054259b633f19872ac2d90c878b1eee91dca233ff52f89088ed06cecf67fac", func := "damper/damperlaw33.DepthBest", spec := "depthBest", unfollowed := true, recurses := true, plainKeys := false, apart := false, narrowed := true }
def DepthBestUptoSaid : Prop := depthBestUptoRow.holds Try.pinned (OpenSpec.upto depthBestSpec)

/-- 'damperlaw33.DepthNils', WHERE WHAT IT READS IS OF BULK AT MOST 1048576: true; the input reads as it did. -/
def depthNilsUptoRow : OpenClaim := { program := "ytogjgpiddjmpiaa", sum := "0b054259b633f19872ac2d90c878b1eee91dca233ff52f89088ed06cecf67fac", func := "damper/damperlaw33.DepthNils", spec := "depthNils", unfollowed := true, recurses := true, plainKeys := false, apart := false, narrowed := true }
def DepthNilsUptoSaid : Prop := depthNilsUptoRow.holds Try.pinned (OpenSpec.upto depthNilsSpec)

/-- 'damperlaw31.LedgerOpen', WHERE WHAT IT READS IS OF BULK AT MOST 1048576: true; the input reads as it did. -/
def ledgerOpenUptoRow : OpenClaim := { program := "ytogjgpiddjmpiaa", sum := "0b054259b633f19872ac2d90c878b1eee91dca233ff52f89088ed06cecf67fac", func := "damper/damperlaw31.LedgerOpen", spec := "ledgerOpen", unfollowed := true, recurses := true, plainKeys := false, apart := false, narrowed := true }
def LedgerOpenUptoSaid : Prop := ledgerOpenUptoRow.holds Try.pinned (OpenSpec.upto ledgerOpenSpec)

/-- 'damperlaw31.LedgerNils', WHERE WHAT IT READS IS OF BULK AT MOST 1048576: true; the input reads as it did. -/
def ledgerNilsUptoRow : OpenClaim := { program := "ytogjgpiddjmpiaa", sum := "0b054259b633f19872ac2d90c878b1eee91dca233ff52f89088ed06cecf67fac", func := "damper/damperlaw31.LedgerNils", spec := "ledgerNils", unfollowed := true, recurses := true, plainKeys := false, apart := false, narrowed := true }
def LedgerNilsUptoSaid : Prop := ledgerNilsUptoRow.holds Try.pinned (OpenSpec.upto ledgerNilsSpec)

end Rows
end Go.Proofs.Ytogjgpiddjmpiaa
