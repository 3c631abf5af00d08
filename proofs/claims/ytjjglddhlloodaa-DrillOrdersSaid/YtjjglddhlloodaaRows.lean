/-
  No cell of these rows narrows 'for every input' (looked for: loops, veiled, ifaces, maps, wideKeys, modest, calm, conditions, laid).
  DERIVED. THE GIVEN ROWS OF THIS SEAT. 6 by the template 'for every input the law returns true; each argument reads behind the call as it read before'; 0 by the template 'total and deterministic' (their statements: YtjjglddhlloodaaTotals.lean).
  GIVEN WITH THE SEED: the statements are not yours to turn. If you find one false, say at which input.
  Laid BY PROGRAM, IN A SANDBOX (cutbox-rows.mjs): the forced cells as the released guide's own fill.sh prints them over the translation 1aa27c4153c53645… (all of the seat's roots in one cut). By AI agents, Wed Nov 11 2026. No macro, syntax, notation, axiom, sorry.
-/
import Derived.Test.YtjjglddhlloodaaChecked
import GoSem.Claim
import GoSem.ClaimJoined
import GoSem.ClaimMapViews
import Derived.JoinedTies
import Derived.KernelRfl
namespace Go.Proofs.Ytjjglddhlloodaa
/- THE CELL 'sum', in the pinned program and in every row, IS THE sha256 OF THE DUMP (.gsa) THAT YtjjglddhlloodaaProg.lean LOADS. Nothing in Lean hashes anything: it is a label: what it is worth is what the hold of that sum in a sandbox is worth. -/
noncomputable def Try.pinned : Pinned := { name := "ytjjglddhlloodaa", sum := "1aa27c4153c536453118ebc198043b46b3d1a3246e75f53afc3bfc9026aedc89", checked := Try.checked }
namespace Rows
def none {H : Type} : Left H := { results := [], args := [] }

/-- 'damperlaw37.DrillThrows': WHATEVER THE INPUT: true; the input reads as it did. -/
def drillThrowsSpec : ChangeSpec := { name := "drillThrows", fn := fun _ => fun
  | [d1, d2] => { results := [.lit (.bool true)], args := [d1, d2] }
  | _ => none }
def drillThrowsRow : OpenClaim := { program := "ytjjglddhlloodaa", sum := "1aa27c4153c536453118ebc198043b46b3d1a3246e75f53afc3bfc9026aedc89", func := "damper/damperlaw37.DrillThrows", spec := "drillThrows", unfollowed := true, recurses := true, apart := false }
def DrillThrowsSaid : Prop := drillThrowsRow.holds Try.pinned (OpenSpec.ofChange drillThrowsSpec)

/-- ITS FALSE NEIGHBOUR: 'it returns false'. Refute it at one input. -/
def drillThrowsWrong : ChangeSpec := { name := "drillThrows", fn := fun _ => fun
  | [d1, d2] => { results := [.lit (.bool false)], args := [d1, d2] }
  | _ => none }
def DrillThrowsWrongFalsely : Prop := drillThrowsRow.holds Try.pinned (OpenSpec.ofChange drillThrowsWrong)

/-- 'damperlaw37.DrillKinds': WHATEVER THE INPUT: true; the input reads as it did. -/
def drillKindsSpec : ChangeSpec := { name := "drillKinds", fn := fun _ => fun
  | [d] => { results := [.lit (.bool true)], args := [d] }
  | _ => none }
def drillKindsRow : OpenClaim := { program := "ytjjglddhlloodaa", sum := "1aa27c4153c536453118ebc198043b46b3d1a3246e75f53afc3bfc9026aedc89", func := "damper/damperlaw37.DrillKinds", spec := "drillKinds", unfollowed := true, recurses := true, apart := false }
def DrillKindsSaid : Prop := drillKindsRow.holds Try.pinned (OpenSpec.ofChange drillKindsSpec)

/-- ITS FALSE NEIGHBOUR: 'it returns false'. Refute it at one input. -/
def drillKindsWrong : ChangeSpec := { name := "drillKinds", fn := fun _ => fun
  | [d] => { results := [.lit (.bool false)], args := [d] }
  | _ => none }
def DrillKindsWrongFalsely : Prop := drillKindsRow.holds Try.pinned (OpenSpec.ofChange drillKindsWrong)

/-- 'damperlaw34.TapeBars': WHATEVER THE INPUT: true; the input reads as it did. -/
def tapeBarsSpec : ChangeSpec := { name := "tapeBars", fn := fun _ => fun
  | [d1, d2, d3] => { results := [.lit (.bool true)], args := [d1, d2, d3] }
  | _ => none }
def tapeBarsRow : OpenClaim := { program := "ytjjglddhlloodaa", sum := "1aa27c4153c536453118ebc198043b46b3d1a3246e75f53afc3bfc9026aedc89", func := "damper/damperlaw34.TapeBars", spec := "tapeBars", unfollowed := true, recurses := true, apart := false }
def TapeBarsSaid : Prop := tapeBarsRow.holds Try.pinned (OpenSpec.ofChange tapeBarsSpec)

/-- ITS FALSE NEIGHBOUR: 'it returns false'. Refute it at one input. -/
def tapeBarsWrong : ChangeSpec := { name := "tapeBars", fn := fun _ => fun
  | [d1, d2, d3] => { results := [.lit (.bool false)], args := [d1, d2, d3] }
  | _ => none }
def TapeBarsWrongFalsely : Prop := tapeBarsRow.holds Try.pinned (OpenSpec.ofChange tapeBarsWrong)

/-- 'damperlaw34.TapeSums': WHATEVER THE INPUT: true; the input reads as it did. -/
def tapeSumsSpec : ChangeSpec := { name := "tapeSums", fn := fun _ => fun
  | [d1, d2, d3] => { results := [.lit (.bool true)], args := [d1, d2, d3] }
  | _ => none }
def tapeSumsRow : OpenClaim := { program := "ytjjglddhlloodaa", sum := "1aa27c4153c536453118ebc198043b46b3d1a3246e75f53afc3bfc9026aedc89", func := "damper/damperlaw34.TapeSums", spec := "tapeSums", unfollowed := true, recurses := true, apart := false }
def TapeSumsSaid : Prop := tapeSumsRow.holds Try.pinned (OpenSpec.ofChange tapeSumsSpec)

/-- ITS FALSE NEIGHBOUR: 'it returns false'. Refute it at one input. -/
def tapeSumsWrong : ChangeSpec := { name := "tapeSums", fn := fun _ => fun
  | [d1, d2, d3] => { results := [.lit (.bool false)], args := [d1, d2, d3] }
  | _ => none }
def TapeSumsWrongFalsely : Prop := tapeSumsRow.holds Try.pinned (OpenSpec.ofChange tapeSumsWrong)

/-- 'damperlaw37.DrillOrders': WHATEVER THE INPUT: true; the input reads as it did. -/
def drillOrdersSpec : ChangeSpec := { name := "drillOrders", fn := fun _ => fun
  | [d1, d2, d3, d4] => { results := [.lit (.bool true)], args := [d1, d2, d3, d4] }
  | _ => none }
def drillOrdersRow : OpenClaim := { program := "ytjjglddhlloodaa", sum := "1aa27c4153c536453118ebc198043b46b3d1a3246e75f53afc3bfc9026aedc89", func := "damper/damperlaw37.DrillOrders", spec := "drillOrders", unfollowed := true, recurses := true, apart := false }
def DrillOrdersSaid : Prop := drillOrdersRow.holds Try.pinned (OpenSpec.ofChange drillOrdersSpec)

/-- ITS FALSE NEIGHBOUR: 'it returns false'. Refute it at one input. -/
def drillOrdersWrong : ChangeSpec := { name := "drillOrders", fn := fun _ => fun
  | [d1, d2, d3, d4] => { results := [.lit (.bool false)], args := [d1, d2, d3, d4] }
  | _ => none }
def DrillOrdersWrongFalsely : Prop := drillOrdersRow.holds Try.pinned (OpenSpec.ofChange drillOrdersWrong)

/-- 'damperlaw32.WatchPlays': WHATEVER THE INPUT: true; the input reads as it did. -/
def watchPlaysSpec : ChangeSpec := { name := "watchPlays", fn := fun _ => fun
  | [d1, d2] => { results := [.lit (.bool true)], args := [d1, d2] }
  | _ => none }
def watchPlaysRow : OpenClaim := { program := "ytjjglddhlloodaa", sum := "1aa27c4153c536453118ebc198043b46b3d1a3246e75f53afc3bfc9026aedc89", func := "damper/damperlaw32.WatchPlays", spec := "watchPlays", unfollowed := true, recurses := true, apart := false }
def WatchPlaysSaid : Prop := watchPlaysRow.holds Try.pinned (OpenSpec.ofChange watchPlaysSpec)

/-- ITS FALSE NEIGHBOUR: 'it returns false'. Refute it at one input. -/
def watchPlaysWrong : ChangeSpec := { name := "watchPlays", fn := fun _ => fun
  | [d1, d2] => { results := [.lit (.bool false)], args := [d1, d2] }
  | _ => none }
def WatchPlaysWrongFalsely : Prop := watchPlaysRow.holds Try.pinned (OpenSpec.ofChange watchPlaysWrong)

/- THE SECOND FORM. 'bulk': how many values and letters a reading holds, each counted each time it is reached (what is shared counts as often as it is met; a slice's spare places count too). A statement '..UptoSaid' is the law's where the arguments, and the package variables that the reading takes, are together of bulk at most 1048576: NARROWER than '..Said'. Prove '..Said' where nothing that the law and all that it calls make is longer than what came in: it says more and counts as full. Else prove '..UptoSaid'. A law counts once. -/
mutual
def uptoBulk {H : Type} : DataW H → Nat
  | .lit (.string bytes) => bytes.length + 1
  | .lit _ => 1
  | .nil => 1
  | .ptr d => uptoBulk d + 1
  | .slice elems spare => uptoBulkAll elems + uptoBulkAll spare + 1
  | .agg parts => uptoBulkAll parts + 1
  | .iface _ d => uptoBulk d + 1
  | .map entries => uptoBulkEntries entries + 1
  | .held _ => 1
def uptoBulkAll {H : Type} : List (DataW H) → Nat
  | [] => 0
  | d :: r => uptoBulk d + uptoBulkAll r
def uptoBulkEntries {H : Type} : List (Lit × DataW H) → Nat
  | [] => 0
  | x :: r => uptoBulkEntry x + uptoBulkEntries r
def uptoBulkEntry {H : Type} : Lit × DataW H → Nat
  | (.string bytes, d) => bytes.length + uptoBulk d + 1
  | (_, d) => uptoBulk d + 1
 end
def uptoSmall : (H : Type) → List (DataW H) → Bool := fun _ ds => decide (uptoBulkAll ds ≤ 1048576)
def OpenSpec.upto (s : _root_.Go.ChangeSpec) : _root_.Go.OpenSpec := { _root_.Go.OpenSpec.ofChange s with cond := some uptoSmall }

/-- 'damperlaw37.DrillThrows', WHERE WHAT IT READS IS OF BULK AT MOST 1048576: true; the input reads as it did. -/
def drillThrowsUptoRow : OpenClaim := { program := "ytjjglddhlloodaa", sum := "1aa27c4153c536453118ebc198043b46b3d1a3246e75f53afc3bfc9026aedc89", func := "damper/damperlaw37.DrillThrows", spec := "drillThrows", unfollowed := true, recurses := true, apart := false, narrowed := true }
def DrillThrowsUptoSaid : Prop := drillThrowsUptoRow.holds Try.pinned (OpenSpec.upto drillThrowsSpec)

/-- 'damperlaw37.DrillKinds', WHERE WHAT IT READS IS OF BULK AT MOST 1048576: true; the input reads as it did. -/
def drillKindsUptoRow : OpenClaim := { program := "ytjjglddhlloodaa", sum := "1aa27c4153c536453118ebc198043b46b3d1a3246e75f53afc3bfc9026aedc89", func := "damper/damperlaw37.DrillKinds", spec := "drillKinds", unfollowed := true, recurses := true, apart := false, narrowed := true }
def DrillKindsUptoSaid : Prop := drillKindsUptoRow.holds Try.pinned (OpenSpec.upto drillKindsSpec)

/-- 'damperlaw34.TapeBars', WHERE WHAT IT READS IS OF BULK AT MOST 1048576: true; the input reads as it did. -/
def tapeBarsUptoRow : OpenClaim := { program := "ytjjglddhlloodaa", sum := "1aa27c4153c536453118ebc198043b46b3d1a3246e75f53afc3bfc9026aedc89", func := "damper/damperlaw34.TapeBars", spec := "tapeBars", unfollowed := true, recurses := true, apart := false, narrowed := true }
def TapeBarsUptoSaid : Prop := tapeBarsUptoRow.holds Try.pinned (OpenSpec.upto tapeBarsSpec)

/-- 'damperlaw34.TapeSums', WHERE WHAT IT READS IS OF BULK AT MOST 1048576: true; the input reads as it did. -/
def tapeSumsUptoRow : OpenClaim := { program := "ytjjglddhlloodaa", sum := "1aa27c4153c536453118ebc198043b46b3d1a3246e75f53afc3bfc9026aedc89", func := "damper/damperlaw34.TapeSums", spec := "tapeSums", unfollowed := true, recurses := true, apart := false, narrowed := true }
def TapeSumsUptoSaid : Prop := tapeSumsUptoRow.holds Try.pinned (OpenSpec.upto tapeSumsSpec)

/-- 'damperlaw37.DrillOrders', WHERE WHAT IT READS IS OF BULK AT MOST 1048576: true; the input reads as it did. -/
def drillOrdersUptoRow : OpenClaim := { program := "ytjjglddhlloodaa", sum := "1aa27c4153c536453118ebc198043b46b3d1a3246e75f53afc3bfc9026aedc89", func := "damper/damperlaw37.DrillOrders", spec := "drillOrders", unfollowed := true, recurses := true, apart := false, narrowed := true }
def DrillOrdersUptoSaid : Prop := drillOrdersUptoRow.holds Try.pinned (OpenSpec.upto drillOrdersSpec)

/-- 'damperlaw32.WatchPlays', WHERE WHAT IT READS IS OF BULK AT MOST 1048576: true; the input reads as it did. -/
def watchPlaysUptoRow : OpenClaim := { program := "ytjjglddhlloodaa", sum := "1aa27c4153c536453118ebc198043b46b3d1a3246e75f53afc3bfc9026aedc89", func := "damper/damperlaw32.WatchPlays", spec := "watchPlays", unfollowed := true, recurses := true, apart := false, narrowed := true }
def WatchPlaysUptoSaid : Prop := watchPlaysUptoRow.holds Try.pinned (OpenSpec.upto watchPlaysSpec)

end Rows
end Go.Proofs.Ytjjglddhlloodaa
