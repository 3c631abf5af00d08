/-
  No cell of these rows narrows 'for every input' (looked for: loops, veiled, ifaces, maps, wideKeys, modest, calm, conditions, laid).
  DERIVED. THE GIVEN ROWS OF THIS SEAT. 2 by the template 'for every input the law returns true; each argument reads behind the call as it read before'; 0 by the template 'total and deterministic' (their statements: YtmkcooamgojbpaaTotals.lean).
  GIVEN WITH THE SEED: the statements are not yours to turn. If you find one false, say at which input.
  Laid BY PROGRAM, IN A SANDBOX (cutbox-rows.mjs): the forced cells as the released guide's own fill.sh prints them over the translation a2b69238b3c3e305… (all of the seat's roots in one cut). By AI agents, Wed Nov 11 2026. No macro, syntax, notation, axiom, sorry.
-/
import Derived.Test.YtmkcooamgojbpaaChecked
import GoSem.Claim
import GoSem.ClaimJoined
import GoSem.ClaimMapViews
import Derived.JoinedTies
import Derived.KernelRfl
namespace Go.Proofs.Ytmkcooamgojbpaa
/- THE CELL 'sum', in the pinned program and in every row, IS THE sha256 OF THE DUMP (.gsa) THAT YtmkcooamgojbpaaProg.lean LOADS. Nothing in Lean hashes anything: it is a label: what it is worth is what the hold of that sum in a sandbox is worth. -/
noncomputable def Try.pinned : Pinned := { name := "ytmkcooamgojbpaa", sum := "a2b69238b3c3e305805c683961ff394e6481ba08e48f7dfffdaddfaee5f1c08b", checked := Try.checked }
namespace Rows
def none {H : Type} : Left H := { results := [], args := [] }

/-- 'damperlaw31.LedgerOpen': WHATEVER THE INPUT: true; the input reads as it did. -/
def ledgerOpenSpec : ChangeSpec := { name := "ledgerOpen", fn := fun _ => fun
  | [d1, d2, d3] => { results := [.lit (.bool true)], args := [d1, d2, d3] }
  | _ => none }
def ledgerOpenRow : OpenClaim := { program := "ytmkcooamgojbpaa", sum := "a2b69238b3c3e305805c683961ff394e6481ba08e48f7dfffdaddfaee5f1c08b", func := "damper/damperlaw31.LedgerOpen", spec := "ledgerOpen", unfollowed := true, recurses := true, plainKeys := false, apart := false }
def LedgerOpenSaid : Prop := ledgerOpenRow.holds Try.pinned (OpenSpec.ofChange ledgerOpenSpec)

/-- ITS FALSE NEIGHBOUR: 'it returns false'. Refute it at one input. -/
def ledgerOpenWrong : ChangeSpec := { name := "ledgerOpen", fn := fun _ => fun
  | [d1, d2, d3] => { results := [.lit (.bool false)], args := [d1, d2, d3] }
  | _ => none }
def LedgerOpenWrongFalsely : Prop := ledgerOpenRow.holds Try.pinned (OpenSpec.ofChange ledgerOpenWrong)

/-- 'damperlaw31.LedgerNils': WHATEVER THE INPUT: true; the input reads as it did. -/
def ledgerNilsSpec : ChangeSpec := { name := "ledgerNils", fn := fun _ => fun
  | [d] => { results := [.lit (.bool true)], args := [d] }
  | _ => none }
def ledgerNilsRow : OpenClaim := { program := "ytmkcooamgojbpaa", sum := "a2b69238b3c3e305805c683961ff394e6481ba08e48f7dfffdaddfaee5f1c08b", func := "damper/damperlaw31.LedgerNils", spec := "ledgerNils", unfollowed := true, recurses := true, plainKeys := false, apart := false }
def LedgerNilsSaid : Prop := ledgerNilsRow.holds Try.pinned (OpenSpec.ofChange ledgerNilsSpec)

/-- ITS FALSE NEIGHBOUR: 'it returns false'. Refute it at one input. -/
def ledgerNilsWrong : ChangeSpec := { name := "ledgerNils", fn := fun _ => fun
  | [d] => { results := [.lit (.bool false)], args := [d] }
  | _ => none }
def LedgerNilsWrongFalsely : Prop := ledgerNilsRow.holds Try.pinned (OpenSpec.ofChange ledgerNilsWrong)

/- THE SECOND FORM. 'bulk': how many values and letters a reading holds, each counted each time it is reached (what is shared counts as often as it is met; a slice's spare places count too). A statement '..UptoSaid' is the law's where the arguments, and the package variables that the reading takes, are together of bulk at most 1048576: NARROWER than '..Said'. Prove '..Said' where nothing that the law and all that it calls make is longer than what came in: it says more and counts as full. Else prove '..UptoSaid'. A law counts once. -/
mutual
def uptoBulk {H : Type} : DataW H → Nat
  | .lit (.string bytes) => bytes.length + 1
  | .lit _ => 1
  | .nil => 1
  | .ptr d => uptoBulk d + 1
  | .slice elems spare => uptoBulkAll elems + uptoBulkAll spare + 1
  | .agg parts => uptoBulkAll parts + 1
  | .iface _ d => uptoBulk d + 1
  | .map entries => uptoBulkEntries entries + 1
  | .held _ => 1
def uptoBulkAll {H : Type} : List (DataW H) → Nat
  | [] => 0
  | d :: r => uptoBulk d + uptoBulkAll r
def uptoBulkEntries {H : Type} : List (Lit × DataW H) → Nat
  | [] => 0
  | x :: r => uptoBulkEntry x + uptoBulkEntries r
def uptoBulkEntry {H : Type} : Lit × DataW H → Nat
  | (.string bytes, d) => bytes.length + uptoBulk d + 1
  | (_, d) => uptoBulk d + 1
 end
def uptoSmall : (H : Type) → List (DataW H) → Bool := fun _ ds => decide (uptoBulkAll ds ≤ 1048576)
def OpenSpec.upto (s : _root_.Go.ChangeSpec) : _root_.Go.OpenSpec := { _root_.Go.OpenSpec.ofChange s with cond := some uptoSmall }

/-- 'damperlaw31.LedgerOpen', WHERE WHAT IT READS IS OF BULK AT MOST 1048576: true; the input reads as it did. -/
def ledgerOpenUptoRow : OpenClaim := { program := "ytmkcooamgojbpaa", sum := "a2b69238b3c3e305805c683961ff394e6481ba08e48f7dfffdaddfaee5f1c08b", func := "damper/damperlaw31.LedgerOpen", spec := "ledgerOpen", unfollowed := true, recurses := true, plainKeys := false, apart := false, narrowed := true }
def LedgerOpenUptoSaid : Prop := ledgerOpenUptoRow.holds Try.pinned (OpenSpec.upto ledgerOpenSpec)

/-- 'damperlaw31.LedgerNils', WHERE WHAT IT READS IS OF BULK AT MOST 1048576: true; the input reads as it did. -/
def ledgerNilsUptoRow : OpenClaim := { program := "ytmkcooamgojbpaa", sum := "a2b69238b3c3e305805c683961ff394e6481ba08e48f7dfffdaddfaee5f1c08b", func := "damper/damperlaw31.LedgerNils", spec := "ledgerNils", unfollowed := true, recurses := true, plainKeys := false, apart := false, narrowed := true }
def LedgerNilsUptoSaid : Prop := ledgerNilsUptoRow.holds Try.pinned (OpenSpec.upto ledgerNilsSpec)

end Rows
end Go.Proofs.Ytmkcooamgojbpaa
