/- Parts of the proof: RefOct. -/
import Derived.Test.YtmkcooamgojbpaaGreatDoorPart18
import Derived.Laws.AppendOwnNone

/- damperref03: Num, Uint, turned, Int. -/
namespace Go.Proofs.YtmkcooamgojbpaaGreatDoor.Octets
set_option linter.unusedVariables false
open Go.RowKit Go.Proofs.YtmkcooamgojbpaaGreatDoor.Kit Go.Proofs.YtmkcooamgojbpaaGreatDoor.Blk
attribute [local go_sem ↓] Go.wp_at_zero Go.wp_at_succ

theorem own_push {N : Nat} {k m : List Nat} {w W W' w5 : World} {v v' : Value} (hb : Below N w W) (hN : N ≤ W.heap.size) (hrow : Own N k v W) (hb' : Below W.heap.size W W')
    (hown : w5.ownsRow N 5 1 v' (k.length + m.length) (vals k ++ vals m)) (hgrow : W'.grownBy w5 v.ownBlock) : Own N (k ++ m) v' w5 ∧ Below N w w5 :=
  ⟨by unfold Own; rw [vals_app, List.length_append]; exact hown, (hb.trans (hb'.mono hN)).grown hgrow (Nat.le_trans hN hb'.size) (fun k e => (row_from' hrow e).1)⟩

end Go.Proofs.YtmkcooamgojbpaaGreatDoor.Octets
