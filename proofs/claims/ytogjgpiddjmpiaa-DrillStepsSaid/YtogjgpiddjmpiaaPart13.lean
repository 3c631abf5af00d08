/- Parts of the proof: StepsF. -/
import Derived.Test.YtogjgpiddjmpiaaPart8
import Derived.Test.YtogjgpiddjmpiaaPart5
import Derived.Test.YtogjgpiddjmpiaaPart12

/- What both Steps give: a list by recursion on the dice. -/
namespace Go.Proofs.Ytogjgpiddjmpiaa.Steps
set_option linter.unusedVariables false
open Go.RowKit Go.Proofs.Ytogjgpiddjmpiaa.Kit Go.Proofs.Ytogjgpiddjmpiaa.Blk Go.Proofs.Ytogjgpiddjmpiaa.Octets Go.Proofs.Ytogjgpiddjmpiaa.Cmds Go.Proofs.Ytogjgpiddjmpiaa.Dice Go.Proofs.Ytogjgpiddjmpiaa.Throw Go.Proofs.Ytogjgpiddjmpiaa.Check Go.Proofs.Ytogjgpiddjmpiaa.Order Go.Proofs.Ytogjgpiddjmpiaa.Symbol Go.Proofs.Ytogjgpiddjmpiaa.Begin

def orderCmd (c : Cfg) (x kind i : Int) : Cmd :=
  ⟨1, toss x (c.syms.length : Int), i + 1, toss (turn (turn (turn (turn x)))) 4, toss (turn x) 2, kindF (turn (turn (turn (turn (turn x))))) kind, orderPrice c x kind i, toss (turn (turn (turn x))) 9 + 1, flagF (toss (turn (turn (turn (turn (turn (turn x)))))) 6)⟩
theorem orderCmd_cells (c : Cfg) (x kind i : Int) : (orderCmd c x kind i).cells = orderCells c x kind i := rfl
/-- The step that a command gives. -/
def ofS (c : Cmd) : Stp := if rightC c = true then ⟨1, 0, 0, formC c⟩ else ⟨0, 0, 0, []⟩
theorem of_step {c : Cmd} {w w' : World} {e : Ending} (h : OfIs c w e w') : ∃ u code, e = .returned (.tuple #[.agg (stepC (ofS c).k (ofS c).y (ofS c).v u), .int .i64 code]) ∧ BytesOf w.heap.size (ofS c).l u w' ∧ Below w.heap.size w w' := by
  rcases h with ⟨hr, v, rfl, hv, hb⟩ | ⟨hr, rfl, hb⟩
  · exact ⟨v, 0, by simp [ofS, hr], .inr ⟨by simp [ofS, hr, formC], by simpa [ofS, hr] using hv⟩, hb⟩
  · exact ⟨.slice none 0 0, 1, by simp [ofS, hr], .inl ⟨by simp [ofS, hr], rfl⟩, hb⟩
/-- A step that is no order, by the throw z. -/
def otherS (c : Cfg) (x kind i z : Int) : Stp :=
  if z < 8 then ⟨2, 0, 1 + toss x 3, []⟩
  else if z = 8 then ofS ⟨2, 0, 1 + toss x (i + 1), 0, 0, 0, 0, 0, 0⟩
  else if kind = 4 ∧ i % 7 = 0 then ⟨3, 0, max (c.index - c.index / 100 * toss x 25) 1, []⟩
  else ⟨4, 0, max ((c.syms.getD 0 zeroSym).ref - (c.syms.getD 0 zeroSym).grid * toss x 5) 0, []⟩
def loopS (c : Cfg) (kind : Int) : Nat → Int → Int → List Stp
  | 0, _, _ => []
  | n + 1, i, x => if 6 ≤ toss x 10 then otherS c (turn x) kind i (toss x 10) :: loopS c kind n (i + 1) (turn (turn x))
    else ofS (orderCmd c (turn x) kind i) :: loopS c kind n (i + 1) (orderDice (turn x))
def stepsS (c : Cfg) (x kind : Int) (n : Nat) : List Stp := ⟨2, 0, (findG c.tab).1, []⟩ :: loopS c kind n 0 x
end Go.Proofs.Ytogjgpiddjmpiaa.Steps
