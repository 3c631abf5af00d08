/- script.Right and damperref29.Right: any step. -/
import Derived.Test.YtmkcooamgojbpaaDoorLine
namespace Go.Proofs.YtmkcooamgojbpaaDoor.Lines
open Go.RowKit Go.Proofs.YtmkcooamgojbpaaDoor.Kit Go.Proofs.YtmkcooamgojbpaaDoor.Blk
attribute [local go_sem ↓] Go.wp_at_zero Go.wp_at_succ
set_option linter.unusedVariables false

/-- Is a step right (n: how many bytes it has)? -/
def rightZ (k y v : Int) (n : Nat) : Bool :=
  if k = 1 then y == 0 && (v == 0 && decide ((n : Int) ≤ 64))
  else if k = 2 ∨ k = 3 then decide ((n : Int) = 0) && y == 0
  else if k = 4 then decide ((n : Int) = 0) && (decide (0 ≤ y) && decide (y ≤ 255))
  else false
set_option maxHeartbeats 1000000 in
theorem sright_any (k y v : Int) (a : Option Addr) (n c : Nat) (w : World) :
    Calls Tryd.prog 108 #[.agg #[.int .i64 k, .int .i64 y, .int .i64 v, .slice a n c]] w fun e w' => e = .returned (.bool (rightZ k y v n)) ∧ Below w.heap.size w w' := by
  go_enter Tryd.func108, Tryd.ntmps108
  go_wp2_with fail
  all_goals (go_ret; refine ⟨ret_bool ?_, (Below.refl _ _).alloc (Nat.le_refl _) _⟩)
  all_goals (rw [Bool.eq_iff_iff]; try simp_all [rightZ])
  all_goals omega
set_option maxHeartbeats 1000000 in
theorem rsright_any (k y v : Int) (a : Option Addr) (n c : Nat) (w : World) :
    Calls Tryd.prog 114 #[.agg #[.int .i64 k, .int .i64 y, .int .i64 v, .slice a n c]] w fun e w' => e = .returned (.bool (rightZ k y v n)) ∧ Below w.heap.size w w' := by
  go_enter Tryd.func114, Tryd.ntmps114
  go_wp2_with fail
  all_goals (go_ret; refine ⟨ret_bool ?_, (Below.refl _ _).alloc (Nat.le_refl _) _⟩)
  all_goals (rw [Bool.eq_iff_iff]; try simp_all [rightZ])
  all_goals omega
end Go.Proofs.YtmkcooamgojbpaaDoor.Lines
