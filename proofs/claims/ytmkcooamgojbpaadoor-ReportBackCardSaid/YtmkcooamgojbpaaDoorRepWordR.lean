/- damperref36.Word. -/
import Derived.Test.YtmkcooamgojbpaaDoorRepWord
namespace Go.Proofs.YtmkcooamgojbpaaDoor.Reports
open Go.RowKit Go.Proofs.YtmkcooamgojbpaaDoor.Kit Go.Proofs.YtmkcooamgojbpaaDoor.Blk Go.Proofs.YtmkcooamgojbpaaDoor.Dec Go.Proofs.YtmkcooamgojbpaaDoor.Words Go.Proofs.YtmkcooamgojbpaaDoor.Octets Go.Proofs.YtmkcooamgojbpaaDoor.Lines Go.Proofs.YtmkcooamgojbpaaDoor.Msgs
attribute [local go_sem ↓] Go.wp_at_zero Go.wp_at_succ
set_option linter.unusedVariables false

set_option maxRecDepth 20000 in
set_option maxHeartbeats 4000000 in
theorem rword_any (k : Int) (w : World) : Calls Tryd.prog 47 #[.int .i64 k] w fun e w' => e = .returned (.string (strB (wordK k))) ∧ Below w.heap.size w w' := by
  by_cases h1 : k < 1
  · have HE := Lib.hid (wordK_none (.inl h1))
    go_enter Tryd.func47, Tryd.ntmps47
    go_wp2_with fail
    go_ret
    exact ⟨by rw [HE.out]; rfl, (Below.refl _ _).alloc (Nat.le_refl _) _⟩
  · by_cases h2 : 9 < k
    · have HE := Lib.hid (wordK_none (.inr h2))
      go_enter Tryd.func47, Tryd.ntmps47
      go_wp2_with fail
      go_ret
      exact ⟨by rw [HE.out]; rfl, (Below.refl _ _).alloc (Nat.le_refl _) _⟩
    · rcases cases9 (k := k) ⟨by omega, by omega⟩ with rfl | rfl | rfl | rfl | rfl | rfl | rfl | rfl | rfl
      all_goals
        go_enter Tryd.func47, Tryd.ntmps47
        go_wp2_with fail
        go_ret
        exact ⟨rfl, (Below.refl _ _).alloc (Nat.le_refl _) _⟩
end Go.Proofs.YtmkcooamgojbpaaDoor.Reports
