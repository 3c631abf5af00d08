/- fix.Qty (of XTapeDone, for seats without tapes). -/
import Derived.Test.YtmkcooamgojbpaaKit
import Derived.Test.YtmkcooamgojbpaaBlk
import Derived.Deep.DrawnRows
namespace Go.Proofs.Ytmkcooamgojbpaa.Qty
set_option linter.unusedVariables false
open Go.RowKit Go.Proofs.Ytmkcooamgojbpaa.Kit Go.Proofs.Ytmkcooamgojbpaa.Blk
attribute [local go_sem ↓] Go.wp_at_zero Go.wp_at_succ

theorem in_any (A : Nat) (q lo hi : Int) (w : World) (hA : w.cell? ⟨A, 0, none⟩ = some (.int .i64 q)) :
    Calls Try.prog 37 #[.int .i64 lo, .int .i64 hi, .pointer (some ⟨A, 0, none⟩)] w fun e w' => e = .returned (.bool (decide (lo ≤ q) && decide (q ≤ hi))) ∧ w = w' := by
  by_cases h : lo ≤ q
  · go_enter Try.func37, Try.ntmps37
    go_wp2
    go_ret
    exact ⟨by simp [h], rfl⟩
  · have h2 : q < lo := by omega
    go_enter Try.func37, Try.ntmps37
    go_wp2
    go_ret
    exact ⟨ret_bool (by simp; omega), rfl⟩
def qtyF (q : Int) : Int := if 1 ≤ q ∧ q ≤ 4294967296 then 0 else 9
theorem qty_any (q : Int) (w : World) : Calls Try.prog 29 #[.int .i64 q] w fun e w' => e = .returned (.int .i64 (qtyF q)) ∧ Below w.heap.size w w' := by
  by_cases h : 1 ≤ q ∧ q ≤ 4294967296
  · have b1 : (decide (1 ≤ q) && decide (q ≤ 4294967296)) = true := by simp [h]
    go_enter Try.func29, Try.ntmps29
    go_wp2_with (go_at_call 37; refine (in_any w.heap.size q _ _ _ (cell_new _ _ _ _ _ _ rfl rfl)).mono ?_; rintro e w' ⟨rfl, rfl⟩; rw [b1])
    refine bodyPost_ret (v := .int .i64 0) (by simp [results, Try.results29, go_sem]) rfl ?_
    exact ⟨ret_int (if_pos h).symm, (Below.refl _ _).alloc (Nat.le_refl _) _⟩
  · have b1 : (decide (1 ≤ q) && decide (q ≤ 4294967296)) = false := by
      rw [Bool.eq_false_iff]; simpa using h
    go_enter Try.func29, Try.ntmps29
    go_wp2_with (go_at_call 37; refine (in_any w.heap.size q _ _ _ (cell_new _ _ _ _ _ _ rfl rfl)).mono ?_; rintro e w' ⟨rfl, rfl⟩; rw [b1])
    refine bodyPost_ret (v := .int .i64 9) (by simp [results, Try.results29, go_sem]) rfl ?_
    exact ⟨ret_int (if_neg h).symm, (Below.refl _ _).alloc (Nat.le_refl _) _⟩
end Go.Proofs.Ytmkcooamgojbpaa.Qty
