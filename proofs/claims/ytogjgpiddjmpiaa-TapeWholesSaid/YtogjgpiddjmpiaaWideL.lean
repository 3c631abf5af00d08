/- Numbers of 128 bits: Left of one. -/
import Derived.Test.YtogjgpiddjmpiaaWideN
import Derived.Test.YtogjgpiddjmpiaaBig
import Derived.Deep.CutBlock
import Derived.Deep.DeepCutAuto
import Derived.Deep.RegionHeld3
namespace Go.Proofs.Ytogjgpiddjmpiaa.WideN
set_option linter.unusedVariables false
open Go.RowKit Go.Proofs.Ytogjgpiddjmpiaa.Kit Go.Proofs.Ytogjgpiddjmpiaa.Blk

set_option maxRecDepth 20000 in
theorem left_one (k : Nat) (hk : k < 128) (w : World) : Calls Try.prog 156 #[.agg #[.int .u64 0, .int .u64 1], .int .i64 k] w fun e w' =>
    e = .returned (.agg #[.int .u64 ((if k < 64 then 0 else 2 ^ (k - 64) : Nat) : Int), .int .u64 ((if k < 64 then 2 ^ k else 0 : Nat) : Int)]) ∧ Below w.heap.size w w' := by
  by_cases h0 : k = 0
  · subst h0
    have g : ((0 : Nat) : Int) ≤ 0 := by omega
    go_enter Try.func156, Try.ntmps156
    go_wp2
    refine bodyPost_ret (v := .agg #[.int .u64 0, .int .u64 1]) (by simp [results, Try.results156, go_sem]) rfl ?_
    exact ⟨rfl, ((Below.refl w.heap.size w).alloc (Nat.le_refl _) _).alloc (by simp) _⟩
  · by_cases h64 : 64 ≤ k
    · have g1 : ¬ ((k : Int) ≤ 0) := by omega
      have g2 : ¬ (128 ≤ (k : Int)) := by omega
      have g3 : (64 ≤ (k : Int)) := by omega
      rw [if_neg (by omega), if_neg (by omega)]
      have h2 : 2 ^ (k - 64) < 2 ^ 64 := Nat.pow_lt_pow_right (by decide) (by omega)
      have g5 : IntKind.u64.wrap ((2 : Int) ^ (k - 64)) = ((2 ^ (k - 64) : Nat) : Int) := by
        rw [show ((2 : Int) ^ (k - 64)) = ((2 ^ (k - 64) : Nat) : Int) from by simp]
        exact IntWalk.u64_in _ ⟨Int.natCast_nonneg _, by omega⟩
      generalize 2 ^ (k - 64) = z at *
      go_enter Try.func156, Try.ntmps156
      go_wp2
      refine bodyPost_ret (v := .agg #[.int .u64 z, .int .u64 0]) (by simp [results, Try.results156, go_sem]) rfl ?_
      exact ⟨rfl, ((Below.refl w.heap.size w).alloc (Nat.le_refl _) _).alloc (by simp) _⟩
    · have g1 : ¬ ((k : Int) ≤ 0) := by omega
      have g2 : ¬ (128 ≤ (k : Int)) := by omega
      have g3 : ¬ (64 ≤ (k : Int)) := by omega
      have g4 : IntKind.i64.wrap (64 - (k : Int)) = ((64 - k : Nat) : Int) := by
        rw [IntWalk.i64_in _ ⟨by omega, by omega⟩]; omega
      rw [if_pos (by omega), if_pos (by omega)]
      have h2 : 2 ^ k < 2 ^ 64 := Nat.pow_lt_pow_right (by decide) (by omega)
      have g5 : IntKind.u64.wrap ((2 : Int) ^ k) = ((2 ^ k : Nat) : Int) := by
        rw [show ((2 : Int) ^ k) = ((2 ^ k : Nat) : Int) from by simp]
        exact IntWalk.u64_in _ ⟨Int.natCast_nonneg _, by omega⟩
      have g6 : (1 : Int) / 2 ^ (64 - k) = 0 := by
        rw [show ((1 : Int) / 2 ^ (64 - k)) = ((1 / 2 ^ (64 - k) : Nat) : Int) from by simp, Nat.div_eq_of_lt (Nat.one_lt_two_pow (by omega))]; rfl
      have g7 : Go.bits .or .u64 0 0 = 0 := by decide
      generalize 2 ^ k = z at *
      go_enter Try.func156, Try.ntmps156
      go_upto_region 7 with fail
      have HA := Lib.hid ((Blk.new w #[.int .u64 0, .int .u64 1] 144 w.heap.size rfl).old (.cells #[.int .u64 0, .int .u64 0] 144))
      have HB := Lib.hid (Blk.new (w.alloc (.cells #[.int .u64 0, .int .u64 1] 144)) #[.int .u64 0, .int .u64 0] 144 (w.heap.size + 1) (by simp))
      have HW := Lib.hid (((Below.refl w.heap.size w).alloc (Nat.le_refl _) (.cells #[.int .u64 0, .int .u64 1] 144)).alloc (by simp) (.cells #[.int .u64 0, .int .u64 0] 144))
      generalize (w.alloc (.cells #[.int .u64 0, .int .u64 1] 144)).alloc (.cells #[.int .u64 0, .int .u64 0] 144) = W at HA HB HW ⊢
      have c0 : W.cell? ⟨w.heap.size, 0, none⟩ = some (.int .u64 0) := HA.out.cell 0 rfl
      have c1 : W.cell? ⟨w.heap.size, 1, none⟩ = some (.int .u64 1) := HA.out.cell 1 rfl
      go_still_tail 15, (by kernel_rfl)
      change wpList _ _ _ _ _ W.drew
      refine store_blk rfl 144 _ _ rfl (w.heap.size + 1) rfl #[.int .u64 0, .int .u64 0] #[.int .u64 0, .int .u64 z] 144 HB.out.drew rfl rfl (by kernel_rfl) (by simp [Value.oneCell']) ?_
      have HB2 := Lib.hid (HB.out.drew.setCells #[.int .u64 0, .int .u64 z] rfl)
      have HW2 := Lib.hid (Blk.Below.setCells (B := w.heap.size + 1) (#[.int .u64 0, .int .u64 z] : Array Value).toList 0 _ HW.out.drew (by omega))
      generalize W.drew.setCells (w.heap.size + 1) 0 (#[.int .u64 0, .int .u64 z] : Array Value).toList = W2 at HB2 HW2 ⊢
      go_wp2
      refine bodyPost_ret (results_cell_row rfl _ _ _ _ _ (0, 0) _ rfl HB2.out Try.underlying144 rfl (by kernel_rfl)) rfl ?_
      exact ⟨by simp, HW2.out⟩
end Go.Proofs.Ytogjgpiddjmpiaa.WideN
