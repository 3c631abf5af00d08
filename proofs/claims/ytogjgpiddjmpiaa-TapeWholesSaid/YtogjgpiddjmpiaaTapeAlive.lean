/- damperlaw34: own, and what must come at any rate. -/
import Derived.Test.YtogjgpiddjmpiaaTapeWhole
namespace Go.Proofs.Ytogjgpiddjmpiaa.Tape
set_option linter.unusedVariables false
open Go.RowKit Go.Proofs.Ytogjgpiddjmpiaa.Kit Go.Proofs.Ytogjgpiddjmpiaa.Blk Go.Proofs.Ytogjgpiddjmpiaa.Msgs
attribute [local go_sem ↓] Go.wp_at_zero Go.wp_at_succ

theorem own_any (b : Bar) (w : World) : Calls Try.prog 26 #[.agg b.cells] w fun e w' => e = .returned (.agg b.cells) ∧ Below w.heap.size w w' := by
  have HX := Lib.hid ((Blk.new w b.cells 55 w.heap.size rfl).old (.cells Bar.zero.cells 53))
  have HR := Lib.hid (Blk.new (w.alloc (.cells b.cells 55)) Bar.zero.cells 53 (w.heap.size + 1) (by simp))
  have HB := Lib.hid (((Below.refl w.heap.size w).alloc (Nat.le_refl _) (.cells b.cells 55)).alloc (by simp) (.cells Bar.zero.cells 53))
  go_enter Try.func26, Try.ntmps26
  go_upto_region 1 with fail
  change Code.wp _ _ _ _ ((w.alloc (.cells b.cells 55)).alloc (.cells Bar.zero.cells 53))
  generalize (w.alloc (.cells b.cells 55)).alloc (.cells Bar.zero.cells 53) = W at HX HR HB ⊢
  have k0 : W.cell? ⟨w.heap.size, 0, none⟩ = some (.int .i64 b.frm) := HX.out.cell 0 rfl
  have k1 : W.cell? ⟨w.heap.size, 1, none⟩ = some (.int .i64 b.opn) := HX.out.cell 1 rfl
  have k2 : W.cell? ⟨w.heap.size, 2, none⟩ = some (.int .i64 b.high) := HX.out.cell 2 rfl
  have k3 : W.cell? ⟨w.heap.size, 3, none⟩ = some (.int .i64 b.low) := HX.out.cell 3 rfl
  have k4 : W.cell? ⟨w.heap.size, 4, none⟩ = some (.int .i64 b.cls) := HX.out.cell 4 rfl
  have k5 : W.cell? ⟨w.heap.size, 5, none⟩ = some (.int .i64 b.vol) := HX.out.cell 5 rfl
  have k6 : W.cell? ⟨w.heap.size, 6, none⟩ = some (.int .i64 b.trd) := HX.out.cell 6 rfl
  have k7 : W.cell? ⟨w.heap.size, 7, none⟩ = some (.int .i64 b.mean) := HX.out.cell 7 rfl
  go_wp2_with (refine store_blk (by rfl) 53 _ _ (by rfl) (w.heap.size + 1) (by rfl) Bar.zero.cells b.cells 53 HR.out (by rfl) (by rfl) (by kernel_rfl) (one_bar _) ?_)
  have HR2 := Lib.hid (HR.out.setCells b.cells rfl)
  have HB2 := Lib.hid (Blk.Below.setCells (B := w.heap.size + 1) b.cells.toList 0 _ HB.out (by omega))
  refine bodyPost_ret (results_cell_row rfl _ _ _ _ _ (0, 0) _ rfl HR2.out Try.underlying53 rfl (by kernel_rfl)) rfl ?_
  exact ⟨rfl, HB2.out⟩

def aliveL : List Msg := [⟨3, 0, 0, 4, 0, 0, 100, 1, 0⟩, ⟨3, 0, 0, 6, 0, 0, 104, 3, 0⟩]
def aliveB : Bar := ⟨4, 100, 104, 100, 104, 4, 2, 103⟩
theorem alive_eq : wholeF (aliveL.filter (isT 0)) = aliveB := by kernel_rfl
theorem alive_is : isAny (aliveL.filter (isT 0)) = true := by kernel_rfl
def aliveC : Array Value := #[.int .i64 3, .int .i64 0, .int .i64 0, .int .i64 4, .int .i64 0, .int .i64 0, .int .i64 100, .int .i64 1, .int .i64 0, .int .i64 3, .int .i64 0, .int .i64 0, .int .i64 6, .int .i64 0, .int .i64 0, .int .i64 104, .int .i64 3, .int .i64 0]
theorem alive_row (w : World) : MsgRow (w.alloc (.cells aliveC 66)) (some ⟨w.heap.size, 0, none⟩) aliveL := by
  intro i hi
  refine ⟨w.heap.size, 0, rfl, by simp, fun j v hv => ?_⟩
  have hi' : i < 2 := hi
  have hj : j < 9 := (Array.getElem?_eq_some_iff.1 hv).1
  refine cell_new w aliveC _ _ _ _ rfl ?_
  have : i = 0 ∨ i = 1 := by omega
  rcases this with rfl | rfl <;> (have : j = 0 ∨ j = 1 ∨ j = 2 ∨ j = 3 ∨ j = 4 ∨ j = 5 ∨ j = 6 ∨ j = 7 ∨ j = 8 := by omega) <;> rcases this with rfl | rfl | rfl | rfl | rfl | rfl | rfl | rfl | rfl <;> exact hv
set_option maxRecDepth 20000 in
theorem alive_any (w : World) : Calls Try.prog 23 #[] w fun e w' => e = .returned (.bool true) ∧ Below w.heap.size w w' := by
  have HW := Lib.hid (whole_any (some ⟨w.heap.size, 0, none⟩) 2 aliveL 0 (w.alloc (.cells aliveC 66)) (alive_row w) (by decide) (by decide))
  have HB := Lib.hid ((Below.refl w.heap.size w).alloc (Nat.le_refl _) (.cells aliveC 66))
  go_enter Try.func23, Try.ntmps23
  go_wp2_with fail
  refine HW.out.mono ?_
  rintro e w1 ⟨rfl, hb1⟩
  rw [cnt_map, alive_eq, alive_is]
  replace HB := Lib.hid (HB.out.trans (hb1.mono HB.out.size))
  clear hb1 HW
  have HZ := Lib.hid (Blk.new w1 Bar.zero.cells 53 w1.heap.size rfl)
  have HX := Lib.hid (Blk.new w1 aliveB.cells 53 w1.heap.size rfl)
  have HB2 := Lib.hid (HB.out.alloc HB.out.size (.cells aliveB.cells 53))
  go_upto_region 2 with (refine store_blk (by rfl) 53 _ _ (by rfl) w1.heap.size (by rfl) Bar.zero.cells aliveB.cells 53 HZ.out (by rfl) (by rfl) (by kernel_rfl) (one_bar _) ?_; change wpList _ _ _ _ _ (World.setCells (w1.alloc (.cells Bar.zero.cells 53)) w1.heap.size 0 aliveB.cells.toList); rw [alloc_setCells w1 Bar.zero.cells aliveB.cells 53 rfl w1.heap.size rfl])
  generalize w1.alloc (.cells aliveB.cells 53) = W at HX HB2 ⊢
  have k0 : W.cell? ⟨w1.heap.size, 0, none⟩ = some (.int .i64 4) := HX.out.cell 0 rfl
  have k1 : W.cell? ⟨w1.heap.size, 1, none⟩ = some (.int .i64 100) := HX.out.cell 1 rfl
  have k2 : W.cell? ⟨w1.heap.size, 2, none⟩ = some (.int .i64 104) := HX.out.cell 2 rfl
  have k3 : W.cell? ⟨w1.heap.size, 3, none⟩ = some (.int .i64 100) := HX.out.cell 3 rfl
  have k4 : W.cell? ⟨w1.heap.size, 4, none⟩ = some (.int .i64 104) := HX.out.cell 4 rfl
  have k5 : W.cell? ⟨w1.heap.size, 5, none⟩ = some (.int .i64 4) := HX.out.cell 5 rfl
  have k6 : W.cell? ⟨w1.heap.size, 6, none⟩ = some (.int .i64 2) := HX.out.cell 6 rfl
  have k7 : W.cell? ⟨w1.heap.size, 7, none⟩ = some (.int .i64 103) := HX.out.cell 7 rfl
  go_wp2
  go_ret
  exact ⟨rfl, HB2.out⟩
end Go.Proofs.Ytogjgpiddjmpiaa.Tape
