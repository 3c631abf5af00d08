/- The document's watch: its small functions. -/
import Derived.Test.YtggkhnmhhifniaaWatchSpec
import Derived.Test.YtggkhnmhhifniaaBlkRow
import Derived.Deep.CutBlock
import Derived.Deep.DeepCutAuto
namespace Go.Proofs.Ytggkhnmhhifniaa.Watch
open Go.RowKit Go.Proofs.Ytggkhnmhhifniaa.Kit Go.Proofs.Ytggkhnmhhifniaa.Blk Go.Proofs.Ytggkhnmhhifniaa.Symbol

theorem rin_any (lo hi p : Int) (w : World) : Calls Try.prog 90 #[.agg #[.int .i64 lo, .int .i64 hi], .int .i64 p] w fun e w' => e = .returned (.bool (inBand lo hi p)) ∧ Below w.heap.size w w' := by
  unfold inBand
  by_cases h1 : lo ≤ p
  · go_enter Try.func90, Try.ntmps90
    go_wp2
    all_goals (go_ret; exact ⟨by first | (simp [*]; done) | (simp [*]; omega), (Below.refl _ _).alloc (Nat.le_refl _) _⟩)
  · go_enter Try.func90, Try.ntmps90
    go_wp2
    all_goals (go_ret; exact ⟨by first | (simp [*]; done) | (simp [*]; omega), (Below.refl _ _).alloc (Nat.le_refl _) _⟩)

def rtradeF (k : Kn) (m : Msg) : Int :=
  if m.qty < 1 then 9 else
  if m.code = 1 then (if k.phase = 2 then (if inBand k.blo k.bhi m.price = true then 0 else 11) else 10)
  else if m.code = 2 then (if k.phase = 4 then (if inBand k.clo k.chi m.price = true then 0 else 11) else 10)
  else if m.code = 3 then (if k.phase = 4 ∨ k.phase = 1 then (if 1 ≤ m.price ∧ m.price ≤ 1099511627776 then 0 else 11) else 10)
  else 10

set_option maxHeartbeats 4000000 in
theorem rtrade_any (k : Kn) (m : Msg) (w : World) : Calls Try.prog 71 #[.agg k.cells, .agg m.cells] w fun e w' => e = .returned (.int .i64 (rtradeF k m)) ∧ Below w.heap.size w w' := by
  have HB := Lib.hid (show Below w.heap.size w ((w.alloc (.cells k.cells 48)).alloc (.cells m.cells 40)) from ((Below.refl _ _).alloc (Nat.le_refl _) _).alloc (by simp) _)
  have HK := Lib.hid ((Blk.new w k.cells 48 w.heap.size rfl).old (.cells m.cells 40))
  have HM := Lib.hid (Blk.new (w.alloc (.cells k.cells 48)) m.cells 40 (w.heap.size + 1) (by simp))
  go_enter Try.func71, Try.ntmps71
  go_upto_region 1 with fail
  generalize ((w.alloc (.cells k.cells 48)).alloc (.cells m.cells 40)) = W at HB HK HM ⊢
  have k0 : W.cell? ⟨w.heap.size, 0, none⟩ = some (.int .i64 k.phase) := HK.out.cell 0 rfl
  have k1 : W.cell? ⟨w.heap.size, 1, none⟩ = some (.int .i64 k.blo) := HK.out.cell 1 rfl
  have k2 : W.cell? ⟨w.heap.size, 2, none⟩ = some (.int .i64 k.bhi) := HK.out.cell 2 rfl
  have k3 : W.cell? ⟨w.heap.size, 3, none⟩ = some (.int .i64 k.clo) := HK.out.cell 3 rfl
  have k4 : W.cell? ⟨w.heap.size, 4, none⟩ = some (.int .i64 k.chi) := HK.out.cell 4 rfl
  have m6 : W.cell? ⟨w.heap.size + 1, 6, none⟩ = some (.int .i64 m.price) := HM.out.cell 6 rfl
  have m7 : W.cell? ⟨w.heap.size + 1, 7, none⟩ = some (.int .i64 m.qty) := HM.out.cell 7 rfl
  have m8 : W.cell? ⟨w.heap.size + 1, 8, none⟩ = some (.int .i64 m.code) := HM.out.cell 8 rfl
  go_wp2_with (first | (go_at_call 90; refine (rin_any _ _ _ _).mono ?_; rintro e w1 ⟨rfl, hb1⟩; have HB1 := Lib.hid (HB.out.trans (hb1.mono HB.out.size)); have HK1 := Lib.hid hb1; clear hb1))
  all_goals (clear HM HK; go_ret; exact ⟨ret_int (by clear k0 k1 k2 k3 k4 m6 m7 m8; unfold rtradeF; (repeat' split) <;> (first | rfl | (exfalso; simp_all; done) | (exfalso; simp_all; omega))), by first | exact HB1.out | exact HB.out⟩)
end Go.Proofs.Ytggkhnmhhifniaa.Watch
