/- The walk of damperlaw32.WatchNils: it returns true, and writes nothing that was there. -/
import Derived.Test.YtggkhnmhhifniaaAlive32
namespace Go.Proofs.Ytggkhnmhhifniaa.Watch
open Go.RowKit Go.Proofs.Ytggkhnmhhifniaa.Kit Go.Proofs.Ytggkhnmhhifniaa.Blk Go.Proofs.Ytggkhnmhhifniaa.Symbol
attribute [local go_sem ↓] Go.wp_at_zero Go.wp_at_succ

theorem eql_four (w : World) : (binOp .eql 46 (.agg #[.int .i64 0, .int .i64 0, .int .i64 0, .int .i64 0]) (.agg #[.int .i64 0, .int .i64 0, .int .i64 0, .int .i64 0])).run Try.prog w = .ok (.bool true) w := by
  first | kernel_rfl | go_simp

set_option maxRecDepth 20000 in
set_option maxHeartbeats 1000000 in
theorem nils (m : Msg) (w : World) : Calls Try.prog 4 #[.agg m.cells] w fun e w' => e = .returned (.bool true) ∧ Below w.heap.size w w' := by
  have HM := Lib.hid (Blk.new w m.cells 40 w.heap.size rfl)
  have HB := Lib.hid (show Below w.heap.size w (w.alloc (.cells m.cells 40)) from (Below.refl _ _).alloc (Nat.le_refl _) _)
  go_enter Try.func4, Try.ntmps4
  go_upto_region 2 with fail
  generalize w.alloc (.cells m.cells 40) = W at HM HB ⊢
  have m0 : W.cell? ⟨w.heap.size, 0, none⟩ = some (.int .i64 m.kind) := HM.out.cell 0 rfl
  have m1 : W.cell? ⟨w.heap.size, 1, none⟩ = some (.int .i64 m.sym) := HM.out.cell 1 rfl
  have m2 : W.cell? ⟨w.heap.size, 2, none⟩ = some (.int .i64 m.seq) := HM.out.cell 2 rfl
  have m3 : W.cell? ⟨w.heap.size, 3, none⟩ = some (.int .i64 m.tick) := HM.out.cell 3 rfl
  have m4 : W.cell? ⟨w.heap.size, 4, none⟩ = some (.int .i64 m.id) := HM.out.cell 4 rfl
  have m5 : W.cell? ⟨w.heap.size, 5, none⟩ = some (.int .i64 m.wth) := HM.out.cell 5 rfl
  have m6 : W.cell? ⟨w.heap.size, 6, none⟩ = some (.int .i64 m.price) := HM.out.cell 6 rfl
  have m7 : W.cell? ⟨w.heap.size, 7, none⟩ = some (.int .i64 m.qty) := HM.out.cell 7 rfl
  have m8 : W.cell? ⟨w.heap.size, 8, none⟩ = some (.int .i64 m.code) := HM.out.cell 8 rfl
  go_wp2_with fail
  refine (put_nil m _).mono ?_
  rintro e w1 ⟨rfl, hb1⟩
  have HB1 := Lib.hid (HB.out.trans (hb1.mono HB.out.size))
  clear m0 m1 m2 m3 m4 m5 m6 m7 m8 hb1
  go_wp2_with fail
  refine (phase_nil 0 _).mono ?_
  rintro e w' ⟨rfl, rfl⟩
  go_wp2_with fail
  refine (band_nil 0 _).mono ?_
  rintro e w2 ⟨rfl, hb2⟩
  have HB2 := Lib.hid (HB1.out.trans (hb2.mono HB1.out.size))
  clear hb2
  go_wp2_with fail
  refine (deadline_nil 0 _).mono ?_
  rintro e w' ⟨rfl, rfl⟩
  go_wp2_with fail
  have hq4 := eql_four
  refine (trades_nil 0 _).mono ?_
  rintro e w3 ⟨rfl, hb3⟩
  have HB3 := Lib.hid (HB2.out.trans (hb3.mono HB2.out.size))
  clear hb3
  go_wp2_with fail
  refine (alive _).mono ?_
  rintro e w4 ⟨rfl, hb4⟩
  have HB4 := Lib.hid (HB3.out.trans (hb4.mono HB3.out.size))
  clear hb4
  go_wp2
  go_ret
  exact ⟨rfl, HB4.out⟩
end Go.Proofs.Ytggkhnmhhifniaa.Watch
