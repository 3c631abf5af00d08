/- drill.Order: its walks. -/
import Derived.Test.YtjjglddhlloodaaOrder
namespace Go.Proofs.Ytjjglddhlloodaa.Order
open Go.RowKit Go.Proofs.Ytjjglddhlloodaa.Kit Go.Proofs.Ytjjglddhlloodaa.Blk Go.Proofs.Ytjjglddhlloodaa.Dice Go.Proofs.Ytjjglddhlloodaa.Throw Go.Proofs.Ytjjglddhlloodaa.Price Go.Proofs.Ytjjglddhlloodaa.Symbol Go.Proofs.Ytjjglddhlloodaa.Check
attribute [local go_sem ↓] Go.wp_at_zero Go.wp_at_succ

set_option maxHeartbeats 1000000 in
/-- No dice, or something is wrong: no order. -/
theorem order_nil (c : Cfg) (sa ta : Option Addr) (sc tc : Nat) (kind i : Int) (w : World) :
    Calls Try.prog 22 #[.agg (c.cells sa ta sc tc), .pointer none, .int .i64 kind, .int .i64 i] w fun e w' => e = .returned (.agg zeroCells) ∧ Below w.heap.size w w' := by
  unfold Cfg.cells
  go_enter Try.func22, Try.ntmps22
  go_wp2
  refine bodyPost_ret (v := .agg zeroCells) (by simp [results, Try.results22, go_sem, zeroCells]) rfl ⟨rfl, ((Below.refl _ _).alloc (Nat.le_refl _) _).alloc (by simp) _⟩

set_option maxHeartbeats 1000000 in
theorem order_wrong (c : Cfg) (sa ta : Option Addr) (sc tc : Nat) (a : Addr) (kind i : Int) (w : World) (hin : c.In w sa ta) (h : rightF c kind ≠ 0 ∨ i < 0 ∨ 2000 < i) :
    Calls Try.prog 22 #[.agg (c.cells sa ta sc tc), .pointer (some a), .int .i64 kind, .int .i64 i] w fun e w' => e = .returned (.agg zeroCells) ∧ Below w.heap.size w w' := by
  have hb0 := Lib.hid (show Below w.heap.size w ((w.alloc (.cells (c.cells sa ta sc tc) 59)).alloc (.cells zeroCells 62)) from ((Below.refl _ _).alloc (Nat.le_refl _) _).alloc (by simp) _)
  have hin' := Lib.hid (hin.below hb0.out)
  have hblk := Lib.hid (Blk.new (w.alloc (.cells (c.cells sa ta sc tc) 59)) zeroCells 62 (w.heap.size + 1) (by simp))
  have hz := Lib.hid (show ((w.alloc (.cells (c.cells sa ta sc tc) 59)).alloc (.cells zeroCells 62)).heap.size = w.heap.size + 2 by simp)
  unfold Cfg.cells zeroCells at *
  have H := Lib.hid h
  clear h
  go_enter Try.func22, Try.ntmps22
  go_wp2_with fail
  refine (right_any c sa ta sc tc kind _ hin'.out).mono ?_
  rintro e w1 ⟨rfl, hb1⟩
  have hb := hb0.out.trans (hb1.mono (by rw [hz.out]; omega))
  have hq := hblk.out.below hb1 (by rw [hz.out]; omega)
  have c0 : w1.cell? ⟨w.heap.size + 1, 0, none⟩ = some (.int .i64 0) := hq.cell 0 rfl
  have f0 := hq.free 0
  have s0 := setCell_same _ _ _ c0
  have c1 : w1.cell? ⟨w.heap.size + 1, 1, none⟩ = some (.int .i64 0) := hq.cell 1 rfl
  have f1 := hq.free 1
  have s1 := setCell_same _ _ _ c1
  have c2 : w1.cell? ⟨w.heap.size + 1, 2, none⟩ = some (.int .i64 0) := hq.cell 2 rfl
  have f2 := hq.free 2
  have s2 := setCell_same _ _ _ c2
  have c3 : w1.cell? ⟨w.heap.size + 1, 3, none⟩ = some (.int .i64 0) := hq.cell 3 rfl
  have f3 := hq.free 3
  have s3 := setCell_same _ _ _ c3
  have c4 : w1.cell? ⟨w.heap.size + 1, 4, none⟩ = some (.int .i64 0) := hq.cell 4 rfl
  have f4 := hq.free 4
  have s4 := setCell_same _ _ _ c4
  have c5 : w1.cell? ⟨w.heap.size + 1, 5, none⟩ = some (.int .i64 0) := hq.cell 5 rfl
  have f5 := hq.free 5
  have s5 := setCell_same _ _ _ c5
  have c6 : w1.cell? ⟨w.heap.size + 1, 6, none⟩ = some (.int .i64 0) := hq.cell 6 rfl
  have f6 := hq.free 6
  have s6 := setCell_same _ _ _ c6
  have c7 : w1.cell? ⟨w.heap.size + 1, 7, none⟩ = some (.int .i64 0) := hq.cell 7 rfl
  have f7 := hq.free 7
  have s7 := setCell_same _ _ _ c7
  have c8 : w1.cell? ⟨w.heap.size + 1, 8, none⟩ = some (.int .i64 0) := hq.cell 8 rfl
  have f8 := hq.free 8
  have s8 := setCell_same _ _ _ c8
  clear hq hb1
  cases hr : (rightF c kind != 0) with
  | true =>
    go_wp2
    refine bodyPost_ret (v := .agg zeroCells) (by simp [results, Try.results22, go_sem, zeroCells, c0, c1, c2, c3, c4, c5, c6, c7, c8]) rfl ⟨rfl, ?_⟩
    exact hb
  | false =>
    have h1 : i < 0 ∨ 2000 < i := by
      rcases H.out with h | h
      · exact absurd (by simpa using hr) h
      · exact h
    have HR := Lib.hid hr
    by_cases h2 : i < 0
    · clear h1
      go_wp2
      refine bodyPost_ret (v := .agg zeroCells) (by simp [results, Try.results22, go_sem, zeroCells, c0, c1, c2, c3, c4, c5, c6, c7, c8]) rfl ⟨rfl, ?_⟩
      exact hb
    · have h3 : 2000 < i := by omega
      clear h1
      go_wp2
      refine bodyPost_ret (v := .agg zeroCells) (by simp [results, Try.results22, go_sem, zeroCells, c0, c1, c2, c3, c4, c5, c6, c7, c8]) rfl ⟨rfl, ?_⟩
      exact hb
end Go.Proofs.Ytjjglddhlloodaa.Order
