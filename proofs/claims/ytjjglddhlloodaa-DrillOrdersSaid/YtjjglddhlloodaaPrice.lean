/- drill.price: a symbol's reference, shifted by steps of its grid. -/
import Derived.Test.YtjjglddhlloodaaFixMul
import Derived.Test.YtjjglddhlloodaaSym
import Derived.Test.YtjjglddhlloodaaThrow
namespace Go.Proofs.Ytjjglddhlloodaa.Price
open Go.RowKit Go.Proofs.Ytjjglddhlloodaa.Kit Go.Proofs.Ytjjglddhlloodaa.Fix Go.Proofs.Ytjjglddhlloodaa.FixMul Go.Proofs.Ytjjglddhlloodaa.Symbol

def priceF (s : Sym) (k : Int) : Int := s.grid * max (min (s.ref / s.grid + k) (1099511627776 / s.grid)) 1

theorem mul_bound (g k : Int) (g1 : 1 ≤ g) (g2 : g ≤ 1099511627776) (k1 : -1000 ≤ k) (k2 : k ≤ 1000) : -1099511627776000 ≤ g * k ∧ g * k ≤ 1099511627776000 := by
  have a1 : g * k ≤ g * 1000 := Int.mul_le_mul_of_nonneg_left k2 (by omega)
  have a2 : g * (-1000) ≤ g * k := Int.mul_le_mul_of_nonneg_left k1 (by omega)
  omega

theorem price_eq (s : Sym) (k : Int) (g1 : 1 ≤ s.grid) (g2 : s.grid ≤ 1099511627776) (hm : s.ref % s.grid = 0) :
    min (max (s.ref + s.grid * k) s.grid) (down 1099511627776 s.grid) = priceF s k := by
  have hd : down 1099511627776 s.grid = s.grid * (1099511627776 / s.grid) := by unfold down; rw [if_neg (by omega), Int.mul_comm]
  have hr : s.ref = s.grid * (s.ref / s.grid) := by have := Int.emod_add_mul_ediv s.ref s.grid; omega
  have hq : 1 ≤ 1099511627776 / s.grid := by
    have : 1 * s.grid ≤ 1099511627776 := by omega
    exact (Int.le_ediv_iff_mul_le (by omega)).2 this
  rw [hd]
  unfold priceF
  generalize s.ref / s.grid = q at *
  generalize 1099511627776 / s.grid = m at *
  generalize s.grid = g at *
  rw [hr, ← Int.mul_add]
  have mono : ∀ a b : Int, a ≤ b → g * a ≤ g * b := fun a b h => Int.mul_le_mul_of_nonneg_left h (by omega)
  by_cases h1 : q + k ≤ m
  · by_cases h2 : 1 ≤ q + k
    · have e1 := mono _ _ h1
      have e2 := mono _ _ h2
      rw [Int.min_eq_left h1, Int.max_eq_left h2, Int.max_eq_left (by omega), Int.min_eq_left e1]
    · have e1 := mono (q + k) 1 (by omega)
      have e2 := mono 1 m hq
      rw [Int.min_eq_left h1, Int.max_eq_right (by omega), Int.max_eq_right (by omega), Int.min_eq_left (by omega)]
      omega
  · have e1 := mono m (q + k) (by omega)
    have e2 := mono 1 m hq
    rw [Int.min_eq_right (show m ≤ q + k by omega), Int.max_eq_left hq, Int.max_eq_left (show g ≤ g * (q + k) by omega), Int.min_eq_right e1]

set_option maxHeartbeats 1000000 in
theorem price_any (s : Sym) (k : Int) (w : World) (g1 : 1 ≤ s.grid) (g2 : s.grid ≤ 1099511627776) (r1 : 1 ≤ s.ref) (r2 : s.ref ≤ 1099511627776) (hm : s.ref % s.grid = 0) (k1 : -1000 ≤ k) (k2 : k ≤ 1000) :
    Calls Try.prog 47 #[.agg s.cells, .int .i64 k] w fun e w' => e = .returned (.int .i64 (priceF s k)) ∧ Below w.heap.size w w' := by
  have HP := Lib.hid (price_eq s k g1 g2 hm)
  have hb := mul_bound s.grid k g1 g2 k1 k2
  have i1 : is64 s.grid := by unfold is64; omega
  have i2 : is64 s.ref := by unfold is64; omega
  have i3 : is64 k := by unfold is64; omega
  have i4 : is64 (s.grid * k) := by unfold is64; omega
  have i5 : is64 (s.ref + s.grid * k) := by unfold is64; omega
  have f1 : fit (s.grid * k) = s.grid * k := if_pos i4
  have f2 : decide (is64 (s.grid * k)) = true := decide_eq_true i4
  have f3 : fit (s.ref + s.grid * k) = s.ref + s.grid * k := if_pos i5
  have f4 : decide (is64 (s.ref + s.grid * k)) = true := decide_eq_true i5
  clear hm
  have hbx := Lib.hid (Symbol.box_new w _ s rfl)
  have hba := Lib.hid (show Below w.heap.size w (w.alloc (.cells s.cells 114)) from (Below.refl _ _).alloc (Nat.le_refl _) _)
  have hbz : (w.alloc (.cells s.cells 114)).heap.size = w.heap.size + 1 := by simp
  unfold Sym.cells at *
  go_enter Try.func47, Try.ntmps47
  have F1 := Lib.hid f1
  have F2 := Lib.hid f2
  have F3 := Lib.hid f3
  have F4 := Lib.hid f4
  clear f1 f2 f3 f4
  go_wp2_with fail
  generalize w.alloc (Obj.cells #[.int .i64 s.grid, .int .i64 s.ref, .int .i64 s.static, .int .i64 s.dynamic, .int .i64 s.window, .int .i64 s.move, .int .i64 s.limit, .int .i64 s.pause, .int .i64 s.ext, .int .i64 s.maxExt, .int .i64 s.collar, .int .i64 s.widen, .int .i64 s.self, .int .i64 s.slots, .int .i64 s.levels, .int .i64 s.short] 114) = W at hbx hba hbz ⊢
  have c0 : W.cell? ⟨w.heap.size, 0, none⟩ = some (.int .i64 s.grid) := hbx.out 0 _ rfl
  have c1 : W.cell? ⟨w.heap.size, 1, none⟩ = some (.int .i64 s.ref) := hbx.out 1 _ rfl
  refine (down_any _ _ _ (by decide)).mono ?_
  rintro e w' ⟨rfl, rfl⟩
  go_wp2_with fail
  refine (FixMul.mul_any _ _ _ i1 i3).mono ?_
  rintro e w1 ⟨rfl, hb1⟩
  rw [F1.out, F2.out]
  rw [← hb1.cell (p := ⟨w.heap.size, 0, none⟩) (by show w.heap.size < W.heap.size; omega)] at c0
  rw [← hb1.cell (p := ⟨w.heap.size, 1, none⟩) (by show w.heap.size < W.heap.size; omega)] at c1
  have hbf := hba.out.trans (hb1.mono (by omega))
  clear hb1 hbz
  go_wp2_with fail
  refine (FixMul.add_any _ _ _ i2 i4).mono ?_
  rintro e w' ⟨rfl, rfl⟩
  rw [F3.out, F4.out]
  go_wp2
  all_goals
    go_ret
    exact ⟨ret_int (by have := HP.out; omega), hbf⟩
end Go.Proofs.Ytjjglddhlloodaa.Price
