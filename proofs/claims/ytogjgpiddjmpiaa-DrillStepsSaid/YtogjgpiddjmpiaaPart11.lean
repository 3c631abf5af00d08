/- Parts of the proof: Throw, Price. -/
import Derived.Test.YtogjgpiddjmpiaaPart1
import Derived.Test.YtogjgpiddjmpiaaPart10
import Derived.Test.YtogjgpiddjmpiaaPart9

/- Throws of the dice, as they are used: a block that holds the dice's number; shift and kind, and the document's shift. -/
namespace Go.Proofs.Ytogjgpiddjmpiaa.Throw
open Go.RowKit Go.Proofs.Ytogjgpiddjmpiaa.Kit Go.Proofs.Ytogjgpiddjmpiaa.Blk Go.Proofs.Ytogjgpiddjmpiaa.Dice

theorem turn_in (x : Int) : 0 ≤ turn x ∧ turn x < 18446744073709551616 := by
  unfold turn; rw [IntKind.wrap_u64]; omega
theorem toss_in (x n : Int) (hn : 1 ≤ n) : 0 ≤ toss x n ∧ toss x n < n := by
  have := turn_in x
  have h : wrap64 (turn x / 8589934592) = turn x / 8589934592 := by unfold wrap64; omega
  unfold toss
  rw [h, Int.tmod_eq_emod_of_nonneg (by omega)]
  exact ⟨Int.emod_nonneg _ (by omega), Int.emod_lt_of_pos _ (by omega)⟩

theorem next_blk (d : Nat) (x n : Int) (w : World) (hn : 1 ≤ n) (h : Blk w d #[.int .u64 x] 194) :
    Calls Try.prog 58 #[.pointer (some ⟨d, 0, none⟩), .int .i64 n] w fun e w' =>
    e = .returned (.int .i64 (toss x n)) ∧ Blk w' d #[.int .u64 (turn x)] 194 ∧ Chg w.heap.size d w w' ∧ w'.heap.size = w.heap.size := by
  refine (next_some ⟨d, 0, none⟩ x n w hn (h.cell 0 rfl) (h.free 0)).mono ?_
  rintro e w' ⟨rfl, rfl⟩
  exact ⟨rfl, h.set 0 _, (Chg.refl _ _ _).setCell _ _ (.inl rfl), by simp [World.setCell]⟩
theorem ref_blk (d : Nat) (x n : Int) (w : World) (hn : 1 ≤ n) (h : Blk w d #[.int .u64 x] 134) :
    Calls Try.prog 65 #[.pointer (some ⟨d, 0, none⟩), .int .i64 n] w fun e w' =>
    e = .returned (.int .i64 (toss x n)) ∧ Blk w' d #[.int .u64 (turn x)] 134 ∧ Chg w.heap.size d w w' ∧ w'.heap.size = w.heap.size := by
  refine (ref_some ⟨d, 0, none⟩ x n w hn (h.cell 0 rfl) (h.free 0)).mono ?_
  rintro e w' ⟨rfl, rfl⟩
  exact ⟨rfl, h.set 0 _, (Chg.refl _ _ _).setCell _ _ (.inl rfl), by simp [World.setCell]⟩

/-- By how many steps a price moves. -/
def shiftF (x kind i side : Int) : Int :=
  if kind = 4 then toss x 81 - 40 else if kind = 1 then toss x 9 - 4 - i / 4 else if kind = 2 then toss x 9 - 4 + i / 4 else if kind = 3 then (if side = 0 then toss x 9 - 4 + 3 else toss x 9 - 4 - 3) else toss x 9 - 4

theorem shift_any (d : Nat) (x kind i side : Int) (w : World) (h : Blk w d #[.int .u64 x] 194) (hk0 : 0 ≤ kind) (hk1 : kind ≤ 4) (hi0 : 0 ≤ i) (hi1 : i ≤ 2000) (hs0 : 0 ≤ side) (hs1 : side ≤ 1) :
    Calls Try.prog 106 #[.pointer (some ⟨d, 0, none⟩), .int .i64 kind, .int .i64 i, .int .i64 side] w fun e w' =>
    e = .returned (.int .i64 (shiftF x kind i side)) ∧ Blk w' d #[.int .u64 (turn x)] 194 ∧ Chg w.heap.size d w w' ∧ w'.heap.size = w.heap.size := by
  have t1 := toss_in x 81 (by decide)
  have t2 := toss_in x 9 (by decide)
  have hkk : kind = 0 ∨ kind = 1 ∨ kind = 2 ∨ kind = 3 ∨ kind = 4 := by omega
  obtain ⟨t11, t12⟩ := t1
  obtain ⟨t21, t22⟩ := t2
  have hss : side = 0 ∨ side = 1 := by omega
  rcases hkk with rfl | rfl | rfl | rfl | rfl
  · go_enter Try.func106, Try.ntmps106
    go_wp2_with (go_at_call 58; refine (next_blk d x _ _ (by decide) h).mono ?_; rintro e w' ⟨rfl, hq⟩)
    go_ret
    exact ⟨rfl, hq⟩
  · go_enter Try.func106, Try.ntmps106
    go_wp2_with (go_at_call 58; refine (next_blk d x _ _ (by decide) h).mono ?_; rintro e w' ⟨rfl, hq⟩)
    go_ret
    exact ⟨rfl, hq⟩
  · go_enter Try.func106, Try.ntmps106
    go_wp2_with (go_at_call 58; refine (next_blk d x _ _ (by decide) h).mono ?_; rintro e w' ⟨rfl, hq⟩)
    go_ret
    exact ⟨rfl, hq⟩
  · rcases hss with rfl | rfl
    · go_enter Try.func106, Try.ntmps106
      go_wp2_with (go_at_call 58; refine (next_blk d x _ _ (by decide) h).mono ?_; rintro e w' ⟨rfl, hq⟩)
      go_ret
      exact ⟨rfl, hq⟩
    · go_enter Try.func106, Try.ntmps106
      go_wp2_with (go_at_call 58; refine (next_blk d x _ _ (by decide) h).mono ?_; rintro e w' ⟨rfl, hq⟩)
      go_ret
      exact ⟨rfl, hq⟩
  · go_enter Try.func106, Try.ntmps106
    go_wp2_with (go_at_call 58; refine (next_blk d x _ _ (by decide) h).mono ?_; rintro e w' ⟨rfl, hq⟩)
    go_ret
    exact ⟨rfl, hq⟩
theorem shift_ref (d : Nat) (x kind i side : Int) (w : World) (h : Blk w d #[.int .u64 x] 134) (hk0 : 0 ≤ kind) (hk1 : kind ≤ 4) (hi0 : 0 ≤ i) (hi1 : i ≤ 2000) (hs0 : 0 ≤ side) (hs1 : side ≤ 1) :
    Calls Try.prog 112 #[.pointer (some ⟨d, 0, none⟩), .int .i64 kind, .int .i64 i, .int .i64 side] w fun e w' =>
    e = .returned (.int .i64 (shiftF x kind i side)) ∧ Blk w' d #[.int .u64 (turn x)] 134 ∧ Chg w.heap.size d w w' ∧ w'.heap.size = w.heap.size := by
  have t1 := toss_in x 81 (by decide)
  have t2 := toss_in x 9 (by decide)
  have hkk : kind = 0 ∨ kind = 1 ∨ kind = 2 ∨ kind = 3 ∨ kind = 4 := by omega
  obtain ⟨t11, t12⟩ := t1
  obtain ⟨t21, t22⟩ := t2
  have hss : side = 0 ∨ side = 1 := by omega
  rcases hkk with rfl | rfl | rfl | rfl | rfl
  · go_enter Try.func112, Try.ntmps112
    go_wp2_with (go_at_call 65; refine (ref_blk d x _ _ (by decide) h).mono ?_; rintro e w' ⟨rfl, hq⟩)
    go_ret
    exact ⟨rfl, hq⟩
  · go_enter Try.func112, Try.ntmps112
    go_wp2_with (go_at_call 65; refine (ref_blk d x _ _ (by decide) h).mono ?_; rintro e w' ⟨rfl, hq⟩)
    go_ret
    exact ⟨rfl, hq⟩
  · go_enter Try.func112, Try.ntmps112
    go_wp2_with (go_at_call 65; refine (ref_blk d x _ _ (by decide) h).mono ?_; rintro e w' ⟨rfl, hq⟩)
    go_ret
    exact ⟨rfl, hq⟩
  · rcases hss with rfl | rfl
    · go_enter Try.func112, Try.ntmps112
      go_wp2_with (go_at_call 65; refine (ref_blk d x _ _ (by decide) h).mono ?_; rintro e w' ⟨rfl, hq⟩)
      go_ret
      exact ⟨rfl, hq⟩
    · go_enter Try.func112, Try.ntmps112
      go_wp2_with (go_at_call 65; refine (ref_blk d x _ _ (by decide) h).mono ?_; rintro e w' ⟨rfl, hq⟩)
      go_ret
      exact ⟨rfl, hq⟩
  · go_enter Try.func112, Try.ntmps112
    go_wp2_with (go_at_call 65; refine (ref_blk d x _ _ (by decide) h).mono ?_; rintro e w' ⟨rfl, hq⟩)
    go_ret
    exact ⟨rfl, hq⟩

/-- A type of orders, by a throw. -/
def kindF (x kind : Int) : Int := if toss x 8 = 0 then 3 else if toss x 8 = 1 then 5 else if toss x 8 = 2 ∧ kind = 4 then 2 else 1

theorem kind_any (d : Nat) (x kind : Int) (w : World) (h : Blk w d #[.int .u64 x] 194) :
    Calls Try.prog 107 #[.pointer (some ⟨d, 0, none⟩), .int .i64 kind] w fun e w' =>
    e = .returned (.int .i64 (kindF x kind)) ∧ Blk w' d #[.int .u64 (turn x)] 194 ∧ Chg w.heap.size d w w' ∧ w'.heap.size = w.heap.size := by
  by_cases h0 : toss x 8 = 0
  · have HS := Lib.hid (show kindF x kind = 3 by simp [kindF, h0])
    have b0 : (toss x 8 == 0) = true := by simp [h0]
    clear h0
    go_enter Try.func107, Try.ntmps107
    go_wp2_with (go_at_call 58; refine (next_blk d x _ _ (by decide) h).mono ?_; rintro e w' ⟨rfl, hq⟩)
    go_ret
    exact ⟨ret_int HS.out.symm, hq⟩
  have b0 : (toss x 8 == 0) = false := by simp [h0]
  by_cases h1 : toss x 8 = 1
  · have HS := Lib.hid (show kindF x kind = 5 by simp [kindF, h1])
    have b1 : (toss x 8 == 1) = true := by simp [h1]
    clear h0 h1
    go_enter Try.func107, Try.ntmps107
    go_wp2_with (go_at_call 58; refine (next_blk d x _ _ (by decide) h).mono ?_; rintro e w' ⟨rfl, hq⟩)
    go_ret
    exact ⟨ret_int HS.out.symm, hq⟩
  have b1 : (toss x 8 == 1) = false := by simp [h1]
  by_cases h2 : toss x 8 = 2
  · have b2 : (toss x 8 == 2) = true := by simp [h2]
    by_cases h3 : kind = 4
    · have HS := Lib.hid (show kindF x kind = 2 by simp [kindF, h2, h3])
      have b3 : (kind == 4) = true := by simp [h3]
      clear h0 h1 h2 h3
      go_enter Try.func107, Try.ntmps107
      go_wp2_with (go_at_call 58; refine (next_blk d x _ _ (by decide) h).mono ?_; rintro e w' ⟨rfl, hq⟩)
      go_ret
      exact ⟨ret_int HS.out.symm, hq⟩
    · have HS := Lib.hid (show kindF x kind = 1 by simp [kindF, h2, h3])
      have b3 : (kind == 4) = false := by simp [h3]
      clear h0 h1 h2 h3
      go_enter Try.func107, Try.ntmps107
      go_wp2_with (go_at_call 58; refine (next_blk d x _ _ (by decide) h).mono ?_; rintro e w' ⟨rfl, hq⟩)
      go_ret
      exact ⟨ret_int HS.out.symm, hq⟩
  · have HS := Lib.hid (show kindF x kind = 1 by simp [kindF, h0, h1, h2])
    have b2 : (toss x 8 == 2) = false := by simp [h2]
    clear h0 h1 h2
    go_enter Try.func107, Try.ntmps107
    go_wp2_with (go_at_call 58; refine (next_blk d x _ _ (by decide) h).mono ?_; rintro e w' ⟨rfl, hq⟩)
    go_ret
    exact ⟨ret_int HS.out.symm, hq⟩
end Go.Proofs.Ytogjgpiddjmpiaa.Throw

/- drill.price: a symbol's reference, shifted by steps of its grid. -/
namespace Go.Proofs.Ytogjgpiddjmpiaa.Price
set_option linter.unusedVariables false
open Go.RowKit Go.Proofs.Ytogjgpiddjmpiaa.Kit Go.Proofs.Ytogjgpiddjmpiaa.Fix Go.Proofs.Ytogjgpiddjmpiaa.FixMul Go.Proofs.Ytogjgpiddjmpiaa.Symbol

def priceF (s : Sym) (k : Int) : Int := s.grid * max (min (s.ref / s.grid + k) (1099511627776 / s.grid)) 1

theorem mul_bound (g k : Int) (g1 : 1 ≤ g) (g2 : g ≤ 1099511627776) (k1 : -1000 ≤ k) (k2 : k ≤ 1000) : -1099511627776000 ≤ g * k ∧ g * k ≤ 1099511627776000 := by
  have a1 : g * k ≤ g * 1000 := Int.mul_le_mul_of_nonneg_left k2 (by omega)
  have a2 : g * (-1000) ≤ g * k := Int.mul_le_mul_of_nonneg_left k1 (by omega)
  omega

theorem price_eq (s : Sym) (k : Int) (g1 : 1 ≤ s.grid) (g2 : s.grid ≤ 1099511627776) (hm : s.ref % s.grid = 0) :
    min (max (s.ref + s.grid * k) s.grid) (down 1099511627776 s.grid) = priceF s k := by
  have hd : down 1099511627776 s.grid = s.grid * (1099511627776 / s.grid) := by unfold down; rw [if_neg (by omega), Int.mul_comm]
  have hr : s.ref = s.grid * (s.ref / s.grid) := by have := Int.emod_add_mul_ediv s.ref s.grid; omega
  have hq : 1 ≤ 1099511627776 / s.grid := by
    have : 1 * s.grid ≤ 1099511627776 := by omega
    exact (Int.le_ediv_iff_mul_le (by omega)).2 this
  rw [hd]
  unfold priceF
  generalize s.ref / s.grid = q at *
  generalize 1099511627776 / s.grid = m at *
  generalize s.grid = g at *
  rw [hr, ← Int.mul_add]
  have mono : ∀ a b : Int, a ≤ b → g * a ≤ g * b := fun a b h => Int.mul_le_mul_of_nonneg_left h (by omega)
  by_cases h1 : q + k ≤ m
  · by_cases h2 : 1 ≤ q + k
    · have e1 := mono _ _ h1
      have e2 := mono _ _ h2
      rw [Int.min_eq_left h1, Int.max_eq_left h2, Int.max_eq_left (by omega), Int.min_eq_left e1]
    · have e1 := mono (q + k) 1 (by omega)
      have e2 := mono 1 m hq
      rw [Int.min_eq_left h1, Int.max_eq_right (by omega), Int.max_eq_right (by omega), Int.min_eq_left (by omega)]
      omega
  · have e1 := mono m (q + k) (by omega)
    have e2 := mono 1 m hq
    rw [Int.min_eq_right (show m ≤ q + k by omega), Int.max_eq_left hq, Int.max_eq_left (show g ≤ g * (q + k) by omega), Int.min_eq_right e1]

set_option maxHeartbeats 1000000 in
theorem price_any (s : Sym) (k : Int) (w : World) (g1 : 1 ≤ s.grid) (g2 : s.grid ≤ 1099511627776) (r1 : 1 ≤ s.ref) (r2 : s.ref ≤ 1099511627776) (hm : s.ref % s.grid = 0) (k1 : -1000 ≤ k) (k2 : k ≤ 1000) :
    Calls Try.prog 105 #[.agg s.cells, .int .i64 k] w fun e w' => e = .returned (.int .i64 (priceF s k)) ∧ Below w.heap.size w w' := by
  have HP := Lib.hid (price_eq s k g1 g2 hm)
  have hb := mul_bound s.grid k g1 g2 k1 k2
  have i1 : is64 s.grid := by unfold is64; omega
  have i2 : is64 s.ref := by unfold is64; omega
  have i3 : is64 k := by unfold is64; omega
  have i4 : is64 (s.grid * k) := by unfold is64; omega
  have i5 : is64 (s.ref + s.grid * k) := by unfold is64; omega
  have f1 : fit (s.grid * k) = s.grid * k := if_pos i4
  have f2 : decide (is64 (s.grid * k)) = true := decide_eq_true i4
  have f3 : fit (s.ref + s.grid * k) = s.ref + s.grid * k := if_pos i5
  have f4 : decide (is64 (s.ref + s.grid * k)) = true := decide_eq_true i5
  clear hm
  have hbx := Lib.hid (Symbol.box_new w _ s rfl)
  have hba := Lib.hid (show Below w.heap.size w (w.alloc (.cells s.cells 136)) from (Below.refl _ _).alloc (Nat.le_refl _) _)
  have hbz : (w.alloc (.cells s.cells 136)).heap.size = w.heap.size + 1 := by simp
  unfold Sym.cells at *
  go_enter Try.func105, Try.ntmps105
  have F1 := Lib.hid f1
  have F2 := Lib.hid f2
  have F3 := Lib.hid f3
  have F4 := Lib.hid f4
  clear f1 f2 f3 f4
  go_wp2_with fail
  generalize w.alloc (Obj.cells #[.int .i64 s.grid, .int .i64 s.ref, .int .i64 s.static, .int .i64 s.dynamic, .int .i64 s.window, .int .i64 s.move, .int .i64 s.limit, .int .i64 s.pause, .int .i64 s.ext, .int .i64 s.maxExt, .int .i64 s.collar, .int .i64 s.widen, .int .i64 s.self, .int .i64 s.slots, .int .i64 s.levels, .int .i64 s.short] 136) = W at hbx hba hbz ⊢
  have c0 : W.cell? ⟨w.heap.size, 0, none⟩ = some (.int .i64 s.grid) := hbx.out 0 _ rfl
  have c1 : W.cell? ⟨w.heap.size, 1, none⟩ = some (.int .i64 s.ref) := hbx.out 1 _ rfl
  refine (down_any _ _ _ (by decide)).mono ?_
  rintro e w' ⟨rfl, rfl⟩
  go_wp2_with fail
  refine (FixMul.mul_any _ _ _ i1 i3).mono ?_
  rintro e w1 ⟨rfl, hb1⟩
  rw [F1.out, F2.out]
  rw [← hb1.cell (p := ⟨w.heap.size, 0, none⟩) (by show w.heap.size < W.heap.size; omega)] at c0
  rw [← hb1.cell (p := ⟨w.heap.size, 1, none⟩) (by show w.heap.size < W.heap.size; omega)] at c1
  have hbf := hba.out.trans (hb1.mono (by omega))
  clear hb1 hbz
  go_wp2_with fail
  refine (FixMul.add_any _ _ _ i2 i4).mono ?_
  rintro e w' ⟨rfl, rfl⟩
  rw [F3.out, F4.out]
  go_wp2
  all_goals
    go_ret
    exact ⟨ret_int (by have := HP.out; omega), hbf⟩
end Go.Proofs.Ytogjgpiddjmpiaa.Price
