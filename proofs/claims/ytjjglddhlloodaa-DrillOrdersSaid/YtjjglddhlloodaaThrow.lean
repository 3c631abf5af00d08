/- Throws of the dice, as they are used: a block that holds the dice's number; shift and kind, and the document's shift. -/
import Derived.Test.YtjjglddhlloodaaBlk
import Derived.Test.YtjjglddhlloodaaDice
namespace Go.Proofs.Ytjjglddhlloodaa.Throw
open Go.RowKit Go.Proofs.Ytjjglddhlloodaa.Kit Go.Proofs.Ytjjglddhlloodaa.Blk Go.Proofs.Ytjjglddhlloodaa.Dice

theorem turn_in (x : Int) : 0 ≤ turn x ∧ turn x < 18446744073709551616 := by
  unfold turn; rw [IntKind.wrap_u64]; omega
theorem toss_in (x n : Int) (hn : 1 ≤ n) : 0 ≤ toss x n ∧ toss x n < n := by
  have := turn_in x
  have h : wrap64 (turn x / 8589934592) = turn x / 8589934592 := by unfold wrap64; omega
  unfold toss
  rw [h, Int.tmod_eq_emod_of_nonneg (by omega)]
  exact ⟨Int.emod_nonneg _ (by omega), Int.emod_lt_of_pos _ (by omega)⟩

theorem next_blk (d : Nat) (x n : Int) (w : World) (hn : 1 ≤ n) (h : Blk w d #[.int .u64 x] 93) :
    Calls Try.prog 11 #[.pointer (some ⟨d, 0, none⟩), .int .i64 n] w fun e w' =>
    e = .returned (.int .i64 (toss x n)) ∧ Blk w' d #[.int .u64 (turn x)] 93 ∧ Chg w.heap.size d w w' ∧ w'.heap.size = w.heap.size := by
  refine (next_some ⟨d, 0, none⟩ x n w hn (h.cell 0 rfl) (h.free 0)).mono ?_
  rintro e w' ⟨rfl, rfl⟩
  exact ⟨rfl, h.set 0 _, (Chg.refl _ _ _).setCell _ _ (.inl rfl), by simp [World.setCell]⟩
theorem ref_blk (d : Nat) (x n : Int) (w : World) (hn : 1 ≤ n) (h : Blk w d #[.int .u64 x] 29) :
    Calls Try.prog 12 #[.pointer (some ⟨d, 0, none⟩), .int .i64 n] w fun e w' =>
    e = .returned (.int .i64 (toss x n)) ∧ Blk w' d #[.int .u64 (turn x)] 29 ∧ Chg w.heap.size d w w' ∧ w'.heap.size = w.heap.size := by
  refine (ref_some ⟨d, 0, none⟩ x n w hn (h.cell 0 rfl) (h.free 0)).mono ?_
  rintro e w' ⟨rfl, rfl⟩
  exact ⟨rfl, h.set 0 _, (Chg.refl _ _ _).setCell _ _ (.inl rfl), by simp [World.setCell]⟩

/-- By how many steps a price moves. -/
def shiftF (x kind i side : Int) : Int :=
  if kind = 4 then toss x 81 - 40 else if kind = 1 then toss x 9 - 4 - i / 4 else if kind = 2 then toss x 9 - 4 + i / 4 else if kind = 3 then (if side = 0 then toss x 9 - 4 + 3 else toss x 9 - 4 - 3) else toss x 9 - 4

theorem shift_any (d : Nat) (x kind i side : Int) (w : World) (h : Blk w d #[.int .u64 x] 93) (hk0 : 0 ≤ kind) (hk1 : kind ≤ 4) (hi0 : 0 ≤ i) (hi1 : i ≤ 2000) (hs0 : 0 ≤ side) (hs1 : side ≤ 1) :
    Calls Try.prog 48 #[.pointer (some ⟨d, 0, none⟩), .int .i64 kind, .int .i64 i, .int .i64 side] w fun e w' =>
    e = .returned (.int .i64 (shiftF x kind i side)) ∧ Blk w' d #[.int .u64 (turn x)] 93 ∧ Chg w.heap.size d w w' ∧ w'.heap.size = w.heap.size := by
  have t1 := toss_in x 81 (by decide)
  have t2 := toss_in x 9 (by decide)
  have hkk : kind = 0 ∨ kind = 1 ∨ kind = 2 ∨ kind = 3 ∨ kind = 4 := by omega
  obtain ⟨t11, t12⟩ := t1
  obtain ⟨t21, t22⟩ := t2
  have hss : side = 0 ∨ side = 1 := by omega
  rcases hkk with rfl | rfl | rfl | rfl | rfl
  · go_enter Try.func48, Try.ntmps48
    go_wp2_with (go_at_call 11; refine (next_blk d x _ _ (by decide) h).mono ?_; rintro e w' ⟨rfl, hq⟩)
    go_ret
    exact ⟨rfl, hq⟩
  · go_enter Try.func48, Try.ntmps48
    go_wp2_with (go_at_call 11; refine (next_blk d x _ _ (by decide) h).mono ?_; rintro e w' ⟨rfl, hq⟩)
    go_ret
    exact ⟨rfl, hq⟩
  · go_enter Try.func48, Try.ntmps48
    go_wp2_with (go_at_call 11; refine (next_blk d x _ _ (by decide) h).mono ?_; rintro e w' ⟨rfl, hq⟩)
    go_ret
    exact ⟨rfl, hq⟩
  · rcases hss with rfl | rfl
    · go_enter Try.func48, Try.ntmps48
      go_wp2_with (go_at_call 11; refine (next_blk d x _ _ (by decide) h).mono ?_; rintro e w' ⟨rfl, hq⟩)
      go_ret
      exact ⟨rfl, hq⟩
    · go_enter Try.func48, Try.ntmps48
      go_wp2_with (go_at_call 11; refine (next_blk d x _ _ (by decide) h).mono ?_; rintro e w' ⟨rfl, hq⟩)
      go_ret
      exact ⟨rfl, hq⟩
  · go_enter Try.func48, Try.ntmps48
    go_wp2_with (go_at_call 11; refine (next_blk d x _ _ (by decide) h).mono ?_; rintro e w' ⟨rfl, hq⟩)
    go_ret
    exact ⟨rfl, hq⟩
theorem shift_ref (d : Nat) (x kind i side : Int) (w : World) (h : Blk w d #[.int .u64 x] 29) (hk0 : 0 ≤ kind) (hk1 : kind ≤ 4) (hi0 : 0 ≤ i) (hi1 : i ≤ 2000) (hs0 : 0 ≤ side) (hs1 : side ≤ 1) :
    Calls Try.prog 51 #[.pointer (some ⟨d, 0, none⟩), .int .i64 kind, .int .i64 i, .int .i64 side] w fun e w' =>
    e = .returned (.int .i64 (shiftF x kind i side)) ∧ Blk w' d #[.int .u64 (turn x)] 29 ∧ Chg w.heap.size d w w' ∧ w'.heap.size = w.heap.size := by
  have t1 := toss_in x 81 (by decide)
  have t2 := toss_in x 9 (by decide)
  have hkk : kind = 0 ∨ kind = 1 ∨ kind = 2 ∨ kind = 3 ∨ kind = 4 := by omega
  obtain ⟨t11, t12⟩ := t1
  obtain ⟨t21, t22⟩ := t2
  have hss : side = 0 ∨ side = 1 := by omega
  rcases hkk with rfl | rfl | rfl | rfl | rfl
  · go_enter Try.func51, Try.ntmps51
    go_wp2_with (go_at_call 12; refine (ref_blk d x _ _ (by decide) h).mono ?_; rintro e w' ⟨rfl, hq⟩)
    go_ret
    exact ⟨rfl, hq⟩
  · go_enter Try.func51, Try.ntmps51
    go_wp2_with (go_at_call 12; refine (ref_blk d x _ _ (by decide) h).mono ?_; rintro e w' ⟨rfl, hq⟩)
    go_ret
    exact ⟨rfl, hq⟩
  · go_enter Try.func51, Try.ntmps51
    go_wp2_with (go_at_call 12; refine (ref_blk d x _ _ (by decide) h).mono ?_; rintro e w' ⟨rfl, hq⟩)
    go_ret
    exact ⟨rfl, hq⟩
  · rcases hss with rfl | rfl
    · go_enter Try.func51, Try.ntmps51
      go_wp2_with (go_at_call 12; refine (ref_blk d x _ _ (by decide) h).mono ?_; rintro e w' ⟨rfl, hq⟩)
      go_ret
      exact ⟨rfl, hq⟩
    · go_enter Try.func51, Try.ntmps51
      go_wp2_with (go_at_call 12; refine (ref_blk d x _ _ (by decide) h).mono ?_; rintro e w' ⟨rfl, hq⟩)
      go_ret
      exact ⟨rfl, hq⟩
  · go_enter Try.func51, Try.ntmps51
    go_wp2_with (go_at_call 12; refine (ref_blk d x _ _ (by decide) h).mono ?_; rintro e w' ⟨rfl, hq⟩)
    go_ret
    exact ⟨rfl, hq⟩

/-- A type of orders, by a throw. -/
def kindF (x kind : Int) : Int := if toss x 8 = 0 then 3 else if toss x 8 = 1 then 5 else if toss x 8 = 2 ∧ kind = 4 then 2 else 1

theorem kind_any (d : Nat) (x kind : Int) (w : World) (h : Blk w d #[.int .u64 x] 93) :
    Calls Try.prog 49 #[.pointer (some ⟨d, 0, none⟩), .int .i64 kind] w fun e w' =>
    e = .returned (.int .i64 (kindF x kind)) ∧ Blk w' d #[.int .u64 (turn x)] 93 ∧ Chg w.heap.size d w w' ∧ w'.heap.size = w.heap.size := by
  by_cases h0 : toss x 8 = 0
  · have HS := Lib.hid (show kindF x kind = 3 by simp [kindF, h0])
    have b0 : (toss x 8 == 0) = true := by simp [h0]
    clear h0
    go_enter Try.func49, Try.ntmps49
    go_wp2_with (go_at_call 11; refine (next_blk d x _ _ (by decide) h).mono ?_; rintro e w' ⟨rfl, hq⟩)
    go_ret
    exact ⟨ret_int HS.out.symm, hq⟩
  have b0 : (toss x 8 == 0) = false := by simp [h0]
  by_cases h1 : toss x 8 = 1
  · have HS := Lib.hid (show kindF x kind = 5 by simp [kindF, h1])
    have b1 : (toss x 8 == 1) = true := by simp [h1]
    clear h0 h1
    go_enter Try.func49, Try.ntmps49
    go_wp2_with (go_at_call 11; refine (next_blk d x _ _ (by decide) h).mono ?_; rintro e w' ⟨rfl, hq⟩)
    go_ret
    exact ⟨ret_int HS.out.symm, hq⟩
  have b1 : (toss x 8 == 1) = false := by simp [h1]
  by_cases h2 : toss x 8 = 2
  · have b2 : (toss x 8 == 2) = true := by simp [h2]
    by_cases h3 : kind = 4
    · have HS := Lib.hid (show kindF x kind = 2 by simp [kindF, h2, h3])
      have b3 : (kind == 4) = true := by simp [h3]
      clear h0 h1 h2 h3
      go_enter Try.func49, Try.ntmps49
      go_wp2_with (go_at_call 11; refine (next_blk d x _ _ (by decide) h).mono ?_; rintro e w' ⟨rfl, hq⟩)
      go_ret
      exact ⟨ret_int HS.out.symm, hq⟩
    · have HS := Lib.hid (show kindF x kind = 1 by simp [kindF, h2, h3])
      have b3 : (kind == 4) = false := by simp [h3]
      clear h0 h1 h2 h3
      go_enter Try.func49, Try.ntmps49
      go_wp2_with (go_at_call 11; refine (next_blk d x _ _ (by decide) h).mono ?_; rintro e w' ⟨rfl, hq⟩)
      go_ret
      exact ⟨ret_int HS.out.symm, hq⟩
  · have HS := Lib.hid (show kindF x kind = 1 by simp [kindF, h0, h1, h2])
    have b2 : (toss x 8 == 2) = false := by simp [h2]
    clear h0 h1 h2
    go_enter Try.func49, Try.ntmps49
    go_wp2_with (go_at_call 11; refine (next_blk d x _ _ (by decide) h).mono ?_; rintro e w' ⟨rfl, hq⟩)
    go_ret
    exact ⟨ret_int HS.out.symm, hq⟩
end Go.Proofs.Ytjjglddhlloodaa.Throw
