/- fix.Down and fix.Price. -/
import Derived.Test.YtogjgpiddjmpiaaKit
namespace Go.Proofs.Ytogjgpiddjmpiaa.Fix
open Go.RowKit Go.Proofs.Ytogjgpiddjmpiaa.Kit

def down (p g : Int) : Int := if p < 0 ∨ g < 1 then 0 else p / g * g

theorem div_mul_le (p g : Int) (h : 1 ≤ g) : p / g * g ≤ p := Int.ediv_mul_le _ (by omega)
theorem div_mul_nonneg (p g : Int) (h0 : 0 ≤ p) (h : 1 ≤ g) : 0 ≤ p / g * g := Int.mul_nonneg (Int.ediv_nonneg h0 (by omega)) (by omega)
theorem wrap_in (n : Int) (h0 : -9223372036854775808 ≤ n) (h1 : n ≤ 9223372036854775807) : wrap64 n = n := by unfold wrap64; omega

theorem down_any (p g : Int) (w : World) (hp : p ≤ 9223372036854775807) :
    Calls Try.prog 119 #[.int .i64 p, .int .i64 g] w fun e w' => e = .returned (.int .i64 (down p g)) ∧ w = w' := by
  by_cases h0 : p < 0
  · go_enter Try.func119, Try.ntmps119
    go_wp2
    go_ret
    exact ⟨by simp [down, h0], rfl⟩
  · by_cases h1 : g < 1
    · go_enter Try.func119, Try.ntmps119
      go_wp2
      go_ret
      exact ⟨by simp [down, h1], rfl⟩
    · have hd := Lib.hid (wrap_in (p / g * g) (by have := div_mul_nonneg p g (by omega) (by omega); omega) (by have := div_mul_le p g (by omega); omega))
      have h0' : 0 ≤ p := by omega
      have h1' : 1 ≤ g := by omega
      go_enter Try.func119, Try.ntmps119
      go_wp2
      go_ret
      refine ⟨?_, rfl⟩
      have e : down p g = p / g * g := by unfold down; rw [if_neg (by omega)]
      rw [e]
      exact ret_int hd.out

def price (p g : Int) : Int := if g < 1 then 1 else if p < 1 ∨ 1099511627776 < p then 9 else if down p g = p then 0 else 8

theorem price_any (p g : Int) (w : World) :
    Calls Try.prog 83 #[.int .i64 p, .int .i64 g] w fun e w' => e = .returned (.int .i64 (price p g)) ∧ w = w' := by
  by_cases h0 : g < 1
  · go_enter Try.func83, Try.ntmps83
    go_wp2
    go_ret
    exact ⟨by simp [price, h0], rfl⟩
  · by_cases h1 : p < 1
    · go_enter Try.func83, Try.ntmps83
      go_wp2
      go_ret
      exact ⟨by simp [price, h0, h1], rfl⟩
    · by_cases h2 : 1099511627776 < p
      · go_enter Try.func83, Try.ntmps83
        go_wp2
        go_ret
        exact ⟨by simp [price, h0, h2], rfl⟩
      · by_cases hd : down p g = p
        · have hd' : (down p g != p) = false := by simp [hd]
          have HD := Lib.hid (show price p g = 0 by unfold price; rw [if_neg h0, if_neg (by omega), if_pos hd])
          clear hd
          go_enter Try.func83, Try.ntmps83
          go_wp2_with (go_at_call 119; refine (down_any _ _ _ (by omega)).mono ?_; rintro e w' ⟨rfl, rfl⟩)
          go_ret
          exact ⟨ret_int HD.out.symm, rfl⟩
        · have hd' : (down p g != p) = true := by simp [hd]
          have HD := Lib.hid (show price p g = 8 by unfold price; rw [if_neg h0, if_neg (by omega), if_neg hd])
          clear hd
          go_enter Try.func83, Try.ntmps83
          go_wp2_with (go_at_call 119; refine (down_any _ _ _ (by omega)).mono ?_; rintro e w' ⟨rfl, rfl⟩)
          go_ret
          exact ⟨ret_int HD.out.symm, rfl⟩
end Go.Proofs.Ytogjgpiddjmpiaa.Fix
