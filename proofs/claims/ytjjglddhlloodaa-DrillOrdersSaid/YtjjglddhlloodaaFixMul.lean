/- fix.Add and fix.Mul: sums and products that fit, or not. -/
import Derived.Test.YtjjglddhlloodaaFix
import Derived.Test.YtjjglddhlloodaaWide
namespace Go.Proofs.Ytjjglddhlloodaa.FixMul
open Go.RowKit Go.Proofs.Ytjjglddhlloodaa.Kit Go.Proofs.Ytjjglddhlloodaa.Bits Go.Proofs.Ytjjglddhlloodaa.Wide

def is64 (n : Int) : Prop := -9223372036854775808 ≤ n ∧ n ≤ 9223372036854775807
instance (n : Int) : Decidable (is64 n) := inferInstanceAs (Decidable (_ ∧ _))

def sgn (a : Int) : Int := if a < 0 then -1 else 0
def mag (a : Int) : Int := if a < 0 then -a else a

theorem sign_any (a : Int) (w : World) (h : is64 a) : Calls Try.prog 103 #[.int .i64 a] w fun e w' => e = .returned (.int .i64 (sgn a)) ∧ w = w' := by
  have HS := Lib.hid (show a / 9223372036854775808 = sgn a by unfold sgn; unfold is64 at h; split <;> omega)
  go_enter Try.func103, Try.ntmps103
  go_wp2
  go_ret
  exact ⟨ret_int HS.out, rfl⟩

theorem ret_u64 {a b : Int} (h : a = b) : Ending.returned (.int .u64 a) = .returned (.int .u64 b) := by rw [h]

theorem size_any (a : Int) (w : World) (h : is64 a) : Calls Try.prog 102 #[.int .i64 a] w fun e w' => e = .returned (.int .u64 (mag a)) ∧ w = w' := by
  have HS := Lib.hid (show IntKind.u64.wrap (wrap64 (bits .xor .i64 a (sgn a) - sgn a)) = mag a by
    unfold is64 at h
    unfold sgn mag
    split
    · rw [xor_ones a h.1 h.2, IntKind.wrap_u64]; unfold wrap64; omega
    · rw [xor_zero a h.1 h.2, IntKind.wrap_u64]; unfold wrap64; omega)
  go_enter Try.func102, Try.ntmps102
  go_wp2_with (go_at_call 103; refine (sign_any _ _ h).mono ?_; rintro e w' ⟨rfl, rfl⟩)
  go_ret
  exact ⟨ret_u64 HS.out, rfl⟩

theorem add_over (a b : Int) (ha : is64 a) (hb : is64 b) : (bits .and .i64 (bits .xor .i64 a (wrap64 (a + b))) (bits .xor .i64 b (wrap64 (a + b))) < 0) ↔ ¬ is64 (a + b) := by
  have hw : -9223372036854775808 ≤ wrap64 (a + b) ∧ wrap64 (a + b) ≤ 9223372036854775807 := by unfold wrap64; omega
  have x1 := bits_in .xor a (wrap64 (a + b)) (.inl rfl)
  have x2 := bits_in .xor b (wrap64 (a + b)) (.inl rfl)
  rw [and_neg _ _ x1.1 x1.2 x2.1 x2.2, xor_neg a _ ha.1 ha.2 hw.1 hw.2, xor_neg b _ hb.1 hb.2 hw.1 hw.2]
  unfold is64 at *
  unfold wrap64 at *
  by_cases h1 : a < 0 <;> by_cases h2 : b < 0 <;> by_cases h3 : (a + b + 9223372036854775808) % 18446744073709551616 - 9223372036854775808 < 0 <;> simp [h1, h2, h3] <;> omega

/-- What a sum or a product comes to: itself where it fits, else nothing. -/
def fit (n : Int) : Int := if is64 n then n else 0

theorem add_any (a b : Int) (w : World) (ha : is64 a) (hb : is64 b) : Calls Try.prog 69 #[.int .i64 a, .int .i64 b] w fun e w' =>
    e = .returned (.tuple #[.int .i64 (fit (a + b)), .bool (decide (is64 (a + b)))]) ∧ w = w' := by
  by_cases h : is64 (a + b)
  · have H1 := Lib.hid (show fit (a + b) = wrap64 (a + b) by unfold fit; rw [if_pos h]; unfold is64 at h; unfold wrap64; omega)
    have H2 := Lib.hid (show decide (is64 (a + b)) = true by simp [h])
    have hn : ¬ (bits .and .i64 (bits .xor .i64 a (wrap64 (a + b))) (bits .xor .i64 b (wrap64 (a + b))) < 0) := fun hx => (add_over a b ha hb).1 hx h
    clear h ha hb
    go_enter Try.func69, Try.ntmps69
    go_wp2
    go_ret2
    exact ⟨by rw [H1.out, H2.out]; rfl, rfl⟩
  · have H1 := Lib.hid (show fit (a + b) = 0 by unfold fit; rw [if_neg h])
    have H2 := Lib.hid (show decide (is64 (a + b)) = false by simp [h])
    have hn := (add_over a b ha hb).2 h
    clear h ha hb
    go_enter Try.func69, Try.ntmps69
    go_wp2
    go_ret2
    exact ⟨by rw [H1.out, H2.out]; rfl, rfl⟩

theorem mag_in (a : Int) (h : is64 a) : 0 ≤ mag a ∧ mag a ≤ 9223372036854775808 := by unfold mag; unfold is64 at h; split <;> omega

/-- Minus: is it -1? -/
theorem sgn_xor (a b : Int) (ha : is64 a) (hb : is64 b) : sgn (bits .xor .i64 a b) = if (a < 0) ≠ (b < 0) then -1 else 0 := by
  have := xor_neg a b ha.1 ha.2 hb.1 hb.2
  unfold sgn
  by_cases h : (a < 0) ≠ (b < 0)
  · rw [if_pos h, if_pos (this.2 h)]
  · rw [if_neg h, if_neg (fun hx => h (this.1 hx))]

theorem prod_of (a b : Int) : a * b = if (a < 0) ≠ (b < 0) then -(mag a * mag b) else mag a * mag b := by
  unfold mag
  by_cases h1 : a < 0 <;> by_cases h2 : b < 0 <;> simp [h1, h2, Int.neg_mul, Int.mul_neg]

theorem last_of (m lo p : Int) (hm : m = -1 ∨ m = 0) (hlo : lo = if m = -1 then -p else p) (h0 : 0 ≤ lo) (h : lo ≤ 9223372036854775807 - m) :
    wrap64 (bits .xor .i64 (wrap64 lo) m - m) = p := by
  have hw : -9223372036854775808 ≤ wrap64 lo ∧ wrap64 lo ≤ 9223372036854775807 := by unfold wrap64; omega
  rcases hm with rfl | rfl
  · rw [xor_ones _ hw.1 hw.2]; unfold wrap64; simp at hlo; omega
  · rw [xor_zero _ hw.1 hw.2]; unfold wrap64; simp at hlo; omega

theorem top_of (m : Int) (hm : m = -1 ∨ m = 0) : IntKind.u64.wrap (9223372036854775807 + IntKind.u64.wrap (wrap64 (-m))) = 9223372036854775807 - m := by
  rcases hm with rfl | rfl <;> decide +kernel

set_option maxHeartbeats 1000000 in
theorem mul_any (a b : Int) (w : World) (ha : is64 a) (hb : is64 b) : Calls Try.prog 68 #[.int .i64 a, .int .i64 b] w fun e w' =>
    e = .returned (.tuple #[.int .i64 (fit (a * b)), .bool (decide (is64 (a * b)))]) ∧ Below w.heap.size w w' := by
  have ma := mag_in a ha
  have mb := mag_in b hb
  have hx := bits_in .xor a b (.inl rfl)
  have hs := Lib.hid (sgn_xor a b ha hb)
  have hp := Lib.hid (prod_of a b)
  have hp0 : 0 ≤ mag a * mag b := Int.mul_nonneg ma.1 mb.1
  have hm : sgn (bits .xor .i64 a b) = -1 ∨ sgn (bits .xor .i64 a b) = 0 := by unfold sgn; split <;> simp
  have hlo : a * b = if sgn (bits .xor .i64 a b) = -1 then -(mag a * mag b) else mag a * mag b := by
    rw [hp.out, hs.out]
    by_cases h : (a < 0) ≠ (b < 0)
    · rw [if_pos h, if_pos h, if_pos rfl]
    · rw [if_neg h, if_neg h]; rfl
  clear hs hp
  go_enter Try.func68, Try.ntmps68
  have HLO := Lib.hid hlo
  have HM := Lib.hid hm
  clear hlo hm
  go_wp2_with fail
  refine (size_any a _ ha).mono ?_
  rintro e w' ⟨rfl, rfl⟩
  go_wp2_with fail
  refine (size_any b _ hb).mono ?_
  rintro e w' ⟨rfl, rfl⟩
  go_wp2_with fail
  refine (Wide.mul_any (mag a) (mag b) _ ma.1 (by omega) mb.1 (by omega)).mono ?_
  rintro e w1 ⟨rfl, hb1⟩
  generalize hP : mag a * mag b = P at HLO hp0 ⊢
  clear hP
  have hh : P = P / 18446744073709551616 * 18446744073709551616 + P % 18446744073709551616 := by omega
  have hh0 : 0 ≤ P / 18446744073709551616 := by omega
  have hl0 : 0 ≤ P % 18446744073709551616 := by omega
  have hl1 : P % 18446744073709551616 < 18446744073709551616 := by omega
  generalize P / 18446744073709551616 = hi at hh hh0 ⊢
  generalize P % 18446744073709551616 = lo at hh hl0 hl1 ⊢
  subst hh
  go_wp2_with fail
  refine (sign_any _ _ hx).mono ?_
  rintro e w' ⟨rfl, rfl⟩
  have HM' := HM.out
  have HLO' := HLO.out
  clear HM HLO
  generalize sgn (bits BinOp.xor IntKind.i64 a b) = m at HM' HLO' ⊢
  have HT := Lib.hid (top_of m HM')
  have hbb := hb1.alloc hb1.size (.cells #[.int .u64 hi, .int .u64 lo] 97)
  by_cases h1 : hi = 0
  · subst h1
    by_cases h2 : lo ≤ 9223372036854775807 - m
    · have H1 := Lib.hid (show is64 (a * b) by rw [HLO']; unfold is64; rcases HM' with rfl | rfl <;> simp at * <;> omega)
      have H2 := Lib.hid (show wrap64 (bits .xor .i64 (wrap64 lo) m - m) = a * b from last_of m lo (a * b) HM' (by rw [HLO']; split <;> omega) hl0 h2)
      have H3 := Lib.hid HM'
      have h2' : lo ≤ IntKind.u64.wrap (9223372036854775807 + IntKind.u64.wrap (wrap64 (-m))) := by rw [HT.out]; exact h2
      clear HM' HLO'
      have hc : ((0 : Int) != 0) = false := rfl
      go_wp2
      go_ret2
      refine ⟨?_, hbb⟩
      rw [show fit (a * b) = a * b by unfold fit; rw [if_pos H1.out], show decide (is64 (a * b)) = true by simp [H1.out], ← H2.out]
      rfl
    · have H1 := Lib.hid (show ¬ is64 (a * b) by rw [HLO']; unfold is64; rcases HM' with rfl | rfl <;> simp at * <;> omega)
      have h2' : IntKind.u64.wrap (9223372036854775807 + IntKind.u64.wrap (wrap64 (-m))) < lo := by rw [HT.out]; omega
      clear HM' HLO' h2
      have hc : ((0 : Int) != 0) = false := rfl
      go_wp2
      go_ret2
      refine ⟨?_, hbb⟩
      rw [show fit (a * b) = 0 by unfold fit; rw [if_neg H1.out], show decide (is64 (a * b)) = false by simp [H1.out]]
      rfl
  · have H1 := Lib.hid (show ¬ is64 (a * b) by rw [HLO']; unfold is64; rcases HM' with rfl | rfl <;> simp at * <;> omega)
    have hc : (hi != 0) = true := by simp [h1]
    clear HM' HLO' h1
    go_wp2
    go_ret2
    refine ⟨?_, hbb⟩
    rw [show fit (a * b) = 0 by unfold fit; rw [if_neg H1.out], show decide (is64 (a * b)) = false by simp [H1.out]]
    rfl
end Go.Proofs.Ytjjglddhlloodaa.FixMul
