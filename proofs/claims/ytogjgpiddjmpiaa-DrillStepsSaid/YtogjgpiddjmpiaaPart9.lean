/- Parts of the proof: Wide, FixMul. -/
import Derived.Test.YtogjgpiddjmpiaaPart1
import Derived.Test.YtogjgpiddjmpiaaPart4

/- wide.Mul: the product of two words, as two words. -/
namespace Go.Proofs.Ytogjgpiddjmpiaa.Wide
set_option linter.unusedVariables false
open Go.RowKit Go.Proofs.Ytogjgpiddjmpiaa.Kit Go.Proofs.Ytogjgpiddjmpiaa.Bits

theorem u64_of (n : Int) (h0 : 0 ≤ n) (h1 : n < 18446744073709551616) : IntKind.u64.wrap n = n := IntWalk.u64_in n ⟨h0, by omega⟩

theorem mul_lt (a b : Int) (ha0 : 0 ≤ a) (ha : a ≤ 4294967295) (hb0 : 0 ≤ b) (hb : b ≤ 4294967295) : 0 ≤ a * b ∧ a * b ≤ 18446744065119617025 :=
  ⟨Int.mul_nonneg ha0 hb0, Int.le_trans (Int.mul_le_mul ha hb hb0 (by decide)) (by decide)⟩

/-- The four products, put together. -/
theorem parts (a b : Int) : a * b = a / 4294967296 * (b / 4294967296) * 18446744073709551616 + (a / 4294967296 * (b % 4294967296) + a % 4294967296 * (b / 4294967296)) * 4294967296 + a % 4294967296 * (b % 4294967296) := by
  have ha : a = a / 4294967296 * 4294967296 + a % 4294967296 := by omega
  have hb : b = b / 4294967296 * 4294967296 + b % 4294967296 := by omega
  generalize a / 4294967296 = x at *
  generalize a % 4294967296 = y at *
  generalize b / 4294967296 = u at *
  generalize b % 4294967296 = v at *
  subst ha hb
  rw [Int.add_mul, Int.mul_add, Int.mul_add]
  have e1 : x * 4294967296 * (u * 4294967296) = x * u * 18446744073709551616 := by
    rw [Int.mul_assoc x, Int.mul_left_comm 4294967296 u, ← Int.mul_assoc x u]; rfl
  have e2 : x * 4294967296 * v = x * v * 4294967296 := by rw [Int.mul_assoc, Int.mul_comm 4294967296 v, ← Int.mul_assoc]
  have e3 : y * (u * 4294967296) = y * u * 4294967296 := by rw [← Int.mul_assoc]
  rw [e1, e2, e3]
  omega

def lowOf (a b : Int) : Int := IntKind.u64.wrap (bits .and .u64 a 4294967295 * bits .and .u64 b 4294967295)
def midOf (a b : Int) : Int := IntKind.u64.wrap (IntKind.u64.wrap (a / 4294967296 * bits .and .u64 b 4294967295) + lowOf a b / 4294967296)
def otherOf (a b : Int) : Int := IntKind.u64.wrap (IntKind.u64.wrap (bits .and .u64 a 4294967295 * (b / 4294967296)) + bits .and .u64 (midOf a b) 4294967295)
def hiOf (a b : Int) : Int := IntKind.u64.wrap (IntKind.u64.wrap (IntKind.u64.wrap (a / 4294967296 * (b / 4294967296)) + midOf a b / 4294967296) + otherOf a b / 4294967296)
def loOf (a b : Int) : Int := bits .or .u64 (IntKind.u64.wrap (otherOf a b * 4294967296)) (bits .and .u64 (lowOf a b) 4294967295)

theorem mul_eq (a b : Int) (ha0 : 0 ≤ a) (ha : a < 18446744073709551616) (hb0 : 0 ≤ b) (hb : b < 18446744073709551616) :
    hiOf a b = a * b / 18446744073709551616 ∧ loOf a b = a * b % 18446744073709551616 := by
  have hp := parts a b
  have m1 := mul_lt (a / 4294967296) (b / 4294967296) (by omega) (by omega) (by omega) (by omega)
  have m2 := mul_lt (a / 4294967296) (b % 4294967296) (by omega) (by omega) (by omega) (by omega)
  have m3 := mul_lt (a % 4294967296) (b / 4294967296) (by omega) (by omega) (by omega) (by omega)
  have m4 := mul_lt (a % 4294967296) (b % 4294967296) (by omega) (by omega) (by omega) (by omega)
  have e4 : lowOf a b = a % 4294967296 * (b % 4294967296) := by
    unfold lowOf; rw [mask32 a ha0 ha, mask32 b hb0 hb, u64_of _ m4.1 (by omega)]
  generalize hA : a % 4294967296 * (b % 4294967296) = p4 at *
  have e2 : midOf a b = a / 4294967296 * (b % 4294967296) + p4 / 4294967296 := by
    unfold midOf; rw [e4, mask32 b hb0 hb, u64_of (a / 4294967296 * (b % 4294967296)) m2.1 (by omega), u64_of _ (by omega) (by omega)]
  generalize hB : a / 4294967296 * (b % 4294967296) = p2 at *
  have e3 : otherOf a b = a % 4294967296 * (b / 4294967296) + (p2 + p4 / 4294967296) % 4294967296 := by
    unfold otherOf; rw [e2, mask32 a ha0 ha, mask32 (p2 + p4 / 4294967296) (by omega) (by omega), u64_of (a % 4294967296 * (b / 4294967296)) m3.1 (by omega), u64_of _ (by omega) (by omega)]
  generalize hC : a % 4294967296 * (b / 4294967296) = p3 at *
  have e1 : hiOf a b = a / 4294967296 * (b / 4294967296) + (p2 + p4 / 4294967296) / 4294967296 + (p3 + (p2 + p4 / 4294967296) % 4294967296) / 4294967296 := by
    unfold hiOf; rw [e2, e3, u64_of (a / 4294967296 * (b / 4294967296)) m1.1 (by omega), u64_of (a / 4294967296 * (b / 4294967296) + (p2 + p4 / 4294967296) / 4294967296) (by omega) (by omega), u64_of _ (by omega) (by omega)]
  generalize hD : a / 4294967296 * (b / 4294967296) = p1 at *
  have e0 : loOf a b = (p3 + (p2 + p4 / 4294967296) % 4294967296) % 4294967296 * 4294967296 + p4 % 4294967296 := by
    unfold loOf
    rw [e3, e4, mask32 p4 m4.1 (by omega)]
    have : IntKind.u64.wrap ((p3 + (p2 + p4 / 4294967296) % 4294967296) * 4294967296) = (p3 + (p2 + p4 / 4294967296) % 4294967296) % 4294967296 * 4294967296 := by
      rw [IntKind.wrap_u64]; omega
    rw [this, join32 _ _ (by omega) (by omega) (by omega) (by omega) (by omega)]
  clear hA hB hC hD e2 e3 e4 ha hb ha0 hb0
  generalize a * b = p at *
  rw [e1, e0]
  clear e1 e0
  omega

/-- A wide number as a value. -/
def W (hi lo : Int) : Value := .agg #[.int .u64 hi, .int .u64 lo]

theorem mul_any (a b : Int) (w : World) (ha0 : 0 ≤ a) (ha : a < 18446744073709551616) (hb0 : 0 ≤ b) (hb : b < 18446744073709551616) :
    Calls Try.prog 76 #[.int .u64 a, .int .u64 b] w fun e w' =>
      e = .returned (.agg #[.int .u64 (a * b / 18446744073709551616), .int .u64 (a * b % 18446744073709551616)]) ∧ Below w.heap.size w w' := by
  have H := Lib.hid (mul_eq a b ha0 ha hb0 hb)
  go_enter Try.func76, Try.ntmps76
  go_wp2
  refine bodyPost_ret (v := .agg #[.int .u64 (hiOf a b), .int .u64 (loOf a b)]) (by simp [results, Try.results76, go_sem]; exact ⟨rfl, rfl⟩) rfl ⟨by rw [H.out.1, H.out.2], (Below.refl _ _).alloc (Nat.le_refl _) _⟩
end Go.Proofs.Ytogjgpiddjmpiaa.Wide

/- fix.Add and fix.Mul: sums and products that fit, or not. -/
namespace Go.Proofs.Ytogjgpiddjmpiaa.FixMul
set_option linter.unusedVariables false
open Go.RowKit Go.Proofs.Ytogjgpiddjmpiaa.Kit Go.Proofs.Ytogjgpiddjmpiaa.Bits Go.Proofs.Ytogjgpiddjmpiaa.Wide

def is64 (n : Int) : Prop := -9223372036854775808 ≤ n ∧ n ≤ 9223372036854775807
instance (n : Int) : Decidable (is64 n) := inferInstanceAs (Decidable (_ ∧ _))

def sgn (a : Int) : Int := if a < 0 then -1 else 0
def mag (a : Int) : Int := if a < 0 then -a else a

theorem sign_any (a : Int) (w : World) (h : is64 a) : Calls Try.prog 185 #[.int .i64 a] w fun e w' => e = .returned (.int .i64 (sgn a)) ∧ w = w' := by
  have HS := Lib.hid (show a / 9223372036854775808 = sgn a by unfold sgn; unfold is64 at h; split <;> omega)
  go_enter Try.func185, Try.ntmps185
  go_wp2
  go_ret
  exact ⟨ret_int HS.out, rfl⟩

theorem ret_u64 {a b : Int} (h : a = b) : Ending.returned (.int .u64 a) = .returned (.int .u64 b) := by rw [h]

theorem size_any (a : Int) (w : World) (h : is64 a) : Calls Try.prog 184 #[.int .i64 a] w fun e w' => e = .returned (.int .u64 (mag a)) ∧ w = w' := by
  have HS := Lib.hid (show IntKind.u64.wrap (wrap64 (bits .xor .i64 a (sgn a) - sgn a)) = mag a by
    unfold is64 at h
    unfold sgn mag
    split
    · rw [xor_ones a h.1 h.2, IntKind.wrap_u64]; unfold wrap64; omega
    · rw [xor_zero a h.1 h.2, IntKind.wrap_u64]; unfold wrap64; omega)
  go_enter Try.func184, Try.ntmps184
  go_wp2_with (go_at_call 185; refine (sign_any _ _ h).mono ?_; rintro e w' ⟨rfl, rfl⟩)
  go_ret
  exact ⟨ret_u64 HS.out, rfl⟩

theorem add_over (a b : Int) (ha : is64 a) (hb : is64 b) : (bits .and .i64 (bits .xor .i64 a (wrap64 (a + b))) (bits .xor .i64 b (wrap64 (a + b))) < 0) ↔ ¬ is64 (a + b) := by
  have hw : -9223372036854775808 ≤ wrap64 (a + b) ∧ wrap64 (a + b) ≤ 9223372036854775807 := by unfold wrap64; omega
  have x1 := bits_in .xor a (wrap64 (a + b)) (.inl rfl)
  have x2 := bits_in .xor b (wrap64 (a + b)) (.inl rfl)
  rw [and_neg _ _ x1.1 x1.2 x2.1 x2.2, xor_neg a _ ha.1 ha.2 hw.1 hw.2, xor_neg b _ hb.1 hb.2 hw.1 hw.2]
  unfold is64 at *
  unfold wrap64 at *
  by_cases h1 : a < 0 <;> by_cases h2 : b < 0 <;> by_cases h3 : (a + b + 9223372036854775808) % 18446744073709551616 - 9223372036854775808 < 0 <;> simp [h1, h2, h3] <;> omega

/-- What a sum or a product comes to: itself where it fits, else nothing. -/
def fit (n : Int) : Int := if is64 n then n else 0

theorem add_any (a b : Int) (w : World) (ha : is64 a) (hb : is64 b) : Calls Try.prog 145 #[.int .i64 a, .int .i64 b] w fun e w' =>
    e = .returned (.tuple #[.int .i64 (fit (a + b)), .bool (decide (is64 (a + b)))]) ∧ w = w' := by
  by_cases h : is64 (a + b)
  · have H1 := Lib.hid (show fit (a + b) = wrap64 (a + b) by unfold fit; rw [if_pos h]; unfold is64 at h; unfold wrap64; omega)
    have H2 := Lib.hid (show decide (is64 (a + b)) = true by simp [h])
    have hn : ¬ (bits .and .i64 (bits .xor .i64 a (wrap64 (a + b))) (bits .xor .i64 b (wrap64 (a + b))) < 0) := fun hx => (add_over a b ha hb).1 hx h
    clear h ha hb
    go_enter Try.func145, Try.ntmps145
    go_wp2
    go_ret2
    exact ⟨by rw [H1.out, H2.out]; rfl, rfl⟩
  · have H1 := Lib.hid (show fit (a + b) = 0 by unfold fit; rw [if_neg h])
    have H2 := Lib.hid (show decide (is64 (a + b)) = false by simp [h])
    have hn := (add_over a b ha hb).2 h
    clear h ha hb
    go_enter Try.func145, Try.ntmps145
    go_wp2
    go_ret2
    exact ⟨by rw [H1.out, H2.out]; rfl, rfl⟩

theorem mag_in (a : Int) (h : is64 a) : 0 ≤ mag a ∧ mag a ≤ 9223372036854775808 := by unfold mag; unfold is64 at h; split <;> omega

/-- Minus: is it -1? -/
theorem sgn_xor (a b : Int) (ha : is64 a) (hb : is64 b) : sgn (bits .xor .i64 a b) = if (a < 0) ≠ (b < 0) then -1 else 0 := by
  have := xor_neg a b ha.1 ha.2 hb.1 hb.2
  unfold sgn
  by_cases h : (a < 0) ≠ (b < 0)
  · rw [if_pos h, if_pos (this.2 h)]
  · rw [if_neg h, if_neg (fun hx => h (this.1 hx))]

theorem prod_of (a b : Int) : a * b = if (a < 0) ≠ (b < 0) then -(mag a * mag b) else mag a * mag b := by
  unfold mag
  by_cases h1 : a < 0 <;> by_cases h2 : b < 0 <;> simp [h1, h2, Int.neg_mul, Int.mul_neg]

theorem last_of (m lo p : Int) (hm : m = -1 ∨ m = 0) (hlo : lo = if m = -1 then -p else p) (h0 : 0 ≤ lo) (h : lo ≤ 9223372036854775807 - m) :
    wrap64 (bits .xor .i64 (wrap64 lo) m - m) = p := by
  have hw : -9223372036854775808 ≤ wrap64 lo ∧ wrap64 lo ≤ 9223372036854775807 := by unfold wrap64; omega
  rcases hm with rfl | rfl
  · rw [xor_ones _ hw.1 hw.2]; unfold wrap64; simp at hlo; omega
  · rw [xor_zero _ hw.1 hw.2]; unfold wrap64; simp at hlo; omega

theorem top_of (m : Int) (hm : m = -1 ∨ m = 0) : IntKind.u64.wrap (9223372036854775807 + IntKind.u64.wrap (wrap64 (-m))) = 9223372036854775807 - m := by
  rcases hm with rfl | rfl <;> decide +kernel

set_option maxHeartbeats 1000000 in
theorem mul_any (a b : Int) (w : World) (ha : is64 a) (hb : is64 b) : Calls Try.prog 144 #[.int .i64 a, .int .i64 b] w fun e w' =>
    e = .returned (.tuple #[.int .i64 (fit (a * b)), .bool (decide (is64 (a * b)))]) ∧ Below w.heap.size w w' := by
  have ma := mag_in a ha
  have mb := mag_in b hb
  have hx := bits_in .xor a b (.inl rfl)
  have hs := Lib.hid (sgn_xor a b ha hb)
  have hp := Lib.hid (prod_of a b)
  have hp0 : 0 ≤ mag a * mag b := Int.mul_nonneg ma.1 mb.1
  have hm : sgn (bits .xor .i64 a b) = -1 ∨ sgn (bits .xor .i64 a b) = 0 := by unfold sgn; split <;> simp
  have hlo : a * b = if sgn (bits .xor .i64 a b) = -1 then -(mag a * mag b) else mag a * mag b := by
    rw [hp.out, hs.out]
    by_cases h : (a < 0) ≠ (b < 0)
    · rw [if_pos h, if_pos h, if_pos rfl]
    · rw [if_neg h, if_neg h]; rfl
  clear hs hp
  go_enter Try.func144, Try.ntmps144
  have HLO := Lib.hid hlo
  have HM := Lib.hid hm
  clear hlo hm
  go_wp2_with fail
  refine (size_any a _ ha).mono ?_
  rintro e w' ⟨rfl, rfl⟩
  go_wp2_with fail
  refine (size_any b _ hb).mono ?_
  rintro e w' ⟨rfl, rfl⟩
  go_wp2_with fail
  refine (Wide.mul_any (mag a) (mag b) _ ma.1 (by omega) mb.1 (by omega)).mono ?_
  rintro e w1 ⟨rfl, hb1⟩
  generalize hP : mag a * mag b = P at HLO hp0 ⊢
  clear hP
  have hh : P = P / 18446744073709551616 * 18446744073709551616 + P % 18446744073709551616 := by omega
  have hh0 : 0 ≤ P / 18446744073709551616 := by omega
  have hl0 : 0 ≤ P % 18446744073709551616 := by omega
  have hl1 : P % 18446744073709551616 < 18446744073709551616 := by omega
  generalize P / 18446744073709551616 = hi at hh hh0 ⊢
  generalize P % 18446744073709551616 = lo at hh hl0 hl1 ⊢
  subst hh
  go_wp2_with fail
  refine (sign_any _ _ hx).mono ?_
  rintro e w' ⟨rfl, rfl⟩
  have HM' := HM.out
  have HLO' := HLO.out
  clear HM HLO
  generalize sgn (bits BinOp.xor IntKind.i64 a b) = m at HM' HLO' ⊢
  have HT := Lib.hid (top_of m HM')
  have hbb := hb1.alloc hb1.size (.cells #[.int .u64 hi, .int .u64 lo] 144)
  by_cases h1 : hi = 0
  · subst h1
    by_cases h2 : lo ≤ 9223372036854775807 - m
    · have H1 := Lib.hid (show is64 (a * b) by rw [HLO']; unfold is64; rcases HM' with rfl | rfl <;> simp at * <;> omega)
      have H2 := Lib.hid (show wrap64 (bits .xor .i64 (wrap64 lo) m - m) = a * b from last_of m lo (a * b) HM' (by rw [HLO']; split <;> omega) hl0 h2)
      have H3 := Lib.hid HM'
      have h2' : lo ≤ IntKind.u64.wrap (9223372036854775807 + IntKind.u64.wrap (wrap64 (-m))) := by rw [HT.out]; exact h2
      clear HM' HLO'
      have hc : ((0 : Int) != 0) = false := rfl
      go_wp2
      go_ret2
      refine ⟨?_, hbb⟩
      rw [show fit (a * b) = a * b by unfold fit; rw [if_pos H1.out], show decide (is64 (a * b)) = true by simp [H1.out], ← H2.out]
      rfl
    · have H1 := Lib.hid (show ¬ is64 (a * b) by rw [HLO']; unfold is64; rcases HM' with rfl | rfl <;> simp at * <;> omega)
      have h2' : IntKind.u64.wrap (9223372036854775807 + IntKind.u64.wrap (wrap64 (-m))) < lo := by rw [HT.out]; omega
      clear HM' HLO' h2
      have hc : ((0 : Int) != 0) = false := rfl
      go_wp2
      go_ret2
      refine ⟨?_, hbb⟩
      rw [show fit (a * b) = 0 by unfold fit; rw [if_neg H1.out], show decide (is64 (a * b)) = false by simp [H1.out]]
      rfl
  · have H1 := Lib.hid (show ¬ is64 (a * b) by rw [HLO']; unfold is64; rcases HM' with rfl | rfl <;> simp at * <;> omega)
    have hc : (hi != 0) = true := by simp [h1]
    clear HM' HLO' h1
    go_wp2
    go_ret2
    refine ⟨?_, hbb⟩
    rw [show fit (a * b) = 0 by unfold fit; rw [if_neg H1.out], show decide (is64 (a * b)) = false by simp [H1.out]]
    rfl
end Go.Proofs.Ytogjgpiddjmpiaa.FixMul
