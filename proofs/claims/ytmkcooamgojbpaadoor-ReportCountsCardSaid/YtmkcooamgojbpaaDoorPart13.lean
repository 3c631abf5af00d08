/- Parts of the proof: Bits. -/
import Derived.WalkKit

/- Plain laws on Go's bit operations: of 64 bits with a sign, and masks of 32 bits. -/
namespace Go.Proofs.YtmkcooamgojbpaaDoor.Bits
set_option linter.unusedVariables false
open Go.RowKit

theorem wrap_toInt (x : BitVec 64) : IntKind.i64.wrap (x.toNat : Int) = x.toInt := by
  rw [IntKind.wrap_i64, BitVec.toInt_eq_toNat_cond]
  have := x.isLt
  split <;> omega

theorem toNat_of (a : Int) (h0 : -9223372036854775808 ≤ a) (h1 : a ≤ 9223372036854775807) : ((BitVec.ofInt 64 a).toNat : Int) = if a < 0 then a + 18446744073709551616 else a := by
  rw [BitVec.toNat_ofInt]
  split <;> omega

theorem neg_of (a : Int) (h0 : -9223372036854775808 ≤ a) (h1 : a ≤ 9223372036854775807) : (BitVec.ofInt 64 a).msb = decide (a < 0) := by
  rw [BitVec.msb_eq_decide]
  have := toNat_of a h0 h1
  rw [decide_eq_decide]
  constructor
  · intro h; split at this <;> omega
  · intro h; rw [if_pos h] at this; omega

theorem neg_iff (x : BitVec 64) : x.toInt < 0 ↔ x.msb = true := by
  rw [BitVec.msb_eq_toInt]; simp

theorem xor_neg (a b : Int) (h0 : -9223372036854775808 ≤ a) (h1 : a ≤ 9223372036854775807) (g0 : -9223372036854775808 ≤ b) (g1 : b ≤ 9223372036854775807) :
    bits .xor .i64 a b < 0 ↔ ((a < 0) ≠ (b < 0)) := by
  show IntKind.i64.wrap ((BitVec.ofInt 64 a ^^^ BitVec.ofInt 64 b).toNat : Int) < 0 ↔ _
  rw [wrap_toInt, neg_iff, BitVec.msb_xor, neg_of a h0 h1, neg_of b g0 g1]
  by_cases ha : a < 0 <;> by_cases hb : b < 0 <;> simp [ha, hb]

theorem and_neg (a b : Int) (h0 : -9223372036854775808 ≤ a) (h1 : a ≤ 9223372036854775807) (g0 : -9223372036854775808 ≤ b) (g1 : b ≤ 9223372036854775807) :
    bits .and .i64 a b < 0 ↔ (a < 0 ∧ b < 0) := by
  show IntKind.i64.wrap ((BitVec.ofInt 64 a &&& BitVec.ofInt 64 b).toNat : Int) < 0 ↔ _
  rw [wrap_toInt, neg_iff, BitVec.msb_and, neg_of a h0 h1, neg_of b g0 g1]
  simp

theorem bits_in (op : BinOp) (a b : Int) (h : op = .xor ∨ op = .and) : -9223372036854775808 ≤ bits op .i64 a b ∧ bits op .i64 a b ≤ 9223372036854775807 := by
  rcases h with rfl | rfl
  · show _ ≤ IntKind.i64.wrap ((BitVec.ofInt 64 a ^^^ BitVec.ofInt 64 b).toNat : Int) ∧ IntKind.i64.wrap ((BitVec.ofInt 64 a ^^^ BitVec.ofInt 64 b).toNat : Int) ≤ _
    rw [IntKind.wrap_i64]; omega
  · show _ ≤ IntKind.i64.wrap ((BitVec.ofInt 64 a &&& BitVec.ofInt 64 b).toNat : Int) ∧ IntKind.i64.wrap ((BitVec.ofInt 64 a &&& BitVec.ofInt 64 b).toNat : Int) ≤ _
    rw [IntKind.wrap_i64]; omega

theorem xor_zero (a : Int) (h0 : -9223372036854775808 ≤ a) (h1 : a ≤ 9223372036854775807) : bits .xor .i64 a 0 = a := by
  show IntKind.i64.wrap ((BitVec.ofInt 64 a ^^^ BitVec.ofInt 64 0).toNat : Int) = a
  have e : BitVec.ofInt 64 a ^^^ BitVec.ofInt 64 0 = BitVec.ofInt 64 a := by
    show _ ^^^ 0#64 = _
    simp
  rw [e, toNat_of a h0 h1, IntKind.wrap_i64]
  split <;> omega

theorem xor_ones (a : Int) (h0 : -9223372036854775808 ≤ a) (h1 : a ≤ 9223372036854775807) : bits .xor .i64 a (-1) = -a - 1 := by
  show IntKind.i64.wrap ((BitVec.ofInt 64 a ^^^ BitVec.ofInt 64 (-1)).toNat : Int) = _
  have e : BitVec.ofInt 64 a ^^^ BitVec.ofInt 64 (-1) = ~~~ BitVec.ofInt 64 a := by
    have : BitVec.ofInt 64 (-1) = BitVec.allOnes 64 := by decide
    rw [this, BitVec.xor_allOnes]
  rw [e, BitVec.toNat_not, IntKind.wrap_i64]
  have hn := toNat_of a h0 h1
  have hl := (BitVec.ofInt 64 a).isLt
  split at hn <;> omega

theorem mask32 (x : Int) (h0 : 0 ≤ x) (h1 : x < 18446744073709551616) : bits .and .u64 x 4294967295 = x % 4294967296 := by
  obtain ⟨n, rfl⟩ := Int.eq_ofNat_of_zero_le h0
  rw [show (4294967295 : Int) = ((4294967295 : Nat) : Int) from rfl, u64_and_nat n 4294967295 (by omega) (by decide)]
  have := Nat.and_two_pow_sub_one_eq_mod n 32
  rw [show (4294967295 : Nat) = 2 ^ 32 - 1 from rfl, this]
  omega

theorem join32 (x y : Int) (hx0 : 0 ≤ x) (hx : x % 4294967296 = 0) (hx1 : x < 18446744073709551616) (hy0 : 0 ≤ y) (hy : y < 4294967296) : bits .or .u64 x y = x + y := by
  obtain ⟨n, rfl⟩ := Int.eq_ofNat_of_zero_le hx0
  obtain ⟨m, rfl⟩ := Int.eq_ofNat_of_zero_le hy0
  rw [u64_or_nat n m (by omega) (by omega), nat_join 32 n m (by omega) (by omega)]
  omega
end Go.Proofs.YtmkcooamgojbpaaDoor.Bits
