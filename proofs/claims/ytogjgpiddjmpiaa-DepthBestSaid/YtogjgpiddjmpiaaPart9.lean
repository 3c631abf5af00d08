/- Parts of the proof: Wide. -/
import Derived.Test.YtogjgpiddjmpiaaPart1
import Derived.Test.YtogjgpiddjmpiaaPart8

/- wide.Mul: the product of two words, as two words. -/
namespace Go.Proofs.Ytogjgpiddjmpiaa.Wide
set_option linter.unusedVariables false
open Go.RowKit Go.Proofs.Ytogjgpiddjmpiaa.Kit Go.Proofs.Ytogjgpiddjmpiaa.Bits

theorem u64_of (n : Int) (h0 : 0 ≤ n) (h1 : n < 18446744073709551616) : IntKind.u64.wrap n = n := IntWalk.u64_in n ⟨h0, by omega⟩

theorem mul_lt (a b : Int) (ha0 : 0 ≤ a) (ha : a ≤ 4294967295) (hb0 : 0 ≤ b) (hb : b ≤ 4294967295) : 0 ≤ a * b ∧ a * b ≤ 18446744065119617025 :=
  ⟨Int.mul_nonneg ha0 hb0, Int.le_trans (Int.mul_le_mul ha hb hb0 (by decide)) (by decide)⟩

/-- The four products, put together. -/
theorem parts (a b : Int) : a * b = a / 4294967296 * (b / 4294967296) * 18446744073709551616 + (a / 4294967296 * (b % 4294967296) + a % 4294967296 * (b / 4294967296)) * 4294967296 + a % 4294967296 * (b % 4294967296) := by
  have ha : a = a / 4294967296 * 4294967296 + a % 4294967296 := by omega
  have hb : b = b / 4294967296 * 4294967296 + b % 4294967296 := by omega
  generalize a / 4294967296 = x at *
  generalize a % 4294967296 = y at *
  generalize b / 4294967296 = u at *
  generalize b % 4294967296 = v at *
  subst ha hb
  rw [Int.add_mul, Int.mul_add, Int.mul_add]
  have e1 : x * 4294967296 * (u * 4294967296) = x * u * 18446744073709551616 := by
    rw [Int.mul_assoc x, Int.mul_left_comm 4294967296 u, ← Int.mul_assoc x u]; rfl
  have e2 : x * 4294967296 * v = x * v * 4294967296 := by rw [Int.mul_assoc, Int.mul_comm 4294967296 v, ← Int.mul_assoc]
  have e3 : y * (u * 4294967296) = y * u * 4294967296 := by rw [← Int.mul_assoc]
  rw [e1, e2, e3]
  omega

def lowOf (a b : Int) : Int := IntKind.u64.wrap (bits .and .u64 a 4294967295 * bits .and .u64 b 4294967295)
def midOf (a b : Int) : Int := IntKind.u64.wrap (IntKind.u64.wrap (a / 4294967296 * bits .and .u64 b 4294967295) + lowOf a b / 4294967296)
def otherOf (a b : Int) : Int := IntKind.u64.wrap (IntKind.u64.wrap (bits .and .u64 a 4294967295 * (b / 4294967296)) + bits .and .u64 (midOf a b) 4294967295)
def hiOf (a b : Int) : Int := IntKind.u64.wrap (IntKind.u64.wrap (IntKind.u64.wrap (a / 4294967296 * (b / 4294967296)) + midOf a b / 4294967296) + otherOf a b / 4294967296)
def loOf (a b : Int) : Int := bits .or .u64 (IntKind.u64.wrap (otherOf a b * 4294967296)) (bits .and .u64 (lowOf a b) 4294967295)

theorem mul_eq (a b : Int) (ha0 : 0 ≤ a) (ha : a < 18446744073709551616) (hb0 : 0 ≤ b) (hb : b < 18446744073709551616) :
    hiOf a b = a * b / 18446744073709551616 ∧ loOf a b = a * b % 18446744073709551616 := by
  have hp := parts a b
  have m1 := mul_lt (a / 4294967296) (b / 4294967296) (by omega) (by omega) (by omega) (by omega)
  have m2 := mul_lt (a / 4294967296) (b % 4294967296) (by omega) (by omega) (by omega) (by omega)
  have m3 := mul_lt (a % 4294967296) (b / 4294967296) (by omega) (by omega) (by omega) (by omega)
  have m4 := mul_lt (a % 4294967296) (b % 4294967296) (by omega) (by omega) (by omega) (by omega)
  have e4 : lowOf a b = a % 4294967296 * (b % 4294967296) := by
    unfold lowOf; rw [mask32 a ha0 ha, mask32 b hb0 hb, u64_of _ m4.1 (by omega)]
  generalize hA : a % 4294967296 * (b % 4294967296) = p4 at *
  have e2 : midOf a b = a / 4294967296 * (b % 4294967296) + p4 / 4294967296 := by
    unfold midOf; rw [e4, mask32 b hb0 hb, u64_of (a / 4294967296 * (b % 4294967296)) m2.1 (by omega), u64_of _ (by omega) (by omega)]
  generalize hB : a / 4294967296 * (b % 4294967296) = p2 at *
  have e3 : otherOf a b = a % 4294967296 * (b / 4294967296) + (p2 + p4 / 4294967296) % 4294967296 := by
    unfold otherOf; rw [e2, mask32 a ha0 ha, mask32 (p2 + p4 / 4294967296) (by omega) (by omega), u64_of (a % 4294967296 * (b / 4294967296)) m3.1 (by omega), u64_of _ (by omega) (by omega)]
  generalize hC : a % 4294967296 * (b / 4294967296) = p3 at *
  have e1 : hiOf a b = a / 4294967296 * (b / 4294967296) + (p2 + p4 / 4294967296) / 4294967296 + (p3 + (p2 + p4 / 4294967296) % 4294967296) / 4294967296 := by
    unfold hiOf; rw [e2, e3, u64_of (a / 4294967296 * (b / 4294967296)) m1.1 (by omega), u64_of (a / 4294967296 * (b / 4294967296) + (p2 + p4 / 4294967296) / 4294967296) (by omega) (by omega), u64_of _ (by omega) (by omega)]
  generalize hD : a / 4294967296 * (b / 4294967296) = p1 at *
  have e0 : loOf a b = (p3 + (p2 + p4 / 4294967296) % 4294967296) % 4294967296 * 4294967296 + p4 % 4294967296 := by
    unfold loOf
    rw [e3, e4, mask32 p4 m4.1 (by omega)]
    have : IntKind.u64.wrap ((p3 + (p2 + p4 / 4294967296) % 4294967296) * 4294967296) = (p3 + (p2 + p4 / 4294967296) % 4294967296) % 4294967296 * 4294967296 := by
      rw [IntKind.wrap_u64]; omega
    rw [this, join32 _ _ (by omega) (by omega) (by omega) (by omega) (by omega)]
  clear hA hB hC hD e2 e3 e4 ha hb ha0 hb0
  generalize a * b = p at *
  rw [e1, e0]
  clear e1 e0
  omega

/-- A wide number as a value. -/
def W (hi lo : Int) : Value := .agg #[.int .u64 hi, .int .u64 lo]

theorem mul_any (a b : Int) (w : World) (ha0 : 0 ≤ a) (ha : a < 18446744073709551616) (hb0 : 0 ≤ b) (hb : b < 18446744073709551616) :
    Calls Try.prog 76 #[.int .u64 a, .int .u64 b] w fun e w' =>
      e = .returned (.agg #[.int .u64 (a * b / 18446744073709551616), .int .u64 (a * b % 18446744073709551616)]) ∧ Below w.heap.size w w' := by
  have H := Lib.hid (mul_eq a b ha0 ha hb0 hb)
  go_enter Try.func76, Try.ntmps76
  go_wp2
  refine bodyPost_ret (v := .agg #[.int .u64 (hiOf a b), .int .u64 (loOf a b)]) (by simp [results, Try.results76, go_sem]; exact ⟨rfl, rfl⟩) rfl ⟨by rw [H.out.1, H.out.2], (Below.refl _ _).alloc (Nat.le_refl _) _⟩
end Go.Proofs.Ytogjgpiddjmpiaa.Wide
