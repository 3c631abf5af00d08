/- Numbers of 128 bits, bit by bit: plain laws. -/
import Derived.Test.YtogjgpiddjmpiaaKit
import Derived.IntWalk
namespace Go.Proofs.Ytogjgpiddjmpiaa.B128
set_option linter.unusedVariables false
open Go.RowKit

/-- 128 cells of a bool each. -/
def row (f : Nat → Bool) : Array Value := (Array.range 128).map fun i => Value.bool (f i)
theorem row_size (f : Nat → Bool) : (row f).size = 128 := by simp [row]
theorem row_at (f : Nat → Bool) (i : Nat) (h : i < 128) : (row f)[i]? = some (.bool (f i)) := by
  simp [row, h]
theorem row_set (f : Nat → Bool) (i : Nat) (b : Bool) : (row f).setIfInBounds i (.bool b) = row (fun j => if j = i then b else f j) := by
  apply Array.ext
  · simp [row]
  · intro j h1 h2
    simp only [Array.size_setIfInBounds, row_size] at h1
    rw [Array.getElem_setIfInBounds (by simpa [row_size] using h1)]
    simp only [row, Array.getElem_map, Array.getElem_range]
    by_cases e : i = j
    · subst e; simp
    · rw [if_neg e, if_neg (fun h => e h.symm)]
theorem row_ext {f g : Nat → Bool} (h : ∀ i, i < 128 → f i = g i) : row f = row g := by
  apply Array.ext
  · simp [row]
  · intro j h1 h2
    simp only [row_size] at h1
    simp [row, h j h1]
theorem row_one (f : Nat → Bool) : (row f).all (·.oneCell') = true := by
  rw [Array.all_eq_true]
  intro i hi
  simp [row, Value.oneCell']

abbrev B := BitVec 128
def bitsB (x : B) : Array Value := row x.getLsbD
theorem bits_size (x : B) : (bitsB x).size = 128 := row_size _
theorem bits_one (x : B) : (bitsB x).all (·.oneCell') = true := row_one _
theorem bits_of (x : B) (f : Nat → Bool) (h : ∀ i, i < 128 → f i = x.getLsbD i) : row f = bitsB x := row_ext h
theorem bits_zero : bitsB 0#128 = row (fun _ => false) := row_ext (fun i _ => by simp)

/-- The carry at bit i of a + b. -/
theorem add_bit (a b : B) (i : Nat) (h : i < 128) : (a + b).getLsbD i = ((a.getLsbD i ^^ b.getLsbD i) ^^ BitVec.carry i a b false) := by
  rw [BitVec.getLsbD_add h]
  cases a.getLsbD i <;> cases b.getLsbD i <;> cases BitVec.carry i a b false <;> rfl
theorem carry_next (a b : B) (i : Nat) : BitVec.carry (i + 1) a b false = ((a.getLsbD i && b.getLsbD i) || (BitVec.carry i a b false && (a.getLsbD i || b.getLsbD i))) := by
  rw [BitVec.carry_succ]
  cases a.getLsbD i <;> cases b.getLsbD i <;> cases BitVec.carry i a b false <;> rfl
theorem carry_zero (a b : B) : BitVec.carry 0 a b false = false := by simp [BitVec.carry, Nat.mod_one]
theorem carry_all (a b : B) : BitVec.carry 128 a b false = decide (2 ^ 128 ≤ a.toNat + b.toNat) := by
  simp [BitVec.carry, Nat.mod_eq_of_lt a.isLt, Nat.mod_eq_of_lt b.isLt]

theorem bit_div (x i : Nat) : x / 2 ^ i = 2 * (x / 2 ^ (i + 1)) + (if x.testBit i then 1 else 0) := by
  rw [Nat.testBit_eq_decide_div_mod_eq, Nat.pow_succ, ← Nat.div_div_eq_div_mul]
  by_cases h : x / 2 ^ i % 2 = 1
  · simp [h]; omega
  · simp [h]; omega
theorem div_eq (x y i : Nat) (h : ∀ j, i ≤ j → x.testBit j = y.testBit j) : x / 2 ^ i = y / 2 ^ i := by
  apply Nat.eq_of_testBit_eq
  intro j
  rw [Nat.testBit_div_two_pow, Nat.testBit_div_two_pow]
  exact h _ (by omega)
theorem cmp_lt (a b : B) (i : Nat) (h : ∀ j, i < j → a.getLsbD j = b.getLsbD j) (ha : a.getLsbD i = false) (hb : b.getLsbD i = true) : a.toNat < b.toNat := by
  rcases Nat.lt_or_ge a.toNat b.toNat with hlt | hge
  · exact hlt
  · exfalso
    have e := div_eq a.toNat b.toNat (i + 1) (fun j hj => by rw [BitVec.testBit_toNat, BitVec.testBit_toNat]; exact h j (by omega))
    have e1 := bit_div a.toNat i
    have e2 := bit_div b.toNat i
    rw [BitVec.testBit_toNat, ha] at e1
    rw [BitVec.testBit_toNat, hb] at e2
    have := Nat.div_le_div_right (c := 2 ^ i) hge
    simp at e1 e2
    omega
theorem cmp_eq (a b : B) (h : ∀ j, j < 128 → a.getLsbD j = b.getLsbD j) : a = b := BitVec.eq_of_getLsbD_eq h

/-- -1, 0, 1. -/
def cmp (a b : B) : Int := if a.toNat < b.toNat then -1 else if a.toNat = b.toNat then 0 else 1

theorem of_bit (hi lo : Nat) (hlo : lo < 2 ^ 64) (i : Nat) : (BitVec.ofNat 128 (hi * 2 ^ 64 + lo)).getLsbD i = if i < 64 then lo.testBit i else (decide (i < 128) && hi.testBit (i - 64)) := by
  rw [BitVec.getLsbD_ofNat]
  by_cases h : i < 64
  · rw [if_pos h, Nat.mul_comm, Nat.testBit_two_pow_mul_add _ hlo, if_pos h]
    simp; omega
  · rw [if_neg h, Nat.mul_comm, Nat.testBit_two_pow_mul_add _ hlo, if_neg h]

/-- The number of the low 64 bits below i, and of the high ones. -/
theorem low_next (n i : Nat) : n % 2 ^ (i + 1) = n % 2 ^ i + (if n.testBit i then 2 ^ i else 0) := by
  rw [Nat.mod_pow_succ, Nat.testBit_eq_decide_div_mod_eq]
  have h2 : n / 2 ^ i % 2 < 2 := Nat.mod_lt _ (by decide)
  by_cases h : n / 2 ^ i % 2 = 1
  · simp [h]
  · have h0 : n / 2 ^ i % 2 = 0 := by omega
    simp [h0]
theorem bit_int (n k : Nat) (hn : n < 2 ^ 64) : (Go.bits .and .u64 ((n : Int) / 2 ^ k) 1 == 1) = n.testBit k := by
  have e : ((n : Int) / 2 ^ k) = ((n / 2 ^ k : Nat) : Int) := by simp
  have hlt : n / 2 ^ k < 2 ^ 64 := Nat.lt_of_le_of_lt (Nat.div_le_self _ _) hn
  have h1 : Go.bits .and .u64 ((n / 2 ^ k : Nat) : Int) ((1 : Nat) : Int) = ((n / 2 ^ k &&& 1 : Nat) : Int) := by
    show IntKind.u64.wrap ((BitVec.ofInt 64 ((n / 2 ^ k : Nat) : Int) &&& BitVec.ofInt 64 ((1 : Nat) : Int)).toNat : Int) = _
    rw [BitVec.toNat_and, BitVec.ofInt_natCast, BitVec.ofInt_natCast, BitVec.toNat_ofNat, BitVec.toNat_ofNat, Nat.mod_eq_of_lt hlt, Nat.mod_eq_of_lt (by decide)]
    have hle : n / 2 ^ k &&& 1 ≤ 1 := Nat.and_le_right
    exact IntWalk.u64_in _ ⟨by omega, by omega⟩
  rw [e, show (1 : Int) = ((1 : Nat) : Int) from rfl, h1, Nat.testBit_eq_decide_div_mod_eq, Nat.and_one_is_mod]
  have h2 : n / 2 ^ k % 2 < 2 := Nat.mod_lt _ (by decide)
  by_cases h : n / 2 ^ k % 2 = 1
  · simp [h]
  · have h0 : n / 2 ^ k % 2 = 0 := by omega
    simp [h0]
theorem sub_as (a b : B) : a + (~~~b + BitVec.ofNat 128 (0 * 2 ^ 64 + 1)) = a - b := by
  rw [BitVec.sub_eq_add_neg, BitVec.neg_eq_not_add]
theorem cmp_ge (a b : B) : decide (0 ≤ cmp a b) = decide (b.toNat ≤ a.toNat) := by
  unfold cmp
  by_cases h1 : a.toNat < b.toNat
  · rw [if_pos h1]; have : ¬ b.toNat ≤ a.toNat := by omega
    simp [this]
  · rw [if_neg h1]
    have h3 : b.toNat ≤ a.toNat := by omega
    by_cases h2 : a.toNat = b.toNat
    · rw [if_pos h2]; simp [h3]
    · rw [if_neg h2]; simp [h3]
theorem mod_mul_l (a b m : Nat) : (a % m * b) % m = (a * b) % m := by
  rw [Nat.mul_mod, Nat.mod_mod, ← Nat.mul_mod]
/-- One step of a product. -/
theorem mul_step (a b k : Nat) : BitVec.ofNat 128 (a * (b % 2 ^ k)) + (BitVec.ofNat 128 (0 * 2 ^ 64 + a) <<< k) = BitVec.ofNat 128 (a * (b % 2 ^ k + 2 ^ k)) := by
  apply BitVec.eq_of_toNat_eq
  simp only [BitVec.toNat_add, BitVec.toNat_ofNat, BitVec.toNat_shiftLeft, Nat.zero_mul, Nat.zero_add, Nat.shiftLeft_eq]
  rw [Nat.mul_add, Nat.add_mod (a * (b % 2 ^ k) % 2 ^ 128), Nat.mod_mod, Nat.mod_mod, ← Nat.add_mod]
  rw [Nat.add_mod, mod_mul_l , ← Nat.add_mod]
/-- Halves of a number's bits, up to bit k. -/
theorem or_two_pow (x k : Nat) (h : x < 2 ^ k) : x ||| 2 ^ k = x + 2 ^ k := by
  have := Nat.two_pow_add_eq_or_of_lt h 1
  simp at this
  rw [Nat.or_comm, ← this, Nat.add_comm]
theorem shl_one (L : Nat) : BitVec.ofNat 128 L <<< (1 : Nat) = BitVec.ofNat 128 (2 * L) := by
  apply BitVec.eq_of_toNat_eq
  simp only [BitVec.toNat_ofNat, BitVec.toNat_shiftLeft, Nat.shiftLeft_eq]
  rw [mod_mul_l, Nat.mul_comm]
theorem set_low (L : Nat) (b : Bool) : row (fun j => if j = 0 then b else (BitVec.ofNat 128 (2 * L)).getLsbD j) = bitsB (BitVec.ofNat 128 (2 * L + b.toNat)) := row_ext (fun j hj => by
  rw [BitVec.getLsbD_ofNat, BitVec.getLsbD_ofNat]
  cases j with
  | zero => cases b <;> simp <;> omega
  | succ j =>
    rw [if_neg (by omega), Nat.testBit_succ, Nat.testBit_succ]
    have e1 : 2 * L / 2 = L := by omega
    have e2 : (2 * L + b.toNat) / 2 = L := by cases b <;> simp <;> omega
    rw [e1, e2])
/-- One step of a division. -/
theorem div_step (A d n : Nat) (hd : 0 < d) : (A / 2 ^ n) % d = (if d ≤ 2 * (A / 2 ^ (n + 1) % d) + (A.testBit n).toNat then 2 * (A / 2 ^ (n + 1) % d) + (A.testBit n).toNat - d else 2 * (A / 2 ^ (n + 1) % d) + (A.testBit n).toNat) ∧
    (A / d).testBit n = decide (d ≤ 2 * (A / 2 ^ (n + 1) % d) + (A.testBit n).toNat) := by
  have e := bit_div A n
  have hb : (if A.testBit n = true then 1 else 0) = (A.testBit n).toNat := by cases A.testBit n <;> rfl
  rw [hb] at e
  have hb1 : (A.testBit n).toNat ≤ 1 := by cases A.testBit n <;> simp
  generalize (A.testBit n).toNat = b at e hb1
  have hq : (A / d).testBit n = decide ((A / 2 ^ n) / d % 2 = 1) := by
    rw [Nat.testBit_eq_decide_div_mod_eq, Nat.div_div_eq_div_mul, Nat.div_div_eq_div_mul, Nat.mul_comm d]
  rw [hq, e]
  generalize A / 2 ^ (n + 1) = Y
  have hy := Nat.div_add_mod Y d
  have hlt := Nat.mod_lt Y hd
  generalize Y % d = L at hy hlt
  generalize Y / d = Q at hy
  have e2 : 2 * Y + b = d * (2 * Q) + (2 * L + b) := by rw [← hy, Nat.mul_add, Nat.mul_left_comm, Nat.add_assoc]
  rw [e2, Nat.mul_add_mod, Nat.mul_add_div hd]
  by_cases h : d ≤ 2 * L + b
  · rw [if_pos h]
    have h1 : (2 * L + b) / d = 1 := Nat.div_eq_of_lt_le (by omega) (by omega)
    have h2 : (2 * L + b) % d = 2 * L + b - d := by
      have := Nat.div_add_mod (2 * L + b) d
      rw [h1] at this; omega
    refine ⟨h2, ?_⟩
    rw [h1]; simp [h]
  · rw [if_neg h]
    have h1 : (2 * L + b) / d = 0 := Nat.div_eq_of_lt (by omega)
    refine ⟨Nat.mod_eq_of_lt (by omega), ?_⟩
    rw [h1]; simp [h]
end Go.Proofs.Ytogjgpiddjmpiaa.B128
