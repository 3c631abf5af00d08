/- Parts of the proof: WideN. -/
import Derived.Test.YtogjgpiddjmpiaaPart9
import Derived.Test.YtogjgpiddjmpiaaPart3
import Derived.Deep.RegionHeld3

/- Numbers of 128 bits: Add, length, Len. -/
namespace Go.Proofs.Ytogjgpiddjmpiaa.WideN
set_option linter.unusedVariables false
open Go.RowKit Go.Proofs.Ytogjgpiddjmpiaa.Kit Go.Proofs.Ytogjgpiddjmpiaa.Blk

/-- A wide number. -/
def WN (n : Nat) : Value := .agg #[.int .u64 (n / 18446744073709551616 : Int), .int .u64 (n % 18446744073709551616 : Int)]

theorem add_int (ah al bh bl : Int) (h1 : 0 ≤ ah) (h2 : 0 ≤ al) (h3 : al < 18446744073709551616) (h4 : 0 ≤ bh) (h5 : 0 ≤ bl) (h6 : bl < 18446744073709551616)
    (hs : ah * 18446744073709551616 + al + (bh * 18446744073709551616 + bl) < 340282366920938463463374607431768211456) (w : World) :
    Calls Try.prog 77 #[.agg #[.int .u64 ah, .int .u64 al], .agg #[.int .u64 bh, .int .u64 bl]] w fun e w' =>
      e = .returned (.tuple #[.agg #[.int .u64 ((ah * 18446744073709551616 + al + (bh * 18446744073709551616 + bl)) / 18446744073709551616), .int .u64 ((ah * 18446744073709551616 + al + (bh * 18446744073709551616 + bl)) % 18446744073709551616)], .bool true]) ∧ Below w.heap.size w w' := by
  have e1 : IntKind.u64.wrap (ah + bh) = ah + bh := Wide.u64_of _ (by omega) (by omega)
  have e2 : ¬ (ah + bh < ah) := by omega
  by_cases hc : al + bl < 18446744073709551616
  · have e3 : IntKind.u64.wrap (al + bl) = al + bl := Wide.u64_of _ (by omega) (by omega)
    have e4 : ¬ (al + bl < al) := by omega
    have HR := Lib.hid (show (ah * 18446744073709551616 + al + (bh * 18446744073709551616 + bl)) / 18446744073709551616 = ah + bh ∧ (ah * 18446744073709551616 + al + (bh * 18446744073709551616 + bl)) % 18446744073709551616 = al + bl from ⟨by omega, by omega⟩)
    clear hs hc
    go_enter Try.func77, Try.ntmps77
    go_wp2
    refine bodyPost_ret (v := .tuple #[.agg #[.int .u64 (ah + bh), .int .u64 (al + bl)], .bool true]) (by simp [results, Try.results77, go_sem]) rfl ?_
    exact ⟨by rw [HR.out.1, HR.out.2], ((((Below.refl w.heap.size w).alloc (Nat.le_refl _) _).alloc (by simp) _).alloc (by simp; omega) _).alloc (by simp; omega) _⟩
  · have e3 : IntKind.u64.wrap (al + bl) = al + bl - 18446744073709551616 := by
      have h := IntWalk.u64_in (al + bl - 18446744073709551616) ⟨by omega, by omega⟩
      rw [← h]; unfold IntKind.wrap; simp [IntKind.bits, IntKind.signed]; try omega
    have e4 : al + bl - 18446744073709551616 < al := by omega
    have e5 : IntKind.u64.wrap (ah + bh + 1) = ah + bh + 1 := Wide.u64_of _ (by omega) (by omega)
    have e6 : ¬ (ah + bh + 1 = 0) := by omega
    have HR := Lib.hid (show (ah * 18446744073709551616 + al + (bh * 18446744073709551616 + bl)) / 18446744073709551616 = ah + bh + 1 ∧ (ah * 18446744073709551616 + al + (bh * 18446744073709551616 + bl)) % 18446744073709551616 = al + bl - 18446744073709551616 from ⟨by omega, by omega⟩)
    clear hs hc
    go_enter Try.func77, Try.ntmps77
    go_wp2
    refine bodyPost_ret (v := .tuple #[.agg #[.int .u64 (ah + bh + 1), .int .u64 (al + bl - 18446744073709551616)], .bool true]) (by simp [results, Try.results77, go_sem]; exact e6) rfl ?_
    exact ⟨by rw [HR.out.1, HR.out.2], ((((Below.refl w.heap.size w).alloc (Nat.le_refl _) _).alloc (by simp) _).alloc (by simp; omega) _).alloc (by simp; omega) _⟩

/-- A word's length. -/
def LenIs (n : Nat) (e : Ending) : Prop := ∃ k : Nat, k ≤ 64 ∧ n < 2 ^ k ∧ e = .returned (.int .i64 k)
theorem length_any (n : Nat) (hn : n < 2 ^ 64) (w : World) : Calls Try.prog 193 #[.int .u64 n] w fun e w' => LenIs n e ∧ w = w' := by
  go_enter Try.func193, Try.ntmps193
  go_wp2_with fail
  go_loopw [0, 2] (fun x i wr => ∃ k : Nat, k ≤ 64 ∧ i = .int .i64 k ∧ x = .int .u64 ((n / 2 ^ k : Nat) : Int) ∧ w = wr) (fun x _ _ => (intOf x).toNat)
  case atStart => exact ⟨0, by omega, rfl, by rw [Nat.pow_zero, Nat.div_one], rfl⟩
  case round =>
    obtain ⟨k, hk, rfl, rfl, rfl⟩ := hrel
    have HN := Lib.hid (show n / 2 ^ (k + 1) = n / 2 ^ k / 2 by rw [Nat.pow_succ, Nat.div_div_eq_div_mul])
    have H64 := Lib.hid (show n / 2 ^ k = 0 → n < 2 ^ k from fun h => (Nat.div_eq_zero_iff_lt (Nat.two_pow_pos k)).1 h)
    have hk64 : n / 2 ^ k ≠ 0 → k < 64 := fun h => by
      rcases Nat.lt_or_ge k 64 with h' | h'
      · exact h'
      · exact absurd (Nat.div_eq_of_lt (Nat.lt_of_lt_of_le hn (Nat.pow_le_pow_right (by decide) h'))) h
    generalize n / 2 ^ k = x at *
    by_cases h0 : x = 0
    · have hx : ((x : Int) = 0) := by omega
      have HF := Lib.hid (H64.out h0)
      clear hk64 H64 HN
      go_wp2
      refine bodyPost_ret (v := .int .i64 k) (by simp [results, Try.results193, go_sem]) rfl ?_
      exact ⟨⟨k, hk, HF.out, rfl⟩, rfl⟩
    · have hx : ¬ ((x : Int) = 0) := by omega
      have hk' := hk64 h0
      clear hk64 H64
      go_wp2
      go_roundw
      case rel => exact ⟨k + 1, by omega, by go_num, by rw [HN.out]; simp, trivial⟩
      case measure => simp [intOf]; omega
end Go.Proofs.Ytogjgpiddjmpiaa.WideN
