/- The document's numbers of 128 bits: Halves. -/
import Derived.Test.YtogjgpiddjmpiaaRef01V
import Derived.Test.YtogjgpiddjmpiaaBits
namespace Go.Proofs.Ytogjgpiddjmpiaa.Ref01
set_option linter.unusedVariables false
open Go.RowKit Go.Proofs.Ytogjgpiddjmpiaa.Kit Go.Proofs.Ytogjgpiddjmpiaa.Blk Go.Proofs.Ytogjgpiddjmpiaa.B128
attribute [local go_sem ↓] Go.wp_at_zero Go.wp_at_succ

theorem or_bit (lo k : Nat) (hlo : lo < 2 ^ k) (hk : k < 64) : Go.bits .or .u64 (lo : Int) (IntKind.u64.wrap (2 ^ k)) = ((lo + 2 ^ k : Nat) : Int) := by
  have h2 : 2 ^ k < 2 ^ 64 := Nat.pow_lt_pow_right (by decide) hk
  have e : IntKind.u64.wrap (2 ^ k) = ((2 ^ k : Nat) : Int) := by
    rw [show ((2 : Int) ^ k) = ((2 ^ k : Nat) : Int) from by simp]
    exact IntWalk.u64_in _ ⟨by omega, by omega⟩
  rw [e, Go.u64_or_nat lo (2 ^ k) (by omega) (by omega), or_two_pow lo k hlo]
theorem shift_bit (A k : Nat) : (A / 2 ^ 64).testBit k = A.testBit (k + 64) := by
  rw [Nat.testBit_div_two_pow]
theorem halves_next (x lo k : Nat) (b : Bool) (h : x % 2 ^ k = lo) (hb : x.testBit k = b) : lo < 2 ^ k ∧ x % 2 ^ (k + 1) = if b then lo + 2 ^ k else lo := by
  subst h hb
  refine ⟨Nat.mod_lt _ (Nat.two_pow_pos k), ?_⟩
  rw [low_next]
  cases x.testBit k <;> simp

set_option maxRecDepth 20000 in
set_option maxHeartbeats 4000000 in
theorem halves_any (A : Nat) (w : World) : Calls Try.prog 153 #[.agg (bitsB (BitVec.ofNat 128 A))] w fun e w' => e = .returned (.tuple #[.int .u64 ((A / 2 ^ 64 % 2 ^ 64 : Nat) : Int), .int .u64 ((A % 2 ^ 64 : Nat) : Int)]) ∧ Below w.heap.size w w' := by
  have HCA := Lib.hid (show ∀ k, k < 128 → (bitsB (BitVec.ofNat 128 A))[k]? = some (.bool (A.testBit k)) from fun k hk => by
    have h := row_at (fun i => (BitVec.ofNat 128 A).getLsbD i) k hk
    rw [BitVec.getLsbD_ofNat] at h
    simp only [hk, decide_true, Bool.true_and] at h
    exact h)
  generalize bitsB (BitVec.ofNat 128 A) = ba at *
  go_enter Try.func153, Try.ntmps153
  go_upto_region 2 with fail
  have HA := Lib.hid (Blk.new w ba 239 w.heap.size rfl)
  have HL := Lib.hid ((Below.refl w.heap.size w).alloc (Nat.le_refl _) (.cells ba 239))
  generalize w.alloc (.cells ba 239) = W at HA HL ⊢
  go_wp2_with fail
  go_loopw [4, 5, 6] (fun hi lo i wr => ∃ k : Nat, k ≤ 64 ∧ i = .int .i64 k ∧ hi = .int .u64 ((A / 2 ^ 64 % 2 ^ k : Nat) : Int) ∧ lo = .int .u64 ((A % 2 ^ k : Nat) : Int) ∧ Blk wr w.heap.size ba 239 ∧ Below w.heap.size w wr) (fun _ _ i _ => 64 - (intOf i).toNat)
  case atStart => exact ⟨0, by omega, rfl, by rw [Nat.pow_zero, Nat.mod_one]; rfl, by rw [Nat.pow_zero, Nat.mod_one]; rfl, HA.out, HL.out⟩
  case round =>
    clear HA HL
    obtain ⟨k, hk, rfl, rfl, rfl, ha, hl⟩ := hrel
    have HA := Lib.hid ha
    have HL := Lib.hid hl
    clear ha hl
    by_cases hlt : k < 64
    · have g0 : (0 : Int) ≤ (k : Int) := by omega
      have g1 : (k : Int) < 64 := by omega
      have g3 : IntKind.i64.wrap ((k : Int) + 64) = ((k + 64 : Nat) : Int) := by
        rw [IntWalk.i64_in _ ⟨by omega, by omega⟩]; rfl
      have c1 : wr.cell? ⟨w.heap.size, k, none⟩ = some (.bool (A.testBit k)) := HA.out.cell k (HCA.out k (by omega))
      have c2 : wr.cell? ⟨w.heap.size, k + 64, none⟩ = some (.bool (A.testBit (k + 64))) := HA.out.cell (k + 64) (HCA.out (k + 64) (by omega))
      have HB1 := Lib.hid (fun b h => halves_next A _ k b rfl h)
      have HB2 := Lib.hid (fun b h => halves_next (A / 2 ^ 64) _ k b rfl ((shift_bit A k).trans h))
      generalize A % 2 ^ k = lo at HB1 ⊢
      generalize A / 2 ^ 64 % 2 ^ k = hi at HB2 ⊢
      cases hb1 : A.testBit k with
      | true =>
        rw [hb1] at c1
        replace HB1 := Lib.hid (HB1.out true hb1)
        clear hb1
        cases hb2 : A.testBit (k + 64) with
        | true =>
          rw [hb2] at c2
          replace HB2 := Lib.hid (HB2.out true hb2)
          clear hb2
          go_wp2
          go_roundw
          case rel => exact ⟨k + 1, by omega, by go_num, by rw [HB2.out.2]; first | rfl | exact congrArg (Value.int .u64) (or_bit hi k HB2.out.1 hlt), by rw [HB1.out.2]; first | rfl | exact congrArg (Value.int .u64) (or_bit lo k HB1.out.1 hlt), HA.out, HL.out⟩
          case measure => simp [intOf]; omega
        | false =>
          rw [hb2] at c2
          replace HB2 := Lib.hid (HB2.out false hb2)
          clear hb2
          go_wp2
          go_roundw
          case rel => exact ⟨k + 1, by omega, by go_num, by rw [HB2.out.2]; first | rfl | exact congrArg (Value.int .u64) (or_bit hi k HB2.out.1 hlt), by rw [HB1.out.2]; first | rfl | exact congrArg (Value.int .u64) (or_bit lo k HB1.out.1 hlt), HA.out, HL.out⟩
          case measure => simp [intOf]; omega
      | false =>
        rw [hb1] at c1
        replace HB1 := Lib.hid (HB1.out false hb1)
        clear hb1
        cases hb2 : A.testBit (k + 64) with
        | true =>
          rw [hb2] at c2
          replace HB2 := Lib.hid (HB2.out true hb2)
          clear hb2
          go_wp2
          go_roundw
          case rel => exact ⟨k + 1, by omega, by go_num, by rw [HB2.out.2]; first | rfl | exact congrArg (Value.int .u64) (or_bit hi k HB2.out.1 hlt), by rw [HB1.out.2]; first | rfl | exact congrArg (Value.int .u64) (or_bit lo k HB1.out.1 hlt), HA.out, HL.out⟩
          case measure => simp [intOf]; omega
        | false =>
          rw [hb2] at c2
          replace HB2 := Lib.hid (HB2.out false hb2)
          clear hb2
          go_wp2
          go_roundw
          case rel => exact ⟨k + 1, by omega, by go_num, by rw [HB2.out.2]; first | rfl | exact congrArg (Value.int .u64) (or_bit hi k HB2.out.1 hlt), by rw [HB1.out.2]; first | rfl | exact congrArg (Value.int .u64) (or_bit lo k HB1.out.1 hlt), HA.out, HL.out⟩
          case measure => simp [intOf]; omega
    · have g1 : (64 : Int) ≤ (k : Int) := by omega
      obtain rfl : k = 64 := by omega
      go_wp2
      refine bodyPost_ret (v := .tuple #[.int .u64 ((A / 2 ^ 64 % 2 ^ 64 : Nat) : Int), .int .u64 ((A % 2 ^ 64 : Nat) : Int)]) (by simp [results, Try.results153, go_sem]) rfl ?_
      exact ⟨rfl, HL.out⟩
end Go.Proofs.Ytogjgpiddjmpiaa.Ref01
