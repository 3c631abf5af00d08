/- Parts of the proof: WideR, WideL, WideV, TapeMean. -/
import Derived.Test.YtogjgpiddjmpiaaPart10
import Derived.Test.YtogjgpiddjmpiaaPart2
import Derived.Deep.CutBlock
import Derived.Deep.DeepCutAuto
import Derived.Deep.RegionHeld3
import Derived.WalkMore

/- Numbers of 128 bits: Len, Right, Left of one. -/
namespace Go.Proofs.Ytogjgpiddjmpiaa.WideN
set_option linter.unusedVariables false
open Go.RowKit Go.Proofs.Ytogjgpiddjmpiaa.Kit Go.Proofs.Ytogjgpiddjmpiaa.Blk

/-- A wide number of two words. -/
def WP (hi lo : Nat) : Value := .agg #[.int .u64 hi, .int .u64 lo]

def Len2Is (n : Nat) (e : Ending) : Prop := ∃ k : Nat, k ≤ 128 ∧ n < 2 ^ k ∧ e = .returned (.int .i64 k)
theorem len_any (hi lo : Nat) (h1 : hi < 18446744073709551616) (h2 : lo < 18446744073709551616) (w : World) : Calls Try.prog 154 #[.agg #[.int .u64 hi, .int .u64 lo]] w fun e w' => Len2Is (hi * 18446744073709551616 + lo) e ∧ Below w.heap.size w w' := by
  have HL := Lib.hid (fun x h w => length_any x h w)
  by_cases h0 : hi = 0
  · subst h0
    go_enter Try.func154, Try.ntmps154
    go_wp2_with fail
    refine (HL.out lo (by omega) _).mono ?_
    rintro e w1 ⟨⟨k, hk, hn, rfl⟩, rfl⟩
    go_wp2
    refine bodyPost_ret (v := .int .i64 k) (by simp [results, Try.results154, go_sem]) rfl ?_
    exact ⟨⟨k, by omega, by rw [Nat.zero_mul, Nat.zero_add]; exact hn, rfl⟩, (Below.refl w.heap.size w).alloc (Nat.le_refl _) _⟩
  · have hx : ¬ ((hi : Int) = 0) := by omega
    go_enter Try.func154, Try.ntmps154
    go_wp2_with fail
    refine (HL.out hi (by omega) _).mono ?_
    rintro e w1 ⟨⟨k, hk, hn, rfl⟩, rfl⟩
    have e1 : IntKind.i64.wrap (64 + (k : Int)) = ((k + 64 : Nat) : Int) := by
      rw [IntWalk.i64_in _ ⟨by omega, by omega⟩, Int.add_comm]; rfl
    go_wp2
    refine bodyPost_ret (v := .int .i64 ((k + 64 : Nat) : Int)) (by simp [results, Try.results154, go_sem]) rfl ?_
    exact ⟨⟨k + 64, by omega, by
      have e : (2 : Nat) ^ (k + 64) = 2 ^ k * 18446744073709551616 := by rw [Nat.pow_add]
      rw [e]
      generalize 2 ^ k = p at *
      omega, rfl⟩, (Below.refl w.heap.size w).alloc (Nat.le_refl _) _⟩

theorem right_eq (hi lo k : Nat) (h1 : hi < 18446744073709551616) (h2 : lo < 18446744073709551616) :
    (k = 0 → (hi * 18446744073709551616 + lo) / 2 ^ k / 18446744073709551616 = hi ∧ (hi * 18446744073709551616 + lo) / 2 ^ k % 18446744073709551616 = lo) ∧
    (64 ≤ k → (hi * 18446744073709551616 + lo) / 2 ^ k / 18446744073709551616 = 0 ∧ (hi * 18446744073709551616 + lo) / 2 ^ k % 18446744073709551616 = hi / 2 ^ (k - 64)) ∧
    (k < 64 → (hi * 18446744073709551616 + lo) / 2 ^ k / 18446744073709551616 = hi / 2 ^ k ∧ (hi * 18446744073709551616 + lo) / 2 ^ k % 18446744073709551616 = lo / 2 ^ k ||| (hi * 2 ^ (64 - k)) % 18446744073709551616) := by
  refine ⟨?_, ?_, ?_⟩
  · rintro rfl
    rw [Nat.pow_zero, Nat.div_one]
    omega
  · intro h
    have e : (2 : Nat) ^ k = 18446744073709551616 * 2 ^ (k - 64) := by
      rw [show (18446744073709551616 : Nat) = 2 ^ 64 by decide, ← Nat.pow_add]; congr 1; omega
    have e2 : (hi * 18446744073709551616 + lo) / 2 ^ k = hi / 2 ^ (k - 64) := by
      rw [e, ← Nat.div_div_eq_div_mul]; congr 1; omega
    rw [e2]
    have hle : hi / 2 ^ (k - 64) ≤ hi := Nat.div_le_self _ _
    generalize hi / 2 ^ (k - 64) = z at *
    omega
  · intro h
    refine ⟨?_, ?_⟩
    · rw [Nat.div_div_eq_div_mul, Nat.mul_comm (2 ^ k), ← Nat.div_div_eq_div_mul]; congr 1; omega
    · have e : (18446744073709551616 : Nat) = 2 ^ (64 - k) * 2 ^ k := by
        rw [← Nat.pow_add, show 64 - k + k = 64 by omega]
      have hp : 0 < 2 ^ k := Nat.two_pow_pos k
      have hq : 0 < 2 ^ (64 - k) := Nat.two_pow_pos _
      have e1 : (hi * 18446744073709551616 + lo) / 2 ^ k = hi * 2 ^ (64 - k) + lo / 2 ^ k := by
        rw [e, ← Nat.mul_assoc, Nat.add_comm, Nat.add_mul_div_right _ _ hp, Nat.add_comm]
      have hlt : lo / 2 ^ k < 2 ^ (64 - k) := by
        rw [Nat.div_lt_iff_lt_mul hp, ← e]; exact h2
      have e3 : (hi * 2 ^ (64 - k)) % 18446744073709551616 = 2 ^ (64 - k) * (hi % 2 ^ k) := by
        rw [e, Nat.mul_comm hi, Nat.mul_mod_mul_left]
      have hm : hi % 2 ^ k < 2 ^ k := Nat.mod_lt _ hp
      rw [e1, e3, Nat.or_comm, ← Nat.two_pow_add_eq_or_of_lt hlt, ← e3]
      have hb : 2 ^ (64 - k) * (hi % 2 ^ k) + lo / 2 ^ k < 18446744073709551616 := by
        have : 2 ^ (64 - k) * (hi % 2 ^ k) + 2 ^ (64 - k) ≤ 2 ^ (64 - k) * 2 ^ k := by
          rw [← Nat.mul_succ]; exact Nat.mul_le_mul_left _ hm
        rw [e]; omega
      rw [← e3] at hb
      clear e1 e3 hm hlt e
      generalize hi * 2 ^ (64 - k) = H at *
      generalize lo / 2 ^ k = L at *
      omega

theorem right_or (hi lo k : Nat) (h2 : lo < 18446744073709551616) : Go.bits .or .u64 ((lo : Int) / 2 ^ k) (IntKind.u64.wrap ((hi : Int) * 2 ^ (64 - k))) = ((lo / 2 ^ k ||| (hi * 2 ^ (64 - k)) % 18446744073709551616 : Nat) : Int) := by
  have e1 : ((lo : Int) / 2 ^ k) = ((lo / 2 ^ k : Nat) : Int) := by
    rw [Int.natCast_ediv, Int.natCast_pow]; rfl
  have hle : lo / 2 ^ k ≤ lo := Nat.div_le_self _ _
  have e2 : ((hi : Int) * 2 ^ (64 - k)) = ((hi * 2 ^ (64 - k) : Nat) : Int) := by
    rw [Int.natCast_mul, Int.natCast_pow]; rfl
  rw [e1, e2]
  generalize lo / 2 ^ k = L at *
  generalize hi * 2 ^ (64 - k) = H at *
  have e3 : IntKind.u64.wrap (H : Int) = ((H % 18446744073709551616 : Nat) : Int) := by
    rw [IntKind.wrap_u64]; omega
  rw [e3, u64_or_nat _ _ (by omega) (by omega)]

set_option maxRecDepth 20000 in
theorem right_any (hi lo k : Nat) (h1 : hi < 18446744073709551616) (h2 : lo < 18446744073709551616) (hk : k < 128) (w : World) : Calls Try.prog 155 #[.agg #[.int .u64 hi, .int .u64 lo], .int .i64 k] w fun e w' =>
    e = .returned (.agg #[.int .u64 (((hi * 18446744073709551616 + lo) / 2 ^ k / 18446744073709551616 : Nat) : Int), .int .u64 (((hi * 18446744073709551616 + lo) / 2 ^ k % 18446744073709551616 : Nat) : Int)]) ∧ Below w.heap.size w w' := by
  have hlaw := right_eq hi lo k h1 h2
  generalize (hi * 18446744073709551616 + lo) / 2 ^ k / 18446744073709551616 = rh at *
  generalize (hi * 18446744073709551616 + lo) / 2 ^ k % 18446744073709551616 = rl at *
  by_cases h0 : k = 0
  · obtain ⟨rfl, rfl⟩ := hlaw.1 h0
    subst h0
    have g : ((0 : Nat) : Int) ≤ 0 := by omega
    clear hlaw
    go_enter Try.func155, Try.ntmps155
    go_wp2
    refine bodyPost_ret (v := .agg #[.int .u64 rh, .int .u64 rl]) (by simp [results, Try.results155, go_sem]) rfl ?_
    exact ⟨rfl, ((Below.refl w.heap.size w).alloc (Nat.le_refl _) _).alloc (by simp) _⟩
  · by_cases h64 : 64 ≤ k
    · obtain ⟨rfl, hl⟩ := hlaw.2.1 h64
      have g1 : ¬ ((k : Int) ≤ 0) := by omega
      have g2 : ¬ (128 ≤ (k : Int)) := by omega
      have g3 : (64 ≤ (k : Int)) := by omega
      have HL := Lib.hid (show (rl : Int) = (hi : Int) / 2 ^ (k - 64) by rw [hl]; simp)
      clear hlaw hl
      go_enter Try.func155, Try.ntmps155
      go_wp2
      refine bodyPost_ret (v := .agg #[.int .u64 0, .int .u64 ((hi : Int) / 2 ^ (k - 64))]) (by simp [results, Try.results155, go_sem]) rfl ?_
      exact ⟨by rw [HL.out], ((Below.refl w.heap.size w).alloc (Nat.le_refl _) _).alloc (by simp) _⟩
    · obtain ⟨rfl, hl⟩ := hlaw.2.2 (by omega)
      have g1 : ¬ ((k : Int) ≤ 0) := by omega
      have g2 : ¬ (128 ≤ (k : Int)) := by omega
      have g3 : ¬ (64 ≤ (k : Int)) := by omega
      have g4 : IntKind.i64.wrap (64 - (k : Int)) = ((64 - k : Nat) : Int) := by
        rw [IntWalk.i64_in _ ⟨by omega, by omega⟩]; omega
      have g5 := right_or hi lo k h2
      rw [← hl] at g5
      clear hlaw hl
      go_enter Try.func155, Try.ntmps155
      go_upto_region 7 with fail
      have HA := Lib.hid ((Blk.new w #[.int .u64 hi, .int .u64 lo] 144 w.heap.size rfl).old (.cells #[.int .u64 0, .int .u64 0] 144))
      have HB := Lib.hid (Blk.new (w.alloc (.cells #[.int .u64 hi, .int .u64 lo] 144)) #[.int .u64 0, .int .u64 0] 144 (w.heap.size + 1) (by simp))
      have HW := Lib.hid (((Below.refl w.heap.size w).alloc (Nat.le_refl _) (.cells #[.int .u64 hi, .int .u64 lo] 144)).alloc (by simp) (.cells #[.int .u64 0, .int .u64 0] 144))
      generalize (w.alloc (.cells #[.int .u64 hi, .int .u64 lo] 144)).alloc (.cells #[.int .u64 0, .int .u64 0] 144) = W at HA HB HW ⊢
      have c0 : W.cell? ⟨w.heap.size, 0, none⟩ = some (.int .u64 hi) := HA.out.cell 0 rfl
      have c1 : W.cell? ⟨w.heap.size, 1, none⟩ = some (.int .u64 lo) := HA.out.cell 1 rfl
      go_still_tail 15, (by kernel_rfl)
      change wpList _ _ _ _ _ W.drew
      refine store_blk rfl 144 _ _ rfl (w.heap.size + 1) rfl #[.int .u64 0, .int .u64 0] #[.int .u64 ((hi : Int) / 2 ^ k), .int .u64 rl] 144 HB.out.drew rfl rfl (by kernel_rfl) (by simp [Value.oneCell']) ?_
      have HB2 := Lib.hid (HB.out.drew.setCells #[.int .u64 ((hi : Int) / 2 ^ k), .int .u64 rl] rfl)
      have HW2 := Lib.hid (Blk.Below.setCells (B := w.heap.size + 1) (#[.int .u64 ((hi : Int) / 2 ^ k), .int .u64 rl] : Array Value).toList 0 _ HW.out.drew (by omega))
      generalize W.drew.setCells (w.heap.size + 1) 0 (#[.int .u64 ((hi : Int) / 2 ^ k), .int .u64 rl] : Array Value).toList = W2 at HB2 HW2 ⊢
      go_wp2
      refine bodyPost_ret (results_cell_row rfl _ _ _ _ _ (0, 0) _ rfl HB2.out Try.underlying144 rfl (by kernel_rfl)) rfl ?_
      exact ⟨by simp, HW2.out⟩

end Go.Proofs.Ytogjgpiddjmpiaa.WideN

/- Numbers of 128 bits: Left of one. -/
namespace Go.Proofs.Ytogjgpiddjmpiaa.WideN
set_option linter.unusedVariables false
open Go.RowKit Go.Proofs.Ytogjgpiddjmpiaa.Kit Go.Proofs.Ytogjgpiddjmpiaa.Blk

set_option maxRecDepth 20000 in
theorem left_one (k : Nat) (hk : k < 128) (w : World) : Calls Try.prog 156 #[.agg #[.int .u64 0, .int .u64 1], .int .i64 k] w fun e w' =>
    e = .returned (.agg #[.int .u64 ((if k < 64 then 0 else 2 ^ (k - 64) : Nat) : Int), .int .u64 ((if k < 64 then 2 ^ k else 0 : Nat) : Int)]) ∧ Below w.heap.size w w' := by
  by_cases h0 : k = 0
  · subst h0
    have g : ((0 : Nat) : Int) ≤ 0 := by omega
    go_enter Try.func156, Try.ntmps156
    go_wp2
    refine bodyPost_ret (v := .agg #[.int .u64 0, .int .u64 1]) (by simp [results, Try.results156, go_sem]) rfl ?_
    exact ⟨rfl, ((Below.refl w.heap.size w).alloc (Nat.le_refl _) _).alloc (by simp) _⟩
  · by_cases h64 : 64 ≤ k
    · have g1 : ¬ ((k : Int) ≤ 0) := by omega
      have g2 : ¬ (128 ≤ (k : Int)) := by omega
      have g3 : (64 ≤ (k : Int)) := by omega
      rw [if_neg (by omega), if_neg (by omega)]
      have h2 : 2 ^ (k - 64) < 2 ^ 64 := Nat.pow_lt_pow_right (by decide) (by omega)
      have g5 : IntKind.u64.wrap ((2 : Int) ^ (k - 64)) = ((2 ^ (k - 64) : Nat) : Int) := by
        rw [show ((2 : Int) ^ (k - 64)) = ((2 ^ (k - 64) : Nat) : Int) from by simp]
        exact IntWalk.u64_in _ ⟨Int.natCast_nonneg _, by omega⟩
      generalize 2 ^ (k - 64) = z at *
      go_enter Try.func156, Try.ntmps156
      go_wp2
      refine bodyPost_ret (v := .agg #[.int .u64 z, .int .u64 0]) (by simp [results, Try.results156, go_sem]) rfl ?_
      exact ⟨rfl, ((Below.refl w.heap.size w).alloc (Nat.le_refl _) _).alloc (by simp) _⟩
    · have g1 : ¬ ((k : Int) ≤ 0) := by omega
      have g2 : ¬ (128 ≤ (k : Int)) := by omega
      have g3 : ¬ (64 ≤ (k : Int)) := by omega
      have g4 : IntKind.i64.wrap (64 - (k : Int)) = ((64 - k : Nat) : Int) := by
        rw [IntWalk.i64_in _ ⟨by omega, by omega⟩]; omega
      rw [if_pos (by omega), if_pos (by omega)]
      have h2 : 2 ^ k < 2 ^ 64 := Nat.pow_lt_pow_right (by decide) (by omega)
      have g5 : IntKind.u64.wrap ((2 : Int) ^ k) = ((2 ^ k : Nat) : Int) := by
        rw [show ((2 : Int) ^ k) = ((2 ^ k : Nat) : Int) from by simp]
        exact IntWalk.u64_in _ ⟨Int.natCast_nonneg _, by omega⟩
      have g6 : (1 : Int) / 2 ^ (64 - k) = 0 := by
        rw [show ((1 : Int) / 2 ^ (64 - k)) = ((1 / 2 ^ (64 - k) : Nat) : Int) from by simp, Nat.div_eq_of_lt (Nat.one_lt_two_pow (by omega))]; rfl
      have g7 : Go.bits .or .u64 0 0 = 0 := by decide
      generalize 2 ^ k = z at *
      go_enter Try.func156, Try.ntmps156
      go_upto_region 7 with fail
      have HA := Lib.hid ((Blk.new w #[.int .u64 0, .int .u64 1] 144 w.heap.size rfl).old (.cells #[.int .u64 0, .int .u64 0] 144))
      have HB := Lib.hid (Blk.new (w.alloc (.cells #[.int .u64 0, .int .u64 1] 144)) #[.int .u64 0, .int .u64 0] 144 (w.heap.size + 1) (by simp))
      have HW := Lib.hid (((Below.refl w.heap.size w).alloc (Nat.le_refl _) (.cells #[.int .u64 0, .int .u64 1] 144)).alloc (by simp) (.cells #[.int .u64 0, .int .u64 0] 144))
      generalize (w.alloc (.cells #[.int .u64 0, .int .u64 1] 144)).alloc (.cells #[.int .u64 0, .int .u64 0] 144) = W at HA HB HW ⊢
      have c0 : W.cell? ⟨w.heap.size, 0, none⟩ = some (.int .u64 0) := HA.out.cell 0 rfl
      have c1 : W.cell? ⟨w.heap.size, 1, none⟩ = some (.int .u64 1) := HA.out.cell 1 rfl
      go_still_tail 15, (by kernel_rfl)
      change wpList _ _ _ _ _ W.drew
      refine store_blk rfl 144 _ _ rfl (w.heap.size + 1) rfl #[.int .u64 0, .int .u64 0] #[.int .u64 0, .int .u64 z] 144 HB.out.drew rfl rfl (by kernel_rfl) (by simp [Value.oneCell']) ?_
      have HB2 := Lib.hid (HB.out.drew.setCells #[.int .u64 0, .int .u64 z] rfl)
      have HW2 := Lib.hid (Blk.Below.setCells (B := w.heap.size + 1) (#[.int .u64 0, .int .u64 z] : Array Value).toList 0 _ HW.out.drew (by omega))
      generalize W.drew.setCells (w.heap.size + 1) 0 (#[.int .u64 0, .int .u64 z] : Array Value).toList = W2 at HB2 HW2 ⊢
      go_wp2
      refine bodyPost_ret (results_cell_row rfl _ _ _ _ _ (0, 0) _ rfl HB2.out Try.underlying144 rfl (by kernel_rfl)) rfl ?_
      exact ⟨by simp, HW2.out⟩
end Go.Proofs.Ytogjgpiddjmpiaa.WideN

/- Numbers of 128 bits: Div. -/
namespace Go.Proofs.Ytogjgpiddjmpiaa.WideN
set_option linter.unusedVariables false
open Go.RowKit Go.Proofs.Ytogjgpiddjmpiaa.Kit Go.Proofs.Ytogjgpiddjmpiaa.Blk

/-- What is there of the quotient when the bits from m on are done. -/
def qof (A d m : Nat) : Nat := A / 2 ^ m / d * 2 ^ m
theorem qof_zero (A d : Nat) : qof A d 0 = A / d := by unfold qof; rw [Nat.pow_zero, Nat.div_one, Nat.mul_one]
theorem half (A k : Nat) : A / 2 ^ k = 2 * (A / 2 ^ (k + 1)) + A / 2 ^ k % 2 := by
  rw [Nat.pow_succ, ← Nat.div_div_eq_div_mul]
  generalize A / 2 ^ k = x
  omega
theorem div_two (X d b : Nat) (hd : 0 < d) (hb : b < 2) : (2 * X + b) / d = 2 * (X / d) + (if d ≤ 2 * (X % d) + b then 1 else 0) ∧ (2 * X + b) % d = if d ≤ 2 * (X % d) + b then 2 * (X % d) + b - d else 2 * (X % d) + b := by
  have e := Nat.div_add_mod X d
  have hr := Nat.mod_lt X hd
  generalize X / d = q at *
  generalize X % d = r at *
  subst e
  by_cases h : d ≤ 2 * r + b
  · rw [if_pos h, if_pos h]
    have e : 2 * (d * q + r) + b = d * (2 * q + 1) + (2 * r + b - d) := by
      rw [Nat.mul_add d, Nat.mul_left_comm d 2 q]; omega
    rw [e, Nat.mul_add_div hd, Nat.mul_add_mod, Nat.div_eq_of_lt (by omega), Nat.mod_eq_of_lt (by omega)]
    exact ⟨by omega, rfl⟩
  · rw [if_neg h, if_neg h]
    have e : 2 * (d * q + r) + b = d * (2 * q) + (2 * r + b) := by
      rw [Nat.mul_left_comm d 2 q]; omega
    rw [e, Nat.mul_add_div hd, Nat.mul_add_mod, Nat.div_eq_of_lt (by omega), Nat.mod_eq_of_lt (by omega)]
    exact ⟨by omega, rfl⟩
theorem qof_step (A d k : Nat) (hd : 0 < d) : qof A d k = qof A d (k + 1) + (if d ≤ 2 * (A / 2 ^ (k + 1) % d) + A / 2 ^ k % 2 then 2 ^ k else 0) ∧
    A / 2 ^ k % d = if d ≤ 2 * (A / 2 ^ (k + 1) % d) + A / 2 ^ k % 2 then 2 * (A / 2 ^ (k + 1) % d) + A / 2 ^ k % 2 - d else 2 * (A / 2 ^ (k + 1) % d) + A / 2 ^ k % 2 := by
  have h := div_two (A / 2 ^ (k + 1)) d (A / 2 ^ k % 2) hd (Nat.mod_lt _ (by decide))
  rw [← half] at h
  refine ⟨?_, h.2⟩
  unfold qof
  rw [h.1, Nat.pow_succ, Nat.add_mul]
  have e1 : 2 * (A / (2 ^ k * 2) / d) * 2 ^ k = A / (2 ^ k * 2) / d * (2 ^ k * 2) := by
    rw [Nat.mul_comm 2, Nat.mul_assoc, Nat.mul_comm 2]
  rw [e1]
  split <;> simp
theorem or_step (q k : Nat) (hk : k < 128) : (q * 2 ^ (k + 1)) / 18446744073709551616 ||| (if k < 64 then 0 else 2 ^ (k - 64)) = (q * 2 ^ (k + 1) + 2 ^ k) / 18446744073709551616 ∧
    (q * 2 ^ (k + 1)) % 18446744073709551616 ||| (if k < 64 then 2 ^ k else 0) = (q * 2 ^ (k + 1) + 2 ^ k) % 18446744073709551616 := by
  by_cases h : k < 64
  · rw [if_pos h, if_pos h]
    have e : (18446744073709551616 : Nat) = 2 ^ (k + 1) * 2 ^ (63 - k) := by
      rw [← Nat.pow_add, show k + 1 + (63 - k) = 64 by omega]
    have hp : 2 ^ k < 2 ^ (k + 1) := Nat.pow_lt_pow_right (by decide) (by omega)
    have em : (q * 2 ^ (k + 1)) % 18446744073709551616 = 2 ^ (k + 1) * (q % 2 ^ (63 - k)) := by
      rw [e, Nat.mul_comm q, Nat.mul_mod_mul_left]
    have hm : q % 2 ^ (63 - k) < 2 ^ (63 - k) := Nat.mod_lt _ (Nat.two_pow_pos _)
    have hle : 2 ^ (k + 1) * (q % 2 ^ (63 - k)) + 2 ^ (k + 1) ≤ 18446744073709551616 := by
      rw [e, ← Nat.mul_succ]; exact Nat.mul_le_mul_left _ hm
    have ho : 2 ^ (k + 1) * (q % 2 ^ (63 - k)) ||| 2 ^ k = 2 ^ (k + 1) * (q % 2 ^ (63 - k)) + 2 ^ k := (Nat.two_pow_add_eq_or_of_lt hp _).symm
    rw [← em] at ho hle
    rw [Nat.or_zero, ho]
    clear em hm ho e
    generalize q * 2 ^ (k + 1) = Q at *
    generalize 2 ^ (k + 1) = x at *
    generalize 2 ^ k = y at *
    omega
  · rw [if_neg h, if_neg h]
    have e : q * 2 ^ (k + 1) = 2 ^ (k - 64 + 1) * q * 18446744073709551616 := by
      rw [show (18446744073709551616 : Nat) = 2 ^ 64 by decide, Nat.mul_comm q, Nat.mul_right_comm, ← Nat.pow_add]
      congr 2; omega
    have e2 : 2 ^ k = 2 ^ (k - 64) * 18446744073709551616 := by
      rw [show (18446744073709551616 : Nat) = 2 ^ 64 by decide, ← Nat.pow_add]; congr 1; omega
    have hp : 2 ^ (k - 64) < 2 ^ (k - 64 + 1) := Nat.pow_lt_pow_right (by decide) (by omega)
    have ho : 2 ^ (k - 64 + 1) * q ||| 2 ^ (k - 64) = 2 ^ (k - 64 + 1) * q + 2 ^ (k - 64) := (Nat.two_pow_add_eq_or_of_lt hp _).symm
    rw [Nat.or_zero, e, e2]
    have e3 : 2 ^ (k - 64 + 1) * q * 18446744073709551616 / 18446744073709551616 = 2 ^ (k - 64 + 1) * q := Nat.mul_div_cancel _ (by decide)
    rw [e3, ho]
    generalize 2 ^ (k - 64 + 1) * q = Q at *
    generalize 2 ^ (k - 64) = y at *
    omega

theorem or_low (a b : Nat) (ha : a < 18446744073709551616) (h2 : a % 2 = 0) (hb : b < 2) : Go.bits .or .u64 (a : Int) (b : Int) = ((a + b : Nat) : Int) := by
  have e : a ||| b = a + b := by
    have h := Nat.two_pow_add_eq_or_of_lt (i := 1) (b := b) (by omega) (a / 2)
    have h3 : 2 ^ 1 * (a / 2) = a := by omega
    rw [h3] at h
    exact h.symm
  rw [u64_or_nat a b ha (by omega), e]
theorem and_low (x : Nat) (hx : x < 18446744073709551616) : Go.bits .and .u64 (x : Int) 1 = ((x % 2 : Nat) : Int) := by
  rw [show (1 : Int) = ((1 : Nat) : Int) from rfl, u64_and_nat x 1 hx (by decide), Nat.and_one_is_mod]

set_option maxRecDepth 20000 in
set_option maxHeartbeats 2000000 in
theorem div_any (hi lo d : Nat) (h1 : hi < 18446744073709551616) (h2 : lo < 18446744073709551616) (hd0 : 0 < d) (hd : d < 18446744073709551616) (w : World) :
    Calls Try.prog 116 #[.agg #[.int .u64 hi, .int .u64 lo], .int .u64 d] w fun e w' =>
    e = .returned (.tuple #[.agg #[.int .u64 (((hi * 18446744073709551616 + lo) / d / 18446744073709551616 : Nat) : Int), .int .u64 (((hi * 18446744073709551616 + lo) / d % 18446744073709551616 : Nat) : Int)], .int .u64 (((hi * 18446744073709551616 + lo) % d : Nat) : Int), .bool true]) ∧ Below w.heap.size w w' := by
  have HLEN := Lib.hid (fun w => len_any hi lo h1 h2 w)
  have HRT := Lib.hid (fun k hk w => right_any hi lo k h1 h2 hk w)
  have hA : hi * 18446744073709551616 + lo < 340282366920938463463374607431768211456 := by omega
  generalize hi * 18446744073709551616 + lo = A at *
  have g0 : ¬ ((d : Int) = 0) := by omega
  go_enter Try.func116, Try.ntmps116
  go_wp2_with fail
  go_step3
  go_wp2_with fail
  go_step3
  go_wp2_with fail
  refine (HLEN.out _).mono ?_
  rintro e w1 ⟨⟨n, hn, hAn, rfl⟩, hb⟩
  have HA := Lib.hid (((Blk.new w #[.int .u64 hi, .int .u64 lo] 144 w.heap.size rfl).old (.cells #[.int .u64 0, .int .u64 0] 144)).below hb (by simp; omega))
  have HB := Lib.hid ((Blk.new (w.alloc (.cells #[.int .u64 hi, .int .u64 lo] 144)) #[.int .u64 0, .int .u64 0] 144 (w.heap.size + 1) (by simp)).below hb (by simp))
  have HW := Lib.hid ((((Below.refl w.heap.size w).alloc (Nat.le_refl _) (.cells #[.int .u64 hi, .int .u64 lo] 144)).alloc (by simp) (.cells #[.int .u64 0, .int .u64 0] 144)).trans (hb.mono (by simp; omega)))
  have en : IntKind.i64.wrap ((n : Int) - 1) = (n : Int) - 1 := IntWalk.i64_in _ ⟨by omega, by omega⟩
  clear hb HLEN
  go_wp2_with fail
  go_loopw [5, 7] (fun l i wr => ∃ m : Int, -1 ≤ m ∧ m < 128 ∧ i = .int .i64 m ∧ l = .int .u64 ((A / 2 ^ (m + 1).toNat % d : Nat) : Int) ∧ Blk wr w.heap.size #[.int .u64 hi, .int .u64 lo] 144 ∧ Blk wr (w.heap.size + 1) #[.int .u64 ((qof A d (m + 1).toNat / 18446744073709551616 : Nat) : Int), .int .u64 ((qof A d (m + 1).toNat % 18446744073709551616 : Nat) : Int)] 144 ∧ Below w.heap.size w wr) (fun _ i _ => (intOf i + 1).toNat)
  case atStart =>
    have e1 : ((n : Int) - 1 + 1).toNat = n := by omega
    exact ⟨(n : Int) - 1, by omega, by omega, rfl, by rw [e1, Nat.div_eq_of_lt hAn, Nat.zero_mod]; rfl, HA.out, by
      have e2 : qof A d n = 0 := by unfold qof; rw [Nat.div_eq_of_lt hAn, Nat.zero_div, Nat.zero_mul]
      rw [e1, e2]; exact HB.out, HW.out⟩
  case round =>
    clear HA HB HW
    obtain ⟨m, hm1, hm2, rfl, rfl, ha, hb, hw⟩ := hrel
    by_cases h0 : 0 ≤ m
    · obtain ⟨k, rfl⟩ := Int.eq_ofNat_of_zero_le h0
      have e1 : ((k : Int) + 1).toNat = k + 1 := by omega
      rw [e1] at hb
      rw [e1]
      obtain ⟨hq, hr⟩ := qof_step A d k hd0
      have hq1 : qof A d (k + 1) = A / 2 ^ (k + 1) / d * 2 ^ (k + 1) := rfl
      have hos := or_step (A / 2 ^ (k + 1) / d) k (by omega)
      rw [← hq1] at hos
      have hrd : A / 2 ^ (k + 1) % d < d := Nat.mod_lt _ hd0
      have HR1 := Lib.hid (fun w => HRT.out k (by omega) w)
      have hb2 : A / 2 ^ k % 18446744073709551616 % 2 = A / 2 ^ k % 2 := by omega
      have hx64 : A / 2 ^ k % 18446744073709551616 < 18446744073709551616 := Nat.mod_lt _ (by decide)
      have HL1 := Lib.hid (fun w => left_one k (by omega) w)
      have hq64 : qof A d (k + 1) / 18446744073709551616 < 18446744073709551616 := by
        have h : qof A d (k + 1) ≤ A := by
          unfold qof
          rw [Nat.div_div_eq_div_mul]
          refine Nat.le_trans (Nat.mul_le_mul_left _ (Nat.le_mul_of_pos_right (2 ^ (k + 1)) hd0)) (Nat.div_mul_le_self _ _)
        omega
      have hoh : (if k < 64 then 0 else 2 ^ (k - 64)) < 18446744073709551616 := by
        split
        · decide
        · have h : 2 ^ (k - 64) < 2 ^ 64 := Nat.pow_lt_pow_right (by decide) (by omega)
          exact h
      have hol : (if k < 64 then 2 ^ k else 0) < 18446744073709551616 := by
        split
        · have h : 2 ^ k < 2 ^ 64 := Nat.pow_lt_pow_right (by decide) (by omega)
          exact h
        · decide
      have hql : qof A d (k + 1) % 18446744073709551616 < 18446744073709551616 := Nat.mod_lt _ (by decide)
      generalize (if k < 64 then 0 else 2 ^ (k - 64)) = oh at *
      generalize (if k < 64 then 2 ^ k else 0) = ol at *
      have e_hi := u64_or_nat _ _ hq64 hoh
      have e_lo := u64_or_nat _ _ hql hol
      rw [hos.1] at e_hi
      rw [hos.2] at e_lo
      have e_and := and_low _ hx64
      rw [hb2] at e_and
      have hbb : A / 2 ^ k % 2 < 2 := Nat.mod_lt _ (by decide)
      have HNH : Hid (∀ _ : d ≤ 2 * (A / 2 ^ (k + 1) % d) + A / 2 ^ k % 2, (qof A d (k + 1) + 2 ^ k) / 18446744073709551616 = qof A d k / 18446744073709551616 ∧ (qof A d (k + 1) + 2 ^ k) % 18446744073709551616 = qof A d k % 18446744073709551616) := Lib.hid (fun h => by rw [hq, if_pos h]; exact ⟨rfl, rfl⟩)
      have HNN : Hid (∀ _ : ¬ d ≤ 2 * (A / 2 ^ (k + 1) % d) + A / 2 ^ k % 2, qof A d (k + 1) / 18446744073709551616 = qof A d k / 18446744073709551616 ∧ qof A d (k + 1) % 18446744073709551616 = qof A d k % 18446744073709551616) := Lib.hid (fun h => by rw [hq, if_neg h]; exact ⟨rfl, rfl⟩)
      clear hq1 e1 hb2 hos hq
      have hst : d ≤ 2 * (A / 2 ^ (k + 1) % d) + A / 2 ^ k % 2 ∨ ¬ d ≤ 2 * (A / 2 ^ (k + 1) % d) + A / 2 ^ k % 2 := Decidable.em _
      generalize A / 2 ^ k % 18446744073709551616 = x at *
      generalize A / 2 ^ k / 18446744073709551616 = y at *
      generalize A / 2 ^ k % 2 = b at *
      generalize hAk : A / 2 ^ k % d = rk at *
      generalize A / 2 ^ (k + 1) % d = r at *
      generalize (qof A d (k + 1) + 2 ^ k) / 18446744073709551616 = nh at *
      generalize (qof A d (k + 1) + 2 ^ k) % 18446744073709551616 = nl at *
      generalize qof A d (k + 1) / 18446744073709551616 = qh at *
      generalize qof A d (k + 1) % 18446744073709551616 = ql at *
      have HRK := Lib.hid hAk
      have HR0 := Lib.hid hr
      clear hAk hr
      have HA := Lib.hid ha
      have HB := Lib.hid hb
      have HW := Lib.hid hw
      clear ha hb hw
      have t0 : wr.cell? ⟨w.heap.size, 0, none⟩ = some (.int .u64 hi) := HA.out.cell 0 rfl
      have t1 : wr.cell? ⟨w.heap.size, 1, none⟩ = some (.int .u64 lo) := HA.out.cell 1 rfl
      have ek : ((k : Int) - 1 + 1).toNat = k := by omega
      have ek2 : IntKind.i64.wrap ((k : Int) - 1) = (k : Int) - 1 := IntWalk.i64_in _ ⟨by omega, by omega⟩
      have hfd : ∀ w : World, (Instr.field 144 (.agg #[.int .u64 (y : Int), .int .u64 (x : Int)]) 1).run Try.prog w = .ok (.int .u64 (x : Int)) w := fun _ => by kernel_rfl
      by_cases htop : 9223372036854775808 ≤ r
      · have e_top : (r : Int) / 9223372036854775808 = 1 := by omega
        have e_sh : IntKind.u64.wrap ((r : Int) * 2) = ((2 * r - 18446744073709551616 : Nat) : Int) := by rw [IntKind.wrap_u64]; omega
        have e_or := or_low (2 * r - 18446744073709551616) b (by omega) (by omega) hbb
        have hge : d ≤ 2 * r + b := by omega
        have e_sub : IntKind.u64.wrap (((2 * r - 18446744073709551616 + b : Nat) : Int) - (d : Int)) = (rk : Int) := by rw [IntKind.wrap_u64, HR0.out, if_pos hge]; omega
        have HN := Lib.hid (HNH.out hge)
        clear HNH HNN hst
        generalize 2 * r - 18446744073709551616 = L2 at *
        generalize L2 + b = s2 at *
        go_wp2_with fail
        refine (HR1.out _).mono ?_
        rintro e w2 ⟨rfl, hb⟩
        replace HA := Lib.hid (HA.out.below hb HA.out.lt)
        replace HB := Lib.hid (HB.out.below hb HB.out.lt)
        replace HW := Lib.hid (HW.out.trans (hb.mono HW.out.size))
        clear hb
        go_wp2_with fail
        refine (HL1.out _).mono ?_
        rintro e w3 ⟨rfl, hb⟩
        replace HA := Lib.hid (HA.out.below hb HA.out.lt)
        replace HB := Lib.hid (HB.out.below hb HB.out.lt)
        replace HW := Lib.hid (HW.out.trans (hb.mono HW.out.size))
        clear hb
        have q0 : w3.cell? ⟨w.heap.size + 1, 0, none⟩ = some (.int .u64 qh) := HB.out.cell 0 rfl
        have q1 : w3.cell? ⟨w.heap.size + 1, 1, none⟩ = some (.int .u64 ql) := HB.out.cell 1 rfl
        have f0 : w3.frozen? ⟨w.heap.size + 1, 0, none⟩ = false := HB.out.free _
        have f1 : w3.frozen? ⟨w.heap.size + 1, 1, none⟩ = false := HB.out.free _
        have hlt := HB.out.lt
        go_upto_region 11 with fail
        have c3 := Blk.new w3 #[.int .u64 oh, .int .u64 ol] 144 w3.heap.size rfl
        replace HA := Lib.hid (HA.out.old (.cells #[.int .u64 oh, .int .u64 ol] 144))
        replace HB := Lib.hid (HB.out.old (.cells #[.int .u64 oh, .int .u64 ol] 144))
        replace HW := Lib.hid (HW.out.alloc HW.out.size (.cells #[.int .u64 oh, .int .u64 ol] 144))
        clear q0 q1 f0 f1
        generalize hD : w3.heap.size = D at c3 hlt ⊢
        generalize w3.alloc (.cells #[.int .u64 oh, .int .u64 ol] 144) = w4 at c3 HA HB HW ⊢
        have q0 : w4.cell? ⟨w.heap.size + 1, 0, none⟩ = some (.int .u64 qh) := HB.out.cell 0 rfl
        have q1 : w4.cell? ⟨w.heap.size + 1, 1, none⟩ = some (.int .u64 ql) := HB.out.cell 1 rfl
        have f0 : w4.frozen? ⟨w.heap.size + 1, 0, none⟩ = false := HB.out.free _
        have f1 : w4.frozen? ⟨w.heap.size + 1, 1, none⟩ = false := HB.out.free _
        have o0 : w4.cell? ⟨D, 0, none⟩ = some (.int .u64 oh) := c3.cell 0 rfl
        have o1 : w4.cell? ⟨D, 1, none⟩ = some (.int .u64 ol) := c3.cell 1 rfl
        replace HA := Lib.hid ((HA.out.apart ⟨w.heap.size + 1, 0, none⟩ (.int .u64 nh) (by show w.heap.size + 1 ≠ _; omega)).apart ⟨w.heap.size + 1, 1, none⟩ (.int .u64 nl) (by show w.heap.size + 1 ≠ _; omega))
        replace HB := Lib.hid (show Blk ((w4.setCell ⟨w.heap.size + 1, 0, none⟩ (.int .u64 nh)).setCell ⟨w.heap.size + 1, 1, none⟩ (.int .u64 nl)) (w.heap.size + 1) #[.int .u64 nh, .int .u64 nl] 144 from (HB.out.set 0 (.int .u64 nh)).set 1 (.int .u64 nl))
        replace HW := Lib.hid ((HW.out.setCell (p := ⟨w.heap.size + 1, 0, none⟩) (by show w.heap.size ≤ w.heap.size + 1; omega) (.int .u64 nh)).setCell (p := ⟨w.heap.size + 1, 1, none⟩) (by show w.heap.size ≤ w.heap.size + 1; omega) (.int .u64 nl))
        go_wp2
        go_roundw
        case rel => exact ⟨(k : Int) - 1, by omega, by omega, rfl, by rw [ek]; exact congrArg (fun z : Nat => Value.int .u64 z) HRK.out.symm, HA.out, by
          rw [ek, ← HN.out.1, ← HN.out.2]; exact HB.out, HW.out⟩
        case measure => simp [intOf]
      · have e_top : (r : Int) / 9223372036854775808 = 0 := by omega
        have e_sh : IntKind.u64.wrap ((r : Int) * 2) = ((2 * r : Nat) : Int) := by rw [IntKind.wrap_u64]; omega
        have e_or := or_low (2 * r) b (by omega) (by omega) hbb
        rcases hst with hge | hge
        · have g5 : ¬ (((2 * r + b : Nat) : Int) < (d : Int)) := by omega
          have e_sub : IntKind.u64.wrap (((2 * r + b : Nat) : Int) - (d : Int)) = (rk : Int) := by rw [IntKind.wrap_u64, HR0.out, if_pos hge]; omega
          have HN := Lib.hid (HNH.out hge)
          clear HNH HNN
          generalize 2 * r = L2 at *
          generalize L2 + b = s2 at *
          go_wp2_with fail
          refine (HR1.out _).mono ?_
          rintro e w2 ⟨rfl, hb⟩
          replace HA := Lib.hid (HA.out.below hb HA.out.lt)
          replace HB := Lib.hid (HB.out.below hb HB.out.lt)
          replace HW := Lib.hid (HW.out.trans (hb.mono HW.out.size))
          clear hb
          go_wp2_with fail
          refine (HL1.out _).mono ?_
          rintro e w3 ⟨rfl, hb⟩
          replace HA := Lib.hid (HA.out.below hb HA.out.lt)
          replace HB := Lib.hid (HB.out.below hb HB.out.lt)
          replace HW := Lib.hid (HW.out.trans (hb.mono HW.out.size))
          clear hb
          have q0 : w3.cell? ⟨w.heap.size + 1, 0, none⟩ = some (.int .u64 qh) := HB.out.cell 0 rfl
          have q1 : w3.cell? ⟨w.heap.size + 1, 1, none⟩ = some (.int .u64 ql) := HB.out.cell 1 rfl
          have f0 : w3.frozen? ⟨w.heap.size + 1, 0, none⟩ = false := HB.out.free _
          have f1 : w3.frozen? ⟨w.heap.size + 1, 1, none⟩ = false := HB.out.free _
          have hlt := HB.out.lt
          go_upto_region 11 with fail
          have c3 := Blk.new w3 #[.int .u64 oh, .int .u64 ol] 144 w3.heap.size rfl
          replace HA := Lib.hid (HA.out.old (.cells #[.int .u64 oh, .int .u64 ol] 144))
          replace HB := Lib.hid (HB.out.old (.cells #[.int .u64 oh, .int .u64 ol] 144))
          replace HW := Lib.hid (HW.out.alloc HW.out.size (.cells #[.int .u64 oh, .int .u64 ol] 144))
          clear q0 q1 f0 f1
          generalize hD : w3.heap.size = D at c3 hlt ⊢
          generalize w3.alloc (.cells #[.int .u64 oh, .int .u64 ol] 144) = w4 at c3 HA HB HW ⊢
          have q0 : w4.cell? ⟨w.heap.size + 1, 0, none⟩ = some (.int .u64 qh) := HB.out.cell 0 rfl
          have q1 : w4.cell? ⟨w.heap.size + 1, 1, none⟩ = some (.int .u64 ql) := HB.out.cell 1 rfl
          have f0 : w4.frozen? ⟨w.heap.size + 1, 0, none⟩ = false := HB.out.free _
          have f1 : w4.frozen? ⟨w.heap.size + 1, 1, none⟩ = false := HB.out.free _
          have o0 : w4.cell? ⟨D, 0, none⟩ = some (.int .u64 oh) := c3.cell 0 rfl
          have o1 : w4.cell? ⟨D, 1, none⟩ = some (.int .u64 ol) := c3.cell 1 rfl
          replace HA := Lib.hid ((HA.out.apart ⟨w.heap.size + 1, 0, none⟩ (.int .u64 nh) (by show w.heap.size + 1 ≠ _; omega)).apart ⟨w.heap.size + 1, 1, none⟩ (.int .u64 nl) (by show w.heap.size + 1 ≠ _; omega))
          replace HB := Lib.hid (show Blk ((w4.setCell ⟨w.heap.size + 1, 0, none⟩ (.int .u64 nh)).setCell ⟨w.heap.size + 1, 1, none⟩ (.int .u64 nl)) (w.heap.size + 1) #[.int .u64 nh, .int .u64 nl] 144 from (HB.out.set 0 (.int .u64 nh)).set 1 (.int .u64 nl))
          replace HW := Lib.hid ((HW.out.setCell (p := ⟨w.heap.size + 1, 0, none⟩) (by show w.heap.size ≤ w.heap.size + 1; omega) (.int .u64 nh)).setCell (p := ⟨w.heap.size + 1, 1, none⟩) (by show w.heap.size ≤ w.heap.size + 1; omega) (.int .u64 nl))
          go_wp2
          go_roundw
          case rel => exact ⟨(k : Int) - 1, by omega, by omega, rfl, by rw [ek]; exact congrArg (fun z : Nat => Value.int .u64 z) HRK.out.symm, HA.out, by
            rw [ek, ← HN.out.1, ← HN.out.2]; exact HB.out, HW.out⟩
          case measure => simp [intOf]
        · have g5 : ((2 * r + b : Nat) : Int) < (d : Int) := by omega
          have e_sub : ((2 * r + b : Nat)) = rk := by rw [HR0.out, if_neg hge]
          have HN := Lib.hid (HNN.out hge)
          clear HNH HNN
          rw [e_sub] at e_or g5
          clear e_sub hge HR0
          generalize 2 * r = L2 at *
          go_wp2_with fail
          refine (HR1.out _).mono ?_
          rintro e w2 ⟨rfl, hb⟩
          replace HA := Lib.hid (HA.out.below hb HA.out.lt)
          replace HB := Lib.hid (HB.out.below hb HB.out.lt)
          replace HW := Lib.hid (HW.out.trans (hb.mono HW.out.size))
          clear hb
          go_wp2
          go_roundw
          case rel => exact ⟨(k : Int) - 1, by omega, by omega, rfl, by rw [ek]; exact congrArg (fun z : Nat => Value.int .u64 z) HRK.out.symm, HA.out, by
            rw [ek, ← HN.out.1, ← HN.out.2]; exact HB.out, HW.out⟩
          case measure => simp [intOf]
    · obtain rfl : m = -1 := by omega
      have hb2 := hb
      rw [show ((-1 : Int) + 1).toNat = 0 from rfl, qof_zero] at hb2
      have el : A / 2 ^ ((-1 : Int) + 1).toNat % d = A % d := by rw [show ((-1 : Int) + 1).toNat = 0 from rfl, Nat.pow_zero, Nat.div_one]
      rw [el]
      clear hb el HRT
      generalize hqh : A / d / 18446744073709551616 = qh at *
      generalize hql : A / d % 18446744073709551616 = ql at *
      generalize hrr : A % d = r at *
      have HQQ := Lib.hid (And.intro hqh (And.intro hql hrr))
      clear hqh hql hrr
      have HB := Lib.hid hb2
      have HW := Lib.hid hw
      clear hb2 hw ha
      have q0 : wr.cell? ⟨w.heap.size + 1, 0, none⟩ = some (.int .u64 qh) := HB.out.cell 0 rfl
      have q1 : wr.cell? ⟨w.heap.size + 1, 1, none⟩ = some (.int .u64 ql) := HB.out.cell 1 rfl
      have f0 : wr.frozen? ⟨w.heap.size + 1, 0, none⟩ = false := HB.out.free _
      have f1 : wr.frozen? ⟨w.heap.size + 1, 1, none⟩ = false := HB.out.free _
      have HB2 := Lib.hid (show Blk ((wr.setCell ⟨w.heap.size + 1, 0, none⟩ (.int .u64 qh)).setCell ⟨w.heap.size + 1, 1, none⟩ (.int .u64 ql)) (w.heap.size + 1) #[.int .u64 qh, .int .u64 ql] 144 from (HB.out.set 0 (.int .u64 qh)).set 1 (.int .u64 ql))
      have HW2 := Lib.hid ((HW.out.setCell (p := ⟨w.heap.size + 1, 0, none⟩) (by show w.heap.size ≤ w.heap.size + 1; omega) (.int .u64 qh)).setCell (p := ⟨w.heap.size + 1, 1, none⟩) (by show w.heap.size ≤ w.heap.size + 1; omega) (.int .u64 ql))
      clear HB HW
      go_wp2
      have c0 : ((wr.setCell ⟨w.heap.size + 1, 0, none⟩ (.int .u64 qh)).setCell ⟨w.heap.size + 1, 1, none⟩ (.int .u64 ql)).cell? ⟨w.heap.size + 1, 0, none⟩ = some (.int .u64 qh) := HB2.out.cell 0 rfl
      have c1 : ((wr.setCell ⟨w.heap.size + 1, 0, none⟩ (.int .u64 qh)).setCell ⟨w.heap.size + 1, 1, none⟩ (.int .u64 ql)).cell? ⟨w.heap.size + 1, 1, none⟩ = some (.int .u64 ql) := HB2.out.cell 1 rfl
      generalize (wr.setCell ⟨w.heap.size + 1, 0, none⟩ (.int .u64 qh)).setCell ⟨w.heap.size + 1, 1, none⟩ (.int .u64 ql) = w5 at c0 c1 HW2 ⊢
      clear HB2 q0 q1 f0 f1
      refine bodyPost_ret (v := .tuple #[.agg #[.int .u64 qh, .int .u64 ql], .int .u64 r, .bool true]) (by simp [results, Try.results116, go_sem, c0, c1]) rfl ?_
      exact ⟨by rw [HQQ.out.1, HQQ.out.2.1, HQQ.out.2.2], HW2.out⟩
end Go.Proofs.Ytogjgpiddjmpiaa.WideN

/- tape.mean. -/
namespace Go.Proofs.Ytogjgpiddjmpiaa.WideN
set_option linter.unusedVariables false
open Go.RowKit Go.Proofs.Ytogjgpiddjmpiaa.Kit Go.Proofs.Ytogjgpiddjmpiaa.Blk

theorem mean_any (hi lo v : Nat) (h1 : hi < 18446744073709551616) (h2 : lo < 18446744073709551616) (hv0 : 0 < v) (hv : v < 9223372036854775808)
    (hq : (hi * 18446744073709551616 + lo) / v < 9223372036854775808) (w : World) :
    Calls Try.prog 78 #[.agg #[.int .u64 hi, .int .u64 lo], .int .i64 v] w fun e w' =>
    e = .returned (.int .i64 (((hi * 18446744073709551616 + lo) / v : Nat) : Int)) ∧ Below w.heap.size w w' := by
  have HD := Lib.hid (fun w => div_any hi lo v h1 h2 hv0 (by omega) w)
  generalize hA : (hi * 18446744073709551616 + lo) / v = q at *
  have e0 : q / 18446744073709551616 = 0 := by omega
  have e1 : q % 18446744073709551616 = q := by omega
  rw [e0, e1] at HD
  generalize (hi * 18446744073709551616 + lo) % v = r at *
  clear hA e0 e1
  have e2 : IntKind.u64.wrap (v : Int) = (v : Int) := IntWalk.u64_in _ ⟨by omega, by omega⟩
  have e3 : IntKind.i64.wrap (q : Int) = (q : Int) := IntWalk.i64_in _ ⟨by omega, by omega⟩
  go_enter Try.func78, Try.ntmps78
  go_wp2_with fail
  refine (HD.out _).mono ?_
  rintro e w1 ⟨rfl, hb⟩
  have HW := Lib.hid (((((Below.refl w.heap.size w).alloc (Nat.le_refl _) (.cells #[.int .u64 hi, .int .u64 lo] 144)).trans (hb.mono (by simp))).alloc (Nat.le_trans (by simp) hb.size) (.cells #[.int .u64 0, .int .u64 q] 144)))
  clear hb
  go_wp2
  refine bodyPost_ret (v := .int .i64 q) (by simp [results, Try.results78, go_sem]) rfl ?_
  exact ⟨rfl, HW.out⟩
end Go.Proofs.Ytogjgpiddjmpiaa.WideN
