/- Numbers of 128 bits: Len, Right, Left of one. -/
import Derived.Test.YtogjgpiddjmpiaaWideN
import Derived.Test.YtogjgpiddjmpiaaBig
import Derived.Deep.CutBlock
import Derived.Deep.DeepCutAuto
import Derived.Deep.RegionHeld3
namespace Go.Proofs.Ytogjgpiddjmpiaa.WideN
set_option linter.unusedVariables false
open Go.RowKit Go.Proofs.Ytogjgpiddjmpiaa.Kit Go.Proofs.Ytogjgpiddjmpiaa.Blk

/-- A wide number of two words. -/
def WP (hi lo : Nat) : Value := .agg #[.int .u64 hi, .int .u64 lo]

def Len2Is (n : Nat) (e : Ending) : Prop := ∃ k : Nat, k ≤ 128 ∧ n < 2 ^ k ∧ e = .returned (.int .i64 k)
theorem len_any (hi lo : Nat) (h1 : hi < 18446744073709551616) (h2 : lo < 18446744073709551616) (w : World) : Calls Try.prog 154 #[.agg #[.int .u64 hi, .int .u64 lo]] w fun e w' => Len2Is (hi * 18446744073709551616 + lo) e ∧ Below w.heap.size w w' := by
  have HL := Lib.hid (fun x h w => length_any x h w)
  by_cases h0 : hi = 0
  · subst h0
    go_enter Try.func154, Try.ntmps154
    go_wp2_with fail
    refine (HL.out lo (by omega) _).mono ?_
    rintro e w1 ⟨⟨k, hk, hn, rfl⟩, rfl⟩
    go_wp2
    refine bodyPost_ret (v := .int .i64 k) (by simp [results, Try.results154, go_sem]) rfl ?_
    exact ⟨⟨k, by omega, by rw [Nat.zero_mul, Nat.zero_add]; exact hn, rfl⟩, (Below.refl w.heap.size w).alloc (Nat.le_refl _) _⟩
  · have hx : ¬ ((hi : Int) = 0) := by omega
    go_enter Try.func154, Try.ntmps154
    go_wp2_with fail
    refine (HL.out hi (by omega) _).mono ?_
    rintro e w1 ⟨⟨k, hk, hn, rfl⟩, rfl⟩
    have e1 : IntKind.i64.wrap (64 + (k : Int)) = ((k + 64 : Nat) : Int) := by
      rw [IntWalk.i64_in _ ⟨by omega, by omega⟩, Int.add_comm]; rfl
    go_wp2
    refine bodyPost_ret (v := .int .i64 ((k + 64 : Nat) : Int)) (by simp [results, Try.results154, go_sem]) rfl ?_
    exact ⟨⟨k + 64, by omega, by
      have e : (2 : Nat) ^ (k + 64) = 2 ^ k * 18446744073709551616 := by rw [Nat.pow_add]
      rw [e]
      generalize 2 ^ k = p at *
      omega, rfl⟩, (Below.refl w.heap.size w).alloc (Nat.le_refl _) _⟩

theorem right_eq (hi lo k : Nat) (h1 : hi < 18446744073709551616) (h2 : lo < 18446744073709551616) :
    (k = 0 → (hi * 18446744073709551616 + lo) / 2 ^ k / 18446744073709551616 = hi ∧ (hi * 18446744073709551616 + lo) / 2 ^ k % 18446744073709551616 = lo) ∧
    (64 ≤ k → (hi * 18446744073709551616 + lo) / 2 ^ k / 18446744073709551616 = 0 ∧ (hi * 18446744073709551616 + lo) / 2 ^ k % 18446744073709551616 = hi / 2 ^ (k - 64)) ∧
    (k < 64 → (hi * 18446744073709551616 + lo) / 2 ^ k / 18446744073709551616 = hi / 2 ^ k ∧ (hi * 18446744073709551616 + lo) / 2 ^ k % 18446744073709551616 = lo / 2 ^ k ||| (hi * 2 ^ (64 - k)) % 18446744073709551616) := by
  refine ⟨?_, ?_, ?_⟩
  · rintro rfl
    rw [Nat.pow_zero, Nat.div_one]
    omega
  · intro h
    have e : (2 : Nat) ^ k = 18446744073709551616 * 2 ^ (k - 64) := by
      rw [show (18446744073709551616 : Nat) = 2 ^ 64 by decide, ← Nat.pow_add]; congr 1; omega
    have e2 : (hi * 18446744073709551616 + lo) / 2 ^ k = hi / 2 ^ (k - 64) := by
      rw [e, ← Nat.div_div_eq_div_mul]; congr 1; omega
    rw [e2]
    have hle : hi / 2 ^ (k - 64) ≤ hi := Nat.div_le_self _ _
    generalize hi / 2 ^ (k - 64) = z at *
    omega
  · intro h
    refine ⟨?_, ?_⟩
    · rw [Nat.div_div_eq_div_mul, Nat.mul_comm (2 ^ k), ← Nat.div_div_eq_div_mul]; congr 1; omega
    · have e : (18446744073709551616 : Nat) = 2 ^ (64 - k) * 2 ^ k := by
        rw [← Nat.pow_add, show 64 - k + k = 64 by omega]
      have hp : 0 < 2 ^ k := Nat.two_pow_pos k
      have hq : 0 < 2 ^ (64 - k) := Nat.two_pow_pos _
      have e1 : (hi * 18446744073709551616 + lo) / 2 ^ k = hi * 2 ^ (64 - k) + lo / 2 ^ k := by
        rw [e, ← Nat.mul_assoc, Nat.add_comm, Nat.add_mul_div_right _ _ hp, Nat.add_comm]
      have hlt : lo / 2 ^ k < 2 ^ (64 - k) := by
        rw [Nat.div_lt_iff_lt_mul hp, ← e]; exact h2
      have e3 : (hi * 2 ^ (64 - k)) % 18446744073709551616 = 2 ^ (64 - k) * (hi % 2 ^ k) := by
        rw [e, Nat.mul_comm hi, Nat.mul_mod_mul_left]
      have hm : hi % 2 ^ k < 2 ^ k := Nat.mod_lt _ hp
      rw [e1, e3, Nat.or_comm, ← Nat.two_pow_add_eq_or_of_lt hlt, ← e3]
      have hb : 2 ^ (64 - k) * (hi % 2 ^ k) + lo / 2 ^ k < 18446744073709551616 := by
        have : 2 ^ (64 - k) * (hi % 2 ^ k) + 2 ^ (64 - k) ≤ 2 ^ (64 - k) * 2 ^ k := by
          rw [← Nat.mul_succ]; exact Nat.mul_le_mul_left _ hm
        rw [e]; omega
      rw [← e3] at hb
      clear e1 e3 hm hlt e
      generalize hi * 2 ^ (64 - k) = H at *
      generalize lo / 2 ^ k = L at *
      omega

theorem right_or (hi lo k : Nat) (h2 : lo < 18446744073709551616) : Go.bits .or .u64 ((lo : Int) / 2 ^ k) (IntKind.u64.wrap ((hi : Int) * 2 ^ (64 - k))) = ((lo / 2 ^ k ||| (hi * 2 ^ (64 - k)) % 18446744073709551616 : Nat) : Int) := by
  have e1 : ((lo : Int) / 2 ^ k) = ((lo / 2 ^ k : Nat) : Int) := by
    rw [Int.natCast_ediv, Int.natCast_pow]; rfl
  have hle : lo / 2 ^ k ≤ lo := Nat.div_le_self _ _
  have e2 : ((hi : Int) * 2 ^ (64 - k)) = ((hi * 2 ^ (64 - k) : Nat) : Int) := by
    rw [Int.natCast_mul, Int.natCast_pow]; rfl
  rw [e1, e2]
  generalize lo / 2 ^ k = L at *
  generalize hi * 2 ^ (64 - k) = H at *
  have e3 : IntKind.u64.wrap (H : Int) = ((H % 18446744073709551616 : Nat) : Int) := by
    rw [IntKind.wrap_u64]; omega
  rw [e3, u64_or_nat _ _ (by omega) (by omega)]

set_option maxRecDepth 20000 in
theorem right_any (hi lo k : Nat) (h1 : hi < 18446744073709551616) (h2 : lo < 18446744073709551616) (hk : k < 128) (w : World) : Calls Try.prog 155 #[.agg #[.int .u64 hi, .int .u64 lo], .int .i64 k] w fun e w' =>
    e = .returned (.agg #[.int .u64 (((hi * 18446744073709551616 + lo) / 2 ^ k / 18446744073709551616 : Nat) : Int), .int .u64 (((hi * 18446744073709551616 + lo) / 2 ^ k % 18446744073709551616 : Nat) : Int)]) ∧ Below w.heap.size w w' := by
  have hlaw := right_eq hi lo k h1 h2
  generalize (hi * 18446744073709551616 + lo) / 2 ^ k / 18446744073709551616 = rh at *
  generalize (hi * 18446744073709551616 + lo) / 2 ^ k % 18446744073709551616 = rl at *
  by_cases h0 : k = 0
  · obtain ⟨rfl, rfl⟩ := hlaw.1 h0
    subst h0
    have g : ((0 : Nat) : Int) ≤ 0 := by omega
    clear hlaw
    go_enter Try.func155, Try.ntmps155
    go_wp2
    refine bodyPost_ret (v := .agg #[.int .u64 rh, .int .u64 rl]) (by simp [results, Try.results155, go_sem]) rfl ?_
    exact ⟨rfl, ((Below.refl w.heap.size w).alloc (Nat.le_refl _) _).alloc (by simp) _⟩
  · by_cases h64 : 64 ≤ k
    · obtain ⟨rfl, hl⟩ := hlaw.2.1 h64
      have g1 : ¬ ((k : Int) ≤ 0) := by omega
      have g2 : ¬ (128 ≤ (k : Int)) := by omega
      have g3 : (64 ≤ (k : Int)) := by omega
      have HL := Lib.hid (show (rl : Int) = (hi : Int) / 2 ^ (k - 64) by rw [hl]; simp)
      clear hlaw hl
      go_enter Try.func155, Try.ntmps155
      go_wp2
      refine bodyPost_ret (v := .agg #[.int .u64 0, .int .u64 ((hi : Int) / 2 ^ (k - 64))]) (by simp [results, Try.results155, go_sem]) rfl ?_
      exact ⟨by rw [HL.out], ((Below.refl w.heap.size w).alloc (Nat.le_refl _) _).alloc (by simp) _⟩
    · obtain ⟨rfl, hl⟩ := hlaw.2.2 (by omega)
      have g1 : ¬ ((k : Int) ≤ 0) := by omega
      have g2 : ¬ (128 ≤ (k : Int)) := by omega
      have g3 : ¬ (64 ≤ (k : Int)) := by omega
      have g4 : IntKind.i64.wrap (64 - (k : Int)) = ((64 - k : Nat) : Int) := by
        rw [IntWalk.i64_in _ ⟨by omega, by omega⟩]; omega
      have g5 := right_or hi lo k h2
      rw [← hl] at g5
      clear hlaw hl
      go_enter Try.func155, Try.ntmps155
      go_upto_region 7 with fail
      have HA := Lib.hid ((Blk.new w #[.int .u64 hi, .int .u64 lo] 144 w.heap.size rfl).old (.cells #[.int .u64 0, .int .u64 0] 144))
      have HB := Lib.hid (Blk.new (w.alloc (.cells #[.int .u64 hi, .int .u64 lo] 144)) #[.int .u64 0, .int .u64 0] 144 (w.heap.size + 1) (by simp))
      have HW := Lib.hid (((Below.refl w.heap.size w).alloc (Nat.le_refl _) (.cells #[.int .u64 hi, .int .u64 lo] 144)).alloc (by simp) (.cells #[.int .u64 0, .int .u64 0] 144))
      generalize (w.alloc (.cells #[.int .u64 hi, .int .u64 lo] 144)).alloc (.cells #[.int .u64 0, .int .u64 0] 144) = W at HA HB HW ⊢
      have c0 : W.cell? ⟨w.heap.size, 0, none⟩ = some (.int .u64 hi) := HA.out.cell 0 rfl
      have c1 : W.cell? ⟨w.heap.size, 1, none⟩ = some (.int .u64 lo) := HA.out.cell 1 rfl
      go_still_tail 15, (by kernel_rfl)
      change wpList _ _ _ _ _ W.drew
      refine store_blk rfl 144 _ _ rfl (w.heap.size + 1) rfl #[.int .u64 0, .int .u64 0] #[.int .u64 ((hi : Int) / 2 ^ k), .int .u64 rl] 144 HB.out.drew rfl rfl (by kernel_rfl) (by simp [Value.oneCell']) ?_
      have HB2 := Lib.hid (HB.out.drew.setCells #[.int .u64 ((hi : Int) / 2 ^ k), .int .u64 rl] rfl)
      have HW2 := Lib.hid (Blk.Below.setCells (B := w.heap.size + 1) (#[.int .u64 ((hi : Int) / 2 ^ k), .int .u64 rl] : Array Value).toList 0 _ HW.out.drew (by omega))
      generalize W.drew.setCells (w.heap.size + 1) 0 (#[.int .u64 ((hi : Int) / 2 ^ k), .int .u64 rl] : Array Value).toList = W2 at HB2 HW2 ⊢
      go_wp2
      refine bodyPost_ret (results_cell_row rfl _ _ _ _ _ (0, 0) _ rfl HB2.out Try.underlying144 rfl (by kernel_rfl)) rfl ?_
      exact ⟨by simp, HW2.out⟩

end Go.Proofs.Ytogjgpiddjmpiaa.WideN
