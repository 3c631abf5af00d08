/- tape.mean. -/
import Derived.Test.YtogjgpiddjmpiaaWideV
namespace Go.Proofs.Ytogjgpiddjmpiaa.WideN
set_option linter.unusedVariables false
open Go.RowKit Go.Proofs.Ytogjgpiddjmpiaa.Kit Go.Proofs.Ytogjgpiddjmpiaa.Blk

theorem mean_any (hi lo v : Nat) (h1 : hi < 18446744073709551616) (h2 : lo < 18446744073709551616) (hv0 : 0 < v) (hv : v < 9223372036854775808)
    (hq : (hi * 18446744073709551616 + lo) / v < 9223372036854775808) (w : World) :
    Calls Try.prog 78 #[.agg #[.int .u64 hi, .int .u64 lo], .int .i64 v] w fun e w' =>
    e = .returned (.int .i64 (((hi * 18446744073709551616 + lo) / v : Nat) : Int)) ∧ Below w.heap.size w w' := by
  have HD := Lib.hid (fun w => div_any hi lo v h1 h2 hv0 (by omega) w)
  generalize hA : (hi * 18446744073709551616 + lo) / v = q at *
  have e0 : q / 18446744073709551616 = 0 := by omega
  have e1 : q % 18446744073709551616 = q := by omega
  rw [e0, e1] at HD
  generalize (hi * 18446744073709551616 + lo) % v = r at *
  clear hA e0 e1
  have e2 : IntKind.u64.wrap (v : Int) = (v : Int) := IntWalk.u64_in _ ⟨by omega, by omega⟩
  have e3 : IntKind.i64.wrap (q : Int) = (q : Int) := IntWalk.i64_in _ ⟨by omega, by omega⟩
  go_enter Try.func78, Try.ntmps78
  go_wp2_with fail
  refine (HD.out _).mono ?_
  rintro e w1 ⟨rfl, hb⟩
  have HW := Lib.hid (((((Below.refl w.heap.size w).alloc (Nat.le_refl _) (.cells #[.int .u64 hi, .int .u64 lo] 144)).trans (hb.mono (by simp))).alloc (Nat.le_trans (by simp) hb.size) (.cells #[.int .u64 0, .int .u64 q] 144)))
  clear hb
  go_wp2
  refine bodyPost_ret (v := .int .i64 q) (by simp [results, Try.results78, go_sem]) rfl ?_
  exact ⟨rfl, HW.out⟩
end Go.Proofs.Ytogjgpiddjmpiaa.WideN
