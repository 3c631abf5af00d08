/- damperlaw31.alive. -/
import Derived.Test.YtmkcooamgojbpaaLedOwes
namespace Go.Proofs.Ytmkcooamgojbpaa.Ledger
open Go.RowKit Go.ChangeMaps Go.Proofs.Ytmkcooamgojbpaa.Kit Go.Proofs.Ytmkcooamgojbpaa.Blk Go.Proofs.Ytmkcooamgojbpaa.Mp Go.Proofs.Ytmkcooamgojbpaa.Qty Go.Proofs.Ytmkcooamgojbpaa.Msgs
attribute [local go_sem ↓] Go.wp_at_zero Go.wp_at_succ
set_option linter.unusedVariables false

def am1 : Msg := ⟨1, 0, 0, 0, 1, 5, 0, 5, 0⟩
def am2 : Msg := ⟨3, 0, 0, 0, 1, 2, 0, 3, 1⟩
def am3 : Msg := ⟨1, 0, 0, 0, 2, 3, 0, 0, 0⟩
def al1 : Led := ⟨[((0, 1), ⟨5, 0, 0, 5⟩)], [], [(0, ⟨0, 0, 0, 0⟩)]⟩
def al2 : Led := ⟨[((0, 1), ⟨5, 3, 0, 2⟩)], [((0, 2), 3)], [(0, ⟨0, 0, 0, 0⟩)]⟩
def al3 : Led := ⟨[((0, 1), ⟨5, 3, 0, 2⟩), ((0, 2), ⟨3, 3, 0, 0⟩)], [], [(0, ⟨0, 0, 0, 0⟩)]⟩
theorem ap1 : putF led0 am1 = (0, al1) := by rfl
theorem ap2 : putF al1 am2 = (0, al2) := by rfl
theorem ap3 : putF al2 am3 = (0, al3) := by rfl
theorem aget : mget (0, 1) al3.now = some ⟨5, 3, 0, 2⟩ := by rfl
theorem aowes : owesN al3 0 = 0 := by decide
theorem aok1 : OkL 1 al1 := by have := ok_put ok_zero (by decide) am1; rwa [ap1] at this
theorem aok2 : OkL 2 al2 := by have := ok_put aok1 (by decide) am2; rwa [ap2] at this
theorem aok3 : OkL 3 al3 := by have := ok_put aok2 (by decide) am3; rwa [ap3] at this
set_option maxRecDepth 20000 in
set_option maxHeartbeats 2000000 in
theorem alive_any (w : World) : Calls Try.prog 5 #[] w fun e w' => e = .returned (.bool true) ∧ Below w.heap.size w w' := by
  go_enter Try.func5, Try.ntmps5
  go_wp2_with fail
  refine (new_any w).mono ?_
  rintro e w1 ⟨rfl, hl1, hb1⟩
  generalize hD : w.heap.size + 3 = D at hl1 ⊢
  generalize hB2 : w.heap.size + 1 = b2 at hl1 ⊢
  generalize hB3 : w.heap.size + 2 = b3 at hl1 ⊢
  have HAB := Lib.hid (show w.heap.size ≤ b2 ∧ w.heap.size ≤ b3 by omega)
  have HP1 := Lib.hid (put_any led0 0 ok_zero (by decide) am1 D w.heap.size b2 b3 w1 hl1)
  rw [show am1.cells = #[.int .i64 1, .int .i64 0, .int .i64 0, .int .i64 0, .int .i64 1, .int .i64 5, .int .i64 0, .int .i64 5, .int .i64 0] from rfl, ap1] at HP1
  have HB1 := Lib.hid hb1
  clear hb1 hD hB2 hB3 hl1
  go_wp2_with fail
  refine HP1.out.mono ?_
  clear HP1
  rintro e w2 ⟨rfl, hl2, hc2⟩
  have HC2 := Lib.hid (HB1.out.trans (show Below w.heap.size w1 w2 from ⟨hc2.os, hc2.tape, hc2.output, hc2.size, fun k hk => hc2.block k (Nat.lt_of_lt_of_le hk HB1.out.size) (by omega) (by have := HAB.out; omega) (by have := HAB.out; omega)⟩))
  have HP2 := Lib.hid (put_any al1 1 aok1 (by decide) am2 D w.heap.size b2 b3 w2 hl2)
  rw [show am2.cells = #[.int .i64 3, .int .i64 0, .int .i64 0, .int .i64 0, .int .i64 1, .int .i64 2, .int .i64 0, .int .i64 3, .int .i64 1] from rfl, ap2] at HP2
  clear hl2 hc2 HB1
  go_wp2_with fail
  refine HP2.out.mono ?_
  clear HP2
  rintro e w3 ⟨rfl, hl3, hc3⟩
  have HC3 := Lib.hid (HC2.out.trans (show Below w.heap.size w2 w3 from ⟨hc3.os, hc3.tape, hc3.output, hc3.size, fun k hk => hc3.block k (Nat.lt_of_lt_of_le hk HC2.out.size) (by omega) (by have := HAB.out; omega) (by have := HAB.out; omega)⟩))
  have HP3 := Lib.hid (put_any al2 2 aok2 (by decide) am3 D w.heap.size b2 b3 w3 hl3)
  rw [show am3.cells = #[.int .i64 1, .int .i64 0, .int .i64 0, .int .i64 0, .int .i64 2, .int .i64 3, .int .i64 0, .int .i64 0, .int .i64 0] from rfl, ap3] at HP3
  clear hl3 hc3 HC2
  go_wp2_with fail
  refine HP3.out.mono ?_
  clear HP3
  rintro e w4 ⟨rfl, hl4, hc4⟩
  have HC4 := Lib.hid (HC3.out.trans (show Below w.heap.size w3 w4 from ⟨hc4.os, hc4.tape, hc4.output, hc4.size, fun k hk => hc4.block k (Nat.lt_of_lt_of_le hk HC3.out.size) (by omega) (by have := HAB.out; omega) (by have := HAB.out; omega)⟩))
  have HL4 := Lib.hid hl4
  have HG := Lib.hid (get_any al3 D w.heap.size b2 b3 0 1 w4 hl4)
  rw [aget] at HG
  clear hl4 hc4 HC3
  go_wp2_with fail
  refine HG.out.mono ?_
  clear HG
  rintro e w5 ⟨rfl, hb5⟩
  have HL5 := Lib.hid ((HL4.out.below hb5).alloc (.cells #[.int .i64 5, .int .i64 3, .int .i64 0, .int .i64 2] 41))
  have HB5 := Lib.hid ((HC4.out.trans (hb5.mono HC4.out.size)).alloc (Nat.le_trans HC4.out.size hb5.size) (.cells #[.int .i64 5, .int .i64 3, .int .i64 0, .int .i64 2] 41))
  have HX5 := Lib.hid (Blk.new w5 #[.int .i64 5, .int .i64 3, .int .i64 0, .int .i64 2] 41 w5.heap.size rfl)
  clear hb5 HL4 HC4
  simp only [Option.getD_some, Option.isSome_some, Acc.cells]
  go_upto_region 6 with fail
  change Code.wp _ _ _ _ (w5.alloc (.cells #[.int .i64 5, .int .i64 3, .int .i64 0, .int .i64 2] 41))
  generalize w5.alloc (.cells #[.int .i64 5, .int .i64 3, .int .i64 0, .int .i64 2] 41) = w6 at HL5 HB5 HX5 ⊢
  have c0 : w6.cell? ⟨w5.heap.size, 0, none⟩ = some (.int .i64 5) := HX5.out.cell 0 rfl
  have c1 : w6.cell? ⟨w5.heap.size, 1, none⟩ = some (.int .i64 3) := HX5.out.cell 1 rfl
  have c2 : w6.cell? ⟨w5.heap.size, 2, none⟩ = some (.int .i64 0) := HX5.out.cell 2 rfl
  have c3 : w6.cell? ⟨w5.heap.size, 3, none⟩ = some (.int .i64 2) := HX5.out.cell 3 rfl
  have HOW := Lib.hid (owes_led al3 (fun k => (aok3.acc k).mono (by decide)) (fun p hp => (aok3.now p hp).mono (by decide)) (by decide) D w.heap.size b2 b3 0 w6 HL5.out)
  rw [aowes] at HOW
  clear HL5 HX5
  go_wp2_with fail
  refine HOW.out.mono ?_
  rintro e w7 ⟨rfl, hb7⟩
  have HB7 := Lib.hid (HB5.out.trans (hb7.mono HB5.out.size))
  clear hb7
  go_wp2_with fail
  go_ret
  exact ⟨rfl, HB7.out⟩
end Go.Proofs.Ytmkcooamgojbpaa.Ledger
