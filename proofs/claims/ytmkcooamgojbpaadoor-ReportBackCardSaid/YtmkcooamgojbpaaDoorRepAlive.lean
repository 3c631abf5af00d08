/- damperlaw36.alive. -/
import Derived.Test.YtmkcooamgojbpaaDoorRParse
namespace Go.Proofs.YtmkcooamgojbpaaDoor.Reports
open Go.RowKit Go.Proofs.YtmkcooamgojbpaaDoor.Kit Go.Proofs.YtmkcooamgojbpaaDoor.Blk Go.Proofs.YtmkcooamgojbpaaDoor.Dec Go.Proofs.YtmkcooamgojbpaaDoor.Words Go.Proofs.YtmkcooamgojbpaaDoor.Octets Go.Proofs.YtmkcooamgojbpaaDoor.Lines Go.Proofs.YtmkcooamgojbpaaDoor.Msgs Go.Proofs.YtmkcooamgojbpaaDoor.Open
attribute [local go_sem ↓] Go.wp_at_zero Go.wp_at_succ
set_option linter.unusedVariables false

def m0 : Msg := ⟨3, 0, 2, 5, 3, 7, 10, 1, 1⟩
def l0 : List UInt8 := [50, 32, 53, 32, 48, 32, 116, 114, 97, 100, 101, 32, 51, 32, 55, 32, 49, 48, 32, 49, 32, 49]
theorem m0_right : rightM m0 = true := by decide
theorem m0_fits : Fits m0 := by simp [Fits, m0, in64]
theorem m0_line : lineM m0 = l0 := by decide +kernel
theorem m0_parse : parseM l0 = some m0 := by rw [← m0_line]; exact parse_line m0_right m0_fits
def AliveIs (w : World) (e : Ending) (w' : World) : Prop := e = .returned (.bool true) ∧ Below w.heap.size w w'
set_option maxRecDepth 20000 in
set_option maxHeartbeats 4000000 in
theorem alive_any (w : World) (hm : MX w) : Calls Tryd.prog 39 #[] w (AliveIs w) := by
  have HM := Lib.hid hm
  have H1 := Lib.hid (repLine_any m0 m0_fits w hm)
  unfold RLineIs at H1
  rw [m0_right, if_pos rfl, m0_line] at H1
  have H2 := Lib.hid (fun W h => repParse_any l0 (by decide) W h)
  rw [m0_parse] at H2
  clear hm
  unfold Msg.cells m0 at H1
  go_enter Tryd.func39, Tryd.ntmps39
  go_wp2_with fail
  refine H1.out.mono ?_
  rintro e w1 ⟨rfl, hb1⟩
  have HB1 := Lib.hid hb1
  have HM1 := Lib.hid (HM.out.below (n := 0) hb1)
  clear hb1
  simp only [Option.getD_some, Option.isSome_some, if_true]
  go_wp2_with fail
  refine (H2.out w1 HM1.out).mono ?_
  rintro e w2 ⟨rfl, hb2⟩
  have HB2 := Lib.hid (HB1.out.trans (hb2.mono HB1.out.size))
  clear hb2
  simp only [Option.getD_some, Option.isSome_some, if_true]
  unfold Msg.cells m0
  have bq : ((strB l0).toList == [50, 32, 53, 32, 48, 32, 116, 114, 97, 100, 101, 32, 51, 32, 55, 32, 49, 48, 32, 49, 32, 49]) = true := by rw [ByteArray.toList_eq, strB_list]; decide
  generalize strB l0 = S at bq ⊢
  go_wp2_with fail
  refine (word_any 9 _).mono ?_
  rintro e w3 ⟨rfl, hb3⟩
  have HB3 := Lib.hid ((HB2.out.alloc HB2.out.size _).trans (hb3.mono (by have := HB2.out.size; simp; omega)))
  clear hb3
  have bw : ((strB (wordK 9)).toList == [108, 101, 118, 101, 108]) = true := by rw [ByteArray.toList_eq, strB_list]; decide
  generalize strB (wordK 9) = S9 at bw ⊢
  go_wp2_with fail
  go_ret
  exact ⟨rfl, HB3.out⟩
end Go.Proofs.YtmkcooamgojbpaaDoor.Reports
