/- damperref06.Lists: two rows of the same messages. -/
import Derived.Test.YtmkcooamgojbpaaDoorRowM
import Derived.Test.YtmkcooamgojbpaaDoorStill
import Derived.Deep.DeepCutAuto
import Derived.Deep.CutBlock
import Derived.Deep.DrawnRows
namespace Go.Proofs.YtmkcooamgojbpaaDoor.Reports
open Go.RowKit Go.Proofs.YtmkcooamgojbpaaDoor.Kit Go.Proofs.YtmkcooamgojbpaaDoor.Blk Go.Proofs.YtmkcooamgojbpaaDoor.Msgs
attribute [local go_sem ↓] Go.wp_at_zero Go.wp_at_succ
set_option linter.unusedVariables false

set_option maxRecDepth 20000 in
set_option maxHeartbeats 4000000 in
theorem lists_same (a b : Option Addr) (ca cb : Nat) (l : List Msg) (hl : l.length ≤ maxLen) (w : World) (ha : MsgRow w a l) (hb : MsgRow w b l) :
    Calls Tryd.prog 50 #[.slice a l.length ca, .slice b l.length cb] w fun e w' => e = .returned (.bool true) ∧ Below w.heap.size w w' := by
  unfold maxLen at hl
  have HA := Lib.hid ha
  have HB := Lib.hid hb
  clear ha hb
  go_enter Tryd.func50, Tryd.ntmps50
  go_wp2_with fail
  go_loopw [5] (fun i wr => ∃ k : Nat, k ≤ l.length ∧ i = .int .i64 k ∧ Below w.heap.size w wr) (fun i _ => l.length - (intOf i).toNat)
  case atStart => exact ⟨0, by omega, rfl, Below.refl _ _⟩
  case round =>
    obtain ⟨k, hk, rfl, hbel⟩ := hrel
    have HBL := Lib.hid hbel
    clear hbel
    by_cases hlt : k < l.length
    · obtain ⟨g, off, rfl, -, hat⟩ := msgRow_at (HA.out.all HBL.out) k hlt
      obtain ⟨g2, off2, rfl, -, hat2⟩ := msgRow_at (HB.out.all HBL.out) k hlt
      have H1 := Lib.hid (show wr.drew.rangeAt g (off + k * 9) l[k].cells.toList from hat)
      have H2 := Lib.hid (show wr.drew.rangeAt g2 (off2 + k * 9) l[k].cells.toList from hat2)
      clear hat hat2
      generalize l[k] = m at H1 H2
      have hkl : (k : Int) < (l.length : Int) := by omega
      go_upto_region 6 with fail
      refine wp_region_still_tail 8 (by kernel_rfl) (by kernel_rfl) ?_
      simp only [List.take_succ_cons, List.take_zero, List.drop_succ_cons, List.drop_zero]
      repeat (first | (refine still_load_mid rfl 62 (.tmp 19) rfl g (off + k * 9) rfl m.cells.toList _ H1.out Tryd.underlying62 rfl (by kernel_rfl) ?_) | (refine still_load_mid rfl 62 (.tmp 23) rfl g2 (off2 + k * 9) rfl m.cells.toList _ H2.out Tryd.underlying62 rfl (by kernel_rfl) ?_) | still_step)
      refine wpStill_nil ?_
      change wpList _ _ _ _ _ wr.drew
      simp only [Msg.cells]
      go_wp2_with fail
      go_roundw
      case rel => exact ⟨k + 1, by omega, by go_num, HBL.out.drew⟩
      case measure => simp [intOf]; omega
    · go_wp2_with fail
      go_ret
      exact ⟨rfl, HBL.out⟩
end Go.Proofs.YtmkcooamgojbpaaDoor.Reports
