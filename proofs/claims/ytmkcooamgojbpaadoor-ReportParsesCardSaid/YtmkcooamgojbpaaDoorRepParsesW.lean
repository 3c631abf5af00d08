/- damperlaw36.ReportParses: the walk. -/
import Derived.Test.YtmkcooamgojbpaaDoorRepAlive
namespace Go.Proofs.YtmkcooamgojbpaaDoor.Reports
open Go.RowKit Go.Proofs.YtmkcooamgojbpaaDoor.Kit Go.Proofs.YtmkcooamgojbpaaDoor.Blk Go.Proofs.YtmkcooamgojbpaaDoor.Dec Go.Proofs.YtmkcooamgojbpaaDoor.Words Go.Proofs.YtmkcooamgojbpaaDoor.Octets Go.Proofs.YtmkcooamgojbpaaDoor.Lines Go.Proofs.YtmkcooamgojbpaaDoor.Msgs Go.Proofs.YtmkcooamgojbpaaDoor.Open
attribute [local go_sem ↓] Go.wp_at_zero Go.wp_at_succ
set_option linter.unusedVariables false

set_option maxRecDepth 20000 in
set_option maxHeartbeats 4000000 in
theorem parses_list (l : List UInt8) (w : World) (hm : MX w) : Calls Tryd.prog 9 #[.string (strB l)] w (AliveIs w) := by
  have HM := Lib.hid hm
  have z1 : (strB l).size = l.length := strB_size l
  clear hm
  by_cases h : 300 < l.length
  · have b1 : (300 : Int) < (l.length : Int) := by omega
    go_enter Tryd.func9, Tryd.ntmps9
    go_wp2_with fail
    refine (alive_any w HM.out).mono ?_
    rintro e w1 ⟨rfl, hb⟩
    have HB := Lib.hid hb
    clear hb
    go_wp2_with fail
    go_ret
    exact ⟨rfl, HB.out⟩
  · have b1 : ¬ (300 : Int) < (l.length : Int) := by omega
    have H1 := Lib.hid (repParse_any l (by omega) w HM.out)
    have H2 := Lib.hid (fun W => rparse_any l (by omega) W)
    unfold ParseIs at H1 H2
    generalize ((parseM l).getD ⟨0, 0, 0, 0, 0, 0, 0, 0, 0⟩) = m at H1 H2
    generalize (if (parseM l).isSome = true then (0 : Int) else 4) = f at H1 H2
    go_enter Tryd.func9, Tryd.ntmps9
    go_wp2_with fail
    refine H1.out.mono ?_
    rintro e w1 ⟨rfl, hb1⟩
    have HB1 := Lib.hid hb1
    clear hb1
    unfold Msg.cells
    go_wp2_with fail
    refine (H2.out _).mono ?_
    rintro e w2 ⟨rfl, hb2⟩
    have HX2 := Lib.hid ((Blk.new w1 m.cells 62 w1.heap.size rfl).below hb2 (by simp))
    have HB2 := Lib.hid ((HB1.out.alloc HB1.out.size (.cells m.cells 62)).trans (hb2.mono (by have := HB1.out.size; simp; omega)))
    have HMX := Lib.hid ((HM.out.below (n := 0) HB2.out).below (n := 0) ((Below.refl _ _).alloc (Nat.le_refl _) (.cells m.cells 62)))
    have HX3 := Lib.hid (HX2.out.old (.cells m.cells 62))
    have HY3 := Lib.hid (Blk.new w2 m.cells 62 w2.heap.size rfl)
    have HB3 := Lib.hid (HB2.out.alloc HB2.out.size (.cells m.cells 62))
    clear hb2
    unfold Msg.cells
    go_upto_region 5 with fail
    change Code.wp _ _ _ _ (w2.alloc (.cells m.cells 62))
    generalize w2.alloc (.cells m.cells 62) = w3 at HMX HB3 HX3 HY3 ⊢
    generalize w1.heap.size = B1 at HX3 ⊢
    generalize w2.heap.size = B2 at HY3 ⊢
    go_wp2_with (first
      | (refine load_blk (by rfl) 62 _ (by rfl) B1 (by rfl) m.cells 62 HX3.out _ Tryd.underlying62 rfl (by kernel_rfl) ?_; simp only [Msg.cells])
      | (refine load_blk (by rfl) 62 _ (by rfl) B2 (by rfl) m.cells 62 HY3.out _ Tryd.underlying62 rfl (by kernel_rfl) ?_; simp only [Msg.cells]))
    refine (alive_any w3 HMX.out).mono ?_
    rintro e w4 ⟨rfl, hb⟩
    have HB4 := Lib.hid (HB3.out.trans (hb.mono HB3.out.size))
    clear hb
    go_wp2_with fail
    go_ret
    exact ⟨rfl, HB4.out⟩
theorem parses_law (s : ByteArray) (w : World) (hm : MX w) : Calls Tryd.prog 9 #[.string s] w (AliveIs w) := by
  have := parses_list s.data.toList w hm
  rwa [show strB s.data.toList = s from by simp [strB]] at this
end Go.Proofs.YtmkcooamgojbpaaDoor.Reports
