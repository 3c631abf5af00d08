/- damperlaw36.ReportReads: the walk. -/
import Derived.Test.YtmkcooamgojbpaaDoorRRead
import Derived.Test.YtmkcooamgojbpaaDoorLists
import Derived.Test.YtmkcooamgojbpaaDoorRepAlive
namespace Go.Proofs.YtmkcooamgojbpaaDoor.Reports
open Go.RowKit Go.Proofs.YtmkcooamgojbpaaDoor.Kit Go.Proofs.YtmkcooamgojbpaaDoor.Blk Go.Proofs.YtmkcooamgojbpaaDoor.Dec Go.Proofs.YtmkcooamgojbpaaDoor.Words Go.Proofs.YtmkcooamgojbpaaDoor.Octets Go.Proofs.YtmkcooamgojbpaaDoor.Lines Go.Proofs.YtmkcooamgojbpaaDoor.Msgs Go.Proofs.YtmkcooamgojbpaaDoor.Open
attribute [local go_sem ↓] Go.wp_at_zero Go.wp_at_succ
set_option linter.unusedVariables false

set_option maxRecDepth 20000 in
set_option maxHeartbeats 8000000 in
theorem reads_list (l : List UInt8) (w : World) (hm : MX w) : Calls Tryd.prog 11 #[.string (strB l)] w (AliveIs w) := by
  have HM := Lib.hid hm
  have z1 : (strB l).size = l.length := strB_size l
  clear hm
  by_cases h : 1500 < l.length
  · have b1 : (1500 : Int) < (l.length : Int) := by omega
    go_enter Tryd.func11, Tryd.ntmps11
    go_wp2_with fail
    refine (alive_any _ (HM.out)).mono ?_
    rintro e wz ⟨rfl, hbz⟩
    have HBZ := Lib.hid ((Below.refl w.heap.size w).trans (hbz.mono (Below.refl w.heap.size w).size))
    clear hbz
    go_wp2_with fail
    go_ret
    exact ⟨rfl, HBZ.out⟩
  · have b1 : ¬ (1500 : Int) < (l.length : Int) := by omega
    have H1 := Lib.hid (repRead_any l (by omega) w HM.out)
    have H2 := Lib.hid (fun W => rread_any l (by omega) W)
    cases hr : readT parseM l with
    | inl n =>
      rw [hr] at H1 H2
      clear hr
      go_enter Tryd.func11, Tryd.ntmps11
      go_wp2_with fail
      refine H1.out.mono ?_
      rintro e w1 ⟨rfl, hb1⟩
      have HB1 := Lib.hid hb1
      clear hb1
      go_wp2_with fail
      refine (H2.out w1).mono ?_
      rintro e w2 ⟨rfl, hb2⟩
      have HB2 := Lib.hid (HB1.out.trans (hb2.mono HB1.out.size))
      clear hb2
      go_wp2_with fail
      refine (lists_same none none 0 0 [] (by decide) w2 (fun i h => absurd h (Nat.not_lt_zero _)) (fun i h => absurd h (Nat.not_lt_zero _))).mono ?_
      rintro e w3 ⟨rfl, hb3⟩
      have HB3 := Lib.hid (HB2.out.trans (hb3.mono HB2.out.size))
      clear hb3
      go_wp2_with fail
      refine (alive_any _ (HM.out.below (n := 0) HB3.out)).mono ?_
      rintro e wz ⟨rfl, hbz⟩
      have HBZ := Lib.hid ((HB3.out).trans (hbz.mono (HB3.out).size))
      clear hbz
      go_wp2_with fail
      go_ret
      exact ⟨rfl, HBZ.out⟩
    | inr ms =>
      rw [hr] at H1 H2
      clear hr
      go_enter Tryd.func11, Tryd.ntmps11
      go_wp2_with fail
      refine H1.out.mono ?_
      rintro e w1 ⟨v1, rfl, hg1⟩
      have HG1 := Lib.hid hg1
      obtain ⟨a1, c1, rfl, hr1⟩ := row_of_gl hg1
      have HR1 := Lib.hid hr1
      have HML := Lib.hid (gl_len hg1)
      clear hg1 hr1
      go_wp2_with fail
      refine (H2.out w1).mono ?_
      rintro e w2 ⟨v2, rfl, hg2⟩
      have HG2 := Lib.hid hg2
      obtain ⟨a2, c2, rfl, hr2⟩ := row_of_gl hg2
      have HR2 := Lib.hid hr2
      have HB2 := Lib.hid (HG1.out.bel.trans (hg2.bel.mono HG1.out.bel.size))
      have HR12 := Lib.hid (HR1.out.all hg2.bel)
      clear hg2 hr2
      go_wp2_with fail
      refine (lists_same a1 a2 c1 c2 ms HML.out w2 HR12.out HR2.out).mono ?_
      rintro e w3 ⟨rfl, hb3⟩
      have HB3 := Lib.hid (HB2.out.trans (hb3.mono HB2.out.size))
      clear hb3
      go_wp2_with fail
      refine (alive_any _ (HM.out.below (n := 0) HB3.out)).mono ?_
      rintro e wz ⟨rfl, hbz⟩
      have HBZ := Lib.hid ((HB3.out).trans (hbz.mono (HB3.out).size))
      clear hbz
      go_wp2_with fail
      go_ret
      exact ⟨rfl, HBZ.out⟩
theorem reads_law (s : ByteArray) (w : World) (hm : MX w) : Calls Tryd.prog 11 #[.string s] w (AliveIs w) := by
  have := reads_list s.data.toList w hm
  rwa [show strB s.data.toList = s from by simp [strB]] at this
end Go.Proofs.YtmkcooamgojbpaaDoor.Reports
