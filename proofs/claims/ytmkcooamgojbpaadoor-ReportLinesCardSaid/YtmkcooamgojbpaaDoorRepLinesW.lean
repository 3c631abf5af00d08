/- damperlaw36.ReportLines: the walk. -/
import Derived.Test.YtmkcooamgojbpaaDoorRepText
import Derived.Test.YtmkcooamgojbpaaDoorRepAlive
namespace Go.Proofs.YtmkcooamgojbpaaDoor.Reports
open Go.RowKit Go.Proofs.YtmkcooamgojbpaaDoor.Kit Go.Proofs.YtmkcooamgojbpaaDoor.Blk Go.Proofs.YtmkcooamgojbpaaDoor.Dec Go.Proofs.YtmkcooamgojbpaaDoor.Words Go.Proofs.YtmkcooamgojbpaaDoor.Octets Go.Proofs.YtmkcooamgojbpaaDoor.Lines Go.Proofs.YtmkcooamgojbpaaDoor.Msgs Go.Proofs.YtmkcooamgojbpaaDoor.Open
attribute [local go_sem ↓] Go.wp_at_zero Go.wp_at_succ
set_option linter.unusedVariables false

set_option maxRecDepth 20000 in
set_option maxHeartbeats 8000000 in
theorem lines_law (a : Option Addr) (cap : Nat) (l : List Msg) (kind : Int) (w : World) (hrow : MsgRow w a l) (hf : ∀ m ∈ l, Fits m) (hm : MX w) :
    Calls Tryd.prog 10 #[.slice a l.length cap, .int .i64 kind] w (AliveIs w) := by
  have HM := Lib.hid hm
  have HR := Lib.hid hrow
  have HF := Lib.hid hf
  clear hm hrow hf
  by_cases h : 60 < l.length
  · have b1 : (60 : Int) < (l.length : Int) := by omega
    go_enter Tryd.func10, Tryd.ntmps10
    go_wp2_with fail
    refine (alive_any _ (HM.out)).mono ?_
    rintro e wz ⟨rfl, hbz⟩
    have HBZ := Lib.hid ((Below.refl w.heap.size w).trans (hbz.mono (Below.refl w.heap.size w).size))
    clear hbz
    go_wp2_with fail
    go_ret
    exact ⟨rfl, HBZ.out⟩
  · have b1 : ¬ (60 : Int) < (l.length : Int) := by omega
    go_enter Tryd.func10, Tryd.ntmps10
    go_wp2_with fail
    go_loopw [5] (fun i wr => ∃ k : Nat, k ≤ l.length ∧ i = .int .i64 k ∧ Below w.heap.size w wr) (fun i _ => l.length - (intOf i).toNat)
    case atStart => exact ⟨0, by omega, rfl, Below.refl _ _⟩
    case round =>
      obtain ⟨k, hk, rfl, hbel⟩ := hrel
      have HBL := Lib.hid hbel
      clear hbel
      by_cases hlt : k < l.length
      · obtain ⟨g, off, rfl, hg, hat⟩ := msgRow_at (HR.out.all HBL.out) k hlt
        have HAT := Lib.hid hat
        have HGL := Lib.hid hg
        have HFK := Lib.hid (HF.out _ (List.getElem_mem hlt))
        clear hat hg
        generalize l[k] = m at HAT HFK
        have hkl : (k : Int) < (l.length : Int) := by omega
        have HL1 := Lib.hid (repLine_any m HFK.out wr (HM.out.below (n := 0) HBL.out))
        have HL2 := Lib.hid (fun W => rrepLine_any m HFK.out W)
        unfold RLineIs LineIs at HL1 HL2
        generalize ((if rightM m = true then some (lineM m) else none).getD []) = X at HL1 HL2
        generalize (if (if rightM m = true then some (lineM m) else none).isSome = true then (0 : Int) else 1) = F at HL1 HL2
        unfold Msg.cells at HL1 HL2
        go_wp2_with (refine wpList_load_mid rfl 62 (.tmp 27) rfl g (off + k * 9) rfl m.cells.toList _ HAT.out Tryd.underlying62 rfl (by kernel_rfl) ?_; simp only [Msg.cells])
        refine HL1.out.mono ?_
        rintro e w5 ⟨rfl, hb5⟩
        have HB5 := Lib.hid (HBL.out.trans (hb5.mono HBL.out.size))
        have HAT5 : Hid (w5.rangeAt g (off + k * 9) m.cells.toList) := Lib.hid fun j v hv => by rw [hb5.cell (p := ⟨g, _, none⟩) HGL.out]; exact HAT.out j v hv
        clear hb5 HL1 HAT
        go_wp2_with (refine wpList_load_mid rfl 62 (.tmp 35) rfl g (off + k * 9) rfl m.cells.toList _ HAT5.out Tryd.underlying62 rfl (by kernel_rfl) ?_; simp only [Msg.cells])
        refine (HL2.out _).mono ?_
        rintro e w6 ⟨rfl, hb6⟩
        have HB6 := Lib.hid (HB5.out.trans (hb6.mono HB5.out.size))
        clear hb6 HAT5 HL2
        go_wp2_with fail
        go_roundw
        case rel => exact ⟨k + 1, by omega, by go_num, HB6.out⟩
        case measure => simp [intOf]; omega
      · obtain rfl : k = l.length := by omega
        have HL1 := Lib.hid (repText_any a cap l wr (HR.out.all HBL.out) HF.out (by omega) (HM.out.below (n := 0) HBL.out))
        have HL2 := Lib.hid (fun W h => rrepText_any a cap l W h HF.out (by omega))
        unfold LineIs at HL1 HL2
        generalize ((textM l).getD []) = X at HL1 HL2
        generalize (if (textM l).isSome = true then (0 : Int) else 1) = F at HL1 HL2
        go_wp2_with fail
        refine HL1.out.mono ?_
        rintro e w5 ⟨rfl, hb5⟩
        have HB5 := Lib.hid (HBL.out.trans (hb5.mono HBL.out.size))
        clear hb5
        go_wp2_with fail
        refine (HL2.out w5 (HR.out.all HB5.out)).mono ?_
        rintro e w6 ⟨rfl, hb6⟩
        have HB6 := Lib.hid (HB5.out.trans (hb6.mono HB5.out.size))
        clear hb6
        go_wp2_with fail
        refine (word_any kind w6).mono ?_
        rintro e w7 ⟨rfl, hb7⟩
        have HB7 := Lib.hid (HB6.out.trans (hb7.mono HB6.out.size))
        clear hb7
        go_wp2_with fail
        refine (rword_any kind w7).mono ?_
        rintro e w8 ⟨rfl, hb8⟩
        have HB8 := Lib.hid (HB7.out.trans (hb8.mono HB7.out.size))
        clear hb8
        go_wp2_with fail
        refine (alive_any _ (HM.out.below (n := 0) HB8.out)).mono ?_
        rintro e wz ⟨rfl, hbz⟩
        have HBZ := Lib.hid ((HB8.out).trans (hbz.mono (HB8.out).size))
        clear hbz
        go_wp2_with fail
        go_ret
        exact ⟨rfl, HBZ.out⟩
end Go.Proofs.YtmkcooamgojbpaaDoor.Reports
