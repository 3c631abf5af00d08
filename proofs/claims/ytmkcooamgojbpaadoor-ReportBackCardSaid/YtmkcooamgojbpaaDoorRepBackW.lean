/- damperlaw36.ReportBack: the walk. -/
import Derived.Test.YtmkcooamgojbpaaDoorRepText
import Derived.Test.YtmkcooamgojbpaaDoorRepRead
import Derived.Test.YtmkcooamgojbpaaDoorLists
import Derived.Test.YtmkcooamgojbpaaDoorRepAlive
namespace Go.Proofs.YtmkcooamgojbpaaDoor.Reports
open Go.RowKit Go.Proofs.YtmkcooamgojbpaaDoor.Kit Go.Proofs.YtmkcooamgojbpaaDoor.Blk Go.Proofs.YtmkcooamgojbpaaDoor.Dec Go.Proofs.YtmkcooamgojbpaaDoor.Words Go.Proofs.YtmkcooamgojbpaaDoor.Octets Go.Proofs.YtmkcooamgojbpaaDoor.Lines Go.Proofs.YtmkcooamgojbpaaDoor.Msgs Go.Proofs.YtmkcooamgojbpaaDoor.Open
attribute [local go_sem ↓] Go.wp_at_zero Go.wp_at_succ
set_option linter.unusedVariables false

set_option maxRecDepth 20000 in
set_option maxHeartbeats 8000000 in
theorem back_list (a : Option Addr) (cap : Nat) (ms : List Msg) (l : List UInt8) (w : World) (hml : ms.length ≤ maxLen) (hrow : MsgRow w a ms) (hf : ∀ m ∈ ms, Fits m) (hm : MX w) :
    Calls Tryd.prog 12 #[.slice a ms.length cap, .string (strB l)] w (AliveIs w) := by
  have HM := Lib.hid hm
  have HR := Lib.hid hrow
  have HF := Lib.hid hf
  have HML := Lib.hid hml
  have z1 : (strB l).size = l.length := strB_size l
  clear hm hrow hf hml
  by_cases h : 60 < ms.length
  · have b1 : (60 : Int) < (ms.length : Int) := by omega
    go_enter Tryd.func12, Tryd.ntmps12
    go_wp2_with fail
    refine (alive_any _ (HM.out)).mono ?_
    rintro e wz ⟨rfl, hbz⟩
    have HBZ := Lib.hid ((Below.refl w.heap.size w).trans (hbz.mono (Below.refl w.heap.size w).size))
    clear hbz
    go_wp2_with fail
    go_ret
    exact ⟨rfl, HBZ.out⟩
  · have b1 : ¬ (60 : Int) < (ms.length : Int) := by omega
    by_cases h2 : 300 < l.length
    · have b2 : (300 : Int) < (l.length : Int) := by omega
      go_enter Tryd.func12, Tryd.ntmps12
      go_wp2_with fail
      refine (alive_any _ (HM.out)).mono ?_
      rintro e wz ⟨rfl, hbz⟩
      have HBZ := Lib.hid ((Below.refl w.heap.size w).trans (hbz.mono (Below.refl w.heap.size w).size))
      clear hbz
      go_wp2_with fail
      go_ret
      exact ⟨rfl, HBZ.out⟩
    · have b2 : ¬ (300 : Int) < (l.length : Int) := by omega
      have HP := Lib.hid (repParse_any l (by omega) w HM.out)
      cases hp : parseM l with
      | none =>
        rw [hp] at HP
        clear hp
        unfold ParseIs at HP
        simp only [Option.getD_none, Option.isSome_none] at HP
        have e4 : (if (false = true) then (0 : Int) else 4) = 4 := rfl
        rw [e4] at HP
        clear e4
        go_enter Tryd.func12, Tryd.ntmps12
        go_wp2_with fail
        refine HP.out.mono ?_
        rintro e w1 ⟨rfl, hb1⟩
        have HB1 := Lib.hid (hb1.alloc hb1.size (.cells (⟨0, 0, 0, 0, 0, 0, 0, 0, 0⟩ : Msg).cells 62))
        clear hb1
        unfold Msg.cells at HB1 ⊢
        go_upto_region 8 with fail
        generalize w1.alloc _ = w2 at HB1 ⊢
        have HT := Lib.hid (repText_any a cap ms w2 (HR.out.all (HB1.out)) HF.out (by omega) (HM.out.below (n := 0) (HB1.out)))
        cases ht : textM ms with
        | none =>
          rw [ht] at HT
          clear ht
          unfold LineIs at HT
          simp only [Option.getD_none, Option.isSome_none] at HT
          have e4 : (if (false = true) then (0 : Int) else 1) = 1 := rfl
          rw [e4] at HT
          clear e4
          go_wp2_with fail
          refine HT.out.mono ?_
          rintro e w5 ⟨rfl, hb5⟩
          have HB5 := Lib.hid ((HB1.out).trans (hb5.mono (HB1.out).size))
          clear hb5
          have bq : (strB []).toList = [] := by rw [ByteArray.toList_eq, strB_list]
          go_wp2_with fail
          refine (alive_any _ (HM.out.below (n := 0) HB5.out)).mono ?_
          rintro e wz ⟨rfl, hbz⟩
          have HBZ := Lib.hid ((HB5.out).trans (hbz.mono (HB5.out).size))
          clear hbz
          go_wp2_with fail
          go_ret
          exact ⟨rfl, HBZ.out⟩
        | some t =>
          have HRT := Lib.hid (read_text ht HF.out)
          have htl : t.length ≤ 100000 := by
            unfold textM at ht
            split at ht
            · injection ht with ht
              have := txt_len HF.out
              unfold txtM at this
              rw [ht] at this
              omega
            · cases ht
          rw [ht] at HT
          clear ht
          unfold LineIs at HT
          simp only [Option.getD_some, Option.isSome_some, if_true] at HT
          go_wp2_with fail
          refine HT.out.mono ?_
          rintro e w5 ⟨rfl, hb5⟩
          have HB5 := Lib.hid ((HB1.out).trans (hb5.mono (HB1.out).size))
          clear hb5
          have HRD := Lib.hid (repRead_any t htl w5 (HM.out.below (n := 0) HB5.out))
          rw [HRT.out] at HRD
          go_wp2_with fail
          refine HRD.out.mono ?_
          rintro e w6 ⟨v, rfl, hg⟩
          have HB6 := Lib.hid (HB5.out.trans (hg.bel.mono HB5.out.size))
          obtain ⟨a2, c2, rfl, hr2⟩ := row_of_gl hg
          have HR2 := Lib.hid hr2
          clear hg hr2
          go_wp2_with fail
          refine (lists_same a2 a c2 cap ms HML.out w6 HR2.out (HR.out.all HB6.out)).mono ?_
          rintro e w7 ⟨rfl, hb7⟩
          have HB7 := Lib.hid (HB6.out.trans (hb7.mono HB6.out.size))
          clear hb7
          go_wp2_with fail
          refine (alive_any _ (HM.out.below (n := 0) HB7.out)).mono ?_
          rintro e wz ⟨rfl, hbz⟩
          have HBZ := Lib.hid ((HB7.out).trans (hbz.mono (HB7.out).size))
          clear hbz
          go_wp2_with fail
          go_ret
          exact ⟨rfl, HBZ.out⟩
      | some m =>
        obtain ⟨hr, hl, -⟩ := parse_sound hp
        have hfm := parse_fits hp
        rw [hp] at HP
        clear hp
        unfold ParseIs at HP
        simp only [Option.getD_some, Option.isSome_some, if_true] at HP
        have HLN := Lib.hid (fun W h => repLine_any m hfm W h)
        unfold RLineIs LineIs at HLN
        rw [if_pos hr, hl] at HLN
        simp only [Option.getD_some, Option.isSome_some, if_true] at HLN
        clear hr hl hfm
        go_enter Tryd.func12, Tryd.ntmps12
        go_wp2_with fail
        refine HP.out.mono ?_
        rintro e w1 ⟨rfl, hb1⟩
        have HB1 := Lib.hid (hb1.alloc hb1.size (.cells m.cells 62))
        have HMX := Lib.hid (HM.out.below (n := 0) HB1.out)
        clear hb1
        unfold Msg.cells at HB1 HLN HMX ⊢
        go_wp2_with fail
        refine (HLN.out _ HMX.out).mono ?_
        rintro e w2 ⟨rfl, hb2⟩
        have HB2 := Lib.hid (HB1.out.trans (hb2.mono HB1.out.size))
        clear hb2
        go_upto_region 8 with fail
        have HT := Lib.hid (repText_any a cap ms w2 (HR.out.all (HB2.out)) HF.out (by omega) (HM.out.below (n := 0) (HB2.out)))
        cases ht : textM ms with
        | none =>
          rw [ht] at HT
          clear ht
          unfold LineIs at HT
          simp only [Option.getD_none, Option.isSome_none] at HT
          have e4 : (if (false = true) then (0 : Int) else 1) = 1 := rfl
          rw [e4] at HT
          clear e4
          go_wp2_with fail
          refine HT.out.mono ?_
          rintro e w5 ⟨rfl, hb5⟩
          have HB5 := Lib.hid ((HB2.out).trans (hb5.mono (HB2.out).size))
          clear hb5
          have bq : (strB []).toList = [] := by rw [ByteArray.toList_eq, strB_list]
          go_wp2_with fail
          refine (alive_any _ (HM.out.below (n := 0) HB5.out)).mono ?_
          rintro e wz ⟨rfl, hbz⟩
          have HBZ := Lib.hid ((HB5.out).trans (hbz.mono (HB5.out).size))
          clear hbz
          go_wp2_with fail
          go_ret
          exact ⟨rfl, HBZ.out⟩
        | some t =>
          have HRT := Lib.hid (read_text ht HF.out)
          have htl : t.length ≤ 100000 := by
            unfold textM at ht
            split at ht
            · injection ht with ht
              have := txt_len HF.out
              unfold txtM at this
              rw [ht] at this
              omega
            · cases ht
          rw [ht] at HT
          clear ht
          unfold LineIs at HT
          simp only [Option.getD_some, Option.isSome_some, if_true] at HT
          go_wp2_with fail
          refine HT.out.mono ?_
          rintro e w5 ⟨rfl, hb5⟩
          have HB5 := Lib.hid ((HB2.out).trans (hb5.mono (HB2.out).size))
          clear hb5
          have HRD := Lib.hid (repRead_any t htl w5 (HM.out.below (n := 0) HB5.out))
          rw [HRT.out] at HRD
          go_wp2_with fail
          refine HRD.out.mono ?_
          rintro e w6 ⟨v, rfl, hg⟩
          have HB6 := Lib.hid (HB5.out.trans (hg.bel.mono HB5.out.size))
          obtain ⟨a2, c2, rfl, hr2⟩ := row_of_gl hg
          have HR2 := Lib.hid hr2
          clear hg hr2
          go_wp2_with fail
          refine (lists_same a2 a c2 cap ms HML.out w6 HR2.out (HR.out.all HB6.out)).mono ?_
          rintro e w7 ⟨rfl, hb7⟩
          have HB7 := Lib.hid (HB6.out.trans (hb7.mono HB6.out.size))
          clear hb7
          go_wp2_with fail
          refine (alive_any _ (HM.out.below (n := 0) HB7.out)).mono ?_
          rintro e wz ⟨rfl, hbz⟩
          have HBZ := Lib.hid ((HB7.out).trans (hbz.mono (HB7.out).size))
          clear hbz
          go_wp2_with fail
          go_ret
          exact ⟨rfl, HBZ.out⟩
theorem back_law (a : Option Addr) (cap : Nat) (ms : List Msg) (s : ByteArray) (w : World) (hml : ms.length ≤ maxLen) (hrow : MsgRow w a ms) (hf : ∀ m ∈ ms, Fits m) (hm : MX w) : Calls Tryd.prog 12 #[.slice a ms.length cap, .string s] w (AliveIs w) := by
  have := back_list a cap ms s.data.toList w hml hrow hf hm
  rwa [show strB s.data.toList = s from by simp [strB]] at this
end Go.Proofs.YtmkcooamgojbpaaDoor.Reports
