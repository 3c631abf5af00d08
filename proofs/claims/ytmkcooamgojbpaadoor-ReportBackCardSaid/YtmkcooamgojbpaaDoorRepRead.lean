/- report.Read. -/
import Derived.Test.YtmkcooamgojbpaaDoorRepParse
import Derived.Test.YtmkcooamgojbpaaDoorRowM
namespace Go.Proofs.YtmkcooamgojbpaaDoor.Reports
open Go.RowKit Go.Proofs.YtmkcooamgojbpaaDoor.Kit Go.Proofs.YtmkcooamgojbpaaDoor.Blk Go.Proofs.YtmkcooamgojbpaaDoor.Dec Go.Proofs.YtmkcooamgojbpaaDoor.Words Go.Proofs.YtmkcooamgojbpaaDoor.Octets Go.Proofs.YtmkcooamgojbpaaDoor.Lines Go.Proofs.YtmkcooamgojbpaaDoor.Msgs Go.Proofs.YtmkcooamgojbpaaDoor.Open
attribute [local go_sem ↓] Go.wp_at_zero Go.wp_at_succ
set_option linter.unusedVariables false

/-- What Read answers. -/
def ReadIs (r : Nat ⊕ List Msg) (w : World) (e : Ending) (w' : World) : Prop := match r with
  | .inl n => e = .returned (.tuple #[.slice none 0 0, .int .i64 (n : Int), .int .i64 4]) ∧ Below w.heap.size w w'
  | .inr ms => ∃ v, e = .returned (.tuple #[v, .int .i64 0, .int .i64 0]) ∧ GL w.heap.size 62 9 w w' v ms.length (rowsM ms)
def strLen : Value → Nat
  | .string s => s.size
  | _ => 0
theorem read_empty : readT parseM [] = .inr [] := rfl
def zeroMsg : Msg := ⟨0, 0, 0, 0, 0, 0, 0, 0, 0⟩
set_option maxRecDepth 20000 in
set_option maxHeartbeats 8000000 in
theorem repRead_any (l : List UInt8) (hl : l.length ≤ 100000) (w : World) (hm : MX w) :
    Calls Tryd.prog 48 #[.string (strB l)] w (ReadIs (readT parseM l) w) := by
  obtain ⟨i0, hi0, hz0, hz1, hz2⟩ := info_parts infoMsg
  have HM := Lib.hid hm
  clear hm
  go_enter Tryd.func48, Tryd.ntmps48
  go_wp2_with fail
  go_loopw [0, 2] (fun s o wr => ∃ (ms : List Msg) (rest : List UInt8), s = .string (strB rest) ∧ rest.length + ms.length ≤ l.length ∧ GL w.heap.size 62 9 w wr o ms.length (rowsM ms) ∧ Hid (readT parseM l = behind ms (readT parseM rest))) (fun s _ _ => strLen s)
  case atStart => exact ⟨[], l, rfl, by simp, GL.start _ _ _ (Below.refl _ _) (Nat.le_refl _), Lib.hid (behind_nil _).symm⟩
  case round =>
    obtain ⟨ms, rest, rfl, hle, hgl, HE⟩ := hrel
    have HGL := Lib.hid hgl
    obtain ⟨oa, oc, rfl, -⟩ := row_of_gl hgl
    clear hgl
    have HSZ := Lib.hid (strB_size rest)
    by_cases h0 : rest = []
    · subst h0
      have b1 : (strB []).toList = [] := by rw [ByteArray.toList_eq, strB_list]
      have HF := Lib.hid (show readT parseM l = .inr ms by rw [HE.out, read_empty]; simp [behind])
      go_wp2_with fail
      go_ret3
      rw [HF.out]
      exact ⟨_, rfl, HGL.out⟩
    · have b1 : ((strB rest).toList == []) = false := by rw [ByteArray.toList_eq, strB_list]; simpa using h0
      have b2 : ((strB rest).toList.isEmpty) = false := by rw [ByteArray.toList_eq, strB_list]; simpa using h0
      have HC := Lib.hid (cut_any rest 10 wr (HM.out.below (n := 0) HGL.out.bel) (by omega))
      rcases part_at 10 rest with hno | ⟨x, r, hx, rfl⟩
      · rw [cut_none hno] at HC
        have HRD := Lib.hid (show readT parseM l = .inl (ms.length + 1) by rw [HE.out, read_none parseM hno, if_neg h0]; rfl)
        clear hno h0
        go_wp2_with fail
        refine HC.out.mono ?_
        rintro e w1 ⟨rfl, n1, rfl⟩
        have HB1 := Lib.hid (HGL.out.bel.drewN n1)
        have HPR := Lib.hid (repParse_any rest (by omega) _ (HM.out.below (n := 0) HB1.out))
        unfold ParseIs at HPR
        generalize ((parseM rest).getD ⟨0, 0, 0, 0, 0, 0, 0, 0, 0⟩) = m at HPR
        go_wp2_with fail
        refine HPR.out.mono ?_
        rintro e w2 ⟨rfl, hb2⟩
        have HB2 := Lib.hid ((HB1.out.trans (hb2.mono HB1.out.size)).alloc (Nat.le_trans HB1.out.size hb2.size) (.cells m.cells 62))
        clear hb2
        unfold Msg.cells at HB2 ⊢
        cases parseM rest with
        | none =>
          have e4 : (if ((none : Option Msg).isSome = true) then (0 : Int) else 4) = 4 := rfl
          rw [e4]
          go_wp2_with fail
          go_ret3
          rw [HRD.out]
          exact ⟨rfl, HB2.out⟩
        | some q =>
          have e4 : (if ((some q).isSome = true) then (0 : Int) else 4) = 0 := rfl
          rw [e4]
          go_wp2_with fail
          go_ret3
          rw [HRD.out]
          exact ⟨rfl, HB2.out⟩
      · rw [cut_at hx] at HC
        have hxl : x.length + r.length + 1 = (x ++ 10 :: r).length := by simp; omega
        cases hp : parseM x with
        | none =>
          have HRD := Lib.hid (show readT parseM l = .inl (ms.length + 1) by rw [HE.out, read_bad parseM hx hp]; rfl)
          have HPN := Lib.hid hp
          clear hx h0 hp
          go_wp2_with fail
          refine HC.out.mono ?_
          rintro e w1 ⟨rfl, n1, rfl⟩
          have HB1 := Lib.hid (HGL.out.bel.drewN n1)
          have HPR := Lib.hid (repParse_any x (by omega) _ (HM.out.below (n := 0) HB1.out))
          unfold ParseIs at HPR
          rw [HPN.out] at HPR
          simp only [Option.getD_none, Option.isSome_none] at HPR
          go_wp2_with fail
          refine HPR.out.mono ?_
          rintro e w2 ⟨rfl, hb2⟩
          have HB2 := Lib.hid ((HB1.out.trans (hb2.mono HB1.out.size)).alloc (Nat.le_trans HB1.out.size hb2.size) (.cells (⟨0, 0, 0, 0, 0, 0, 0, 0, 0⟩ : Msg).cells 62))
          clear hb2
          unfold Msg.cells at HB2 ⊢
          have e4 : (if (false = true) then (0 : Int) else 4) = 4 := rfl
          rw [e4]
          go_wp2_with fail
          go_ret3
          rw [HRD.out]
          exact ⟨rfl, HB2.out⟩
        | some m =>
          have HRD := Lib.hid (show readT parseM l = behind (ms ++ [m]) (readT parseM r) by rw [HE.out, read_ok parseM hx hp, behind_app])
          have HPN := Lib.hid hp
          clear hx h0 hp
          go_wp2_with fail
          refine HC.out.mono ?_
          rintro e w1 ⟨rfl, n1, rfl⟩
          have HB1 := Lib.hid (HGL.out.bel.drewN n1)
          have HG1 := Lib.hid (HGL.out.drewN n1)
          have HPR := Lib.hid (repParse_any x (by omega) _ (HM.out.below (n := 0) HB1.out))
          unfold ParseIs at HPR
          rw [HPN.out] at HPR
          simp only [Option.getD_some, Option.isSome_some, if_true] at HPR
          go_wp2_with fail
          refine HPR.out.mono ?_
          rintro e w2 ⟨rfl, hb2⟩
          have HG2 := Lib.hid ((HG1.out.below hb2).alloc (.cells m.cells 62))
          have HN0 := HG2.out.new m.cells
          rw [show (w2.alloc (.cells m.cells 62)).heap.size = w2.heap.size + 1 by simp] at HN0
          have HN := Lib.hid HN0
          clear HN0
          clear hb2 HGL HG1 HB1
          unfold Msg.cells at HN HG2 ⊢
          go_wp2_with (at_builtin; refine GN.wp HN.out rfl _ _ 65 (by rfl) i0 (.agg #[.int .i64 0, .int .i64 0, .int .i64 0, .int .i64 0, .int .i64 0, .int .i64 0, .int .i64 0, .int .i64 0, .int .i64 0]) 72 Tryd.underlying65 hi0 hz0 hz1 hz2 rfl (by decide) (by rfl) (by rfl) rfl (mem_one m) (by unfold maxLen; omega) (by omega) ?_; intro g5 cap5 w5 H5; replace H5 := Lib.hid H5)
          go_roundw
          case rel => exact ⟨ms ++ [m], r, rfl, by rw [List.length_append]; simp; omega, by rw [List.length_append, rowsM_app]; exact H5.out, HRD⟩
          case measure => simp only [strLen, strB_size]; omega
end Go.Proofs.YtmkcooamgojbpaaDoor.Reports
