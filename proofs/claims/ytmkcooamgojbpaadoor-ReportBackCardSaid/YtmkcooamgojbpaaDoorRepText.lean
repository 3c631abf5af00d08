/- report.Text and damperref36.Text. -/
import Derived.Test.YtmkcooamgojbpaaDoorBld
import Derived.Test.YtmkcooamgojbpaaDoorRepLine
import Derived.Test.YtmkcooamgojbpaaDoorRRepLine
namespace Go.Proofs.YtmkcooamgojbpaaDoor.Reports
open Go.RowKit Go.Proofs.YtmkcooamgojbpaaDoor.Kit Go.Proofs.YtmkcooamgojbpaaDoor.Blk Go.Proofs.YtmkcooamgojbpaaDoor.Dec Go.Proofs.YtmkcooamgojbpaaDoor.Words Go.Proofs.YtmkcooamgojbpaaDoor.Octets Go.Proofs.YtmkcooamgojbpaaDoor.Lines Go.Proofs.YtmkcooamgojbpaaDoor.Msgs Go.Proofs.YtmkcooamgojbpaaDoor.Open
attribute [local go_sem ↓] Go.wp_at_zero Go.wp_at_succ
set_option linter.unusedVariables false

def txtM (l : List Msg) : List UInt8 := l.flatMap fun m => lineM m ++ [10]
theorem txt_next {l : List Msg} {k : Nat} (h : k < l.length) : txtM (l.take (k + 1)) = txtM (l.take k) ++ (lineM l[k] ++ [10]) := by
  unfold txtM
  rw [List.take_succ_eq_append_getElem h, List.flatMap_append]
  simp
theorem txt_len {l : List Msg} (hf : ∀ m ∈ l, Fits m) : (txtM l).length ≤ 201 * l.length := by
  induction l with
  | nil => simp [txtM]
  | cons m l ih =>
    have h1 := ih (fun x hx => hf x (List.mem_cons_of_mem _ hx))
    have h2 := line_len (hf m List.mem_cons_self)
    simp only [txtM, List.flatMap_cons, List.length_append, List.length_cons, List.length_nil] at h1 ⊢
    omega
theorem text_bad {l : List Msg} {k : Nat} (h : k < l.length) (hr : rightM l[k] = false) : textM l = none := by
  unfold textM
  rw [if_neg]
  intro e
  rw [List.all_eq_true.1 e _ (List.getElem_mem h)] at hr
  cases hr
theorem text_all {l : List Msg} (h : ∀ j, (hj : j < l.length) → rightM l[j] = true) : textM l = some (txtM l) := by
  unfold textM
  rw [if_pos]
  · rfl
  · refine List.all_eq_true.2 fun m hm => ?_
    obtain ⟨j, hj, rfl⟩ := List.mem_iff_getElem.1 hm
    exact h j hj
set_option maxRecDepth 20000 in
set_option maxHeartbeats 4000000 in
theorem repText_any (a : Option Addr) (cap : Nat) (l : List Msg) (w : World) (hrow : MsgRow w a l) (hf : ∀ m ∈ l, Fits m) (hl : l.length ≤ 100) (hm : MX w) :
    Calls Tryd.prog 44 #[.slice a l.length cap] w (LineIs (textM l) w) := by
  have HM := Lib.hid hm
  have HR := Lib.hid hrow
  have HF := Lib.hid hf
  have HB0 := Lib.hid (bd_new w w.heap.size rfl)
  clear hm hrow hf
  go_enter Tryd.func44, Tryd.ntmps44
  go_wp2_with fail
  go_loopw [11] (fun i wr => ∃ k : Nat, k ≤ l.length ∧ i = .int .i64 k ∧ BdS w.heap.size (txtM (l.take k)) wr ∧ Below w.heap.size w wr ∧ Hid (∀ j, (hj : j < l.length) → j < k → rightM l[j] = true)) (fun i _ => l.length - (intOf i).toNat)
  case atStart => exact ⟨0, by omega, rfl, HB0.out, (Below.refl _ _).alloc (Nat.le_refl _) _, Lib.hid fun j _ h => absurd h (Nat.not_lt_zero _)⟩
  case round =>
    obtain ⟨k, hk, rfl, hb, hbel, HOK⟩ := hrel
    clear HB0
    have HBD := Lib.hid hb
    have HBL := Lib.hid hbel
    clear hb hbel
    by_cases hlt : k < l.length
    · obtain ⟨g, off, rfl, hg, hat⟩ := msgRow_at (HR.out.all HBL.out) k hlt
      have HAT := Lib.hid hat
      have hfk := HF.out _ (List.getElem_mem hlt)
      have HT := Lib.hid (txt_next hlt)
      have HTL := Lib.hid (show (txtM (l.take k)).length ≤ 20100 from by
        have := txt_len (l := l.take k) (fun m hm => HF.out m (List.mem_of_mem_take hm))
        rw [List.length_take] at this; omega)
      have HLL := Lib.hid (line_len hfk)
      have HBAD := Lib.hid (text_bad hlt)
      have HSTEP := Lib.hid (show rightM l[k] = true → ∀ j, (hj : j < l.length) → j < k + 1 → rightM l[j] = true from fun h j hj hjk => by
        by_cases e : j < k
        · exact HOK.out j hj e
        · have : j = k := by omega
          subst this; exact h)
      have HFK := Lib.hid hfk
      clear hat hfk
      generalize l[k] = m at HAT HT HLL HBAD HSTEP HFK
      have hkl : (k : Int) < (l.length : Int) := by omega
      go_upto_region 5 with (refine wpList_load_mid rfl 62 (.tmp 13) rfl g (off + k * 9) rfl m.cells.toList _ HAT.out Tryd.underlying62 rfl (by kernel_rfl) ?_; simp only [Msg.cells])
      have HBD4 := Lib.hid (HBD.out.alloc (.cells m.cells 62))
      have HBL4 := Lib.hid (HBL.out.alloc HBL.out.size (.cells m.cells 62))
      have HMX := Lib.hid (HM.out.below (n := 0) HBL4.out)
      have HLN := Lib.hid (repLine_any m HFK.out _ HMX.out)
      unfold RLineIs at HLN
      clear HBD HBL HAT
      cases hr : rightM m with
      | false =>
        have HTX := Lib.hid (HBAD.out hr)
        rw [hr, if_neg (by decide)] at HLN
        clear hr
        unfold Msg.cells at HLN HBL4
        go_wp2_with fail
        refine HLN.out.mono ?_
        rintro e w5 ⟨rfl, hb5⟩
        have HBL5 := Lib.hid (HBL4.out.trans (hb5.mono HBL4.out.size))
        clear hb5
        go_wp2_with fail
        go_ret2
        exact ⟨by rw [HTX.out]; rfl, HBL5.out⟩
      | true =>
        have HS := Lib.hid (HSTEP.out hr)
        rw [hr, if_pos rfl] at HLN
        clear hr
        unfold Msg.cells at HLN HBL4 HBD4
        go_wp2_with fail
        refine HLN.out.mono ?_
        rintro e w5 ⟨rfl, hb5⟩
        have HBL5 := Lib.hid (HBL4.out.trans (hb5.mono HBL4.out.size))
        have HBD5 := Lib.hid (HBD4.out.below hb5)
        clear hb5 HBD4 HBL4 HMX HLN
        simp only [Option.getD_some, Option.isSome_some, if_true]
        go_wp2_with fail
        refine (writeString_any w.heap.size _ (lineM m) w5 HBD5.out (by have := HTL.out; have := HLL.out; omega)).mono ?_
        rintro e w6 ⟨rfl, hb6, hl6⟩
        have HBL6 := Lib.hid (HBL5.out.trans hl6)
        have HBD6 := Lib.hid hb6
        clear hb6 hl6 HBD5 HBL5
        go_wp2_with fail
        refine (writeByte_any w.heap.size _ 10 w6 HBD6.out (by have := HTL.out; have := HLL.out; rw [List.length_append]; omega)).mono ?_
        rintro e w7 ⟨rfl, hb7, hl7⟩
        have HBL7 := Lib.hid (HBL6.out.trans hl7)
        have HBD7 := Lib.hid hb7
        clear hb7 hl7 HBD6 HBL6
        rw [List.append_assoc, ← HT.out] at HBD7
        go_wp2_with fail
        go_roundw
        case rel => exact ⟨k + 1, by omega, by go_num, HBD7.out, HBL7.out, HS⟩
        case measure => simp [intOf]; omega
    · obtain rfl : k = l.length := by omega
      have HTX := Lib.hid (text_all (fun j hj => HOK.out j hj hj))
      have hbd := HBD.out
      rw [List.take_length] at hbd
      have HST := Lib.hid (string_any w.heap.size (txtM l) wr hbd)
      clear hbd
      go_wp2_with fail
      refine HST.out.mono ?_
      rintro e w5 ⟨rfl, hb5⟩
      have HBL5 := Lib.hid (HBL.out.trans hb5)
      clear hb5
      go_wp2_with fail
      go_ret2
      exact ⟨by rw [HTX.out]; rfl, HBL5.out⟩
set_option maxRecDepth 20000 in
set_option maxHeartbeats 4000000 in
theorem rrepText_any (a : Option Addr) (cap : Nat) (l : List Msg) (w : World) (hrow : MsgRow w a l) (hf : ∀ m ∈ l, Fits m) (hl : l.length ≤ 100) :
    Calls Tryd.prog 45 #[.slice a l.length cap] w (LineIs (textM l) w) := by
  have HR := Lib.hid hrow
  have HF := Lib.hid hf
  clear hrow hf
  go_enter Tryd.func45, Tryd.ntmps45
  go_wp2_with fail
  go_loopw [4, 5] (fun o i wr => ∃ k : Nat, k ≤ l.length ∧ i = .int .i64 k ∧ o = .string (strB (txtM (l.take k))) ∧ Below w.heap.size w wr ∧ Hid (∀ j, (hj : j < l.length) → j < k → rightM l[j] = true)) (fun _ i _ => l.length - (intOf i).toNat)
  case atStart => exact ⟨0, by omega, rfl, rfl, Below.refl _ _, Lib.hid fun j _ h => absurd h (Nat.not_lt_zero _)⟩
  case round =>
    obtain ⟨k, hk, rfl, rfl, hbel, HOK⟩ := hrel
    have HBL := Lib.hid hbel
    clear hbel
    by_cases hlt : k < l.length
    · obtain ⟨g, off, rfl, hg, hat⟩ := msgRow_at (HR.out.all HBL.out) k hlt
      have HAT := Lib.hid hat
      have hfk := HF.out _ (List.getElem_mem hlt)
      have HT := Lib.hid (txt_next hlt)
      have htl : (txtM (l.take k)).length ≤ 20100 := by
        have := txt_len (l := l.take k) (fun m hm => HF.out m (List.mem_of_mem_take hm))
        rw [List.length_take] at this; omega
      have hll := line_len hfk
      have HBAD := Lib.hid (text_bad hlt)
      have HSTEP := Lib.hid (show rightM l[k] = true → ∀ j, (hj : j < l.length) → j < k + 1 → rightM l[j] = true from fun h j hj hjk => by
        by_cases e : j < k
        · exact HOK.out j hj e
        · have : j = k := by omega
          subst this; exact h)
      have HFK := Lib.hid hfk
      clear hat hfk
      generalize l[k] = m at HAT HT hll HBAD HSTEP HFK
      have hkl : (k : Int) < (l.length : Int) := by omega
      have HLN := Lib.hid (rrepLine_any m HFK.out wr)
      unfold RLineIs at HLN
      cases hr : rightM m with
      | false =>
        have HTX := Lib.hid (HBAD.out hr)
        rw [hr, if_neg (by decide)] at HLN
        clear hr
        unfold Msg.cells at HLN
        go_wp2_with (refine wpList_load_mid rfl 62 (.tmp 17) rfl g (off + k * 9) rfl m.cells.toList _ HAT.out Tryd.underlying62 rfl (by kernel_rfl) ?_; simp only [Msg.cells])
        refine HLN.out.mono ?_
        rintro e w5 ⟨rfl, hb5⟩
        have HBL5 := Lib.hid (HBL.out.trans (hb5.mono HBL.out.size))
        clear hb5
        go_wp2_with fail
        go_ret2
        exact ⟨by rw [HTX.out]; rfl, HBL5.out⟩
      | true =>
        have HS := Lib.hid (HSTEP.out hr)
        rw [hr, if_pos rfl] at HLN
        clear hr
        unfold Msg.cells at HLN
        go_wp2_with (refine wpList_load_mid rfl 62 (.tmp 17) rfl g (off + k * 9) rfl m.cells.toList _ HAT.out Tryd.underlying62 rfl (by kernel_rfl) ?_; simp only [Msg.cells])
        refine HLN.out.mono ?_
        rintro e w5 ⟨rfl, hb5⟩
        have HBL5 := Lib.hid (HBL.out.trans (hb5.mono HBL.out.size))
        clear hb5 HLN HBL
        simp only [Option.getD_some, Option.isSome_some, if_true]
        obtain ⟨A, hA⟩ : ∃ A, strB (txtM (l.take k)) = A := ⟨_, rfl⟩
        obtain ⟨B, hB⟩ : ∃ B, strB (lineM m) = B := ⟨_, rfl⟩
        have sA : A.size ≤ 20100 := by rw [← hA, strB_size]; exact htl
        have sB : B.size ≤ 200 := by rw [← hB, strB_size]; exact hll
        have HE := Lib.hid (show A ++ B ++ ⟨#[10]⟩ = strB (txtM (l.take (k + 1))) by rw [← hA, ← hB, HT.out, show (⟨#[10]⟩ : ByteArray) = strB [10] from rfl, strB_app, strB_app, List.append_assoc])
        rw [hA, hB]
        obtain ⟨C, hC⟩ : ∃ C, A ++ B = C := ⟨_, rfl⟩
        have sC : C.size ≤ 20300 := by rw [← hC, ByteArray.size_append]; omega
        have g1 : ¬ 9223372036854775807 < A.size + B.size := by omega
        have g2 : ¬ 9223372036854775807 < C.size + 1 := by omega
        rw [hC] at HE
        clear hA hB sA sB sC
        go_wp2_with fail
        go_roundw
        case rel => exact ⟨k + 1, by omega, by go_num, by rw [← HE.out], HBL5.out, HS⟩
        case measure => simp [intOf]; omega
    · obtain rfl : k = l.length := by omega
      have HTX := Lib.hid (text_all (fun j hj => HOK.out j hj hj))
      rw [List.take_length]
      go_wp2_with fail
      go_ret2
      exact ⟨by rw [HTX.out]; rfl, HBL.out⟩
end Go.Proofs.YtmkcooamgojbpaaDoor.Reports
