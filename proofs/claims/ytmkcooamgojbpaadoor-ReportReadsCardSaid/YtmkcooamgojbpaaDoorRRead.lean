/- damperref36.Read. -/
import Derived.Test.YtmkcooamgojbpaaDoorRepRead
import Derived.Test.YtmkcooamgojbpaaDoorRParse
namespace Go.Proofs.YtmkcooamgojbpaaDoor.Reports
open Go.RowKit Go.Proofs.YtmkcooamgojbpaaDoor.Kit Go.Proofs.YtmkcooamgojbpaaDoor.Blk Go.Proofs.YtmkcooamgojbpaaDoor.Dec Go.Proofs.YtmkcooamgojbpaaDoor.Words Go.Proofs.YtmkcooamgojbpaaDoor.Octets Go.Proofs.YtmkcooamgojbpaaDoor.Lines Go.Proofs.YtmkcooamgojbpaaDoor.Msgs Go.Proofs.YtmkcooamgojbpaaDoor.Open
attribute [local go_sem ↓] Go.wp_at_zero Go.wp_at_succ
set_option linter.unusedVariables false

/-- Between two places no line ends. -/
def NoEnd (l : List UInt8) (f i : Nat) : Prop := ∀ j, (h : j < l.length) → f ≤ j → j < i → l[j] ≠ 10
theorem chunk_free {l : List UInt8} {f i : Nat} (h : NoEnd l f i) : (10 : UInt8) ∉ (l.drop f).take (i - f) := by
  intro hm
  obtain ⟨j, hj, e⟩ := List.mem_iff_getElem.1 hm
  rw [List.length_take, List.length_drop] at hj
  rw [List.getElem_take, List.getElem_drop] at e
  exact h (f + j) (by omega) (by omega) (by omega) e
theorem drop_parts {l : List UInt8} {f i : Nat} (hf : f ≤ i) (hi : i < l.length) (h10 : l[i] = 10) : l.drop f = (l.drop f).take (i - f) ++ 10 :: l.drop (i + 1) := by
  have h1 : (l.drop f).drop (i - f) = l[i] :: l.drop (i + 1) := by
    rw [List.drop_drop, show f + (i - f) = i by omega, List.drop_eq_getElem_cons hi]
  rw [h10] at h1
  rw [← h1, List.take_append_drop]
theorem chunk_text (l : List UInt8) (f i : Nat) (hf : f ≤ i) (hi : i ≤ l.length) : (strB l).extract f i = strB ((l.drop f).take (i - f)) := by
  apply ByteArray.ext
  simp [strB]
set_option maxRecDepth 20000 in
set_option maxHeartbeats 8000000 in
theorem rread_any (l : List UInt8) (hl : l.length ≤ 100000) (w : World) :
    Calls Tryd.prog 49 #[.string (strB l)] w (ReadIs (readT parseM l) w) := by
  obtain ⟨i0, hi0, hz0, hz1, hz2⟩ := info_parts infoMsg
  have z1 : (strB l).size = l.length := strB_size l
  go_enter Tryd.func49, Tryd.ntmps49
  go_wp2_with fail
  go_loopw [5, 6, 7] (fun o f i wr => ∃ (ms : List Msg) (fr k : Nat), f = .int .i64 fr ∧ i = .int .i64 k ∧ fr ≤ k ∧ k ≤ l.length ∧ ms.length ≤ fr ∧ GL w.heap.size 62 9 w wr o ms.length (rowsM ms) ∧ Hid (readT parseM l = behind ms (readT parseM (l.drop fr))) ∧ Hid (NoEnd l fr k)) (fun _ _ i _ => l.length - (intOf i).toNat)
  case atStart => exact ⟨[], 0, 0, rfl, rfl, by omega, by omega, by simp, GL.start _ _ _ (Below.refl _ _) (Nat.le_refl _), Lib.hid (behind_nil _).symm, Lib.hid fun j _ _ h => absurd h (Nat.not_lt_zero _)⟩
  case round =>
    obtain ⟨ms, fr, k, rfl, rfl, hfk, hk, hmf, hgl, HE, HNE⟩ := hrel
    have HGL := Lib.hid hgl
    obtain ⟨oa, oc, rfl, -⟩ := row_of_gl hgl
    clear hgl
    by_cases hlt : k < l.length
    · have hat := strB_at l k (by omega) hlt
      by_cases hc : l[k] = 10
      · have b3 : ∀ h, ((((strB l)[k]'h).toNat : Int) != 10) = false := fun h => by rw [hat, hc]; rfl
        have hx := chunk_free HNE.out
        have hdp := drop_parts hfk hlt hc
        have hct := chunk_text l fr k hfk hk
        have hxl : ((l.drop fr).take (k - fr)).length ≤ l.length := by rw [List.length_take, List.length_drop]; omega
        clear hat hc
        generalize (l.drop fr).take (k - fr) = x at hx hdp hct hxl
        have g1 : (fr : Int) ≤ (k : Int) := by omega
        have g2 : (k : Int) ≤ (l.length : Int) := by omega
        have HPR := Lib.hid (rparse_any x (by omega) wr)
        unfold ParseIs at HPR
        cases hp : parseM x with
        | none =>
          have HRD := Lib.hid (show readT parseM l = .inl (ms.length + 1) by rw [HE.out, hdp, read_bad parseM hx hp]; rfl)
          rw [hp] at HPR
          simp only [Option.getD_none, Option.isSome_none] at HPR
          clear hx hp hdp HE HNE
          have e4 : (if (false = true) then (0 : Int) else 4) = 4 := rfl
          rw [e4] at HPR
          clear e4
          go_wp2_with fail
          refine HPR.out.mono ?_
          rintro e w2 ⟨rfl, hb2⟩
          have HB2 := Lib.hid ((HGL.out.bel.trans (hb2.mono HGL.out.le)).alloc (Nat.le_trans HGL.out.le hb2.size) (.cells (⟨0, 0, 0, 0, 0, 0, 0, 0, 0⟩ : Msg).cells 62))
          clear hb2
          unfold Msg.cells at HB2 ⊢
          go_wp2_with fail
          go_ret3
          rw [HRD.out]
          exact ⟨rfl, HB2.out⟩
        | some m =>
          have HRD := Lib.hid (show readT parseM l = behind (ms ++ [m]) (readT parseM (l.drop (k + 1))) by rw [HE.out, hdp, read_ok parseM hx hp, behind_app])
          rw [hp] at HPR
          simp only [Option.getD_some, Option.isSome_some, if_true] at HPR
          clear hx hp hdp HE HNE
          go_wp2_with fail
          refine HPR.out.mono ?_
          rintro e w2 ⟨rfl, hb2⟩
          have HG2 := Lib.hid ((HGL.out.below hb2).alloc (.cells m.cells 62))
          have HN0 := HG2.out.new m.cells
          rw [show (w2.alloc (.cells m.cells 62)).heap.size = w2.heap.size + 1 by simp] at HN0
          have HN := Lib.hid HN0
          clear hb2 HGL HN0
          unfold Msg.cells at HN HG2 ⊢
          go_wp2_with (at_builtin; refine GN.wp HN.out rfl _ _ 65 (by rfl) i0 (.agg #[.int .i64 0, .int .i64 0, .int .i64 0, .int .i64 0, .int .i64 0, .int .i64 0, .int .i64 0, .int .i64 0, .int .i64 0]) 72 Tryd.underlying65 hi0 hz0 hz1 hz2 rfl (by decide) (by rfl) (by rfl) rfl (mem_one m) (by unfold maxLen; omega) (by omega) ?_; intro g5 cap5 w5 H5; replace H5 := Lib.hid H5)
          go_roundw
          case rel => exact ⟨ms ++ [m], k + 1, k + 1, by go_num, by go_num, by omega, by omega, by rw [List.length_append]; simp; omega, by rw [List.length_append, rowsM_app]; exact H5.out, HRD, Lib.hid fun j _ h1 h2 => by omega⟩
          case measure => simp [intOf]; omega
      · have b3 : ∀ h, ((((strB l)[k]'h).toNat : Int) != 10) = true := fun h => by
          rw [hat, bne_iff_ne]
          intro e
          exact hc (UInt8.toNat_inj.1 (by show l[k].toNat = 10; omega))
        have HNE2 := Lib.hid (show NoEnd l fr (k + 1) from fun j hj h1 h2 => by
          by_cases e : j < k
          · exact HNE.out j hj h1 e
          · have : j = k := by omega
            subst this; exact hc)
        clear hat hc
        go_wp2_with fail
        go_roundw
        case rel => exact ⟨ms, fr, k + 1, rfl, by go_num, by omega, by omega, hmf, HGL.out, HE, HNE2⟩
        case measure => simp [intOf]; omega
    · obtain rfl : k = l.length := by omega
      have hx : (10 : UInt8) ∉ l.drop fr := by
        have := chunk_free HNE.out
        rwa [List.take_of_length_le (by rw [List.length_drop]; omega)] at this
      by_cases hfl : fr < l.length
      · have h0 : l.drop fr ≠ [] := fun e => by have := congrArg List.length e; rw [List.length_drop] at this; simp at this; omega
        have HRD := Lib.hid (show readT parseM l = .inl (ms.length + 1) by rw [HE.out, read_none parseM hx, if_neg h0]; rfl)
        have HB := Lib.hid HGL.out.bel
        clear hx h0
        have g1 : (fr : Int) < (l.length : Int) := by omega
        go_wp2_with fail
        go_ret3
        rw [HRD.out]
        exact ⟨rfl, HB.out⟩
      · have h0 : l.drop fr = [] := List.drop_of_length_le (by omega)
        have HRD := Lib.hid (show readT parseM l = .inr ms by rw [HE.out, h0, read_empty]; simp [behind])
        clear hx h0
        have g1 : ¬ (fr : Int) < (l.length : Int) := by omega
        go_wp2_with fail
        go_ret3
        rw [HRD.out]
        exact ⟨_, rfl, HGL.out⟩
end Go.Proofs.YtmkcooamgojbpaaDoor.Reports
