/- (*ledger.Ledger).Put. -/
import Derived.Test.YtmkcooamgojbpaaLedOk
namespace Go.Proofs.Ytmkcooamgojbpaa.Ledger
open Go.RowKit Go.Proofs.Ytmkcooamgojbpaa.Kit Go.Proofs.Ytmkcooamgojbpaa.Blk Go.Proofs.Ytmkcooamgojbpaa.Mp Go.Proofs.Ytmkcooamgojbpaa.Qty Go.Proofs.Ytmkcooamgojbpaa.Msgs
attribute [local go_sem ↓] Go.wp_at_zero Go.wp_at_succ
set_option linter.unusedVariables false

theorem PutIs.behind {f : Int} {L' : Led} {D b1 b2 b3 : Nat} {w W w' : World} {e : Ending} (h : PutIs f L' D b1 b2 b3 W e w') (hb : Below w.heap.size w W) : PutIs f L' D b1 b2 b3 w e w' :=
  ⟨h.1, h.2.1, (Chg3.below hb).trans (h.2.2.mono hb.size)⟩
set_option maxRecDepth 20000 in
set_option maxHeartbeats 2000000 in
theorem put_any (L : Led) (n : Int) (hok : OkL n L) (hn : n ≤ 1000) (m : Msg) (D b1 b2 b3 : Nat) (w : World) (h : LS w D b1 b2 b3 L) :
    Calls Try.prog 7 #[.pointer (some ⟨D, 0, none⟩), .agg m.cells] w (PutIs (putF L m).1 (putF L m).2 D b1 b2 b3 w) := by
  have HMB := Lib.hid (Blk.new w m.cells 33 w.heap.size rfl)
  have HB := Lib.hid ((Below.refl w.heap.size w).alloc (Nat.le_refl _) (.cells m.cells 33))
  have HL := Lib.hid (h.alloc (.cells m.cells 33))
  have hn0 := hok.n0
  have HT := Lib.hid (fun W hl (hq : takenB m.qty = true) => trade_any L m D b1 b2 b3 W hl (taken_in hq) ⟨(hok.ear _).1, by have := (hok.ear (keyW m)).2; omega⟩ ((hok.acc _).mono (by omega)) ((hok.acc _).mono (by omega)))
  have HDN := Lib.hid (fun W hl (hq : takenB m.qty = true) => done_any L m D b1 b2 b3 W hl (taken_in hq) ((hok.acc _).mono (by omega)))
  have HAK := Lib.hid (fun W hl (hq : takenB m.qty = true) (hw : takenB m.wth = true) => ack_any L m D b1 b2 b3 W hl ⟨taken_in hq, taken_in hw⟩ ⟨(hok.ear _).1, by have := (hok.ear (keyM m)).2; omega⟩ ((hok.asd _).mono (by omega)) ((hok.acc _).mono (by omega)))
  have HF := Lib.hid (show putF L m = if m.kind = 3 then (if takenB m.qty = true then tradeF L m else (9, L)) else if m.kind = 4 then (if takenB m.qty = true then doneF L m else (9, L)) else if m.kind = 1 then (if takenB m.qty = true ∧ takenB m.wth = true then ackF L m else (9, L)) else (0, L) from rfl)
  clear h hok hn hn0
  unfold Msg.cells
  go_enter Try.func7, Try.ntmps7
  go_upto_region 1 with fail
  change Code.wp _ _ _ _ (w.alloc (.cells m.cells 33))
  generalize w.alloc (.cells m.cells 33) = w1 at HMB HB HL ⊢
  have ck : w1.cell? ⟨w.heap.size, 0, none⟩ = some (.int .i64 m.kind) := HMB.out.cell 0 rfl
  have cq : w1.cell? ⟨w.heap.size, 7, none⟩ = some (.int .i64 m.qty) := HMB.out.cell 7 rfl
  have cw : w1.cell? ⟨w.heap.size, 5, none⟩ = some (.int .i64 m.wth) := HMB.out.cell 5 rfl
  have HB1 := Lib.hid ((Below.refl w1.heap.size w1).alloc (Nat.le_refl _) (.cells #[.int .i64 m.qty] 2))
  have HT1 := Lib.hid (taken_any (some ⟨w1.heap.size, 0, none⟩) 1 [m.qty] (w1.alloc (.cells #[.int .i64 m.qty] 2)) (by simp [maxLen]) (nums_new _ _ _ _ _ rfl rfl))
  have HT2 := Lib.hid (taken_any (some ⟨w1.heap.size, 0, none⟩) 2 [m.qty, m.wth] (w1.alloc (.cells #[.int .i64 m.qty, .int .i64 m.wth] 2)) (by simp [maxLen]) (nums_new _ _ _ _ _ rfl rfl))
  have hall1 : [m.qty].all takenB = takenB m.qty := by simp
  have hall2 : [m.qty, m.wth].all takenB = (takenB m.qty && takenB m.wth) := by simp
  rw [hall1] at HT1
  rw [hall2] at HT2
  clear hall1 hall2
  by_cases h3 : m.kind = 3
  · rw [if_pos h3] at HF
    have g1 : (m.kind == 3) = true := by simpa using h3
    clear h3
    go_wp2_with fail
    refine HT1.out.mono ?_
    rintro e w2 ⟨rfl, hb2⟩
    have HB2 := Lib.hid (HB.out.trans ((HB1.out.trans (hb2.mono (by simp))).mono HB.out.size))
    have HM2 := Lib.hid (HMB.out.below (HB1.out.trans (hb2.mono (by simp))) HMB.out.lt)
    have HL2 := Lib.hid (HL.out.below (HB1.out.trans (hb2.mono (by simp))))
    have ck2 : w2.cell? ⟨w.heap.size, 0, none⟩ = some (.int .i64 m.kind) := HM2.out.cell 0 rfl
    clear hb2 ck cq cw
    cases hq : takenB m.qty with
    | false =>
      rw [hq, if_neg (by decide)] at HF
      clear hq
      go_wp2_with fail
      go_ret
      exact ⟨by rw [HF.out]; rfl, by rw [HF.out]; exact HL2.out, Chg3.below HB2.out⟩
    | true =>
      rw [hq, if_pos rfl] at HF
      go_wp2_with (refine load_blk (by rfl) 33 _ (by rfl) w.heap.size (by rfl) _ _ HM2.out _ Try.underlying33 rfl (by kernel_rfl) ?_)
      refine (HT.out w2 HL2.out hq).mono ?_
      clear hq
      rintro e W5 hp
      obtain ⟨rfl, hp2⟩ := hp
      have HP := Lib.hid hp2
      clear hp2
      go_wp2_with fail
      go_ret
      rw [HF.out]
      exact PutIs.behind ⟨rfl, HP.out⟩ HB2.out
  · rw [if_neg h3] at HF
    have g1 : (m.kind == 3) = false := by simpa using h3
    clear h3
    by_cases h4 : m.kind = 4
    · rw [if_pos h4] at HF
      have g2 : (m.kind == 4) = true := by simpa using h4
      clear h4
      go_wp2_with fail
      refine HT1.out.mono ?_
      rintro e w2 ⟨rfl, hb2⟩
      have HB2 := Lib.hid (HB.out.trans ((HB1.out.trans (hb2.mono (by simp))).mono HB.out.size))
      have HM2 := Lib.hid (HMB.out.below (HB1.out.trans (hb2.mono (by simp))) HMB.out.lt)
      have HL2 := Lib.hid (HL.out.below (HB1.out.trans (hb2.mono (by simp))))
      have ck2 : w2.cell? ⟨w.heap.size, 0, none⟩ = some (.int .i64 m.kind) := HM2.out.cell 0 rfl
      clear hb2 ck cq cw
      cases hq : takenB m.qty with
      | false =>
        rw [hq, if_neg (by decide)] at HF
        clear hq
        go_wp2_with fail
        go_ret
        exact ⟨by rw [HF.out]; rfl, by rw [HF.out]; exact HL2.out, Chg3.below HB2.out⟩
      | true =>
        rw [hq, if_pos rfl] at HF
        go_wp2_with (refine load_blk (by rfl) 33 _ (by rfl) w.heap.size (by rfl) _ _ HM2.out _ Try.underlying33 rfl (by kernel_rfl) ?_)
        refine (HDN.out w2 HL2.out hq).mono ?_
        clear hq
        rintro e W5 hp
        obtain ⟨rfl, hp2⟩ := hp
        have HP := Lib.hid hp2
        clear hp2
        go_wp2_with fail
        go_ret
        rw [HF.out]
        exact PutIs.behind ⟨rfl, HP.out⟩ HB2.out
    · rw [if_neg h4] at HF
      have g2 : (m.kind == 4) = false := by simpa using h4
      clear h4
      by_cases h1 : m.kind = 1
      · rw [if_pos h1] at HF
        have g3 : (m.kind == 1) = true := by simpa using h1
        clear h1
        have HB1 := Lib.hid ((Below.refl w1.heap.size w1).alloc (Nat.le_refl _) (.cells #[.int .i64 m.qty, .int .i64 m.wth] 2))
        go_wp2_with fail
        refine HT2.out.mono ?_
        rintro e w2 ⟨rfl, hb2⟩
        have HB2 := Lib.hid (HB.out.trans ((HB1.out.trans (hb2.mono (by simp))).mono HB.out.size))
        have HM2 := Lib.hid (HMB.out.below (HB1.out.trans (hb2.mono (by simp))) HMB.out.lt)
        have HL2 := Lib.hid (HL.out.below (HB1.out.trans (hb2.mono (by simp))))
        have ck2 : w2.cell? ⟨w.heap.size, 0, none⟩ = some (.int .i64 m.kind) := HM2.out.cell 0 rfl
        clear hb2 ck cq cw
        by_cases hqw : takenB m.qty = true ∧ takenB m.wth = true
        · rw [if_pos hqw] at HF
          rw [hqw.1, hqw.2]
          go_wp2_with (refine load_blk (by rfl) 33 _ (by rfl) w.heap.size (by rfl) _ _ HM2.out _ Try.underlying33 rfl (by kernel_rfl) ?_)
          refine (HAK.out w2 HL2.out hqw.1 hqw.2).mono ?_
          rintro e W5 hp
          obtain ⟨rfl, hp2⟩ := hp
          have HP := Lib.hid hp2
          clear hp2
          go_wp2_with fail
          go_ret
          rw [HF.out]
          exact PutIs.behind ⟨rfl, HP.out⟩ HB2.out
        · rw [if_neg hqw] at HF
          have e : (takenB m.qty && takenB m.wth) = false := by
            rw [Bool.eq_false_iff]
            intro h
            rw [Bool.and_eq_true] at h
            exact hqw h
          rw [e]
          clear e hqw
          go_wp2_with fail
          go_ret
          exact ⟨by rw [HF.out]; rfl, by rw [HF.out]; exact HL2.out, Chg3.below HB2.out⟩
      · rw [if_neg h1] at HF
        have g3 : (m.kind == 1) = false := by simpa using h1
        clear h1
        go_wp2_with fail
        go_ret
        exact ⟨by rw [HF.out]; rfl, by rw [HF.out]; exact HL.out, Chg3.below HB.out⟩
end Go.Proofs.Ytmkcooamgojbpaa.Ledger
