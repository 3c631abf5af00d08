/- The walk of damperlaw34.TapeSums: it returns true, and leaves what was there as it was. -/
import Derived.Test.YtogjgpiddjmpiaaTapeAlive
import Derived.Test.YtogjgpiddjmpiaaTapeLaw
import Derived.Test.YtogjgpiddjmpiaaTapeSums
namespace Go.Proofs.Ytogjgpiddjmpiaa.Tape
set_option linter.unusedVariables false
open Go.RowKit Go.Proofs.Ytogjgpiddjmpiaa.Kit Go.Proofs.Ytogjgpiddjmpiaa.Blk Go.Proofs.Ytogjgpiddjmpiaa.Msgs
attribute [local go_sem ↓] Go.wp_at_zero Go.wp_at_succ

theorem merge_first (a b : Bar) (hat : a.trd = 0) (w : World) : Calls Try.prog 28 #[.agg a.cells, .agg b.cells] w fun e w' => e = .returned (.agg b.cells) ∧ Below w.heap.size w w' := by
  have HI0 : MI w.heap.size a b w (((w.alloc (.cells a.cells 53)).alloc (.cells b.cells 53)).alloc (.cells Bar.zero.cells 53)) :=
    ⟨((Blk.new w a.cells 53 w.heap.size rfl).old _).old _, (Blk.new (w.alloc (.cells a.cells 53)) b.cells 53 (w.heap.size + 1) (by simp)).old _, Blk.new ((w.alloc (.cells a.cells 53)).alloc (.cells b.cells 53)) Bar.zero.cells 53 (w.heap.size + 1 + 1) (by simp), (((Below.refl _ _).alloc (Nat.le_refl _) _).alloc (by simp) _).alloc (by simp; omega) _⟩
  have HI := Lib.hid HI0
  have b1 : (a.trd == 0) = true := by simpa using hat
  clear HI0 hat
  go_enter Try.func28, Try.ntmps28
  go_upto_block 0 with fail
  change Code.wp _ _ _ _ (((w.alloc (.cells a.cells 53)).alloc (.cells b.cells 53)).alloc (.cells Bar.zero.cells 53))
  generalize ((w.alloc (.cells a.cells 53)).alloc (.cells b.cells 53)).alloc (.cells Bar.zero.cells 53) = W at HI ⊢
  have ca6 : W.cell? ⟨w.heap.size, 6, none⟩ = some (.int .i64 a.trd) := HI.out.a.cell 6 rfl
  go_wp2_with (first
    | (refine load_blk (by rfl) 53 _ (by rfl) (w.heap.size + 1) (by rfl) _ _ HI.out.b _ Try.underlying53 rfl (by kernel_rfl) ?_)
    | (refine store_blk (by rfl) 53 _ _ (by rfl) (w.heap.size + 1 + 1) (by rfl) Bar.zero.cells b.cells 53 HI.out.r (by rfl) (by rfl) (by kernel_rfl) (one_bar _) ?_))
  have HR3 := Lib.hid (HI.out.r.setCells b.cells rfl)
  have HB3 := Lib.hid (Blk.Below.setCells (B := w.heap.size + 1 + 1) b.cells.toList 0 _ HI.out.bel (by omega))
  refine bodyPost_ret (results_cell_row rfl _ _ _ _ _ (0, 0) _ rfl HR3.out Try.underlying53 rfl (by kernel_rfl)) rfl ?_
  exact ⟨rfl, HB3.out⟩
theorem merge_step (a d : Bar) (n : Nat) (hn : n ≤ 151) (ha : a.trd = 0 ∨ MOK n a) (hd : MOK 1 d) (w : World) : Calls Try.prog 28 #[.agg a.cells, .agg d.cells] w fun e w' => e = .returned (.agg (mstep a d).cells) ∧ Below w.heap.size w w' := by
  unfold mstep
  by_cases hz : a.trd = 0
  · rw [if_pos hz]; exact merge_first a d hz w
  · rw [if_neg hz]
    have hm : MOK n a := by rcases ha with h | h; exact absurd h hz; exact h
    have k1 := hm.m0; have k2 := hm.m1; have k3 := hm.t0; have k4 := hm.t1; have k5 := hm.v0; have k6 := hm.v1
    have l1 := hd.m0; have l2 := hd.m1; have l3 := hd.t0; have l4 := hd.t1; have l5 := hd.v0; have l6 := hd.v1
    exact merge_any a d a.mean.toNat a.vol.toNat d.mean.toNat d.vol.toNat (by omega) (by omega) (by omega) (by omega) (by omega) (by omega) (by omega) (by omega) (by omega) (by omega) (by omega) (by omega) (by omega) (by omega) (by omega) w

set_option maxRecDepth 20000 in
set_option maxHeartbeats 4000000 in
theorem sums_law (a : Option Addr) (cap : Nat) (ms : List Msg) (sym wd : Int) (w : World) (hm : MsgRow w a ms) (hmx : ms.length ≤ maxLen) (hfit : ∀ m ∈ ms, m.tick ≤ 9223372036854775807) :
    Calls Try.prog 6 #[.slice a ms.length cap, .int .i64 sym, .int .i64 wd] w fun e w' => e = .returned (.bool true) ∧ Below w.heap.size w w' := by
  unfold maxLen at hmx
  by_cases hl : 150 < ms.length
  · have g0 : (150 : Int) < (ms.length : Int) := by omega
    go_enter Try.func6, Try.ntmps6
    go_wp2_with fail
    refine (alive_any _).mono ?_
    rintro e w1 ⟨rfl, hb1⟩
    go_wp2
    go_ret
    exact ⟨rfl, hb1⟩
  · have g0 : ¬ (150 : Int) < (ms.length : Int) := by omega
    by_cases hw : wd < 1
    · go_enter Try.func6, Try.ntmps6
      go_wp2_with fail
      refine (alive_any _).mono ?_
      rintro e w1 ⟨rfl, hb1⟩
      go_wp2
      go_ret
      exact ⟨rfl, hb1⟩
    · have HWH := Lib.hid (whole_any a cap ms sym w hm (by omega) hfit)
      have HBA := Lib.hid (fun w' (hb : Below w.heap.size w w') => bars_any a cap ms sym wd w' (hm.all hb) (by omega) hfit)
      rw [cnt_map] at HWH HBA
      unfold WholeIs at HWH
      unfold BarsIs at HBA
      simp only [if_neg hw] at HBA
      have hgood : ∀ m ∈ ms.filter (isT sym), Good m := fun m hm => good_of (List.mem_filter.1 hm).2
      have hln : (ms.filter (isT sym)).length ≤ 150 := by have := List.length_filter_le (isT sym) ms; omega
      have hw1 : 1 ≤ wd := by omega
      generalize ms.filter (isT sym) = L at HWH HBA hgood hln
      have hbl := bars_len wd L hgood
      have hnil : isAny L = decide ((0 : Int) < ((barsF wd L).length : Int)) := by
        cases L with
        | nil => rfl
        | cons m t =>
          rw [bars_some wd (m :: t) hgood (by simp)]
          show true = _
          symm
          rw [decide_eq_true_iff, List.length_append]
          simp
      have HAG := Lib.hid (show Agree (mergeL (barsF wd L)) (wholeF L) by
        by_cases hne : L = []
        · subst hne; exact ⟨rfl, rfl, rfl, rfl, rfl, rfl⟩
        · have h := merge_agree wd L hgood hne
          unfold wholeF
          rw [if_neg hne]
          exact ⟨h.o, h.h, h.l, h.c, h.v, h.t⟩)
      have HGB := Lib.hid (good_bars wd L hgood)
      have HMO := Lib.hid (mok_bars wd L hgood hln)
      generalize barsF wd L = B at HBA hbl hnil HAG HGB HMO
      generalize wholeF L = WB at HWH HAG
      generalize isAny L = ia at HWH hnil
      subst hnil
      have hB : B.length ≤ 151 := by omega
      clear hgood hbl hln hm hfit hl
      have e0 : ¬ wd = 0 := by omega
      go_enter Try.func6, Try.ntmps6
      go_wp2_with fail
      refine HWH.out.mono ?_
      rintro e w1 ⟨rfl, hb1⟩
      have hle1 : w.heap.size ≤ w1.heap.size := hb1.size
      have HZ := Lib.hid (Blk.new w1 Bar.zero.cells 53 w1.heap.size rfl)
      have HWB := Lib.hid (Blk.new w1 WB.cells 53 w1.heap.size rfl)
      have HB2 := Lib.hid (hb1.alloc hb1.size (.cells WB.cells 53))
      clear hb1 HWH
      go_wp2_with (refine store_blk (by rfl) 53 _ _ (by rfl) w1.heap.size (by rfl) Bar.zero.cells WB.cells 53 HZ.out (by rfl) (by rfl) (by kernel_rfl) (one_bar _) ?_; change wpList _ _ _ _ _ (World.setCells (w1.alloc (.cells Bar.zero.cells 53)) w1.heap.size 0 WB.cells.toList); rw [alloc_setCells w1 Bar.zero.cells WB.cells 53 rfl w1.heap.size rfl])
      clear HZ
      have hle2 : w1.heap.size < (w1.alloc (.cells WB.cells 53)).heap.size := by simp
      generalize w1.alloc (.cells WB.cells 53) = W1 at HB2 HWB hle2 ⊢
      refine (HBA.out _ HB2.out).mono ?_
      rintro e w2 ⟨vb, rfl, hrb, hb2⟩
      have HRB := Lib.hid hrb
      have HW2 := Lib.hid (HWB.out.below hb2 HWB.out.lt)
      have HB3 := Lib.hid (HB2.out.trans (hb2.mono HB2.out.size))
      obtain ⟨ba, bc, rfl⟩ := row_slice hrb
      clear hrb hb2 HBA HB2 HWB
      have hle3 : w1.heap.size < w2.heap.size := HW2.out.lt
      go_wp2_with fail
      have HAL0 := Lib.hid (Blk.new w2 Bar.zero.cells 53 w2.heap.size rfl)
      have HBL0 := Lib.hid ((Below.refl w2.heap.size w2).alloc (Nat.le_refl _) (.cells Bar.zero.cells 53))
      change Code.wp _ _ _ _ (w2.alloc (.cells Bar.zero.cells 53))
      generalize w2.alloc (.cells Bar.zero.cells 53) = W3 at HAL0 HBL0 ⊢
      go_loopw [12] (fun i wr => ∃ k : Nat, k ≤ B.length ∧ i = .int .i64 k ∧ Blk wr w2.heap.size (mergeL (B.take k)).cells 53 ∧ Below w2.heap.size w2 wr) (fun i _ => B.length - (intOf i).toNat)
      case atStart => exact ⟨0, by omega, rfl, HAL0.out, HBL0.out⟩
      case round =>
        clear HAL0 HBL0
        obtain ⟨k, hk, rfl, hal, hbl⟩ := hrel
        have HAL := Lib.hid hal
        have HBL := Lib.hid hbl
        clear hal hbl
        by_cases hlt : k < B.length
        · obtain ⟨g, cb, hcb⟩ := row_some (by omega) HRB.out
          cases hcb
          have hg2 : g < w2.heap.size := row_lt HRB.out
          have HD := Lib.hid (range_below (row_range HRB.out k hlt) hg2 HBL.out)
          have hd := HGB.out B[k] (List.getElem_mem hlt)
          have HMD := Lib.hid (HMO.out B[k] (List.getElem_mem hlt))
          have HNX := Lib.hid (show mergeL (B.take (k + 1)) = mstep (mergeL (B.take k)) B[k] by rw [List.take_succ_eq_append_getElem hlt]; exact mergeL_snoc _ _)
          have hmk := mok_merge (B.take k) (fun d hd => HMO.out d (List.mem_of_mem_take hd))
          have hmk2 : (mergeL (B.take k)).trd = 0 ∨ MOK (B.take k).length (mergeL (B.take k)) := by
            rcases hmk with h | h
            · rw [h]; exact .inl rfl
            · exact .inr h
          have hlk : (B.take k).length ≤ 151 := by rw [List.length_take]; omega
          have HST := Lib.hid (fun w => merge_step (mergeL (B.take k)) B[k] (B.take k).length hlk hmk2 HMD.out w)
          clear hmk hmk2 hlk
          generalize hdd : B[k] = d at HD hd HNX HST
          have HDD := Lib.hid hdd
          clear hdd
          generalize mergeL (B.take k) = A at HAL HNX HST
          have g1 : (0 : Int) ≤ (k : Int) := by omega
          have g2 : (k : Int) < (B.length : Int) := by omega
          have t1 := hd.m1; have t2 := hd.m2; have t3 := hd.o1; have t4 := hd.c1; have t6 := hd.t1
          have t5 : d.frm.tmod wd = 0 := Int.tmod_eq_zero_of_dvd (Int.dvd_of_emod_eq_zero hd.f1)
          clear hd
          have c0 : wr.cell? ⟨g, k * 8, none⟩ = some (.int .i64 d.frm) := HD.out 0 _ rfl
          have c1 : wr.cell? ⟨g, k * 8 + 1, none⟩ = some (.int .i64 d.opn) := HD.out 1 _ rfl
          have c2 : wr.cell? ⟨g, k * 8 + 2, none⟩ = some (.int .i64 d.high) := HD.out 2 _ rfl
          have c3 : wr.cell? ⟨g, k * 8 + 3, none⟩ = some (.int .i64 d.low) := HD.out 3 _ rfl
          have c4 : wr.cell? ⟨g, k * 8 + 4, none⟩ = some (.int .i64 d.cls) := HD.out 4 _ rfl
          have c6 : wr.cell? ⟨g, k * 8 + 6, none⟩ = some (.int .i64 d.trd) := HD.out 6 _ rfl
          have c7 : wr.cell? ⟨g, k * 8 + 7, none⟩ = some (.int .i64 d.mean) := HD.out 7 _ rfl
          go_wp2_with fail
          go_quiet (fail)
          replace HAL := Lib.hid ((HAL.out).drewN nq)
          replace HBL := Lib.hid ((HBL.out).drewN nq)
          generalize wr.drewN nq = W5 at HAL HBL ⊢
          clear c0 c1 c2 c3 c4 c6 c7 HD
          have HD5 := Lib.hid (range_below (row_range HRB.out k hlt) hg2 HBL.out)
          rw [HDD.out] at HD5
          go_wp2_with fail
          clear t1 t2 t3 t4 t5 t6
          refine wp_region_held_drew (S := (fun w' => w'.rangeAt g (k * 8) d.cells.toList)) (by kernel_rfl) HD5.out (fun hHeld => ?_)
          have HD6 := Lib.hid (show W5.drew.rangeAt g (k * 8) d.cells.toList from HD5.out)
          replace HAL := Lib.hid HAL.out.drew
          replace HBL := Lib.hid HBL.out.drew
          clear HD5
          generalize W5.drew = W6 at HD6 HAL HBL hHeld ⊢
          refine wpAnyH_take (i := 1) (oi := ⟨some 118, _, _, _, _, _⟩) (v := (.slice (some ⟨g, 0, none⟩) B.length bc)) rfl (by kernel_rfl) (by kernel_rfl) (by kernel_rfl) (fun _ _ _ h => h) (Or.inl ⟨by rfl, fun w hSw => by (try dsimp only at hSw); go_simp⟩) (by assumption) ?_
          simp only [Act.put, List.setIfInBounds_toArray, List.set_cons_zero, List.set_cons_succ]
          refine wpAnyH_take (i := 2) (oi := ⟨some 119, _, _, _, _, _⟩) (v := (.int .i64 k)) rfl (by kernel_rfl) (by kernel_rfl) (by kernel_rfl) (fun _ _ _ h => h) (Or.inl ⟨by rfl, fun w hSw => by (try dsimp only at hSw); go_simp⟩) (by assumption) ?_
          simp only [Act.put, List.setIfInBounds_toArray, List.set_cons_zero, List.set_cons_succ]
          refine wpAnyH_take (i := 3) (oi := ⟨some 120, _, _, _, _, _⟩) (v := (.pointer (some ⟨g, k * 8, none⟩))) rfl (by kernel_rfl) (by kernel_rfl) (by kernel_rfl) (fun _ _ _ h => h) (Or.inl ⟨by rfl, fun w hSw => by (try dsimp only at hSw); go_simp⟩) (by assumption) ?_
          simp only [Act.put, List.setIfInBounds_toArray, List.set_cons_zero, List.set_cons_succ]
          refine wpAnyH_take (i := 4) (oi := ⟨some 121, .load 53 (.tmp 120), _, _, _, _⟩) (v := _) rfl (by kernel_rfl) (by kernel_rfl) (by kernel_rfl) (fun _ _ _ h => h) (yieldsIf_load_mid (by rfl) _ _ rfl _ _ rfl _ _ (fun w h => h) Try.underlying53 rfl (by kernel_rfl)) (by assumption) ?_
          simp only [Act.put, List.setIfInBounds_toArray, List.set_cons_zero, List.set_cons_succ]
          refine wpAnyH_ready (rs := [0]) (by kernel_rfl) (by simp) ?_
          refine AllReadyH.cons (o := ⟨some 117, _, _, _, _, _⟩) rfl (fun KK hK => ?_) AllReadyH.nil
          refine step_load_blk (by rfl) 53 _ (by rfl) w2.heap.size (by rfl) _ _ HAL.out _ Try.underlying53 rfl (by kernel_rfl) ?_
          refine hK.out _ _ HD6.out (fun hHeld => ?_)
          clear hK; try clear KK
          try simp only [Act.put, List.setIfInBounds_toArray, List.set_cons_zero, List.set_cons_succ]
          refine wpAnyH_ready (rs := [5]) (by kernel_rfl) (by simp) ?_
          refine AllReadyH.cons (o := ⟨some 122, _, _, _, _, _⟩) rfl (fun KK hK => ?_) AllReadyH.nil
          go_simp
          refine (HST.out _).mono ?_
          rintro e W7 ⟨rfl, hb7⟩
          have HAL7 := Lib.hid (HAL.out.below hb7 HAL.out.lt)
          have HD7 := Lib.hid (range_below HD6.out (Nat.lt_of_lt_of_le hg2 HBL.out.size) hb7)
          have HBL7 := Lib.hid (HBL.out.trans (hb7.mono HBL.out.size))
          clear hb7 hHeld HAL HBL HD6 HST
          generalize mstep A d = A' at HNX ⊢
          go_wp2_with fail
          refine hK.out _ _ HD7.out (fun hHeld => ?_)
          clear hK; try clear KK
          try simp only [Act.put, List.setIfInBounds_toArray, List.set_cons_zero, List.set_cons_succ]
          refine wpAnyH_ready (rs := [6]) (by kernel_rfl) (by simp) ?_
          refine AllReadyH.cons (o := ⟨none, _, _, _, _, _⟩) rfl (fun KK hK => ?_) AllReadyH.nil
          refine step_store_blk (by rfl) 53 _ _ (by rfl) w2.heap.size (by rfl) A.cells A'.cells 53 HAL7.out (by rfl) (by rfl) (by kernel_rfl) (one_bar _) ?_
          have HAL8 := Lib.hid (HAL7.out.setCells A'.cells rfl)
          have HBL8 := Lib.hid (Blk.Below.setCells (B := w2.heap.size) A'.cells.toList 0 _ HBL7.out (Nat.le_refl _))
          refine hK.out _ _ (fun j v hv => by rw [HBL8.out.cell (p := ⟨g, _, none⟩) hg2, ← HBL7.out.cell (p := ⟨g, _, none⟩) hg2]; exact HD7.out j v hv) (fun hHeld => ?_)
          clear hK; try clear KK
          refine wpAnyH_done (by kernel_rfl) ?_ _
          go_wp2
          go_roundw
          case rel => exact ⟨k + 1, by omega, by go_num, by rw [HNX.out]; exact HAL8.out, HBL8.out⟩
          case measure => simp [intOf]; omega
        · obtain rfl : k = B.length := by omega
          rw [List.take_length] at HAL
          have g2 : (B.length : Int) ≤ (B.length : Int) := by omega
          have HWB5 := Lib.hid (HW2.out.below HBL.out hle3)
          have a1 : wr.cell? ⟨w2.heap.size, 1, none⟩ = some (.int .i64 WB.opn) := by rw [← HAG.out.o]; exact HAL.out.cell 1 rfl
          have a2 : wr.cell? ⟨w2.heap.size, 2, none⟩ = some (.int .i64 WB.high) := by rw [← HAG.out.h]; exact HAL.out.cell 2 rfl
          have a3 : wr.cell? ⟨w2.heap.size, 3, none⟩ = some (.int .i64 WB.low) := by rw [← HAG.out.l]; exact HAL.out.cell 3 rfl
          have a4 : wr.cell? ⟨w2.heap.size, 4, none⟩ = some (.int .i64 WB.cls) := by rw [← HAG.out.c]; exact HAL.out.cell 4 rfl
          have a5 : wr.cell? ⟨w2.heap.size, 5, none⟩ = some (.int .i64 WB.vol) := by rw [← HAG.out.v]; exact HAL.out.cell 5 rfl
          have a6 : wr.cell? ⟨w2.heap.size, 6, none⟩ = some (.int .i64 WB.trd) := by rw [← HAG.out.t]; exact HAL.out.cell 6 rfl
          have b1 : wr.cell? ⟨w1.heap.size, 1, none⟩ = some (.int .i64 WB.opn) := HWB5.out.cell 1 rfl
          have b2 : wr.cell? ⟨w1.heap.size, 2, none⟩ = some (.int .i64 WB.high) := HWB5.out.cell 2 rfl
          have b3 : wr.cell? ⟨w1.heap.size, 3, none⟩ = some (.int .i64 WB.low) := HWB5.out.cell 3 rfl
          have b4 : wr.cell? ⟨w1.heap.size, 4, none⟩ = some (.int .i64 WB.cls) := HWB5.out.cell 4 rfl
          have b5 : wr.cell? ⟨w1.heap.size, 5, none⟩ = some (.int .i64 WB.vol) := HWB5.out.cell 5 rfl
          have b6 : wr.cell? ⟨w1.heap.size, 6, none⟩ = some (.int .i64 WB.trd) := HWB5.out.cell 6 rfl
          go_wp2_with fail
          refine (alive_any _).mono ?_
          rintro e w9 ⟨rfl, hb9⟩
          have HF := Lib.hid (HB3.out.trans ((HBL.out.trans (hb9.mono HBL.out.size)).mono HB3.out.size))
          clear hb9
          go_wp2
          go_ret
          exact ⟨rfl, HF.out⟩
end Go.Proofs.Ytogjgpiddjmpiaa.Tape
