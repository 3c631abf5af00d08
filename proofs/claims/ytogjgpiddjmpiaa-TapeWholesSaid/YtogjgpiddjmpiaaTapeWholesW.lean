/- The walk of damperlaw34.TapeWholes. -/
import Derived.Test.YtogjgpiddjmpiaaBusiest
import Derived.Test.YtogjgpiddjmpiaaTapeLaw
import Derived.Test.YtogjgpiddjmpiaaTapeOfW
namespace Go.Proofs.Ytogjgpiddjmpiaa.Tape
set_option linter.unusedVariables false
open Go.RowKit Go.Proofs.Ytogjgpiddjmpiaa.Kit Go.Proofs.Ytogjgpiddjmpiaa.Blk Go.Proofs.Ytogjgpiddjmpiaa.Msgs
attribute [local go_sem ↓] Go.wp_at_zero Go.wp_at_succ

theorem whole_of (m : Msg) (t : List Msg) (hg : ∀ x ∈ m :: t, Good x) : wholeF (m :: t) = ofF m.tick (m :: t) m ((m :: t)[t.length]'(by simp)) :=
  done_group m.tick m (m :: t) t.length rfl hg
theorem results_blk_tmp2 {P : Program} {fn : Func} {p u : Tmp} {ty T : TypeId} {tmps : Array Value} {w : World} {B : Nat} {cs : Array Value} {d : TypeDesc} (h : fn.results = #[.cell p ty, .tmp u]) (hp : tmps.getD p undef = .pointer (some ⟨B, 0, none⟩)) (hb : Blk w B cs T)
    (hu : P.underlying ty = some d) (hd : d.isRow = true) (hi : (P.info? ty).map (·.size) = some cs.size) : (results fn tmps).run P w = .ok (.tuple #[.agg cs, tmps.getD u undef]) w := results_blk_tmp' hb h hp hu hd hi

set_option maxRecDepth 20000 in
set_option maxHeartbeats 2000000 in
theorem refwhole_any (a : Option Addr) (cap : Nat) (ms : List Msg) (sym : Int) (w : World) (hm : MsgRow w a ms) (hl : ms.length ≤ 1000) (hfit : ∀ m ∈ ms, m.tick ≤ 9223372036854775807) :
    Calls Try.prog 29 #[.slice a ms.length cap, .int .i64 sym] w fun e w' => WholeIs (ms.filter (isT sym)) w e w' := by
  have HC := Lib.hid (fun W hb => refcounts_any a cap ms sym W (hm.all (hb : Below w.heap.size w W)) hl hfit)
  have hgd : ∀ m ∈ ms.filter (isT sym), Good m := fun m hm => good_of (List.mem_filter.1 hm).2
  have hln : (ms.filter (isT sym)).length ≤ 1000 := Nat.le_trans (List.length_filter_le _ _) hl
  have HR := Lib.hid (Blk.new w Bar.zero.cells 55 w.heap.size rfl)
  have HB := Lib.hid ((Below.refl w.heap.size w).alloc (Nat.le_refl _) (.cells Bar.zero.cells 55))
  clear hm hl hfit
  generalize ms.filter (isT sym) = L at HC hgd hln ⊢
  go_enter Try.func29, Try.ntmps29
  go_wp2_with fail
  refine (HC.out _ HB.out).mono ?_
  rintro e w1 ⟨v, rfl, hown, hb⟩
  obtain ⟨b, c, rfl, hrow, -, -, -⟩ := row_of_owned hown
  replace HR := Lib.hid (HR.out.below hb HR.out.lt)
  replace HB := Lib.hid (HB.out.trans (hb.mono HB.out.size))
  clear hown hb HC
  cases L with
  | nil =>
    clear hrow hgd
    go_wp2_with (refine store_blk (by rfl) 55 _ _ (by rfl) w.heap.size (by rfl) Bar.zero.cells Bar.zero.cells 55 HR.out (by rfl) (by rfl) (by kernel_rfl) (one_bar _) ?_)
    refine bodyPost_ret (results_blk_tmp2 rfl rfl (HR.out.setCells Bar.zero.cells rfl) Try.underlying55 rfl (by kernel_rfl)) rfl ?_
    exact ⟨rfl, Blk.Below.setCells (B := w.heap.size) Bar.zero.cells.toList 0 _ HB.out (Nat.le_refl _)⟩
  | cons m t =>
    obtain ⟨b', off, rfl, hbl, hc⟩ := hrow 0 (by simp)
    have c3 : w1.cell? ⟨b', off + 3, none⟩ = some (.int .i64 m.tick) := by (have h : w1.cell? ⟨b', off + 0 * 9 + 3, none⟩ = some (.int .i64 m.tick) := hc 3 _ rfl); simpa using h
    have HE := Lib.hid (whole_of m t hgd)
    have hlt : (m :: t).length = t.length + 1 := rfl
    rw [hlt] at hln
    have HO := Lib.hid (of_any (some ⟨b', off, none⟩) c t.length (t.length + 1) (m :: t) rfl rfl m _ rfl rfl m.tick w1 hrow (by omega) hgd)
    have HI := Lib.hid (show isAny (m :: t) = true from rfl)
    rw [← HE.out] at HO
    clear hrow hc hgd hln HE
    rw [hlt]
    generalize hdd : wholeF (m :: t) = d at HO
    have HDD := Lib.hid hdd
    clear hdd
    have g0 : (((t.length + 1 : Nat) : Int) == 0) = false := by simp; omega
    have g1 : (0 : Int) < ((t.length + 1 : Nat) : Int) := by omega
    go_wp2_with fail
    refine HO.out.mono ?_
    rintro e w2 ⟨rfl, hb2⟩
    replace HR := Lib.hid (HR.out.below hb2 HR.out.lt)
    replace HB := Lib.hid (HB.out.trans (hb2.mono HB.out.size))
    clear hb2 HO
    go_wp2_with (refine store_blk (by rfl) 55 _ _ (by rfl) w.heap.size (by rfl) Bar.zero.cells d.cells 55 HR.out (by rfl) (by rfl) (by kernel_rfl) (one_bar _) ?_)
    refine bodyPost_ret (results_blk_tmp2 rfl rfl (HR.out.setCells d.cells rfl) Try.underlying55 rfl (by kernel_rfl)) rfl ?_
    exact ⟨by rw [HDD.out, HI.out]; rfl, Blk.Below.setCells (B := w.heap.size) d.cells.toList 0 _ HB.out (Nat.le_refl _)⟩

theorem eql_bar (d : Bar) (w : World) : (binOp .eql 53 (.agg #[.int .i64 d.frm, .int .i64 d.opn, .int .i64 d.high, .int .i64 d.low, .int .i64 d.cls, .int .i64 d.vol, .int .i64 d.trd, .int .i64 d.mean]) (.agg d.cells)).run Try.prog w = .ok (.bool true) w := by
  unfold Bar.cells
  go_simp
theorem in64_wf {n : Int} (h : (Lit.int .i64 n).wf = true) : -9223372036854775808 ≤ n ∧ n ≤ 9223372036854775807 := by
  simp [Lit.wf, IntKind.min, IntKind.max, IntKind.signed, IntKind.bits] at h; exact h
theorem row_len {w : World} {a : Option Addr} {ms : List Msg} (h : MsgRow w a ms) (i : Nat) (hi : i < ms.length) : ∃ b off, a = some ⟨b, off, none⟩ ∧ b < w.heap.size ∧ w.cell? ⟨b, off + i * 9 + 6, none⟩ = some (.int .i64 ms[i].price) := by
  obtain ⟨b, off, ha, hb, hc⟩ := h i hi
  exact ⟨b, off, ha, hb, hc 6 _ rfl⟩

set_option maxRecDepth 20000 in
set_option maxHeartbeats 4000000 in
theorem wholes_law (a : Option Addr) (cap : Nat) (ms : List Msg) (sym price : Int) (w : World) (hm : MsgRow w a ms) (hmx : ms.length ≤ maxLen) (hfit : ∀ m ∈ ms, m.tick ≤ 9223372036854775807) (hfp : ∀ m ∈ ms, -9223372036854775808 ≤ m.price ∧ m.price ≤ 9223372036854775807)
    (hp0 : -9223372036854775808 ≤ price) (hp1 : price ≤ 9223372036854775807) :
    Calls Try.prog 7 #[.slice a ms.length cap, .int .i64 sym, .int .i64 price] w fun e w' => e = .returned (.bool true) ∧ Below w.heap.size w w' := by
  unfold maxLen at hmx
  by_cases hl : 150 < ms.length
  · have g0 : (150 : Int) < (ms.length : Int) := by omega
    go_enter Try.func7, Try.ntmps7
    go_wp2_with fail
    refine (alive_any _).mono ?_
    rintro e w1 ⟨rfl, hb1⟩
    go_wp2
    go_ret
    exact ⟨rfl, hb1⟩
  · have g0 : ¬ (150 : Int) < (ms.length : Int) := by omega
    have HM := Lib.hid (fun W (hb : Below w.heap.size w W) => hm.all hb)
    have HA := Lib.hid (whole_any a cap ms sym w hm (by omega) hfit)
    have HRA := Lib.hid (fun W (hb : Below w.heap.size w W) => refwhole_any a cap ms sym W (hm.all hb) (by omega) hfit)
    have HP := Lib.hid (fun W (hb : Below w.heap.size w W) => busiest_any a cap ms sym W (hm.all hb) (by omega) hfit)
    have HQ := Lib.hid (fun W (hb : Below w.heap.size w W) => refbusy_any a cap ms sym W (hm.all hb) (by omega) hfit)
    have HV := Lib.hid (fun W (hb : Below w.heap.size w W) => volumes_any a cap ms sym W (hm.all hb) (by omega) hfit)
    have HVL := Lib.hid (fun p W (hb : Below w.heap.size w W) => refvol_any a cap ms sym p W (hm.all hb) (by omega) hfit)
    have HFP := Lib.hid hfp
    have HFI := Lib.hid hfit
    simp only [cnt_map] at HA HP HV
    have HLN := Lib.hid (show ms.length ≤ 150 by omega)
    clear hm hfit hfp
    generalize ms.filter (isT sym) = L at HA HRA HP HQ HV HVL ⊢
    go_enter Try.func7, Try.ntmps7
    go_wp2_with fail
    refine HA.out.mono ?_
    rintro e w1 ⟨rfl, hb1⟩
    have HB := Lib.hid hb1
    have hxa := hb1.size
    clear hb1 HA
    have HZ1 := Lib.hid (Blk.new w1 Bar.zero.cells 53 w1.heap.size rfl)
    have HX := Lib.hid (Blk.new w1 (wholeF L).cells 53 w1.heap.size rfl)
    replace HB := Lib.hid (HB.out.alloc HB.out.size (.cells (wholeF L).cells 53))
    generalize hd : wholeF L = d at HX HB ⊢
    have HD := Lib.hid hd
    clear hd
    go_upto_region 4 with (refine store_blk (by rfl) 53 _ _ (by rfl) w1.heap.size (by rfl) Bar.zero.cells d.cells 53 HZ1.out (by rfl) (by rfl) (by kernel_rfl) (one_bar _) ?_; change wpList _ _ _ _ _ (World.setCells (w1.alloc (.cells Bar.zero.cells 53)) w1.heap.size 0 d.cells.toList); rw [alloc_setCells w1 Bar.zero.cells d.cells 53 rfl w1.heap.size rfl])
    generalize hw2 : w1.alloc (.cells d.cells 53) = w2 at HX HB ⊢
    clear hw2 HZ1
    generalize w1.heap.size = A at HX hxa ⊢
    go_wp2_with fail
    refine (HRA.out _ HB.out).mono ?_
    rintro e w3 ⟨rfl, hb3⟩
    replace HX := Lib.hid (HX.out.below hb3 HX.out.lt)
    replace HB := Lib.hid (HB.out.trans (hb3.mono HB.out.size))
    clear hb3 HRA
    rw [HD.out]
    have HZ2 := Lib.hid (Blk.new w3 Bar.zero.cells 55 w3.heap.size rfl)
    have HY := Lib.hid (Blk.new w3 d.cells 55 w3.heap.size rfl)
    replace HX := Lib.hid (HX.out.old (.cells d.cells 55))
    replace HB := Lib.hid (HB.out.alloc HB.out.size (.cells d.cells 55))
    go_upto_region 5 with (refine store_blk (by rfl) 55 _ _ (by rfl) w3.heap.size (by rfl) Bar.zero.cells d.cells 55 HZ2.out (by rfl) (by rfl) (by kernel_rfl) (one_bar _) ?_; change wpList _ _ _ _ _ (World.setCells (w3.alloc (.cells Bar.zero.cells 55)) w3.heap.size 0 d.cells.toList); rw [alloc_setCells w3 Bar.zero.cells d.cells 55 rfl w3.heap.size rfl])
    generalize hw4 : w3.alloc (.cells d.cells 55) = w4 at HX HY HB ⊢
    clear hw4 HZ2
    generalize w3.heap.size = B at HY ⊢
    go_wp2_with fail
    refine (HP.out _ HB.out).mono ?_
    rintro e w5 ⟨p, rfl, hp, hb5⟩
    replace HX := Lib.hid (HX.out.below hb5 HX.out.lt)
    replace HY := Lib.hid (HY.out.below hb5 HY.out.lt)
    replace HB := Lib.hid (HB.out.trans (hb5.mono HB.out.size))
    clear hb5 HP
    go_wp2_with fail
    refine (HQ.out _ HB.out).mono ?_
    rintro e w6 ⟨q, rfl, hq, hb6⟩
    obtain rfl : p = q := busyOr_unique hp hq (fun _ => Iff.rfl)
    replace HX := Lib.hid (HX.out.below hb6 HX.out.lt)
    replace HY := Lib.hid (HY.out.below hb6 HY.out.lt)
    replace HB := Lib.hid (HB.out.trans (hb6.mono HB.out.size))
    clear hb6 HQ hp hq
    go_wp2_with fail
    refine (HV.out _ HB.out).mono ?_
    rintro e w7 ⟨vb, rfl, hown, -, hb7⟩
    replace HX := Lib.hid (HX.out.below hb7 HX.out.lt)
    replace HY := Lib.hid (HY.out.below hb7 HY.out.lt)
    replace HB := Lib.hid (HB.out.trans (hb7.mono HB.out.size))
    have HOW := Lib.hid hown
    clear hb7 HV hown
    go_wp2_with fail
    go_loopw [16] (fun i wr => ∃ k : Nat, k ≤ ms.length ∧ i = .int .i64 k ∧ Below w7.heap.size w7 wr) (fun i _ => ms.length - (intOf i).toNat)
    case atStart => exact ⟨0, by omega, rfl, Below.refl _ _⟩
    case round =>
      obtain ⟨k, hk, rfl, hbw⟩ := hrel
      have HBW := Lib.hid (HB.out.trans (hbw.mono HB.out.size))
      have HW7 := Lib.hid hbw
      have HLK := Lib.hid (fun W (hb : Below w7.heap.size w7 W) x h0 h1 => look_vol (L := L) (b := vb) (w := W) (HOW.out.kept (row := none) ⟨hb.os, hb.tape, hb.output, hb.size, fun k hk _ => hb.block k hk⟩ (by simp)) x h0 h1)
      clear hbw HB
      by_cases hlt : k < ms.length
      · obtain ⟨b, off, rfl, hbl, c6⟩ := row_len (HM.out _ HBW.out) k hlt
        have HIN := Lib.hid (HFP.out _ (List.getElem_mem hlt))
        have hbl7 : b < wr.heap.size := hbl
        generalize ms[k].price = x at c6 HIN
        have HL := Lib.hid (fun W hb => HLK.out W hb x HIN.out.1 HIN.out.2)
        have g1 : (0 : Int) ≤ (k : Int) := by omega
        have g2 : (k : Int) < (ms.length : Int) := by omega
        have g3 : (volP L x != volP L x) = false := by simp
        generalize hvx : volP L x = vx at HL g3
        have HVX := Lib.hid hvx
        clear hvx
        go_wp2_with fail
        have HC6 := Lib.hid c6
        refine wp_region_held_drew (S := (fun w' => w'.cell? ⟨b, off + k * 9 + 6, none⟩ = some (.int .i64 x) ∧ (Instr.lookup 63 (.map (some vb)) (.int .i64 x) false).run Try.prog w' = .ok (.int .i64 vx) w')) (by kernel_rfl) ⟨c6, HL.out wr.drew HW7.out.drew⟩ (fun hHeld => ?_)
        clear c6
        replace HBW := Lib.hid HBW.out.drew
        replace HW7 := Lib.hid HW7.out.drew
        replace hbl7 : b < wr.drew.heap.size := hbl7
        replace HC6 := Lib.hid (show wr.drew.cell? ⟨b, off + k * 9 + 6, none⟩ = some (.int .i64 x) from HC6.out)
        clear hbl
        generalize wr.drew = w8 at HBW HW7 hHeld hbl7 HC6 ⊢
        refine wpAnyH_take (i := 0) (oi := ⟨some 54, _, _, _, _, _⟩) (v := (.map (some vb))) rfl (by kernel_rfl) (by kernel_rfl) (by kernel_rfl) (fun _ _ _ h => h) (Or.inl ⟨by rfl, fun w hSw => by (try dsimp only at hSw); go_simp⟩) (by assumption) ?_
        simp only [Act.put, List.setIfInBounds_toArray, List.set_cons_zero, List.set_cons_succ]
        refine wpAnyH_take (i := 1) (oi := ⟨some 55, _, _, _, _, _⟩) (v := (.slice (some ⟨b, off, none⟩) ms.length cap)) rfl (by kernel_rfl) (by kernel_rfl) (by kernel_rfl) (fun _ _ _ h => h) (Or.inl ⟨by rfl, fun w hSw => by (try dsimp only at hSw); go_simp⟩) (by assumption) ?_
        simp only [Act.put, List.setIfInBounds_toArray, List.set_cons_zero, List.set_cons_succ]
        refine wpAnyH_take (i := 2) (oi := ⟨some 56, _, _, _, _, _⟩) (v := (.int .i64 k)) rfl (by kernel_rfl) (by kernel_rfl) (by kernel_rfl) (fun _ _ _ h => h) (Or.inl ⟨by rfl, fun w hSw => by (try dsimp only at hSw); go_simp⟩) (by assumption) ?_
        simp only [Act.put, List.setIfInBounds_toArray, List.set_cons_zero, List.set_cons_succ]
        refine wpAnyH_take (i := 3) (oi := ⟨some 57, _, _, _, _, _⟩) (v := (.pointer (some ⟨b, off + k * 9, none⟩))) rfl (by kernel_rfl) (by kernel_rfl) (by kernel_rfl) (fun _ _ _ h => h) (Or.inl ⟨by rfl, fun w hSw => by (try dsimp only at hSw); go_simp⟩) (by assumption) ?_
        simp only [Act.put, List.setIfInBounds_toArray, List.set_cons_zero, List.set_cons_succ]
        refine wpAnyH_take (i := 4) (oi := ⟨some 58, _, _, _, _, _⟩) (v := (.pointer (some ⟨b, off + k * 9 + 6, none⟩))) rfl (by kernel_rfl) (by kernel_rfl) (by kernel_rfl) (fun _ _ _ h => h) (Or.inl ⟨by rfl, fun w hSw => by (try dsimp only at hSw); go_simp⟩) (by assumption) ?_
        simp only [Act.put, List.setIfInBounds_toArray, List.set_cons_zero, List.set_cons_succ]
        refine wpAnyH_take (i := 5) (oi := ⟨some 59, _, _, _, _, _⟩) (v := (.int .i64 x)) rfl (by kernel_rfl) (by kernel_rfl) (by kernel_rfl) (fun _ _ _ h => h) (Or.inl ⟨by rfl, fun w hSw => by (try dsimp only at hSw); go_simp⟩) (by assumption) ?_
        simp only [Act.put, List.setIfInBounds_toArray, List.set_cons_zero, List.set_cons_succ]
        refine wpAnyH_take (i := 6) (oi := ⟨some 60, _, _, _, _, _⟩) (v := (.int .i64 vx)) rfl (by kernel_rfl) (by kernel_rfl) (by kernel_rfl) (fun _ _ _ h => h) (Or.inl ⟨by rfl, fun w hSw => by (try dsimp only at hSw); go_simp⟩) (by assumption) ?_
        simp only [Act.put, List.setIfInBounds_toArray, List.set_cons_zero, List.set_cons_succ]
        refine wpAnyH_take (i := 7) (oi := ⟨some 61, _, _, _, _, _⟩) (v := (.slice (some ⟨b, off, none⟩) ms.length cap)) rfl (by kernel_rfl) (by kernel_rfl) (by kernel_rfl) (fun _ _ _ h => h) (Or.inl ⟨by rfl, fun w hSw => by (try dsimp only at hSw); go_simp⟩) (by assumption) ?_
        simp only [Act.put, List.setIfInBounds_toArray, List.set_cons_zero, List.set_cons_succ]
        refine wpAnyH_take (i := 8) (oi := ⟨some 62, _, _, _, _, _⟩) (v := (.int .i64 sym)) rfl (by kernel_rfl) (by kernel_rfl) (by kernel_rfl) (fun _ _ _ h => h) (Or.inl ⟨by rfl, fun w hSw => by (try dsimp only at hSw); go_simp⟩) (by assumption) ?_
        simp only [Act.put, List.setIfInBounds_toArray, List.set_cons_zero, List.set_cons_succ]
        refine wpAnyH_take (i := 9) (oi := ⟨some 63, _, _, _, _, _⟩) (v := (.slice (some ⟨b, off, none⟩) ms.length cap)) rfl (by kernel_rfl) (by kernel_rfl) (by kernel_rfl) (fun _ _ _ h => h) (Or.inl ⟨by rfl, fun w hSw => by (try dsimp only at hSw); go_simp⟩) (by assumption) ?_
        simp only [Act.put, List.setIfInBounds_toArray, List.set_cons_zero, List.set_cons_succ]
        refine wpAnyH_take (i := 10) (oi := ⟨some 64, _, _, _, _, _⟩) (v := (.int .i64 k)) rfl (by kernel_rfl) (by kernel_rfl) (by kernel_rfl) (fun _ _ _ h => h) (Or.inl ⟨by rfl, fun w hSw => by (try dsimp only at hSw); go_simp⟩) (by assumption) ?_
        simp only [Act.put, List.setIfInBounds_toArray, List.set_cons_zero, List.set_cons_succ]
        refine wpAnyH_take (i := 11) (oi := ⟨some 65, _, _, _, _, _⟩) (v := (.pointer (some ⟨b, off + k * 9, none⟩))) rfl (by kernel_rfl) (by kernel_rfl) (by kernel_rfl) (fun _ _ _ h => h) (Or.inl ⟨by rfl, fun w hSw => by (try dsimp only at hSw); go_simp⟩) (by assumption) ?_
        simp only [Act.put, List.setIfInBounds_toArray, List.set_cons_zero, List.set_cons_succ]
        refine wpAnyH_take (i := 12) (oi := ⟨some 66, _, _, _, _, _⟩) (v := (.pointer (some ⟨b, off + k * 9 + 6, none⟩))) rfl (by kernel_rfl) (by kernel_rfl) (by kernel_rfl) (fun _ _ _ h => h) (Or.inl ⟨by rfl, fun w hSw => by (try dsimp only at hSw); go_simp⟩) (by assumption) ?_
        simp only [Act.put, List.setIfInBounds_toArray, List.set_cons_zero, List.set_cons_succ]
        refine wpAnyH_take (i := 13) (oi := ⟨some 67, _, _, _, _, _⟩) (v := (.int .i64 x)) rfl (by kernel_rfl) (by kernel_rfl) (by kernel_rfl) (fun _ _ _ h => h) (Or.inl ⟨by rfl, fun w hSw => by (try dsimp only at hSw); go_simp⟩) (by assumption) ?_
        simp only [Act.put, List.setIfInBounds_toArray, List.set_cons_zero, List.set_cons_succ]
        refine wpAnyH_ready (rs := [14]) (by kernel_rfl) (by simp) ?_
        refine AllReadyH.cons (o := ⟨some 68, _, _, _, _, _⟩) rfl (fun KK hK => ?_) AllReadyH.nil
        go_simp
        refine (HVL.out x _ HBW.out).mono ?_
        rintro e w9 ⟨rfl, hb9⟩
        rw [HVX.out]
        replace HBW := Lib.hid (HBW.out.trans (hb9.mono HBW.out.size))
        replace HW7 := Lib.hid (HW7.out.trans (hb9.mono HW7.out.size))
        replace HC6 := Lib.hid (show w9.cell? ⟨b, off + k * 9 + 6, none⟩ = some (.int .i64 x) by rw [hb9.cell (p := ⟨b, _, none⟩) hbl7]; exact HC6.out)
        clear hb9
        go_wp2_with fail
        refine hK.out _ _ ⟨HC6.out, HL.out w9 HW7.out⟩ (fun hHeld => ?_)
        clear hK; try clear KK
        try simp only [Act.put, List.setIfInBounds_toArray, List.set_cons_zero, List.set_cons_succ]
        refine wpAnyH_take (i := 15) (oi := ⟨some 69, _, _, _, _, _⟩) (v := (.bool false)) rfl (by kernel_rfl) (by kernel_rfl) (by kernel_rfl) (fun _ _ _ h => h) (Or.inl ⟨by rfl, fun w hSw => by (try dsimp only at hSw); go_simp⟩) (by assumption) ?_
        simp only [Act.put, List.setIfInBounds_toArray, List.set_cons_zero, List.set_cons_succ]
        refine wpAnyH_done (by kernel_rfl) ?_ _
        go_wp2_with fail
        go_roundw
        case rel => exact ⟨k + 1, by omega, by go_num, HW7.out⟩
        case measure => simp [intOf]; omega
      · have HL := Lib.hid (fun W hb => HLK.out W hb price hp0 hp1)
        replace HX := Lib.hid (HX.out.below HW7.out HX.out.lt)
        replace HY := Lib.hid (HY.out.below HW7.out HY.out.lt)
        generalize hvx : volP L price = vp at HL
        have HVX := Lib.hid hvx
        clear hvx HLK HFP HFI HM HD
        generalize isAny L = ia
        generalize decide (0 < L.length) = lb
        have heq := eql_bar d
        have eb : ∀ x : Bool, (x == x) = true := fun x => by cases x <;> rfl
        have ei : ∀ x : Int, (x == x) = true := fun x => by simp
        go_wp2_with fail
        refine wp_region_held_drew (S := (fun w' => w'.cell? ⟨A, 0, none⟩ = some (.int .i64 d.frm) ∧ w'.cell? ⟨A, 1, none⟩ = some (.int .i64 d.opn) ∧ w'.cell? ⟨A, 2, none⟩ = some (.int .i64 d.high) ∧ w'.cell? ⟨A, 3, none⟩ = some (.int .i64 d.low) ∧ w'.cell? ⟨A, 4, none⟩ = some (.int .i64 d.cls) ∧ w'.cell? ⟨A, 5, none⟩ = some (.int .i64 d.vol) ∧ w'.cell? ⟨A, 6, none⟩ = some (.int .i64 d.trd) ∧ w'.cell? ⟨A, 7, none⟩ = some (.int .i64 d.mean) ∧ w'.cell? ⟨B, 0, none⟩ = some (.int .i64 d.frm) ∧ w'.cell? ⟨B, 1, none⟩ = some (.int .i64 d.opn) ∧ w'.cell? ⟨B, 2, none⟩ = some (.int .i64 d.high) ∧ w'.cell? ⟨B, 3, none⟩ = some (.int .i64 d.low) ∧ w'.cell? ⟨B, 4, none⟩ = some (.int .i64 d.cls) ∧ w'.cell? ⟨B, 5, none⟩ = some (.int .i64 d.vol) ∧ w'.cell? ⟨B, 6, none⟩ = some (.int .i64 d.trd) ∧ w'.cell? ⟨B, 7, none⟩ = some (.int .i64 d.mean) ∧ (Instr.lookup 63 (.map (some vb)) (.int .i64 price) false).run Try.prog w' = .ok (.int .i64 vp) w')) (by kernel_rfl) ⟨HX.out.cell 0 rfl, HX.out.cell 1 rfl, HX.out.cell 2 rfl, HX.out.cell 3 rfl, HX.out.cell 4 rfl, HX.out.cell 5 rfl, HX.out.cell 6 rfl, HX.out.cell 7 rfl, HY.out.cell 0 rfl, HY.out.cell 1 rfl, HY.out.cell 2 rfl, HY.out.cell 3 rfl, HY.out.cell 4 rfl, HY.out.cell 5 rfl, HY.out.cell 6 rfl, HY.out.cell 7 rfl, HL.out wr.drew HW7.out.drew⟩ (fun hHeld => ?_)
        replace HBW := Lib.hid HBW.out.drew
        replace HW7 := Lib.hid HW7.out.drew
        replace HX := Lib.hid HX.out.drew
        replace HY := Lib.hid HY.out.drew
        generalize wr.drew = w8 at HBW HW7 hHeld HX HY ⊢
        refine wpAnyH_take (i := 0) (oi := ⟨some 70, _, _, _, _, _⟩) (v := (.agg #[.int .i64 d.frm, .int .i64 d.opn, .int .i64 d.high, .int .i64 d.low, .int .i64 d.cls, .int .i64 d.vol, .int .i64 d.trd, .int .i64 d.mean])) rfl (by kernel_rfl) (by kernel_rfl) (by kernel_rfl) (fun _ _ _ h => h) (Or.inl ⟨by rfl, fun w hSw => by (try dsimp only at hSw); go_simp⟩) (by assumption) ?_
        simp only [Act.put, List.setIfInBounds_toArray, List.set_cons_zero, List.set_cons_succ]
        refine wpAnyH_take (i := 1) (oi := ⟨some 71, _, _, _, _, _⟩) (v := (.agg #[.int .i64 d.frm, .int .i64 d.opn, .int .i64 d.high, .int .i64 d.low, .int .i64 d.cls, .int .i64 d.vol, .int .i64 d.trd, .int .i64 d.mean])) rfl (by kernel_rfl) (by kernel_rfl) (by kernel_rfl) (fun _ _ _ h => h) (Or.inl ⟨by rfl, fun w hSw => by (try dsimp only at hSw); go_simp⟩) (by assumption) ?_
        simp only [Act.put, List.setIfInBounds_toArray, List.set_cons_zero, List.set_cons_succ]
        refine wpAnyH_ready (rs := [2]) (by kernel_rfl) (by simp) ?_
        refine AllReadyH.cons (o := ⟨some 72, _, _, _, _, _⟩) rfl (fun KK hK => ?_) AllReadyH.nil
        go_simp
        refine (own_any d _).mono ?_
        rintro e w9 ⟨rfl, hb9⟩
        replace HBW := Lib.hid (HBW.out.trans (hb9.mono HBW.out.size))
        replace HW7 := Lib.hid (HW7.out.trans (hb9.mono HW7.out.size))
        replace HX := Lib.hid (HX.out.below hb9 HX.out.lt)
        replace HY := Lib.hid (HY.out.below hb9 HY.out.lt)
        clear hb9
        go_wp2_with fail
        refine hK.out _ _ ⟨HX.out.cell 0 rfl, HX.out.cell 1 rfl, HX.out.cell 2 rfl, HX.out.cell 3 rfl, HX.out.cell 4 rfl, HX.out.cell 5 rfl, HX.out.cell 6 rfl, HX.out.cell 7 rfl, HY.out.cell 0 rfl, HY.out.cell 1 rfl, HY.out.cell 2 rfl, HY.out.cell 3 rfl, HY.out.cell 4 rfl, HY.out.cell 5 rfl, HY.out.cell 6 rfl, HY.out.cell 7 rfl, HL.out w9 HW7.out⟩ (fun hHeld => ?_)
        clear hK; try clear KK
        try simp only [Act.put, List.setIfInBounds_toArray, List.set_cons_zero, List.set_cons_succ]
        refine wpAnyH_take (i := 3) (oi := ⟨some 73, _, _, _, _, _⟩) (v := (.bool true)) rfl (by kernel_rfl) (by kernel_rfl) (by kernel_rfl) (fun _ _ _ h => h) (Or.inl ⟨by rfl, fun w hSw => by (try dsimp only at hSw); go_simp⟩) (by assumption) ?_
        simp only [Act.put, List.setIfInBounds_toArray, List.set_cons_zero, List.set_cons_succ]
        refine wpAnyH_take (i := 4) (oi := ⟨some 74, _, _, _, _, _⟩) (v := (.bool true)) rfl (by kernel_rfl) (by kernel_rfl) (by kernel_rfl) (fun _ _ _ h => h) (Or.inl ⟨by rfl, fun w hSw => by (try dsimp only at hSw); go_simp⟩) (by assumption) ?_
        simp only [Act.put, List.setIfInBounds_toArray, List.set_cons_zero, List.set_cons_succ]
        refine wpAnyH_take (i := 5) (oi := ⟨some 75, _, _, _, _, _⟩) (v := (.bool ia)) rfl (by kernel_rfl) (by kernel_rfl) (by kernel_rfl) (fun _ _ _ h => h) (Or.inl ⟨by rfl, fun w hSw => by (try dsimp only at hSw); go_simp⟩) (by assumption) ?_
        simp only [Act.put, List.setIfInBounds_toArray, List.set_cons_zero, List.set_cons_succ]
        refine wpAnyH_take (i := 6) (oi := ⟨some 76, _, _, _, _, _⟩) (v := (.bool ia)) rfl (by kernel_rfl) (by kernel_rfl) (by kernel_rfl) (fun _ _ _ h => h) (Or.inl ⟨by rfl, fun w hSw => by (try dsimp only at hSw); go_simp⟩) (by assumption) ?_
        simp only [Act.put, List.setIfInBounds_toArray, List.set_cons_zero, List.set_cons_succ]
        refine wpAnyH_take (i := 7) (oi := ⟨some 77, _, _, _, _, _⟩) (v := (.bool true)) rfl (by kernel_rfl) (by kernel_rfl) (by kernel_rfl) (fun _ _ _ h => h) (Or.inl ⟨by rfl, fun w hSw => by (try dsimp only at hSw); go_simp⟩) (by assumption) ?_
        simp only [Act.put, List.setIfInBounds_toArray, List.set_cons_zero, List.set_cons_succ]
        refine wpAnyH_take (i := 8) (oi := ⟨some 78, _, _, _, _, _⟩) (v := (.bool true)) rfl (by kernel_rfl) (by kernel_rfl) (by kernel_rfl) (fun _ _ _ h => h) (Or.inl ⟨by rfl, fun w hSw => by (try dsimp only at hSw); go_simp⟩) (by assumption) ?_
        simp only [Act.put, List.setIfInBounds_toArray, List.set_cons_zero, List.set_cons_succ]
        refine wpAnyH_take (i := 9) (oi := ⟨some 79, _, _, _, _, _⟩) (v := (.bool true)) rfl (by kernel_rfl) (by kernel_rfl) (by kernel_rfl) (fun _ _ _ h => h) (Or.inl ⟨by rfl, fun w hSw => by (try dsimp only at hSw); go_simp⟩) (by assumption) ?_
        simp only [Act.put, List.setIfInBounds_toArray, List.set_cons_zero, List.set_cons_succ]
        refine wpAnyH_take (i := 10) (oi := ⟨some 80, _, _, _, _, _⟩) (v := (.int .i64 p)) rfl (by kernel_rfl) (by kernel_rfl) (by kernel_rfl) (fun _ _ _ h => h) (Or.inl ⟨by rfl, fun w hSw => by (try dsimp only at hSw); go_simp⟩) (by assumption) ?_
        simp only [Act.put, List.setIfInBounds_toArray, List.set_cons_zero, List.set_cons_succ]
        refine wpAnyH_take (i := 11) (oi := ⟨some 81, _, _, _, _, _⟩) (v := (.int .i64 p)) rfl (by kernel_rfl) (by kernel_rfl) (by kernel_rfl) (fun _ _ _ h => h) (Or.inl ⟨by rfl, fun w hSw => by (try dsimp only at hSw); go_simp⟩) (by assumption) ?_
        simp only [Act.put, List.setIfInBounds_toArray, List.set_cons_zero, List.set_cons_succ]
        refine wpAnyH_take (i := 12) (oi := ⟨some 82, _, _, _, _, _⟩) (v := (.bool true)) rfl (by kernel_rfl) (by kernel_rfl) (by kernel_rfl) (fun _ _ _ h => h) (Or.inl ⟨by rfl, fun w hSw => by (try dsimp only at hSw); go_simp⟩) (by assumption) ?_
        simp only [Act.put, List.setIfInBounds_toArray, List.set_cons_zero, List.set_cons_succ]
        refine wpAnyH_take (i := 13) (oi := ⟨some 83, _, _, _, _, _⟩) (v := (.bool true)) rfl (by kernel_rfl) (by kernel_rfl) (by kernel_rfl) (fun _ _ _ h => h) (Or.inl ⟨by rfl, fun w hSw => by (try dsimp only at hSw); go_simp⟩) (by assumption) ?_
        simp only [Act.put, List.setIfInBounds_toArray, List.set_cons_zero, List.set_cons_succ]
        refine wpAnyH_take (i := 14) (oi := ⟨some 84, _, _, _, _, _⟩) (v := (.bool true)) rfl (by kernel_rfl) (by kernel_rfl) (by kernel_rfl) (fun _ _ _ h => h) (Or.inl ⟨by rfl, fun w hSw => by (try dsimp only at hSw); go_simp⟩) (by assumption) ?_
        simp only [Act.put, List.setIfInBounds_toArray, List.set_cons_zero, List.set_cons_succ]
        refine wpAnyH_take (i := 15) (oi := ⟨some 85, _, _, _, _, _⟩) (v := (.bool lb)) rfl (by kernel_rfl) (by kernel_rfl) (by kernel_rfl) (fun _ _ _ h => h) (Or.inl ⟨by rfl, fun w hSw => by (try dsimp only at hSw); go_simp⟩) (by assumption) ?_
        simp only [Act.put, List.setIfInBounds_toArray, List.set_cons_zero, List.set_cons_succ]
        refine wpAnyH_take (i := 16) (oi := ⟨some 86, _, _, _, _, _⟩) (v := (.bool lb)) rfl (by kernel_rfl) (by kernel_rfl) (by kernel_rfl) (fun _ _ _ h => h) (Or.inl ⟨by rfl, fun w hSw => by (try dsimp only at hSw); go_simp⟩) (by assumption) ?_
        simp only [Act.put, List.setIfInBounds_toArray, List.set_cons_zero, List.set_cons_succ]
        refine wpAnyH_take (i := 17) (oi := ⟨some 87, _, _, _, _, _⟩) (v := (.bool true)) rfl (by kernel_rfl) (by kernel_rfl) (by kernel_rfl) (fun _ _ _ h => h) (Or.inl ⟨by rfl, fun w hSw => by (try dsimp only at hSw); go_simp⟩) (by assumption) ?_
        simp only [Act.put, List.setIfInBounds_toArray, List.set_cons_zero, List.set_cons_succ]
        refine wpAnyH_take (i := 18) (oi := ⟨some 88, _, _, _, _, _⟩) (v := (.bool true)) rfl (by kernel_rfl) (by kernel_rfl) (by kernel_rfl) (fun _ _ _ h => h) (Or.inl ⟨by rfl, fun w hSw => by (try dsimp only at hSw); go_simp⟩) (by assumption) ?_
        simp only [Act.put, List.setIfInBounds_toArray, List.set_cons_zero, List.set_cons_succ]
        refine wpAnyH_take (i := 19) (oi := ⟨some 89, _, _, _, _, _⟩) (v := (.bool true)) rfl (by kernel_rfl) (by kernel_rfl) (by kernel_rfl) (fun _ _ _ h => h) (Or.inl ⟨by rfl, fun w hSw => by (try dsimp only at hSw); go_simp⟩) (by assumption) ?_
        simp only [Act.put, List.setIfInBounds_toArray, List.set_cons_zero, List.set_cons_succ]
        refine wpAnyH_take (i := 20) (oi := ⟨some 90, _, _, _, _, _⟩) (v := (.map (some vb))) rfl (by kernel_rfl) (by kernel_rfl) (by kernel_rfl) (fun _ _ _ h => h) (Or.inl ⟨by rfl, fun w hSw => by (try dsimp only at hSw); go_simp⟩) (by assumption) ?_
        simp only [Act.put, List.setIfInBounds_toArray, List.set_cons_zero, List.set_cons_succ]
        refine wpAnyH_take (i := 21) (oi := ⟨some 91, _, _, _, _, _⟩) (v := (.int .i64 price)) rfl (by kernel_rfl) (by kernel_rfl) (by kernel_rfl) (fun _ _ _ h => h) (Or.inl ⟨by rfl, fun w hSw => by (try dsimp only at hSw); go_simp⟩) (by assumption) ?_
        simp only [Act.put, List.setIfInBounds_toArray, List.set_cons_zero, List.set_cons_succ]
        refine wpAnyH_take (i := 22) (oi := ⟨some 92, _, _, _, _, _⟩) (v := (.int .i64 vp)) rfl (by kernel_rfl) (by kernel_rfl) (by kernel_rfl) (fun _ _ _ h => h) (Or.inl ⟨by rfl, fun w hSw => by (try dsimp only at hSw); go_simp⟩) (by assumption) ?_
        simp only [Act.put, List.setIfInBounds_toArray, List.set_cons_zero, List.set_cons_succ]
        refine wpAnyH_take (i := 23) (oi := ⟨some 93, _, _, _, _, _⟩) (v := (.slice a ms.length cap)) rfl (by kernel_rfl) (by kernel_rfl) (by kernel_rfl) (fun _ _ _ h => h) (Or.inl ⟨by rfl, fun w hSw => by (try dsimp only at hSw); go_simp⟩) (by assumption) ?_
        simp only [Act.put, List.setIfInBounds_toArray, List.set_cons_zero, List.set_cons_succ]
        refine wpAnyH_take (i := 24) (oi := ⟨some 94, _, _, _, _, _⟩) (v := (.int .i64 sym)) rfl (by kernel_rfl) (by kernel_rfl) (by kernel_rfl) (fun _ _ _ h => h) (Or.inl ⟨by rfl, fun w hSw => by (try dsimp only at hSw); go_simp⟩) (by assumption) ?_
        simp only [Act.put, List.setIfInBounds_toArray, List.set_cons_zero, List.set_cons_succ]
        refine wpAnyH_take (i := 25) (oi := ⟨some 95, _, _, _, _, _⟩) (v := (.int .i64 price)) rfl (by kernel_rfl) (by kernel_rfl) (by kernel_rfl) (fun _ _ _ h => h) (Or.inl ⟨by rfl, fun w hSw => by (try dsimp only at hSw); go_simp⟩) (by assumption) ?_
        simp only [Act.put, List.setIfInBounds_toArray, List.set_cons_zero, List.set_cons_succ]
        refine wpAnyH_ready (rs := [26]) (by kernel_rfl) (by simp) ?_
        refine AllReadyH.cons (o := ⟨some 96, _, _, _, _, _⟩) rfl (fun KK hK => ?_) AllReadyH.nil
        go_simp
        refine (HVL.out price _ HBW.out).mono ?_
        rintro e wv ⟨rfl, hb9⟩
        rw [HVX.out]
        replace HBW := Lib.hid (HBW.out.trans (hb9.mono HBW.out.size))
        replace HW7 := Lib.hid (HW7.out.trans (hb9.mono HW7.out.size))
        replace HX := Lib.hid (HX.out.below hb9 HX.out.lt)
        replace HY := Lib.hid (HY.out.below hb9 HY.out.lt)
        clear hb9
        go_wp2_with fail
        refine hK.out _ _ ⟨HX.out.cell 0 rfl, HX.out.cell 1 rfl, HX.out.cell 2 rfl, HX.out.cell 3 rfl, HX.out.cell 4 rfl, HX.out.cell 5 rfl, HX.out.cell 6 rfl, HX.out.cell 7 rfl, HY.out.cell 0 rfl, HY.out.cell 1 rfl, HY.out.cell 2 rfl, HY.out.cell 3 rfl, HY.out.cell 4 rfl, HY.out.cell 5 rfl, HY.out.cell 6 rfl, HY.out.cell 7 rfl, HL.out wv HW7.out⟩ (fun hHeld => ?_)
        clear hK; try clear KK
        try simp only [Act.put, List.setIfInBounds_toArray, List.set_cons_zero, List.set_cons_succ]
        refine wpAnyH_take (i := 27) (oi := ⟨some 97, _, _, _, _, _⟩) (v := (.bool true)) rfl (by kernel_rfl) (by kernel_rfl) (by kernel_rfl) (fun _ _ _ h => h) (Or.inl ⟨by rfl, fun w hSw => by (try dsimp only at hSw); go_simp⟩) (by assumption) ?_
        simp only [Act.put, List.setIfInBounds_toArray, List.set_cons_zero, List.set_cons_succ]
        refine wpAnyH_take (i := 28) (oi := ⟨some 98, _, _, _, _, _⟩) (v := (.bool true)) rfl (by kernel_rfl) (by kernel_rfl) (by kernel_rfl) (fun _ _ _ h => h) (Or.inl ⟨by rfl, fun w hSw => by (try dsimp only at hSw); go_simp⟩) (by assumption) ?_
        simp only [Act.put, List.setIfInBounds_toArray, List.set_cons_zero, List.set_cons_succ]
        refine wpAnyH_take (i := 29) (oi := ⟨some 99, _, _, _, _, _⟩) (v := (.bool true)) rfl (by kernel_rfl) (by kernel_rfl) (by kernel_rfl) (fun _ _ _ h => h) (Or.inl ⟨by rfl, fun w hSw => by (try dsimp only at hSw); go_simp⟩) (by assumption) ?_
        simp only [Act.put, List.setIfInBounds_toArray, List.set_cons_zero, List.set_cons_succ]
        refine wpAnyH_ready (rs := [30]) (by kernel_rfl) (by simp) ?_
        refine AllReadyH.cons (o := ⟨some 100, _, _, _, _, _⟩) rfl (fun KK hK => ?_) AllReadyH.nil
        go_simp
        refine (alive_any _).mono ?_
        rintro e wa ⟨rfl, hb9⟩
        replace HBW := Lib.hid (HBW.out.trans (hb9.mono HBW.out.size))
        replace HW7 := Lib.hid (HW7.out.trans (hb9.mono HW7.out.size))
        replace HX := Lib.hid (HX.out.below hb9 HX.out.lt)
        replace HY := Lib.hid (HY.out.below hb9 HY.out.lt)
        clear hb9
        go_wp2_with fail
        refine hK.out _ _ ⟨HX.out.cell 0 rfl, HX.out.cell 1 rfl, HX.out.cell 2 rfl, HX.out.cell 3 rfl, HX.out.cell 4 rfl, HX.out.cell 5 rfl, HX.out.cell 6 rfl, HX.out.cell 7 rfl, HY.out.cell 0 rfl, HY.out.cell 1 rfl, HY.out.cell 2 rfl, HY.out.cell 3 rfl, HY.out.cell 4 rfl, HY.out.cell 5 rfl, HY.out.cell 6 rfl, HY.out.cell 7 rfl, HL.out wa HW7.out⟩ (fun hHeld => ?_)
        clear hK; try clear KK
        try simp only [Act.put, List.setIfInBounds_toArray, List.set_cons_zero, List.set_cons_succ]
        refine wpAnyH_take (i := 31) (oi := ⟨some 101, _, _, _, _, _⟩) (v := (.bool true)) rfl (by kernel_rfl) (by kernel_rfl) (by kernel_rfl) (fun _ _ _ h => h) (Or.inl ⟨by rfl, fun w hSw => by (try dsimp only at hSw); go_simp⟩) (by assumption) ?_
        simp only [Act.put, List.setIfInBounds_toArray, List.set_cons_zero, List.set_cons_succ]
        refine wpAnyH_take (i := 32) (oi := ⟨some 6, _, _, _, _, _⟩) (v := (.bool true)) rfl (by kernel_rfl) (by kernel_rfl) (by kernel_rfl) (fun _ _ _ h => h) (Or.inl ⟨by rfl, fun w hSw => by (try dsimp only at hSw); go_simp⟩) (by assumption) ?_
        simp only [Act.put, List.setIfInBounds_toArray, List.set_cons_zero, List.set_cons_succ]
        refine wpAnyH_done (by kernel_rfl) ?_ _
        go_wp2_with fail
        go_ret
        exact ⟨rfl, HBW.out⟩
end Go.Proofs.Ytogjgpiddjmpiaa.Tape
