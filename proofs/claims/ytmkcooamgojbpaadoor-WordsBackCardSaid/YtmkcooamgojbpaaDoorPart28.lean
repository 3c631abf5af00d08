/- Parts of the proof: RGuess2, RGuess3, RWParse, WParsesW, SameE, OneE, WLinesW, WBackW. -/
import Derived.Test.YtmkcooamgojbpaaDoorPart27
import Derived.WalkMore
import Derived.IntWalk
import Derived.Deep.RegionHeld3
import Derived.Deep.DrawnRows
import Derived.Test.YtmkcooamgojbpaaDoorPart21
import Derived.Laws.OwnMore
import Derived.Test.YtmkcooamgojbpaaDoorPart13
import Derived.Deep.QuietTactic

/- damperref35.guess, of commands. -/
namespace Go.Proofs.YtmkcooamgojbpaaDoor.Lines
open Go.RowKit Go.Proofs.YtmkcooamgojbpaaDoor.Kit Go.Proofs.YtmkcooamgojbpaaDoor.Blk Go.Proofs.YtmkcooamgojbpaaDoor.Dec Go.Proofs.YtmkcooamgojbpaaDoor.Words Go.Proofs.YtmkcooamgojbpaaDoor.Octets Go.Proofs.YtmkcooamgojbpaaDoor.Steps Go.Proofs.YtmkcooamgojbpaaDoor.Cmds
attribute [local go_sem ↓] Go.wp_at_zero Go.wp_at_succ
set_option linter.unusedVariables false

theorem ofG_yes {c : Cmd} (h : rightC c = true) : ofG c = ⟨1, 0, 0, formC c⟩ := by unfold ofG; rw [if_pos h]
theorem ofG_no {c : Cmd} (h : rightC c = false) : ofG c = ⟨0, 0, 0, []⟩ := by unfold ofG; rw [if_neg (by rw [h]; decide)]
theorem form_pos (c : Cmd) : 0 < (formC c).length := by unfold formC; simp
set_option maxRecDepth 20000 in
set_option maxHeartbeats 4000000 in
theorem guess_cancel (b cp : Nat) (t : Tok) (ht : t = tCancel) (l : List Tok) (hl : ∀ x ∈ t :: l, x.length ≤ 100000) (hcp : l.length + 1 ≤ cp) (w : World) (hb : b < w.heap.size) (hrow : ∀ j, (h : j < (t :: l).length) → w.cell? ⟨b, j, none⟩ = some (.string (strB (t :: l)[j]))) :
    Calls Tryd.prog 81 #[.slice (some ⟨b, 0, none⟩) (l.length + 1) cp] w (StepAns (guessF (t :: l)) w) := by
  have HE := Lib.hid (show guessF (t :: l) = ofG (cmdG (t :: l) 2) from by unfold guessF; rw [if_neg (show ¬ ((t :: l)[0]?).getD [] = tTick from by rw [show ((t :: l)[0]?).getD [] = t from rfl, ht]; decide), if_neg (show ¬ ((t :: l)[0]?).getD [] = tIndex from by rw [show ((t :: l)[0]?).getD [] = t from rfl, ht]; decide), if_neg (show ¬ ((t :: l)[0]?).getD [] = tBid from by rw [show ((t :: l)[0]?).getD [] = t from rfl, ht]; decide), if_neg (show ¬ ((t :: l)[0]?).getD [] = tRaw from by rw [show ((t :: l)[0]?).getD [] = t from rfl, ht]; decide), if_pos (show ((t :: l)[0]?).getD [] = tCancel from ht)])
  have k1 : ((strB t).toList == [116, 105, 99, 107]) = decide (t = tTick) := tok_eq t _
  have k2 : ((strB t).toList == [105, 110, 100, 101, 120]) = decide (t = tIndex) := tok_eq t _
  have k3 : ((strB t).toList == [98, 105, 100]) = decide (t = tBid) := tok_eq t _
  have k4 : ((strB t).toList == [114, 97, 119]) = decide (t = tRaw) := tok_eq t _
  have k5 : ((strB t).toList == [99, 97, 110, 99, 101, 108]) = decide (t = tCancel) := tok_eq t _
  have k6 : ((strB t).toList == [114, 101, 112, 108, 97, 99, 101]) = decide (t = tReplace) := tok_eq t _
  have k7 : ((strB t).toList == [110, 101, 119]) = decide (t = tNew) := tok_eq t _
  rw [decide_eq_false (show ¬ t = tTick from by rw [ht]; decide)] at k1
  rw [decide_eq_false (show ¬ t = tIndex from by rw [ht]; decide)] at k2
  rw [decide_eq_false (show ¬ t = tBid from by rw [ht]; decide)] at k3
  rw [decide_eq_false (show ¬ t = tRaw from by rw [ht]; decide)] at k4
  rw [decide_eq_true ht] at k5
  rw [decide_eq_false (show ¬ t = tReplace from by rw [ht]; decide)] at k6
  rw [decide_eq_false (show ¬ t = tNew from by rw [ht]; decide)] at k7
  clear ht
  have HZ0 := Lib.hid (Blk.new w (stepC 0 0 0 (.slice none 0 0)) 42 w.heap.size rfl)
  have HSR := Lib.hid ((show StrRow (.slice (some ⟨b, 0, none⟩) (l.length + 1) cp) (t :: l) w from .inr ⟨by simp, b, cp, rfl, by simpa using hcp, hb, hrow⟩).below ((Below.refl w.heap.size w).alloc (Nat.le_refl _) (.cells (stepC 0 0 0 (.slice none 0 0)) 42)))
  have HROW := Lib.hid hrow
  have HN := Lib.hid (fun j hj v W h => rnum_any v (t :: l) hl j hj W h)
  have HL := Lib.hid hl
  clear hrow hl
  go_enter Tryd.func81, Tryd.ntmps81
  go_wp2_with fail
  refine (HN.out 1 (by omega) _ _ HSR.out).mono ?_
  rintro e w1 ⟨rfl, hb1⟩
  replace HSR := Lib.hid (HSR.out.below hb1)
  replace HZ0 := Lib.hid (HZ0.out.below hb1 (by simp))
  have HB1 := Lib.hid (((Below.refl w.heap.size w).alloc (Nat.le_refl _) (.cells (stepC 0 0 0 (.slice none 0 0)) 42)).trans (hb1.mono (by simp)))
  clear hb1
  go_wp2_with fail
  refine (HN.out 2 (by omega) _ _ HSR.out).mono ?_
  rintro e w2 ⟨rfl, hb2⟩
  have hsz : w.heap.size < w2.heap.size := Nat.lt_of_lt_of_le HZ0.out.lt hb2.size
  have HG := Lib.hid (show GS w w2.heap.size b (t :: l) ⟨0, nAt (t :: l) 1, nAt (t :: l) 2, 0, 0, 0, 0, 0, 0⟩ (w2.alloc (.cells (Cmd.cells ⟨0, nAt (t :: l) 1, nAt (t :: l) 2, 0, 0, 0, 0, 0, 0⟩) 164)) from ⟨(HZ0.out.below hb2 HZ0.out.lt).old _, Blk.new _ _ _ _ rfl, (HB1.out.trans (hb2.mono HB1.out.size)).alloc (by omega) _, fun j hj => by
    have hx := ((HB1.out.trans (hb2.mono HB1.out.size)).alloc (by omega) (.cells (Cmd.cells ⟨0, nAt (t :: l) 1, nAt (t :: l) 2, 0, 0, 0, 0, 0, 0⟩) 164)).cell (p := ⟨b, j, none⟩) (by show b < _; omega)
    rw [hx]; exact HROW.out j hj, hb, hsz⟩)
  clear hb2 HZ0 HB1 HSR
  go_upto_region 2 with fail
  change Code.wp _ _ _ _ (w2.alloc (.cells (Cmd.cells ⟨0, nAt (t :: l) 1, nAt (t :: l) 2, 0, 0, 0, 0, 0, 0⟩) 164))
  generalize w2.alloc (.cells (Cmd.cells ⟨0, nAt (t :: l) 1, nAt (t :: l) 2, 0, 0, 0, 0, 0, 0⟩) 164) = w3 at HG ⊢
  generalize w2.heap.size = C at HG hsz ⊢
  have c0 : w3.cell? ⟨b, 0, none⟩ = some (.string (strB t)) := HG.out.row 0 (by simp)
  generalize strB t = T at c0 k1 k2 k3 k4 k5 k6 k7
  have k0 : w3.cell? ⟨C, 0, none⟩ = some (.int .i64 (0)) := HG.out.c.cell 0 rfl
  have f0 := HG.out.c.free 0
  have HG2 := Lib.hid (HG.out.store (c' := ⟨2, nAt (t :: l) 1, nAt (t :: l) 2, 0, 0, 0, 0, 0, 0⟩) 0 (.int .i64 (2)) rfl)
  go_upto_region 35 with fail
  change Code.wp _ _ _ _ (w3.setCell ⟨C, 0, none⟩ (.int .i64 (2)))
  generalize w3.setCell ⟨C, 0, none⟩ (.int .i64 (2)) = w4 at HG2 ⊢
  clear k0 f0 HG
  have HG := HG2
  clear HG2
  have HOF := Lib.hid (rof_any (Cmd.mk 2 (nAt (t :: l) 1) (nAt (t :: l) 2) 0 0 0 0 0 0) w4 (by first | exact (nAt_in _ _).1 | exact (show (-9223372036854775808 : Int) ≤ 0 by decide)) (by first | exact (nAt_in _ _).2 | exact (show (0 : Int) ≤ 9223372036854775807 by decide)) (by first | exact (nAt_in _ _).1 | exact (show (-9223372036854775808 : Int) ≤ 0 by decide)) (by first | exact (nAt_in _ _).2 | exact (show (0 : Int) ≤ 9223372036854775807 by decide)))
  have hs7 := HG.out.bel.size
  go_wp2_with (refine load_blk (by rfl) 164 _ (by rfl) C (by rfl) _ _ HG.out.c _ Tryd.underlying164 rfl (by kernel_rfl) ?_)
  refine HOF.out.mono ?_
  rintro e w8 (⟨hr, v, rfl, ho, hb8⟩ | ⟨hr, rfl, hb8⟩)
  · have HE2 := Lib.hid (show guessF (t :: l) = ⟨1, 0, 0, formC (Cmd.mk 2 (nAt (t :: l) 1) (nAt (t :: l) 2) 0 0 0 0 0 0)⟩ from HE.out.trans (ofG_yes hr))
    replace HG := Lib.hid (HG.out.below hb8)
    have hop := own_mono ho hs7
    obtain ⟨va, vc, rfl, -, -⟩ := World.ownsRow.form ho (form_pos _)
    have HY := Lib.hid (bytes_alloc (show BytesOf w.heap.size (formC (Cmd.mk 2 (nAt (t :: l) 1) (nAt (t :: l) 2) 0 0 0 0 0 0)) _ w8 from .inr ⟨form_pos _, hop⟩) (.cells (stepC 1 0 0 (.slice (some ⟨va, 0, none⟩) (formC (Cmd.mk 2 (nAt (t :: l) 1) (nAt (t :: l) 2) 0 0 0 0 0 0)).length vc)) 42))
    clear hr ho hb8 hop HOF HE
    generalize (formC (Cmd.mk 2 (nAt (t :: l) 1) (nAt (t :: l) 2) 0 0 0 0 0 0)).length = vn at HY ⊢
    have hX : w.heap.size < w8.heap.size := HG.out.z.lt
    have HX := Lib.hid (Blk.new w8 (stepC 1 0 0 (.slice (some ⟨va, 0, none⟩) vn vc)) 42 w8.heap.size rfl)
    replace HG := Lib.hid (HG.out.below ((Below.refl w8.heap.size w8).alloc (Nat.le_refl _) (.cells (stepC 1 0 0 (.slice (some ⟨va, 0, none⟩) vn vc)) 42)))
    have HZ := Lib.hid HG.out.z
    have HB := Lib.hid HG.out.bel
    unfold stepC
    go_upto_region 36 with fail
    change Code.wp _ _ _ _ (w8.alloc (.cells (stepC 1 0 0 (.slice (some ⟨va, 0, none⟩) vn vc)) 42))
    generalize w8.alloc (.cells (stepC 1 0 0 (.slice (some ⟨va, 0, none⟩) vn vc)) 42) = w9 at HX HZ HB HY ⊢
    clear HG
    generalize w8.heap.size = X at HX hX ⊢
    go_wp2_with (first
      | (refine load_blk (by rfl) 42 _ (by rfl) X (by rfl) _ _ HX.out _ Tryd.underlying42 rfl (by kernel_rfl) ?_)
      | (refine store_blk (by rfl) 42 _ _ (by rfl) w.heap.size (by rfl) _ (stepC 1 0 0 (.slice (some ⟨va, 0, none⟩) vn vc)) 42 HZ.out (by rfl) rfl (by kernel_rfl) (one_stp _ _ _ _ _ _) ?_))
    refine bodyPost_ret (results_cell_row rfl _ _ _ _ _ (0, 0) _ rfl (HZ.out.setCells (stepC 1 0 0 (.slice (some ⟨va, 0, none⟩) vn vc)) rfl) Tryd.underlying42 rfl (by kernel_rfl)) rfl ?_
    exact ⟨_, by rw [HE2.out], by rw [HE2.out]; exact bytes_cells _ _ _ _ HY.out HZ.out, Blk.Below.setCells _ _ _ HB.out (Nat.le_refl _)⟩
  · have HE2 := Lib.hid (show guessF (t :: l) = ⟨0, 0, 0, []⟩ from HE.out.trans (ofG_no hr))
    replace HG := Lib.hid (HG.out.below hb8)
    have HY := Lib.hid (show BytesOf w.heap.size [] (.slice none 0 0) (w8.alloc (.cells (stepC 0 0 0 (.slice none 0 0)) 42)) from .inl ⟨rfl, rfl⟩)
    clear hr hb8 HOF HE
    have hX : w.heap.size < w8.heap.size := HG.out.z.lt
    have HX := Lib.hid (Blk.new w8 (stepC 0 0 0 (.slice none 0 0)) 42 w8.heap.size rfl)
    replace HG := Lib.hid (HG.out.below ((Below.refl w8.heap.size w8).alloc (Nat.le_refl _) (.cells (stepC 0 0 0 (.slice none 0 0)) 42)))
    have HZ := Lib.hid HG.out.z
    have HB := Lib.hid HG.out.bel
    unfold stepC
    go_upto_region 36 with fail
    change Code.wp _ _ _ _ (w8.alloc (.cells (stepC 0 0 0 (.slice none 0 0)) 42))
    generalize w8.alloc (.cells (stepC 0 0 0 (.slice none 0 0)) 42) = w9 at HX HZ HB HY ⊢
    clear HG
    generalize w8.heap.size = X at HX hX ⊢
    go_wp2_with (first
      | (refine load_blk (by rfl) 42 _ (by rfl) X (by rfl) _ _ HX.out _ Tryd.underlying42 rfl (by kernel_rfl) ?_)
      | (refine store_blk (by rfl) 42 _ _ (by rfl) w.heap.size (by rfl) _ (stepC 0 0 0 (.slice none 0 0)) 42 HZ.out (by rfl) rfl (by kernel_rfl) (one_stp _ _ _ _ _ _) ?_))
    refine bodyPost_ret (results_cell_row rfl _ _ _ _ _ (0, 0) _ rfl (HZ.out.setCells (stepC 0 0 0 (.slice none 0 0)) rfl) Tryd.underlying42 rfl (by kernel_rfl)) rfl ?_
    exact ⟨_, by rw [HE2.out], by rw [HE2.out]; exact bytes_cells _ _ _ _ HY.out HZ.out, Blk.Below.setCells _ _ _ HB.out (Nat.le_refl _)⟩
set_option maxRecDepth 20000 in
set_option maxHeartbeats 4000000 in
theorem guess_other (b cp : Nat) (t : Tok) (h1 : t ≠ tTick) (h2 : t ≠ tIndex) (h3 : t ≠ tBid) (h4 : t ≠ tRaw) (h5 : t ≠ tCancel) (h6 : t ≠ tReplace) (h7 : t ≠ tNew) (l : List Tok) (hl : ∀ x ∈ t :: l, x.length ≤ 100000) (hcp : l.length + 1 ≤ cp) (w : World) (hb : b < w.heap.size) (hrow : ∀ j, (h : j < (t :: l).length) → w.cell? ⟨b, j, none⟩ = some (.string (strB (t :: l)[j]))) :
    Calls Tryd.prog 81 #[.slice (some ⟨b, 0, none⟩) (l.length + 1) cp] w (StepAns (guessF (t :: l)) w) := by
  have k1 : ((strB t).toList == [116, 105, 99, 107]) = decide (t = tTick) := tok_eq t _
  have k2 : ((strB t).toList == [105, 110, 100, 101, 120]) = decide (t = tIndex) := tok_eq t _
  have k3 : ((strB t).toList == [98, 105, 100]) = decide (t = tBid) := tok_eq t _
  have k4 : ((strB t).toList == [114, 97, 119]) = decide (t = tRaw) := tok_eq t _
  have k5 : ((strB t).toList == [99, 97, 110, 99, 101, 108]) = decide (t = tCancel) := tok_eq t _
  have k6 : ((strB t).toList == [114, 101, 112, 108, 97, 99, 101]) = decide (t = tReplace) := tok_eq t _
  have k7 : ((strB t).toList == [110, 101, 119]) = decide (t = tNew) := tok_eq t _
  rw [decide_eq_false (show ¬ t = tTick from h1)] at k1
  rw [decide_eq_false (show ¬ t = tIndex from h2)] at k2
  rw [decide_eq_false (show ¬ t = tBid from h3)] at k3
  rw [decide_eq_false (show ¬ t = tRaw from h4)] at k4
  rw [decide_eq_false (show ¬ t = tCancel from h5)] at k5
  rw [decide_eq_false (show ¬ t = tReplace from h6)] at k6
  rw [decide_eq_false (show ¬ t = tNew from h7)] at k7
  have HZ0 := Lib.hid (Blk.new w (stepC 0 0 0 (.slice none 0 0)) 42 w.heap.size rfl)
  have HSR := Lib.hid ((show StrRow (.slice (some ⟨b, 0, none⟩) (l.length + 1) cp) (t :: l) w from .inr ⟨by simp, b, cp, rfl, by simpa using hcp, hb, hrow⟩).below ((Below.refl w.heap.size w).alloc (Nat.le_refl _) (.cells (stepC 0 0 0 (.slice none 0 0)) 42)))
  have HROW := Lib.hid hrow
  have HN := Lib.hid (fun j hj v W h => rnum_any v (t :: l) hl j hj W h)
  have HL := Lib.hid hl
  clear hrow hl
  go_enter Tryd.func81, Tryd.ntmps81
  go_wp2_with fail
  refine (HN.out 1 (by omega) _ _ HSR.out).mono ?_
  rintro e w1 ⟨rfl, hb1⟩
  replace HSR := Lib.hid (HSR.out.below hb1)
  replace HZ0 := Lib.hid (HZ0.out.below hb1 (by simp))
  have HB1 := Lib.hid (((Below.refl w.heap.size w).alloc (Nat.le_refl _) (.cells (stepC 0 0 0 (.slice none 0 0)) 42)).trans (hb1.mono (by simp)))
  clear hb1
  go_wp2_with fail
  refine (HN.out 2 (by omega) _ _ HSR.out).mono ?_
  rintro e w2 ⟨rfl, hb2⟩
  have hsz : w.heap.size < w2.heap.size := Nat.lt_of_lt_of_le HZ0.out.lt hb2.size
  have HG := Lib.hid (show GS w w2.heap.size b (t :: l) ⟨0, nAt (t :: l) 1, nAt (t :: l) 2, 0, 0, 0, 0, 0, 0⟩ (w2.alloc (.cells (Cmd.cells ⟨0, nAt (t :: l) 1, nAt (t :: l) 2, 0, 0, 0, 0, 0, 0⟩) 164)) from ⟨(HZ0.out.below hb2 HZ0.out.lt).old _, Blk.new _ _ _ _ rfl, (HB1.out.trans (hb2.mono HB1.out.size)).alloc (by omega) _, fun j hj => by
    have hx := ((HB1.out.trans (hb2.mono HB1.out.size)).alloc (by omega) (.cells (Cmd.cells ⟨0, nAt (t :: l) 1, nAt (t :: l) 2, 0, 0, 0, 0, 0, 0⟩) 164)).cell (p := ⟨b, j, none⟩) (by show b < _; omega)
    rw [hx]; exact HROW.out j hj, hb, hsz⟩)
  clear hb2 HZ0 HB1 HSR
  go_upto_region 2 with fail
  change Code.wp _ _ _ _ (w2.alloc (.cells (Cmd.cells ⟨0, nAt (t :: l) 1, nAt (t :: l) 2, 0, 0, 0, 0, 0, 0⟩) 164))
  generalize w2.alloc (.cells (Cmd.cells ⟨0, nAt (t :: l) 1, nAt (t :: l) 2, 0, 0, 0, 0, 0, 0⟩) 164) = w3 at HG ⊢
  generalize w2.heap.size = C at HG hsz ⊢
  have c0 : w3.cell? ⟨b, 0, none⟩ = some (.string (strB t)) := HG.out.row 0 (by simp)
  generalize strB t = T at c0 k1 k2 k3 k4 k5 k6 k7
  have HE := Lib.hid (show guessF (t :: l) = ofG (cmdG (t :: l) 0) from by unfold guessF; rw [if_neg (show ¬ ((t :: l)[0]?).getD [] = tTick from h1), if_neg (show ¬ ((t :: l)[0]?).getD [] = tIndex from h2), if_neg (show ¬ ((t :: l)[0]?).getD [] = tBid from h3), if_neg (show ¬ ((t :: l)[0]?).getD [] = tRaw from h4), if_neg (show ¬ ((t :: l)[0]?).getD [] = tCancel from h5), if_neg (show ¬ ((t :: l)[0]?).getD [] = tReplace from h6), if_neg (show ¬ ((t :: l)[0]?).getD [] = tNew from h7)])
  have HOF := Lib.hid (rof_any (Cmd.mk 0 (nAt (t :: l) 1) (nAt (t :: l) 2) 0 0 0 0 0 0) w3 (by first | exact (nAt_in _ _).1 | exact (show (-9223372036854775808 : Int) ≤ 0 by decide)) (by first | exact (nAt_in _ _).2 | exact (show (0 : Int) ≤ 9223372036854775807 by decide)) (by first | exact (nAt_in _ _).1 | exact (show (-9223372036854775808 : Int) ≤ 0 by decide)) (by first | exact (nAt_in _ _).2 | exact (show (0 : Int) ≤ 9223372036854775807 by decide)))
  have hs7 := HG.out.bel.size
  go_wp2_with (refine load_blk (by rfl) 164 _ (by rfl) C (by rfl) _ _ HG.out.c _ Tryd.underlying164 rfl (by kernel_rfl) ?_)
  refine HOF.out.mono ?_
  rintro e w8 (⟨hr, v, rfl, ho, hb8⟩ | ⟨hr, rfl, hb8⟩)
  · have HE2 := Lib.hid (show guessF (t :: l) = ⟨1, 0, 0, formC (Cmd.mk 0 (nAt (t :: l) 1) (nAt (t :: l) 2) 0 0 0 0 0 0)⟩ from HE.out.trans (ofG_yes hr))
    replace HG := Lib.hid (HG.out.below hb8)
    have hop := own_mono ho hs7
    obtain ⟨va, vc, rfl, -, -⟩ := World.ownsRow.form ho (form_pos _)
    have HY := Lib.hid (bytes_alloc (show BytesOf w.heap.size (formC (Cmd.mk 0 (nAt (t :: l) 1) (nAt (t :: l) 2) 0 0 0 0 0 0)) _ w8 from .inr ⟨form_pos _, hop⟩) (.cells (stepC 1 0 0 (.slice (some ⟨va, 0, none⟩) (formC (Cmd.mk 0 (nAt (t :: l) 1) (nAt (t :: l) 2) 0 0 0 0 0 0)).length vc)) 42))
    clear hr ho hb8 hop HOF HE
    generalize (formC (Cmd.mk 0 (nAt (t :: l) 1) (nAt (t :: l) 2) 0 0 0 0 0 0)).length = vn at HY ⊢
    have hX : w.heap.size < w8.heap.size := HG.out.z.lt
    have HX := Lib.hid (Blk.new w8 (stepC 1 0 0 (.slice (some ⟨va, 0, none⟩) vn vc)) 42 w8.heap.size rfl)
    replace HG := Lib.hid (HG.out.below ((Below.refl w8.heap.size w8).alloc (Nat.le_refl _) (.cells (stepC 1 0 0 (.slice (some ⟨va, 0, none⟩) vn vc)) 42)))
    have HZ := Lib.hid HG.out.z
    have HB := Lib.hid HG.out.bel
    unfold stepC
    go_upto_region 36 with fail
    change Code.wp _ _ _ _ (w8.alloc (.cells (stepC 1 0 0 (.slice (some ⟨va, 0, none⟩) vn vc)) 42))
    generalize w8.alloc (.cells (stepC 1 0 0 (.slice (some ⟨va, 0, none⟩) vn vc)) 42) = w9 at HX HZ HB HY ⊢
    clear HG
    generalize w8.heap.size = X at HX hX ⊢
    go_wp2_with (first
      | (refine load_blk (by rfl) 42 _ (by rfl) X (by rfl) _ _ HX.out _ Tryd.underlying42 rfl (by kernel_rfl) ?_)
      | (refine store_blk (by rfl) 42 _ _ (by rfl) w.heap.size (by rfl) _ (stepC 1 0 0 (.slice (some ⟨va, 0, none⟩) vn vc)) 42 HZ.out (by rfl) rfl (by kernel_rfl) (one_stp _ _ _ _ _ _) ?_))
    refine bodyPost_ret (results_cell_row rfl _ _ _ _ _ (0, 0) _ rfl (HZ.out.setCells (stepC 1 0 0 (.slice (some ⟨va, 0, none⟩) vn vc)) rfl) Tryd.underlying42 rfl (by kernel_rfl)) rfl ?_
    exact ⟨_, by rw [HE2.out], by rw [HE2.out]; exact bytes_cells _ _ _ _ HY.out HZ.out, Blk.Below.setCells _ _ _ HB.out (Nat.le_refl _)⟩
  · have HE2 := Lib.hid (show guessF (t :: l) = ⟨0, 0, 0, []⟩ from HE.out.trans (ofG_no hr))
    replace HG := Lib.hid (HG.out.below hb8)
    have HY := Lib.hid (show BytesOf w.heap.size [] (.slice none 0 0) (w8.alloc (.cells (stepC 0 0 0 (.slice none 0 0)) 42)) from .inl ⟨rfl, rfl⟩)
    clear hr hb8 HOF HE
    have hX : w.heap.size < w8.heap.size := HG.out.z.lt
    have HX := Lib.hid (Blk.new w8 (stepC 0 0 0 (.slice none 0 0)) 42 w8.heap.size rfl)
    replace HG := Lib.hid (HG.out.below ((Below.refl w8.heap.size w8).alloc (Nat.le_refl _) (.cells (stepC 0 0 0 (.slice none 0 0)) 42)))
    have HZ := Lib.hid HG.out.z
    have HB := Lib.hid HG.out.bel
    unfold stepC
    go_upto_region 36 with fail
    change Code.wp _ _ _ _ (w8.alloc (.cells (stepC 0 0 0 (.slice none 0 0)) 42))
    generalize w8.alloc (.cells (stepC 0 0 0 (.slice none 0 0)) 42) = w9 at HX HZ HB HY ⊢
    clear HG
    generalize w8.heap.size = X at HX hX ⊢
    go_wp2_with (first
      | (refine load_blk (by rfl) 42 _ (by rfl) X (by rfl) _ _ HX.out _ Tryd.underlying42 rfl (by kernel_rfl) ?_)
      | (refine store_blk (by rfl) 42 _ _ (by rfl) w.heap.size (by rfl) _ (stepC 0 0 0 (.slice none 0 0)) 42 HZ.out (by rfl) rfl (by kernel_rfl) (one_stp _ _ _ _ _ _) ?_))
    refine bodyPost_ret (results_cell_row rfl _ _ _ _ _ (0, 0) _ rfl (HZ.out.setCells (stepC 0 0 0 (.slice none 0 0)) rfl) Tryd.underlying42 rfl (by kernel_rfl)) rfl ?_
    exact ⟨_, by rw [HE2.out], by rw [HE2.out]; exact bytes_cells _ _ _ _ HY.out HZ.out, Blk.Below.setCells _ _ _ HB.out (Nat.le_refl _)⟩
set_option maxRecDepth 20000 in
set_option maxHeartbeats 4000000 in
theorem guess_replace (b cp : Nat) (t : Tok) (ht : t = tReplace) (l : List Tok) (hl : ∀ x ∈ t :: l, x.length ≤ 100000) (hcp : l.length + 1 ≤ cp) (w : World) (hb : b < w.heap.size) (hrow : ∀ j, (h : j < (t :: l).length) → w.cell? ⟨b, j, none⟩ = some (.string (strB (t :: l)[j]))) :
    Calls Tryd.prog 81 #[.slice (some ⟨b, 0, none⟩) (l.length + 1) cp] w (StepAns (guessF (t :: l)) w) := by
  have HE := Lib.hid (show guessF (t :: l) = ofG (cmdG (t :: l) 3) from by unfold guessF; rw [if_neg (show ¬ ((t :: l)[0]?).getD [] = tTick from by rw [show ((t :: l)[0]?).getD [] = t from rfl, ht]; decide), if_neg (show ¬ ((t :: l)[0]?).getD [] = tIndex from by rw [show ((t :: l)[0]?).getD [] = t from rfl, ht]; decide), if_neg (show ¬ ((t :: l)[0]?).getD [] = tBid from by rw [show ((t :: l)[0]?).getD [] = t from rfl, ht]; decide), if_neg (show ¬ ((t :: l)[0]?).getD [] = tRaw from by rw [show ((t :: l)[0]?).getD [] = t from rfl, ht]; decide), if_neg (show ¬ ((t :: l)[0]?).getD [] = tCancel from by rw [show ((t :: l)[0]?).getD [] = t from rfl, ht]; decide), if_pos (show ((t :: l)[0]?).getD [] = tReplace from ht)])
  have k1 : ((strB t).toList == [116, 105, 99, 107]) = decide (t = tTick) := tok_eq t _
  have k2 : ((strB t).toList == [105, 110, 100, 101, 120]) = decide (t = tIndex) := tok_eq t _
  have k3 : ((strB t).toList == [98, 105, 100]) = decide (t = tBid) := tok_eq t _
  have k4 : ((strB t).toList == [114, 97, 119]) = decide (t = tRaw) := tok_eq t _
  have k5 : ((strB t).toList == [99, 97, 110, 99, 101, 108]) = decide (t = tCancel) := tok_eq t _
  have k6 : ((strB t).toList == [114, 101, 112, 108, 97, 99, 101]) = decide (t = tReplace) := tok_eq t _
  have k7 : ((strB t).toList == [110, 101, 119]) = decide (t = tNew) := tok_eq t _
  rw [decide_eq_false (show ¬ t = tTick from by rw [ht]; decide)] at k1
  rw [decide_eq_false (show ¬ t = tIndex from by rw [ht]; decide)] at k2
  rw [decide_eq_false (show ¬ t = tBid from by rw [ht]; decide)] at k3
  rw [decide_eq_false (show ¬ t = tRaw from by rw [ht]; decide)] at k4
  rw [decide_eq_false (show ¬ t = tCancel from by rw [ht]; decide)] at k5
  rw [decide_eq_true ht] at k6
  rw [decide_eq_false (show ¬ t = tNew from by rw [ht]; decide)] at k7
  clear ht
  have HZ0 := Lib.hid (Blk.new w (stepC 0 0 0 (.slice none 0 0)) 42 w.heap.size rfl)
  have HSR := Lib.hid ((show StrRow (.slice (some ⟨b, 0, none⟩) (l.length + 1) cp) (t :: l) w from .inr ⟨by simp, b, cp, rfl, by simpa using hcp, hb, hrow⟩).below ((Below.refl w.heap.size w).alloc (Nat.le_refl _) (.cells (stepC 0 0 0 (.slice none 0 0)) 42)))
  have HROW := Lib.hid hrow
  have HN := Lib.hid (fun j hj v W h => rnum_any v (t :: l) hl j hj W h)
  have HL := Lib.hid hl
  clear hrow hl
  go_enter Tryd.func81, Tryd.ntmps81
  go_wp2_with fail
  refine (HN.out 1 (by omega) _ _ HSR.out).mono ?_
  rintro e w1 ⟨rfl, hb1⟩
  replace HSR := Lib.hid (HSR.out.below hb1)
  replace HZ0 := Lib.hid (HZ0.out.below hb1 (by simp))
  have HB1 := Lib.hid (((Below.refl w.heap.size w).alloc (Nat.le_refl _) (.cells (stepC 0 0 0 (.slice none 0 0)) 42)).trans (hb1.mono (by simp)))
  clear hb1
  go_wp2_with fail
  refine (HN.out 2 (by omega) _ _ HSR.out).mono ?_
  rintro e w2 ⟨rfl, hb2⟩
  have hsz : w.heap.size < w2.heap.size := Nat.lt_of_lt_of_le HZ0.out.lt hb2.size
  have HG := Lib.hid (show GS w w2.heap.size b (t :: l) ⟨0, nAt (t :: l) 1, nAt (t :: l) 2, 0, 0, 0, 0, 0, 0⟩ (w2.alloc (.cells (Cmd.cells ⟨0, nAt (t :: l) 1, nAt (t :: l) 2, 0, 0, 0, 0, 0, 0⟩) 164)) from ⟨(HZ0.out.below hb2 HZ0.out.lt).old _, Blk.new _ _ _ _ rfl, (HB1.out.trans (hb2.mono HB1.out.size)).alloc (by omega) _, fun j hj => by
    have hx := ((HB1.out.trans (hb2.mono HB1.out.size)).alloc (by omega) (.cells (Cmd.cells ⟨0, nAt (t :: l) 1, nAt (t :: l) 2, 0, 0, 0, 0, 0, 0⟩) 164)).cell (p := ⟨b, j, none⟩) (by show b < _; omega)
    rw [hx]; exact HROW.out j hj, hb, hsz⟩)
  clear hb2 HZ0 HB1 HSR
  go_upto_region 2 with fail
  change Code.wp _ _ _ _ (w2.alloc (.cells (Cmd.cells ⟨0, nAt (t :: l) 1, nAt (t :: l) 2, 0, 0, 0, 0, 0, 0⟩) 164))
  generalize w2.alloc (.cells (Cmd.cells ⟨0, nAt (t :: l) 1, nAt (t :: l) 2, 0, 0, 0, 0, 0, 0⟩) 164) = w3 at HG ⊢
  generalize w2.heap.size = C at HG hsz ⊢
  have c0 : w3.cell? ⟨b, 0, none⟩ = some (.string (strB t)) := HG.out.row 0 (by simp)
  generalize strB t = T at c0 k1 k2 k3 k4 k5 k6 k7
  have k0 : w3.cell? ⟨C, 0, none⟩ = some (.int .i64 (0)) := HG.out.c.cell 0 rfl
  have f0 := HG.out.c.free 0
  have HG2 := Lib.hid (HG.out.store (c' := ⟨3, nAt (t :: l) 1, nAt (t :: l) 2, 0, 0, 0, 0, 0, 0⟩) 0 (.int .i64 (3)) rfl)
  go_upto_region 18 with fail
  change Code.wp _ _ _ _ (w3.setCell ⟨C, 0, none⟩ (.int .i64 (3)))
  generalize w3.setCell ⟨C, 0, none⟩ (.int .i64 (3)) = w4 at HG2 ⊢
  clear k0 f0 HG
  have HG := HG2
  clear HG2
  go_wp2_with fail
  refine (HN.out 3 (by omega) _ _ (HG.out.strRow (by simp) hcp)).mono ?_
  rintro e w5 ⟨rfl, hb⟩
  replace HG := Lib.hid (HG.out.below hb)
  clear hb
  have k6 : w5.cell? ⟨C, 6, none⟩ = some (.int .i64 (0)) := HG.out.c.cell 6 rfl
  have f6 := HG.out.c.free 6
  have HG2 := Lib.hid (HG.out.store (c' := ⟨3, nAt (t :: l) 1, nAt (t :: l) 2, 0, 0, 0, nAt (t :: l) 3, 0, 0⟩) 6 (.int .i64 (nAt (t :: l) 3)) rfl)
  go_upto_region 19 with fail
  change Code.wp _ _ _ _ (w5.setCell ⟨C, 6, none⟩ (.int .i64 (nAt (t :: l) 3)))
  generalize w5.setCell ⟨C, 6, none⟩ (.int .i64 (nAt (t :: l) 3)) = w6 at HG2 ⊢
  clear k6 f6 HG
  have HG := HG2
  clear HG2
  go_wp2_with fail
  refine (HN.out 4 (by omega) _ _ (HG.out.strRow (by simp) hcp)).mono ?_
  rintro e w7 ⟨rfl, hb⟩
  replace HG := Lib.hid (HG.out.below hb)
  clear hb
  have k7 : w7.cell? ⟨C, 7, none⟩ = some (.int .i64 (0)) := HG.out.c.cell 7 rfl
  have f7 := HG.out.c.free 7
  have HG2 := Lib.hid (HG.out.store (c' := ⟨3, nAt (t :: l) 1, nAt (t :: l) 2, 0, 0, 0, nAt (t :: l) 3, nAt (t :: l) 4, 0⟩) 7 (.int .i64 (nAt (t :: l) 4)) rfl)
  go_upto_region 35 with fail
  change Code.wp _ _ _ _ (w7.setCell ⟨C, 7, none⟩ (.int .i64 (nAt (t :: l) 4)))
  generalize w7.setCell ⟨C, 7, none⟩ (.int .i64 (nAt (t :: l) 4)) = w7' at HG2 ⊢
  clear k7 f7 HG
  have HG := HG2
  clear HG2
  have HOF := Lib.hid (rof_any (Cmd.mk 3 (nAt (t :: l) 1) (nAt (t :: l) 2) 0 0 0 (nAt (t :: l) 3) (nAt (t :: l) 4) 0) w7' (by first | exact (nAt_in _ _).1 | exact (show (-9223372036854775808 : Int) ≤ 0 by decide)) (by first | exact (nAt_in _ _).2 | exact (show (0 : Int) ≤ 9223372036854775807 by decide)) (by first | exact (nAt_in _ _).1 | exact (show (-9223372036854775808 : Int) ≤ 0 by decide)) (by first | exact (nAt_in _ _).2 | exact (show (0 : Int) ≤ 9223372036854775807 by decide)))
  have hs7 := HG.out.bel.size
  go_wp2_with (refine load_blk (by rfl) 164 _ (by rfl) C (by rfl) _ _ HG.out.c _ Tryd.underlying164 rfl (by kernel_rfl) ?_)
  refine HOF.out.mono ?_
  rintro e w8 (⟨hr, v, rfl, ho, hb8⟩ | ⟨hr, rfl, hb8⟩)
  · have HE2 := Lib.hid (show guessF (t :: l) = ⟨1, 0, 0, formC (Cmd.mk 3 (nAt (t :: l) 1) (nAt (t :: l) 2) 0 0 0 (nAt (t :: l) 3) (nAt (t :: l) 4) 0)⟩ from HE.out.trans (ofG_yes hr))
    replace HG := Lib.hid (HG.out.below hb8)
    have hop := own_mono ho hs7
    obtain ⟨va, vc, rfl, -, -⟩ := World.ownsRow.form ho (form_pos _)
    have HY := Lib.hid (bytes_alloc (show BytesOf w.heap.size (formC (Cmd.mk 3 (nAt (t :: l) 1) (nAt (t :: l) 2) 0 0 0 (nAt (t :: l) 3) (nAt (t :: l) 4) 0)) _ w8 from .inr ⟨form_pos _, hop⟩) (.cells (stepC 1 0 0 (.slice (some ⟨va, 0, none⟩) (formC (Cmd.mk 3 (nAt (t :: l) 1) (nAt (t :: l) 2) 0 0 0 (nAt (t :: l) 3) (nAt (t :: l) 4) 0)).length vc)) 42))
    clear hr ho hb8 hop HOF HE
    generalize (formC (Cmd.mk 3 (nAt (t :: l) 1) (nAt (t :: l) 2) 0 0 0 (nAt (t :: l) 3) (nAt (t :: l) 4) 0)).length = vn at HY ⊢
    have hX : w.heap.size < w8.heap.size := HG.out.z.lt
    have HX := Lib.hid (Blk.new w8 (stepC 1 0 0 (.slice (some ⟨va, 0, none⟩) vn vc)) 42 w8.heap.size rfl)
    replace HG := Lib.hid (HG.out.below ((Below.refl w8.heap.size w8).alloc (Nat.le_refl _) (.cells (stepC 1 0 0 (.slice (some ⟨va, 0, none⟩) vn vc)) 42)))
    have HZ := Lib.hid HG.out.z
    have HB := Lib.hid HG.out.bel
    unfold stepC
    go_upto_region 36 with fail
    change Code.wp _ _ _ _ (w8.alloc (.cells (stepC 1 0 0 (.slice (some ⟨va, 0, none⟩) vn vc)) 42))
    generalize w8.alloc (.cells (stepC 1 0 0 (.slice (some ⟨va, 0, none⟩) vn vc)) 42) = w9 at HX HZ HB HY ⊢
    clear HG
    generalize w8.heap.size = X at HX hX ⊢
    go_wp2_with (first
      | (refine load_blk (by rfl) 42 _ (by rfl) X (by rfl) _ _ HX.out _ Tryd.underlying42 rfl (by kernel_rfl) ?_)
      | (refine store_blk (by rfl) 42 _ _ (by rfl) w.heap.size (by rfl) _ (stepC 1 0 0 (.slice (some ⟨va, 0, none⟩) vn vc)) 42 HZ.out (by rfl) rfl (by kernel_rfl) (one_stp _ _ _ _ _ _) ?_))
    refine bodyPost_ret (results_cell_row rfl _ _ _ _ _ (0, 0) _ rfl (HZ.out.setCells (stepC 1 0 0 (.slice (some ⟨va, 0, none⟩) vn vc)) rfl) Tryd.underlying42 rfl (by kernel_rfl)) rfl ?_
    exact ⟨_, by rw [HE2.out], by rw [HE2.out]; exact bytes_cells _ _ _ _ HY.out HZ.out, Blk.Below.setCells _ _ _ HB.out (Nat.le_refl _)⟩
  · have HE2 := Lib.hid (show guessF (t :: l) = ⟨0, 0, 0, []⟩ from HE.out.trans (ofG_no hr))
    replace HG := Lib.hid (HG.out.below hb8)
    have HY := Lib.hid (show BytesOf w.heap.size [] (.slice none 0 0) (w8.alloc (.cells (stepC 0 0 0 (.slice none 0 0)) 42)) from .inl ⟨rfl, rfl⟩)
    clear hr hb8 HOF HE
    have hX : w.heap.size < w8.heap.size := HG.out.z.lt
    have HX := Lib.hid (Blk.new w8 (stepC 0 0 0 (.slice none 0 0)) 42 w8.heap.size rfl)
    replace HG := Lib.hid (HG.out.below ((Below.refl w8.heap.size w8).alloc (Nat.le_refl _) (.cells (stepC 0 0 0 (.slice none 0 0)) 42)))
    have HZ := Lib.hid HG.out.z
    have HB := Lib.hid HG.out.bel
    unfold stepC
    go_upto_region 36 with fail
    change Code.wp _ _ _ _ (w8.alloc (.cells (stepC 0 0 0 (.slice none 0 0)) 42))
    generalize w8.alloc (.cells (stepC 0 0 0 (.slice none 0 0)) 42) = w9 at HX HZ HB HY ⊢
    clear HG
    generalize w8.heap.size = X at HX hX ⊢
    go_wp2_with (first
      | (refine load_blk (by rfl) 42 _ (by rfl) X (by rfl) _ _ HX.out _ Tryd.underlying42 rfl (by kernel_rfl) ?_)
      | (refine store_blk (by rfl) 42 _ _ (by rfl) w.heap.size (by rfl) _ (stepC 0 0 0 (.slice none 0 0)) 42 HZ.out (by rfl) rfl (by kernel_rfl) (one_stp _ _ _ _ _ _) ?_))
    refine bodyPost_ret (results_cell_row rfl _ _ _ _ _ (0, 0) _ rfl (HZ.out.setCells (stepC 0 0 0 (.slice none 0 0)) rfl) Tryd.underlying42 rfl (by kernel_rfl)) rfl ?_
    exact ⟨_, by rw [HE2.out], by rw [HE2.out]; exact bytes_cells _ _ _ _ HY.out HZ.out, Blk.Below.setCells _ _ _ HB.out (Nat.le_refl _)⟩
end Go.Proofs.YtmkcooamgojbpaaDoor.Lines

/- damperref35.guess, of a new order; of any words. -/
namespace Go.Proofs.YtmkcooamgojbpaaDoor.Lines
open Go.RowKit Go.Proofs.YtmkcooamgojbpaaDoor.Kit Go.Proofs.YtmkcooamgojbpaaDoor.Blk Go.Proofs.YtmkcooamgojbpaaDoor.Dec Go.Proofs.YtmkcooamgojbpaaDoor.Words Go.Proofs.YtmkcooamgojbpaaDoor.Octets Go.Proofs.YtmkcooamgojbpaaDoor.Steps Go.Proofs.YtmkcooamgojbpaaDoor.Cmds
attribute [local go_sem ↓] Go.wp_at_zero Go.wp_at_succ
set_option linter.unusedVariables false

theorem or_flag' (f k : Nat) (hf : f < 8) (hk : k < 3) : Go.bits .or .i64 (f : Int) ((2 ^ k : Nat) : Int) = ((f ||| 2 ^ k : Nat) : Int) := by
  have h : ∀ f : Fin 8, ∀ k : Fin 3, Go.bits .or .i64 ((f.1 : Nat) : Int) ((2 ^ k.1 : Nat) : Int) = ((f.1 ||| 2 ^ k.1 : Nat) : Int) := by decide +kernel
  exact h ⟨f, hf⟩ ⟨k, hk⟩
theorem flagG_lt (f : Nat) (w : Tok) (h : f < 8) : flagG f w < 8 := by
  unfold flagG
  cases e : placeF flagsD w with
  | none => exact h
  | some k =>
    have hk : k < 3 := by have := (List.getElem?_eq_some_iff.1 (place_ok e)).1; exact this
    have h2 : ∀ f : Fin 8, ∀ k : Fin 3, f.1 ||| 2 ^ k.1 < 8 := by decide
    exact h2 ⟨f, h⟩ ⟨k, hk⟩
theorem flagsG_lt : ∀ (l : List Tok) (f : Nat), f < 8 → l.foldl flagG f < 8 := by
  intro l
  induction l with
  | nil => intro f h; exact h
  | cons w l ih => intro f h; exact ih _ (flagG_lt f w h)
theorem flagsG_snoc (l : List Tok) (w : Tok) : flagsG (l ++ [w]) = flagG (flagsG l) w := by unfold flagsG; rw [List.foldl_append]; rfl
theorem GS.word {w W : World} {C b j : Nat} {ws : List Tok} {c : Cmd} {x : Tok} (h : GS w C b ws c W) (hx : ws[j]? = some x) : W.cell? ⟨b, j, none⟩ = some (.string (strB x)) := by
  obtain ⟨h1, rfl⟩ := List.getElem?_eq_some_iff.1 hx
  exact h.row j h1
theorem placeD_in (toks : List Tok) (x : Tok) : -1 ≤ placeD toks x ∧ placeD toks x < toks.length := by
  unfold placeD
  cases e : placeF toks x with
  | none => exact ⟨by decide, by show (-1 : Int) < _; omega⟩
  | some k =>
    have := (List.getElem?_eq_some_iff.1 (place_ok e)).1
    exact ⟨by show (-1 : Int) ≤ (k : Int); omega, by show (k : Int) < _; omega⟩
theorem getD_of {ws : List Tok} {j : Nat} {x : Tok} (h : ws[j]? = some x) : (ws[j]?).getD [] = x := by rw [h]; rfl
/-- What the flags add. -/
theorem flagG_cases (f : Nat) (x : Tok) : (placeD flagsD x = -1 ∧ flagG f x = f) ∨ ∃ k : Nat, k < 3 ∧ placeD flagsD x = (k : Int) ∧ flagG f x = f ||| (2 : Nat) ^ k := by
  unfold placeD flagG
  cases e : placeF flagsD x with
  | none => exact .inl ⟨rfl, rfl⟩
  | some k => exact .inr ⟨k, (List.getElem?_eq_some_iff.1 (place_ok e)).1, rfl, rfl⟩
set_option maxRecDepth 20000 in
set_option maxHeartbeats 4000000 in
theorem guess_short (b cp : Nat) (t : Tok) (ht : t = tNew) (l : List Tok) (hl : ∀ x ∈ t :: l, x.length ≤ 100000) (hlen : l.length + 1 < 8) (hcp : l.length + 1 ≤ cp) (w : World) (hb : b < w.heap.size) (hrow : ∀ j, (h : j < (t :: l).length) → w.cell? ⟨b, j, none⟩ = some (.string (strB (t :: l)[j]))) :
    Calls Tryd.prog 81 #[.slice (some ⟨b, 0, none⟩) (l.length + 1) cp] w (StepAns (guessF (t :: l)) w) := by
  have HE := Lib.hid (show guessF (t :: l) = ⟨0, 0, 0, []⟩ from by unfold guessF; rw [if_neg (show ¬ ((t :: l)[0]?).getD [] = tTick from by rw [show ((t :: l)[0]?).getD [] = t from rfl, ht]; decide), if_neg (show ¬ ((t :: l)[0]?).getD [] = tIndex from by rw [show ((t :: l)[0]?).getD [] = t from rfl, ht]; decide), if_neg (show ¬ ((t :: l)[0]?).getD [] = tBid from by rw [show ((t :: l)[0]?).getD [] = t from rfl, ht]; decide), if_neg (show ¬ ((t :: l)[0]?).getD [] = tRaw from by rw [show ((t :: l)[0]?).getD [] = t from rfl, ht]; decide), if_neg (show ¬ ((t :: l)[0]?).getD [] = tCancel from by rw [show ((t :: l)[0]?).getD [] = t from rfl, ht]; decide), if_neg (show ¬ ((t :: l)[0]?).getD [] = tReplace from by rw [show ((t :: l)[0]?).getD [] = t from rfl, ht]; decide), if_pos (show ((t :: l)[0]?).getD [] = tNew from ht), if_pos (show (t :: l).length < 8 from hlen)])
  have k1 : ((strB t).toList == [116, 105, 99, 107]) = decide (t = tTick) := tok_eq t _
  have k2 : ((strB t).toList == [105, 110, 100, 101, 120]) = decide (t = tIndex) := tok_eq t _
  have k3 : ((strB t).toList == [98, 105, 100]) = decide (t = tBid) := tok_eq t _
  have k4 : ((strB t).toList == [114, 97, 119]) = decide (t = tRaw) := tok_eq t _
  have k5 : ((strB t).toList == [99, 97, 110, 99, 101, 108]) = decide (t = tCancel) := tok_eq t _
  have k6 : ((strB t).toList == [114, 101, 112, 108, 97, 99, 101]) = decide (t = tReplace) := tok_eq t _
  have k7 : ((strB t).toList == [110, 101, 119]) = decide (t = tNew) := tok_eq t _
  rw [decide_eq_false (show ¬ t = tTick from by rw [ht]; decide)] at k1
  rw [decide_eq_false (show ¬ t = tIndex from by rw [ht]; decide)] at k2
  rw [decide_eq_false (show ¬ t = tBid from by rw [ht]; decide)] at k3
  rw [decide_eq_false (show ¬ t = tRaw from by rw [ht]; decide)] at k4
  rw [decide_eq_false (show ¬ t = tCancel from by rw [ht]; decide)] at k5
  rw [decide_eq_false (show ¬ t = tReplace from by rw [ht]; decide)] at k6
  rw [decide_eq_true ht] at k7
  clear ht
  have HZ0 := Lib.hid (Blk.new w (stepC 0 0 0 (.slice none 0 0)) 42 w.heap.size rfl)
  have HSR := Lib.hid ((show StrRow (.slice (some ⟨b, 0, none⟩) (l.length + 1) cp) (t :: l) w from .inr ⟨by simp, b, cp, rfl, by simpa using hcp, hb, hrow⟩).below ((Below.refl w.heap.size w).alloc (Nat.le_refl _) (.cells (stepC 0 0 0 (.slice none 0 0)) 42)))
  have HROW := Lib.hid hrow
  have HN := Lib.hid (fun j hj v W h => rnum_any v (t :: l) hl j hj W h)
  have HL := Lib.hid hl
  clear hrow hl
  go_enter Tryd.func81, Tryd.ntmps81
  go_wp2_with fail
  refine (HN.out 1 (by omega) _ _ HSR.out).mono ?_
  rintro e w1 ⟨rfl, hb1⟩
  replace HSR := Lib.hid (HSR.out.below hb1)
  replace HZ0 := Lib.hid (HZ0.out.below hb1 (by simp))
  have HB1 := Lib.hid (((Below.refl w.heap.size w).alloc (Nat.le_refl _) (.cells (stepC 0 0 0 (.slice none 0 0)) 42)).trans (hb1.mono (by simp)))
  clear hb1
  go_wp2_with fail
  refine (HN.out 2 (by omega) _ _ HSR.out).mono ?_
  rintro e w2 ⟨rfl, hb2⟩
  have hsz : w.heap.size < w2.heap.size := Nat.lt_of_lt_of_le HZ0.out.lt hb2.size
  have HG := Lib.hid (show GS w w2.heap.size b (t :: l) ⟨0, nAt (t :: l) 1, nAt (t :: l) 2, 0, 0, 0, 0, 0, 0⟩ (w2.alloc (.cells (Cmd.cells ⟨0, nAt (t :: l) 1, nAt (t :: l) 2, 0, 0, 0, 0, 0, 0⟩) 164)) from ⟨(HZ0.out.below hb2 HZ0.out.lt).old _, Blk.new _ _ _ _ rfl, (HB1.out.trans (hb2.mono HB1.out.size)).alloc (by omega) _, fun j hj => by
    have hx := ((HB1.out.trans (hb2.mono HB1.out.size)).alloc (by omega) (.cells (Cmd.cells ⟨0, nAt (t :: l) 1, nAt (t :: l) 2, 0, 0, 0, 0, 0, 0⟩) 164)).cell (p := ⟨b, j, none⟩) (by show b < _; omega)
    rw [hx]; exact HROW.out j hj, hb, hsz⟩)
  clear hb2 HZ0 HB1 HSR
  go_upto_region 2 with fail
  change Code.wp _ _ _ _ (w2.alloc (.cells (Cmd.cells ⟨0, nAt (t :: l) 1, nAt (t :: l) 2, 0, 0, 0, 0, 0, 0⟩) 164))
  generalize w2.alloc (.cells (Cmd.cells ⟨0, nAt (t :: l) 1, nAt (t :: l) 2, 0, 0, 0, 0, 0, 0⟩) 164) = w3 at HG ⊢
  generalize w2.heap.size = C at HG hsz ⊢
  have c0 : w3.cell? ⟨b, 0, none⟩ = some (.string (strB t)) := HG.out.row 0 (by simp)
  generalize strB t = T at c0 k1 k2 k3 k4 k5 k6 k7
  have g1 : (l.length : Int) + 1 < 8 := by omega
  go_wp2_with (refine store_blk (by rfl) 42 _ _ (by rfl) w.heap.size (by rfl) _ (stepC 0 0 0 (.slice none 0 0)) 42 (HG).out.z (by rfl) rfl (by kernel_rfl) (one_stp _ _ _ _ _ _) ?_)
  refine bodyPost_ret (results_cell_row rfl _ _ _ _ _ (0, 0) _ rfl ((HG).out.z.setCells (stepC 0 0 0 (.slice none 0 0)) rfl) Tryd.underlying42 rfl (by kernel_rfl)) rfl ?_
  exact ⟨_, by rw [HE.out], .inl ⟨by rw [HE.out], rfl⟩, Blk.Below.setCells _ _ _ (HG).out.bel (Nat.le_refl _)⟩
set_option maxRecDepth 20000 in
set_option maxHeartbeats 4000000 in
theorem guess_new (b cp : Nat) (t : Tok) (ht : t = tNew) (l : List Tok) (hl : ∀ x ∈ t :: l, x.length ≤ 100000) (hlen : ¬ l.length + 1 < 8) (hnl : l.length ≤ 100000) (hcp : l.length + 1 ≤ cp) (w : World) (hb : b < w.heap.size) (hrow : ∀ j, (h : j < (t :: l).length) → w.cell? ⟨b, j, none⟩ = some (.string (strB (t :: l)[j]))) :
    Calls Tryd.prog 81 #[.slice (some ⟨b, 0, none⟩) (l.length + 1) cp] w (StepAns (guessF (t :: l)) w) := by
  have HE := Lib.hid (show guessF (t :: l) = ofG (cmdG (t :: l) 1) from by unfold guessF; rw [if_neg (show ¬ ((t :: l)[0]?).getD [] = tTick from by rw [show ((t :: l)[0]?).getD [] = t from rfl, ht]; decide), if_neg (show ¬ ((t :: l)[0]?).getD [] = tIndex from by rw [show ((t :: l)[0]?).getD [] = t from rfl, ht]; decide), if_neg (show ¬ ((t :: l)[0]?).getD [] = tBid from by rw [show ((t :: l)[0]?).getD [] = t from rfl, ht]; decide), if_neg (show ¬ ((t :: l)[0]?).getD [] = tRaw from by rw [show ((t :: l)[0]?).getD [] = t from rfl, ht]; decide), if_neg (show ¬ ((t :: l)[0]?).getD [] = tCancel from by rw [show ((t :: l)[0]?).getD [] = t from rfl, ht]; decide), if_neg (show ¬ ((t :: l)[0]?).getD [] = tReplace from by rw [show ((t :: l)[0]?).getD [] = t from rfl, ht]; decide), if_pos (show ((t :: l)[0]?).getD [] = tNew from ht), if_neg (show ¬ (t :: l).length < 8 from hlen)])
  obtain ⟨x4, hx4⟩ : ∃ x, (t :: l)[4]? = some x := ⟨_, List.getElem?_eq_getElem (by simp; omega)⟩
  obtain ⟨x5, hx5⟩ : ∃ x, (t :: l)[5]? = some x := ⟨_, List.getElem?_eq_getElem (by simp; omega)⟩
  have HCG := Lib.hid (show cmdG (t :: l) 1 = ⟨1, nAt (t :: l) 1, nAt (t :: l) 2, nAt (t :: l) 3, placeD sidesF x4, placeD typesF x5 + 1, nAt (t :: l) 6, nAt (t :: l) 7, flagsG ((t :: l).drop 8)⟩ by unfold cmdG; rw [if_pos rfl, getD_of hx4, getD_of hx5])
  have k1 : ((strB t).toList == [116, 105, 99, 107]) = decide (t = tTick) := tok_eq t _
  have k2 : ((strB t).toList == [105, 110, 100, 101, 120]) = decide (t = tIndex) := tok_eq t _
  have k3 : ((strB t).toList == [98, 105, 100]) = decide (t = tBid) := tok_eq t _
  have k4 : ((strB t).toList == [114, 97, 119]) = decide (t = tRaw) := tok_eq t _
  have k5 : ((strB t).toList == [99, 97, 110, 99, 101, 108]) = decide (t = tCancel) := tok_eq t _
  have k6 : ((strB t).toList == [114, 101, 112, 108, 97, 99, 101]) = decide (t = tReplace) := tok_eq t _
  have k7 : ((strB t).toList == [110, 101, 119]) = decide (t = tNew) := tok_eq t _
  rw [decide_eq_false (show ¬ t = tTick from by rw [ht]; decide)] at k1
  rw [decide_eq_false (show ¬ t = tIndex from by rw [ht]; decide)] at k2
  rw [decide_eq_false (show ¬ t = tBid from by rw [ht]; decide)] at k3
  rw [decide_eq_false (show ¬ t = tRaw from by rw [ht]; decide)] at k4
  rw [decide_eq_false (show ¬ t = tCancel from by rw [ht]; decide)] at k5
  rw [decide_eq_false (show ¬ t = tReplace from by rw [ht]; decide)] at k6
  rw [decide_eq_true ht] at k7
  clear ht
  have HZ0 := Lib.hid (Blk.new w (stepC 0 0 0 (.slice none 0 0)) 42 w.heap.size rfl)
  have HSR := Lib.hid ((show StrRow (.slice (some ⟨b, 0, none⟩) (l.length + 1) cp) (t :: l) w from .inr ⟨by simp, b, cp, rfl, by simpa using hcp, hb, hrow⟩).below ((Below.refl w.heap.size w).alloc (Nat.le_refl _) (.cells (stepC 0 0 0 (.slice none 0 0)) 42)))
  have HROW := Lib.hid hrow
  have HN := Lib.hid (fun j hj v W h => rnum_any v (t :: l) hl j hj W h)
  have HL := Lib.hid hl
  clear hrow hl
  go_enter Tryd.func81, Tryd.ntmps81
  go_wp2_with fail
  refine (HN.out 1 (by omega) _ _ HSR.out).mono ?_
  rintro e w1 ⟨rfl, hb1⟩
  replace HSR := Lib.hid (HSR.out.below hb1)
  replace HZ0 := Lib.hid (HZ0.out.below hb1 (by simp))
  have HB1 := Lib.hid (((Below.refl w.heap.size w).alloc (Nat.le_refl _) (.cells (stepC 0 0 0 (.slice none 0 0)) 42)).trans (hb1.mono (by simp)))
  clear hb1
  go_wp2_with fail
  refine (HN.out 2 (by omega) _ _ HSR.out).mono ?_
  rintro e w2 ⟨rfl, hb2⟩
  have hsz : w.heap.size < w2.heap.size := Nat.lt_of_lt_of_le HZ0.out.lt hb2.size
  have HG := Lib.hid (show GS w w2.heap.size b (t :: l) ⟨0, nAt (t :: l) 1, nAt (t :: l) 2, 0, 0, 0, 0, 0, 0⟩ (w2.alloc (.cells (Cmd.cells ⟨0, nAt (t :: l) 1, nAt (t :: l) 2, 0, 0, 0, 0, 0, 0⟩) 164)) from ⟨(HZ0.out.below hb2 HZ0.out.lt).old _, Blk.new _ _ _ _ rfl, (HB1.out.trans (hb2.mono HB1.out.size)).alloc (by omega) _, fun j hj => by
    have hx := ((HB1.out.trans (hb2.mono HB1.out.size)).alloc (by omega) (.cells (Cmd.cells ⟨0, nAt (t :: l) 1, nAt (t :: l) 2, 0, 0, 0, 0, 0, 0⟩) 164)).cell (p := ⟨b, j, none⟩) (by show b < _; omega)
    rw [hx]; exact HROW.out j hj, hb, hsz⟩)
  clear hb2 HZ0 HB1 HSR
  go_upto_region 2 with fail
  change Code.wp _ _ _ _ (w2.alloc (.cells (Cmd.cells ⟨0, nAt (t :: l) 1, nAt (t :: l) 2, 0, 0, 0, 0, 0, 0⟩) 164))
  generalize w2.alloc (.cells (Cmd.cells ⟨0, nAt (t :: l) 1, nAt (t :: l) 2, 0, 0, 0, 0, 0, 0⟩) 164) = w3 at HG ⊢
  generalize w2.heap.size = C at HG hsz ⊢
  have c0 : w3.cell? ⟨b, 0, none⟩ = some (.string (strB t)) := HG.out.row 0 (by simp)
  generalize strB t = T at c0 k1 k2 k3 k4 k5 k6 k7
  have g1 : ¬ (l.length : Int) + 1 < 8 := by omega
  have k0 : w3.cell? ⟨C, 0, none⟩ = some (.int .i64 (0)) := HG.out.c.cell 0 rfl
  have f0 := HG.out.c.free 0
  have HG2 := Lib.hid (HG.out.store (c' := ⟨1, nAt (t :: l) 1, nAt (t :: l) 2, 0, 0, 0, 0, 0, 0⟩) 0 (.int .i64 (1)) rfl)
  go_upto_region 24 with fail
  change Code.wp _ _ _ _ (w3.setCell ⟨C, 0, none⟩ (.int .i64 (1)))
  generalize w3.setCell ⟨C, 0, none⟩ (.int .i64 (1)) = w4 at HG2 ⊢
  clear k0 f0 HG
  have HG := HG2
  clear HG2
  go_wp2_with fail
  refine (HN.out 3 (by omega) _ _ (HG.out.strRow (by simp) hcp)).mono ?_
  rintro e w5 ⟨rfl, hb⟩
  replace HG := Lib.hid (HG.out.below hb)
  clear hb
  have k3 : w5.cell? ⟨C, 3, none⟩ = some (.int .i64 (0)) := HG.out.c.cell 3 rfl
  have f3 := HG.out.c.free 3
  have HG2 := Lib.hid (HG.out.store (c' := ⟨1, nAt (t :: l) 1, nAt (t :: l) 2, nAt (t :: l) 3, 0, 0, 0, 0, 0⟩) 3 (.int .i64 (nAt (t :: l) 3)) rfl)
  go_upto_region 25 with fail
  change Code.wp _ _ _ _ (w5.setCell ⟨C, 3, none⟩ (.int .i64 (nAt (t :: l) 3)))
  generalize w5.setCell ⟨C, 3, none⟩ (.int .i64 (nAt (t :: l) 3)) = w6 at HG2 ⊢
  clear k3 f3 HG
  have HG := HG2
  clear HG2
  have g4 : (4 : Int) < (l.length : Int) + 1 := by omega
  have g5 : (5 : Int) < (l.length : Int) + 1 := by omega
  have HX4 := Lib.hid hx4
  have HX5 := Lib.hid hx5
  clear hx4 hx5
  have HPS := Lib.hid (placeD_in sidesF x4)
  have HPT := Lib.hid (placeD_in typesF x5)
  clear c0 k1 k2 k3 k4 k5 k6 k7
  refine wp_region_held_drew (S := (fun w' => w'.cell? ⟨b, 4, none⟩ = some (.string (strB x4)))) (by kernel_rfl) (HG.out.word HX4.out) (fun hHeld => ?_)
  replace HG := Lib.hid HG.out.drew
  generalize w6.drew = w7 at HG hHeld ⊢
  refine wpAnyH_take (i := 1) (oi := ⟨some 69, _, _, _, _, _⟩) (v := ?_) rfl (by kernel_rfl) (by kernel_rfl) (by kernel_rfl) (fun _ _ _ h => h) (Or.inl ⟨by rfl, ?_⟩) (by assumption) ?_
  rotate_left
  · (intro w hSw; (try dsimp only at hSw); go_simp; (try with_reducible rfl))
  simp only [Act.put, List.setIfInBounds_toArray, List.set_cons_zero, List.set_cons_succ]
  refine wpAnyH_take (i := 2) (oi := ⟨some 70, _, _, _, _, _⟩) (v := ?_) rfl (by kernel_rfl) (by kernel_rfl) (by kernel_rfl) (fun _ _ _ h => h) (Or.inl ⟨by rfl, ?_⟩) (by assumption) ?_
  rotate_left
  · (intro w hSw; (try dsimp only at hSw); go_simp; (try with_reducible rfl))
  simp only [Act.put, List.setIfInBounds_toArray, List.set_cons_zero, List.set_cons_succ]
  refine wpAnyH_take (i := 3) (oi := ⟨some 71, _, _, _, _, _⟩) (v := ?_) rfl (by kernel_rfl) (by kernel_rfl) (by kernel_rfl) (fun _ _ _ h => h) (Or.inl ⟨by rfl, ?_⟩) (by assumption) ?_
  rotate_left
  · (intro w hSw; (try dsimp only at hSw); go_simp; (try with_reducible rfl))
  simp only [Act.put, List.setIfInBounds_toArray, List.set_cons_zero, List.set_cons_succ]
  refine wpAnyH_ready (rs := [0]) (by kernel_rfl) (by simp) ?_
  refine AllReadyH.cons (o := ⟨some 68, _, _, _, _, _⟩) rfl (fun KK hK => ?_) AllReadyH.nil
  go_simp
  refine (dsides_any _).mono ?_
  rintro e w8 ⟨tb, tc, rfl, -, -, h3, h4⟩
  replace HG := Lib.hid (HG.out.below h4)
  have HTB := Lib.hid h3
  clear h3 h4
  refine hK.out _ _ (HG.out.word HX4.out) (fun hHeld => ?_)
  clear hK; try clear KK
  try simp only [Act.put, List.setIfInBounds_toArray, List.set_cons_zero, List.set_cons_succ]
  refine wpAnyH_ready (rs := [4]) (by kernel_rfl) (by simp) ?_
  refine AllReadyH.cons (o := ⟨some 72, _, _, _, _, _⟩) rfl (fun KK hK => ?_) AllReadyH.nil
  go_simp
  refine (rplace_any tb tc sidesF x4 (by decide) _ HTB.out).mono ?_
  rintro e w9 ⟨rfl, rfl⟩
  have HP4 := Lib.hid (HG.out.store (c' := ⟨1, nAt (t :: l) 1, nAt (t :: l) 2, nAt (t :: l) 3, placeD sidesF x4, 0, 0, 0, 0⟩) 4 (.int .i64 (placeD sidesF x4)) rfl)
  generalize placeD sidesF x4 = p4 at HCG HPS HP4 ⊢
  refine hK.out _ _ (HG.out.word HX4.out) (fun hHeld => ?_)
  clear hK; try clear KK
  try simp only [Act.put, List.setIfInBounds_toArray, List.set_cons_zero, List.set_cons_succ]
  refine wpAnyH_take (i := 5) (oi := ⟨some 73, _, _, _, _, _⟩) (v := ?_) rfl (by kernel_rfl) (by kernel_rfl) (by kernel_rfl) (fun _ _ _ h => h) (Or.inl ⟨by rfl, ?_⟩) (by assumption) ?_
  rotate_left
  · (intro w hSw; (try dsimp only at hSw); go_simp; (try with_reducible rfl))
  simp only [Act.put, List.setIfInBounds_toArray, List.set_cons_zero, List.set_cons_succ]
  have q4 : w9.cell? ⟨C, 4, none⟩ = some (.int .i64 0) := HG.out.c.cell 4 rfl
  have f4 := HG.out.c.free 4
  refine wpAnyH_ready (rs := [6]) (by kernel_rfl) (by simp) ?_
  refine AllReadyH.cons (o := ⟨none, _, _, _, _, _⟩) rfl (fun KK hK => ?_) AllReadyH.nil
  go_simp
  refine hK.out _ _ (HP4.out.word HX4.out) (fun hHeld => ?_)
  clear hK; try clear KK
  clear q4 f4 HG HTB
  have HG := HP4
  clear HP4
  refine wpAnyH_done (by kernel_rfl) ?_ _
  go_upto_region 26 with fail
  change Code.wp _ _ _ _ (w9.setCell ⟨C, 4, none⟩ (.int .i64 p4))
  generalize w9.setCell ⟨C, 4, none⟩ (.int .i64 p4) = w10 at HG ⊢
  clear hHeld
  refine wp_region_held_drew (S := (fun w' => w'.cell? ⟨b, 5, none⟩ = some (.string (strB x5)))) (by kernel_rfl) (HG.out.word HX5.out) (fun hHeld => ?_)
  replace HG := Lib.hid HG.out.drew
  generalize w10.drew = w11 at HG hHeld ⊢
  refine wpAnyH_take (i := 1) (oi := ⟨some 75, _, _, _, _, _⟩) (v := ?_) rfl (by kernel_rfl) (by kernel_rfl) (by kernel_rfl) (fun _ _ _ h => h) (Or.inl ⟨by rfl, ?_⟩) (by assumption) ?_
  rotate_left
  · (intro w hSw; (try dsimp only at hSw); go_simp; (try with_reducible rfl))
  simp only [Act.put, List.setIfInBounds_toArray, List.set_cons_zero, List.set_cons_succ]
  refine wpAnyH_take (i := 2) (oi := ⟨some 76, _, _, _, _, _⟩) (v := ?_) rfl (by kernel_rfl) (by kernel_rfl) (by kernel_rfl) (fun _ _ _ h => h) (Or.inl ⟨by rfl, ?_⟩) (by assumption) ?_
  rotate_left
  · (intro w hSw; (try dsimp only at hSw); go_simp; (try with_reducible rfl))
  simp only [Act.put, List.setIfInBounds_toArray, List.set_cons_zero, List.set_cons_succ]
  refine wpAnyH_take (i := 3) (oi := ⟨some 77, _, _, _, _, _⟩) (v := ?_) rfl (by kernel_rfl) (by kernel_rfl) (by kernel_rfl) (fun _ _ _ h => h) (Or.inl ⟨by rfl, ?_⟩) (by assumption) ?_
  rotate_left
  · (intro w hSw; (try dsimp only at hSw); go_simp; (try with_reducible rfl))
  simp only [Act.put, List.setIfInBounds_toArray, List.set_cons_zero, List.set_cons_succ]
  refine wpAnyH_ready (rs := [0]) (by kernel_rfl) (by simp) ?_
  refine AllReadyH.cons (o := ⟨some 74, _, _, _, _, _⟩) rfl (fun KK hK => ?_) AllReadyH.nil
  go_simp
  refine (dtypes_any _).mono ?_
  rintro e w12 ⟨tb2, tc2, rfl, -, -, h3, h4⟩
  replace HG := Lib.hid (HG.out.below h4)
  have HTB := Lib.hid h3
  clear h3 h4
  refine hK.out _ _ (HG.out.word HX5.out) (fun hHeld => ?_)
  clear hK; try clear KK
  try simp only [Act.put, List.setIfInBounds_toArray, List.set_cons_zero, List.set_cons_succ]
  refine wpAnyH_ready (rs := [4]) (by kernel_rfl) (by simp) ?_
  refine AllReadyH.cons (o := ⟨some 78, _, _, _, _, _⟩) rfl (fun KK hK => ?_) AllReadyH.nil
  go_simp
  refine (rplace_any tb2 tc2 typesF x5 (by decide) _ HTB.out).mono ?_
  rintro e w13 ⟨rfl, rfl⟩
  have HP4 := Lib.hid (HG.out.store (c' := ⟨1, nAt (t :: l) 1, nAt (t :: l) 2, nAt (t :: l) 3, p4, placeD typesF x5 + 1, 0, 0, 0⟩) 5 (.int .i64 (placeD typesF x5 + 1)) rfl)
  have hp0 : -1 ≤ placeD typesF x5 := HPT.out.1
  have hp1 : placeD typesF x5 < 5 := HPT.out.2
  clear HPT
  generalize placeD typesF x5 = p5 at HCG HP4 hp0 hp1 ⊢
  refine hK.out _ _ (HG.out.word HX5.out) (fun hHeld => ?_)
  clear hK; try clear KK
  try simp only [Act.put, List.setIfInBounds_toArray, List.set_cons_zero, List.set_cons_succ]
  have hw : IntKind.i64.wrap (p5 + 1) = p5 + 1 := IntWalk.i64_in _ (by omega)
  refine wpAnyH_take (i := 5) (oi := ⟨some 79, _, _, _, _, _⟩) (v := ?_) rfl (by kernel_rfl) (by kernel_rfl) (by kernel_rfl) (fun _ _ _ h => h) (Or.inl ⟨by rfl, ?_⟩) (by assumption) ?_
  rotate_left
  · (intro w hSw; (try dsimp only at hSw); go_simp; (try with_reducible rfl))
  simp only [Act.put, List.setIfInBounds_toArray, List.set_cons_zero, List.set_cons_succ]
  refine wpAnyH_take (i := 6) (oi := ⟨some 80, _, _, _, _, _⟩) (v := ?_) rfl (by kernel_rfl) (by kernel_rfl) (by kernel_rfl) (fun _ _ _ h => h) (Or.inl ⟨by rfl, ?_⟩) (by assumption) ?_
  rotate_left
  · (intro w hSw; (try dsimp only at hSw); go_simp; (try with_reducible rfl))
  simp only [Act.put, List.setIfInBounds_toArray, List.set_cons_zero, List.set_cons_succ]
  have q4 : w13.cell? ⟨C, 5, none⟩ = some (.int .i64 0) := HG.out.c.cell 5 rfl
  have f4 := HG.out.c.free 5
  refine wpAnyH_ready (rs := [7]) (by kernel_rfl) (by simp) ?_
  refine AllReadyH.cons (o := ⟨none, _, _, _, _, _⟩) rfl (fun KK hK => ?_) AllReadyH.nil
  go_simp
  refine hK.out _ _ (HP4.out.word HX5.out) (fun hHeld => ?_)
  clear hK; try clear KK
  clear q4 f4 HG HTB
  have HG := HP4
  clear HP4
  refine wpAnyH_done (by kernel_rfl) ?_ _
  go_upto_region 27 with fail
  change Code.wp _ _ _ _ (w13.setCell ⟨C, 5, none⟩ (.int .i64 (p5 + 1)))
  generalize w13.setCell ⟨C, 5, none⟩ (.int .i64 (p5 + 1)) = w14 at HG ⊢
  clear hHeld hp0 hp1
  go_wp2_with fail
  refine (HN.out 6 (by omega) _ _ (HG.out.strRow (by simp) hcp)).mono ?_
  rintro e w15 ⟨rfl, hb⟩
  replace HG := Lib.hid (HG.out.below hb)
  clear hb
  have k6 : w15.cell? ⟨C, 6, none⟩ = some (.int .i64 (0)) := HG.out.c.cell 6 rfl
  have f6 := HG.out.c.free 6
  have HG2 := Lib.hid (HG.out.store (c' := ⟨1, nAt (t :: l) 1, nAt (t :: l) 2, nAt (t :: l) 3, p4, p5 + 1, nAt (t :: l) 6, 0, 0⟩) 6 (.int .i64 (nAt (t :: l) 6)) rfl)
  go_upto_region 28 with fail
  change Code.wp _ _ _ _ (w15.setCell ⟨C, 6, none⟩ (.int .i64 (nAt (t :: l) 6)))
  generalize w15.setCell ⟨C, 6, none⟩ (.int .i64 (nAt (t :: l) 6)) = w16 at HG2 ⊢
  clear k6 f6 HG
  have HG := HG2
  clear HG2
  go_wp2_with fail
  refine (HN.out 7 (by omega) _ _ (HG.out.strRow (by simp) hcp)).mono ?_
  rintro e w17 ⟨rfl, hb⟩
  replace HG := Lib.hid (HG.out.below hb)
  clear hb
  have k7 : w17.cell? ⟨C, 7, none⟩ = some (.int .i64 (0)) := HG.out.c.cell 7 rfl
  have f7 := HG.out.c.free 7
  have HG2 := Lib.hid (HG.out.store (c' := ⟨1, nAt (t :: l) 1, nAt (t :: l) 2, nAt (t :: l) 3, p4, p5 + 1, nAt (t :: l) 6, nAt (t :: l) 7, 0⟩) 7 (.int .i64 (nAt (t :: l) 7)) rfl)
  go_upto_region 29 with fail
  change Code.wp _ _ _ _ (w17.setCell ⟨C, 7, none⟩ (.int .i64 (nAt (t :: l) 7)))
  generalize w17.setCell ⟨C, 7, none⟩ (.int .i64 (nAt (t :: l) 7)) = w18 at HG2 ⊢
  clear k7 f7 HG
  have HG := HG2
  clear HG2
  go_wp2_with fail
  go_loopw [5] (fun i wr => ∃ k : Nat, 8 ≤ k ∧ k ≤ l.length + 1 ∧ i = .int .i64 (k : Int) ∧ GS w C b (t :: l) ⟨1, nAt (t :: l) 1, nAt (t :: l) 2, nAt (t :: l) 3, p4, p5 + 1, nAt (t :: l) 6, nAt (t :: l) 7, ((flagsG (((t :: l).drop 8).take (k - 8)) : Nat) : Int)⟩ wr) (fun i _ => l.length + 1 - (intOf i).toNat)
  case atStart => exact ⟨8, by omega, by omega, rfl, HG.out⟩
  case round =>
    obtain ⟨k, hk8, hkl, rfl, hg⟩ := hrel
    replace HG := Lib.hid hg
    clear hg
    by_cases hlt : k < l.length + 1
    · obtain ⟨y, hy⟩ : ∃ y, (t :: l)[k]? = some y := ⟨_, List.getElem?_eq_getElem (by simpa using hlt)⟩
      have HFS := Lib.hid (show flagsG (((t :: l).drop 8).take (k + 1 - 8)) = flagG (flagsG (((t :: l).drop 8).take (k - 8))) y by
        rw [← flagsG_snoc]
        congr 1
        rw [show k + 1 - 8 = (k - 8) + 1 by omega, List.take_add_one, List.getElem?_drop, show 8 + (k - 8) = k by omega, hy]
        rfl)
      have hf8 := flagsG_lt (((t :: l).drop 8).take (k - 8)) 0 (by decide)
      change flagsG (((t :: l).drop 8).take (k - 8)) < 8 at hf8
      generalize flagsG (((t :: l).drop 8).take (k - 8)) = f at HG HFS hf8
      have HY := Lib.hid hy
      have g3 : (k : Int) < (l.length : Int) + 1 := by omega
      clear hy
      go_upto_region 32 with fail
      refine wp_region_held_drew (S := (fun w' => w'.cell? ⟨b, k, none⟩ = some (.string (strB y)))) (by kernel_rfl) (HG.out.word HY.out) (fun hHeld => ?_)
      replace HG := Lib.hid HG.out.drew
      generalize wr.drew = wa at HG hHeld ⊢
      refine wpAnyH_take (i := 1) (oi := ⟨some 94, _, _, _, _, _⟩) (v := ?_) rfl (by kernel_rfl) (by kernel_rfl) (by kernel_rfl) (fun _ _ _ h => h) (Or.inl ⟨by rfl, ?_⟩) (by assumption) ?_
      rotate_left
      · (intro w hSw; (try dsimp only at hSw); go_simp; (try with_reducible rfl))
      simp only [Act.put, List.setIfInBounds_toArray, List.set_cons_zero, List.set_cons_succ]
      refine wpAnyH_take (i := 2) (oi := ⟨some 95, _, _, _, _, _⟩) (v := ?_) rfl (by kernel_rfl) (by kernel_rfl) (by kernel_rfl) (fun _ _ _ h => h) (Or.inl ⟨by rfl, ?_⟩) (by assumption) ?_
      rotate_left
      · (intro w hSw; (try dsimp only at hSw); go_simp; (try with_reducible rfl))
      simp only [Act.put, List.setIfInBounds_toArray, List.set_cons_zero, List.set_cons_succ]
      refine wpAnyH_take (i := 3) (oi := ⟨some 96, _, _, _, _, _⟩) (v := ?_) rfl (by kernel_rfl) (by kernel_rfl) (by kernel_rfl) (fun _ _ _ h => h) (Or.inl ⟨by rfl, ?_⟩) (by assumption) ?_
      rotate_left
      · (intro w hSw; (try dsimp only at hSw); go_simp; (try with_reducible rfl))
      simp only [Act.put, List.setIfInBounds_toArray, List.set_cons_zero, List.set_cons_succ]
      refine wpAnyH_take (i := 4) (oi := ⟨some 97, _, _, _, _, _⟩) (v := ?_) rfl (by kernel_rfl) (by kernel_rfl) (by kernel_rfl) (fun _ _ _ h => h) (Or.inl ⟨by rfl, ?_⟩) (by assumption) ?_
      rotate_left
      · (intro w hSw; (try dsimp only at hSw); go_simp; (try with_reducible rfl))
      simp only [Act.put, List.setIfInBounds_toArray, List.set_cons_zero, List.set_cons_succ]
      refine wpAnyH_ready (rs := [0]) (by kernel_rfl) (by simp) ?_
      refine AllReadyH.cons (o := ⟨some 93, _, _, _, _, _⟩) rfl (fun KK hK => ?_) AllReadyH.nil
      go_simp
      refine (dflags_any _).mono ?_
      rintro e wb ⟨tb3, tc3, rfl, -, -, h3, h4⟩
      replace HG := Lib.hid (HG.out.below h4)
      have HTB := Lib.hid h3
      clear h3 h4
      refine hK.out _ _ (HG.out.word HY.out) (fun hHeld => ?_)
      clear hK; try clear KK
      try simp only [Act.put, List.setIfInBounds_toArray, List.set_cons_zero, List.set_cons_succ]
      refine wpAnyH_ready (rs := [5]) (by kernel_rfl) (by simp) ?_
      refine AllReadyH.cons (o := ⟨some 98, _, _, _, _, _⟩) rfl (fun KK hK => ?_) AllReadyH.nil
      go_simp
      refine (rplace_any tb3 tc3 flagsD y (by decide) _ HTB.out).mono ?_
      rintro e wd ⟨rfl, rfl⟩
      refine hK.out _ _ (HG.out.word HY.out) (fun hHeld => ?_)
      clear hK; try clear KK
      try simp only [Act.put, List.setIfInBounds_toArray, List.set_cons_zero, List.set_cons_succ]
      refine wpAnyH_take (i := 6) (oi := ⟨some 6, _, _, _, _, _⟩) (v := ?_) rfl (by kernel_rfl) (by kernel_rfl) (by kernel_rfl) (fun _ _ _ h => h) (Or.inl ⟨by rfl, ?_⟩) (by assumption) ?_
      rotate_left
      · (intro w hSw; (try dsimp only at hSw); go_simp; (try with_reducible rfl))
      simp only [Act.put, List.setIfInBounds_toArray, List.set_cons_zero, List.set_cons_succ]
      refine wpAnyH_done (by kernel_rfl) ?_ _
      have k8 : wd.cell? ⟨C, 8, none⟩ = some (.int .i64 (f : Int)) := HG.out.c.cell 8 rfl
      have f8 := HG.out.c.free 8
      clear hHeld HTB
      rcases flagG_cases f y with ⟨hp, hq⟩ | ⟨q, hq3, hp, hq⟩
      · rw [hp]
        have HQ := Lib.hid hq
        clear hp hq
        go_wp2_with fail
        go_roundw
        case rel => exact ⟨k + 1, by omega, by omega, by go_num, by rw [HFS.out, HQ.out]; exact HG.out⟩
        case measure => simp [intOf]; omega
      · have hor := or_flag' f q hf8 hq3
        rw [hp]
        have HQ := Lib.hid hq
        clear hp hq
        have HG2 := Lib.hid (HG.out.store (c' := ⟨1, nAt (t :: l) 1, nAt (t :: l) 2, nAt (t :: l) 3, p4, p5 + 1, nAt (t :: l) 6, nAt (t :: l) 7, ((f ||| 2 ^ q : Nat) : Int)⟩) 8 (.int .i64 ((f ||| 2 ^ q : Nat) : Int)) rfl)
        rw [← HQ.out, ← HFS.out] at HG2 hor
        generalize hf2 : flagsG (((t :: l).drop 8).take (k + 1 - 8)) = f2 at HG2 hor HFS
        have HF2 := Lib.hid hf2
        clear hf2
        have hq' : q = 0 ∨ q = 1 ∨ q = 2 := by omega
        rcases hq' with rfl | rfl | rfl
        · change bits .or .i64 (f : Int) 1 = (f2 : Int) at hor
          go_wp2_with fail
          go_roundw
          case rel => exact ⟨k + 1, by omega, by omega, by go_num, by rw [HF2.out]; exact HG2.out⟩
          case measure => simp [intOf]; omega
        · change bits .or .i64 (f : Int) 2 = (f2 : Int) at hor
          go_wp2_with fail
          go_roundw
          case rel => exact ⟨k + 1, by omega, by omega, by go_num, by rw [HF2.out]; exact HG2.out⟩
          case measure => simp [intOf]; omega
        · change bits .or .i64 (f : Int) 4 = (f2 : Int) at hor
          go_wp2_with fail
          go_roundw
          case rel => exact ⟨k + 1, by omega, by omega, by go_num, by rw [HF2.out]; exact HG2.out⟩
          case measure => simp [intOf]; omega
    · obtain rfl : k = l.length + 1 := by omega
      have hfl : ((t :: l).drop 8).take (l.length + 1 - 8) = (t :: l).drop 8 := List.take_of_length_le (by simp)
      rw [hfl] at HG
      clear hfl
      generalize flagsG ((t :: l).drop 8) = f at HG HCG
      rw [HCG.out] at HE
      have HOF := Lib.hid (rof_any (Cmd.mk 1 (nAt (t :: l) 1) (nAt (t :: l) 2) (nAt (t :: l) 3) p4 (p5 + 1) (nAt (t :: l) 6) (nAt (t :: l) 7) (f : Int)) wr (by first | exact (nAt_in _ _).1 | exact (show (-9223372036854775808 : Int) ≤ 0 by decide)) (by first | exact (nAt_in _ _).2 | exact (show (0 : Int) ≤ 9223372036854775807 by decide)) (by first | exact (nAt_in _ _).1 | exact (show (-9223372036854775808 : Int) ≤ 0 by decide)) (by first | exact (nAt_in _ _).2 | exact (show (0 : Int) ≤ 9223372036854775807 by decide)))
      have hs7 := HG.out.bel.size
      go_wp2_with (refine load_blk (by rfl) 164 _ (by rfl) C (by rfl) _ _ HG.out.c _ Tryd.underlying164 rfl (by kernel_rfl) ?_)
      refine HOF.out.mono ?_
      rintro e w8 (⟨hr, v, rfl, ho, hb8⟩ | ⟨hr, rfl, hb8⟩)
      · have HE2 := Lib.hid (show guessF (t :: l) = ⟨1, 0, 0, formC (Cmd.mk 1 (nAt (t :: l) 1) (nAt (t :: l) 2) (nAt (t :: l) 3) p4 (p5 + 1) (nAt (t :: l) 6) (nAt (t :: l) 7) (f : Int))⟩ from HE.out.trans (ofG_yes hr))
        replace HG := Lib.hid (HG.out.below hb8)
        have hop := own_mono ho hs7
        obtain ⟨va, vc, rfl, -, -⟩ := World.ownsRow.form ho (form_pos _)
        have HY := Lib.hid (bytes_alloc (show BytesOf w.heap.size (formC (Cmd.mk 1 (nAt (t :: l) 1) (nAt (t :: l) 2) (nAt (t :: l) 3) p4 (p5 + 1) (nAt (t :: l) 6) (nAt (t :: l) 7) (f : Int))) _ w8 from .inr ⟨form_pos _, hop⟩) (.cells (stepC 1 0 0 (.slice (some ⟨va, 0, none⟩) (formC (Cmd.mk 1 (nAt (t :: l) 1) (nAt (t :: l) 2) (nAt (t :: l) 3) p4 (p5 + 1) (nAt (t :: l) 6) (nAt (t :: l) 7) (f : Int))).length vc)) 42))
        clear hr ho hb8 hop HOF HE
        generalize (formC (Cmd.mk 1 (nAt (t :: l) 1) (nAt (t :: l) 2) (nAt (t :: l) 3) p4 (p5 + 1) (nAt (t :: l) 6) (nAt (t :: l) 7) (f : Int))).length = vn at HY ⊢
        have hX : w.heap.size < w8.heap.size := HG.out.z.lt
        have HX := Lib.hid (Blk.new w8 (stepC 1 0 0 (.slice (some ⟨va, 0, none⟩) vn vc)) 42 w8.heap.size rfl)
        replace HG := Lib.hid (HG.out.below ((Below.refl w8.heap.size w8).alloc (Nat.le_refl _) (.cells (stepC 1 0 0 (.slice (some ⟨va, 0, none⟩) vn vc)) 42)))
        have HZ := Lib.hid HG.out.z
        have HB := Lib.hid HG.out.bel
        unfold stepC
        go_upto_region 36 with fail
        change Code.wp _ _ _ _ (w8.alloc (.cells (stepC 1 0 0 (.slice (some ⟨va, 0, none⟩) vn vc)) 42))
        generalize w8.alloc (.cells (stepC 1 0 0 (.slice (some ⟨va, 0, none⟩) vn vc)) 42) = w9 at HX HZ HB HY ⊢
        clear HG
        generalize w8.heap.size = X at HX hX ⊢
        go_wp2_with (first
          | (refine load_blk (by rfl) 42 _ (by rfl) X (by rfl) _ _ HX.out _ Tryd.underlying42 rfl (by kernel_rfl) ?_)
          | (refine store_blk (by rfl) 42 _ _ (by rfl) w.heap.size (by rfl) _ (stepC 1 0 0 (.slice (some ⟨va, 0, none⟩) vn vc)) 42 HZ.out (by rfl) rfl (by kernel_rfl) (one_stp _ _ _ _ _ _) ?_))
        refine bodyPost_ret (results_cell_row rfl _ _ _ _ _ (0, 0) _ rfl (HZ.out.setCells (stepC 1 0 0 (.slice (some ⟨va, 0, none⟩) vn vc)) rfl) Tryd.underlying42 rfl (by kernel_rfl)) rfl ?_
        exact ⟨_, by rw [HE2.out], by rw [HE2.out]; exact bytes_cells _ _ _ _ HY.out HZ.out, Blk.Below.setCells _ _ _ HB.out (Nat.le_refl _)⟩
      · have HE2 := Lib.hid (show guessF (t :: l) = ⟨0, 0, 0, []⟩ from HE.out.trans (ofG_no hr))
        replace HG := Lib.hid (HG.out.below hb8)
        have HY := Lib.hid (show BytesOf w.heap.size [] (.slice none 0 0) (w8.alloc (.cells (stepC 0 0 0 (.slice none 0 0)) 42)) from .inl ⟨rfl, rfl⟩)
        clear hr hb8 HOF HE
        have hX : w.heap.size < w8.heap.size := HG.out.z.lt
        have HX := Lib.hid (Blk.new w8 (stepC 0 0 0 (.slice none 0 0)) 42 w8.heap.size rfl)
        replace HG := Lib.hid (HG.out.below ((Below.refl w8.heap.size w8).alloc (Nat.le_refl _) (.cells (stepC 0 0 0 (.slice none 0 0)) 42)))
        have HZ := Lib.hid HG.out.z
        have HB := Lib.hid HG.out.bel
        unfold stepC
        go_upto_region 36 with fail
        change Code.wp _ _ _ _ (w8.alloc (.cells (stepC 0 0 0 (.slice none 0 0)) 42))
        generalize w8.alloc (.cells (stepC 0 0 0 (.slice none 0 0)) 42) = w9 at HX HZ HB HY ⊢
        clear HG
        generalize w8.heap.size = X at HX hX ⊢
        go_wp2_with (first
          | (refine load_blk (by rfl) 42 _ (by rfl) X (by rfl) _ _ HX.out _ Tryd.underlying42 rfl (by kernel_rfl) ?_)
          | (refine store_blk (by rfl) 42 _ _ (by rfl) w.heap.size (by rfl) _ (stepC 0 0 0 (.slice none 0 0)) 42 HZ.out (by rfl) rfl (by kernel_rfl) (one_stp _ _ _ _ _ _) ?_))
        refine bodyPost_ret (results_cell_row rfl _ _ _ _ _ (0, 0) _ rfl (HZ.out.setCells (stepC 0 0 0 (.slice none 0 0)) rfl) Tryd.underlying42 rfl (by kernel_rfl)) rfl ?_
        exact ⟨_, by rw [HE2.out], by rw [HE2.out]; exact bytes_cells _ _ _ _ HY.out HZ.out, Blk.Below.setCells _ _ _ HB.out (Nat.le_refl _)⟩
/-- damperref35.guess, of any words. -/
theorem guess_any (ws : List Tok) (h0 : 0 < ws.length) (hn : ws.length ≤ 100000) (hl : ∀ x ∈ ws, x.length ≤ 100000) (v : Value) (w : World) (h : StrRow v ws w) :
    Calls Tryd.prog 81 #[v] w (StepAns (guessF ws) w) := by
  rcases h with ⟨rfl, rfl⟩ | ⟨_, b, c, rfl, h2, h3, h4⟩
  · simp at h0
  cases ws with
  | nil => simp at h0
  | cons t l =>
    have hc : l.length + 1 ≤ c := by simpa using h2
    have hnl : l.length ≤ 100000 := by simp at hn; omega
    show Calls Tryd.prog 81 #[.slice (some ⟨b, 0, none⟩) (l.length + 1) c] w _
    by_cases h1 : t = tTick
    · exact guess_tick b c t h1 l hl hc w h3 h4
    by_cases h2 : t = tIndex
    · exact guess_index b c t h2 l hl hc w h3 h4
    by_cases h5 : t = tBid
    · exact guess_bid b c t h5 l hl hc w h3 h4
    by_cases h6 : t = tRaw
    · exact guess_raw b c t h6 l hl hc w h3 h4
    by_cases h7 : t = tCancel
    · exact guess_cancel b c t h7 l hl hc w h3 h4
    by_cases h8 : t = tReplace
    · exact guess_replace b c t h8 l hl hc w h3 h4
    by_cases h9 : t = tNew
    · by_cases hs : l.length + 1 < 8
      · exact guess_short b c t h9 l hl hs hc w h3 h4
      · exact guess_new b c t h9 l hl hs hnl hc w h3 h4
    · exact guess_other b c t h1 h2 h5 h6 h7 h8 h9 l hl hc w h3 h4
end Go.Proofs.YtmkcooamgojbpaaDoor.Lines

/- damperref35.Parse, of any line. -/
namespace Go.Proofs.YtmkcooamgojbpaaDoor.Lines
open Go.RowKit Go.Proofs.YtmkcooamgojbpaaDoor.Kit Go.Proofs.YtmkcooamgojbpaaDoor.Blk Go.Proofs.YtmkcooamgojbpaaDoor.Dec Go.Proofs.YtmkcooamgojbpaaDoor.Words Go.Proofs.YtmkcooamgojbpaaDoor.Octets Go.Proofs.YtmkcooamgojbpaaDoor.Steps Go.Proofs.YtmkcooamgojbpaaDoor.Cmds
attribute [local go_sem ↓] Go.wp_at_zero Go.wp_at_succ
set_option linter.unusedVariables false

theorem bytes_atB {N : Nat} {l : List Nat} {u : Value} {W : World} (h : BytesOf N l u W) : AtB 0 W.heap.size l u W := by
  rcases h with ⟨rfl, rfl⟩ | ⟨_, h⟩
  · exact .inl ⟨rfl, rfl⟩
  · exact (own_atB h).mono (Nat.zero_le _) (Nat.le_refl _)
theorem ofG_len (c : Cmd) : (ofG c).l.length ≤ 64 := by
  unfold ofG
  split
  · exact form_len c
  · simp
theorem hexG_len : ∀ (w : Tok), (hexG w).length ≤ w.length
  | [] => by simp [hexG]
  | [_] => by simp [hexG]
  | a :: b :: w => by
    have := hexG_len w
    rw [hexG]
    simp
    omega
theorem guess_len {ws : List Tok} (hl : ∀ x ∈ ws, x.length ≤ 100000) : (guessF ws).l.length ≤ 100000 := by
  have ho := fun c => Nat.le_trans (ofG_len c) (show 64 ≤ 100000 by decide)
  unfold guessF
  split
  · simp
  split
  · simp
  split
  · simp
  split
  · cases h : ws[1]? with
    | none => simp [hexG]
    | some x => exact Nat.le_trans (hexG_len x) (hl x (List.mem_of_getElem? h))
  split
  · exact ho _
  split
  · exact ho _
  split
  · split
    · simp
    · exact ho _
  · exact ho _
set_option maxRecDepth 20000 in
set_option maxHeartbeats 4000000 in
theorem rwparse_any (l : List UInt8) (hl : l.length ≤ 90000) (w : World) :
    Calls Tryd.prog 27 #[.string (strB l)] w (WParseIs (rparseF l) w) := by
  have HZ := Lib.hid (Blk.new w (stepC 0 0 0 (.slice none 0 0)) 42 w.heap.size rfl)
  have HB := Lib.hid ((Below.refl w.heap.size w).alloc (Nat.le_refl _) (.cells (stepC 0 0 0 (.slice none 0 0)) 42))
  have HSP := Lib.hid (rsplit_any l (by omega) (w.alloc (.cells (stepC 0 0 0 (.slice none 0 0)) 42)))
  go_enter Tryd.func27, Tryd.ntmps27
  go_wp2_with fail
  refine HSP.out.mono ?_
  rintro e w1 ⟨v, rfl, hrow, hb⟩
  replace HZ := Lib.hid (HZ.out.below hb (by simp))
  replace HB := Lib.hid (HB.out.trans (hb.mono (by simp)))
  have HROW := Lib.hid hrow
  clear hb HSP
  by_cases h : l = []
  · have HN := Lib.hid (show rparseF l = none by unfold rparseF; rw [if_pos h])
    have hv : v = .slice none 0 0 := by
      rcases hrow with ⟨_, h2⟩ | ⟨h0, _⟩
      · exact h2
      · rw [h] at h0; simp [splitW] at h0
    subst hv
    clear hrow
    go_wp2_with (refine store_blk (by rfl) 42 _ _ (by rfl) w.heap.size (by rfl) _ (stepC 0 0 0 (.slice none 0 0)) 42 HZ.out (by rfl) rfl (by kernel_rfl) (one_stp _ _ _ _ _ _) ?_)
    refine bodyPost_ret (results_blk_tmp (cs := stepC 0 0 0 (.slice none 0 0)) rfl rfl (HZ.out.setCells (stepC 0 0 0 (.slice none 0 0)) rfl) Tryd.underlying42 rfl (by kernel_rfl)) rfl ⟨.slice none 0 0, by rw [HN.out]; rfl, by rw [HN.out]; exact .inl ⟨rfl, rfl⟩, Below.setCells _ _ _ HB.out (Nat.le_refl _)⟩
  · have hcut : splitW l = cutW 32 l := by unfold splitW; rw [if_neg h]
    have hwl : ∀ x ∈ cutW 32 l, x.length ≤ 100000 := fun x hx => Nat.le_trans (cut_bytes 32 l x hx) (by omega)
    have hne : 0 < (cutW 32 l).length := List.length_pos_iff.2 (cutW_ne _ _)
    have hnl : (cutW 32 l).length ≤ 100000 := by rw [cut_len]; have := List.count_le_length (a := (32 : UInt8)) (l := l); omega
    rw [hcut] at hrow HROW
    have hv : ∃ b c, v = .slice (some ⟨b, 0, none⟩) (cutW 32 l).length c := by
      rcases hrow with ⟨h1, _⟩ | ⟨_, b, c, h1, _⟩
      · rw [h1] at hne; simp at hne
      · exact ⟨b, c, h1⟩
    obtain ⟨b, c, rfl⟩ := hv
    have HGU := Lib.hid (guess_any (cutW 32 l) hne hnl hwl _ w1 HROW.out)
    have hgin := guess_in (cutW 32 l)
    have hglen := guess_len hwl
    have HRP := Lib.hid (show rparseF l = if rightS (guessF (cutW 32 l)) = true ∧ joinW 32 (wordsF (guessF (cutW 32 l))) = l then some (guessF (cutW 32 l)) else none by unfold rparseF; rw [if_neg h])
    generalize guessF (cutW 32 l) = g at HGU hgin hglen HRP
    have gl : (((cutW 32 l).length : Int) == 0) = false := by rw [beq_eq_false_iff_ne]; omega
    generalize (cutW 32 l).length = n at hne hnl gl HROW HGU ⊢
    clear hrow HROW hcut hwl
    go_wp2_with fail
    refine HGU.out.mono ?_
    rintro e w2 ⟨u, rfl, hby, hb2⟩
    obtain ⟨ua, un, uc, rfl⟩ := bytes_form hby
    have hs1 := HB.out.size
    replace HZ := Lib.hid (HZ.out.below hb2 HZ.out.lt)
    replace HB := Lib.hid (HB.out.trans (hb2.mono HB.out.size))
    have HBY := Lib.hid (bytes_alloc (bytes_mono hby hs1) (.cells (stepC g.k g.y g.v (.slice ua un uc)) 42))
    have HAT := Lib.hid ((bytes_atB hby).below (Nat.le_refl _) ((Below.refl _ _).alloc (Nat.le_refl _) (.cells (stepC g.k g.y g.v (.slice ua un uc)) 42)))
    have HX := Lib.hid (Blk.new w2 (stepC g.k g.y g.v (.slice ua un uc)) 42 w2.heap.size rfl)
    have hzl := HZ.out.lt
    replace HZ := Lib.hid (HZ.out.old (.cells (stepC g.k g.y g.v (.slice ua un uc)) 42))
    replace HB := Lib.hid (HB.out.alloc HB.out.size (.cells (stepC g.k g.y g.v (.slice ua un uc)) 42))
    have hsz : w2.heap.size ≤ (w2.alloc (.cells (stepC g.k g.y g.v (.slice ua un uc)) 42)).heap.size := by simp
    clear hby hb2 HGU
    unfold stepC
    go_upto_region 5 with fail
    change Code.wp _ _ _ _ (w2.alloc (.cells (stepC g.k g.y g.v (.slice ua un uc)) 42))
    generalize w2.alloc (.cells (stepC g.k g.y g.v (.slice ua un uc)) 42) = w3 at HX HZ HB HBY HAT hsz ⊢
    generalize w2.heap.size = X at HX HAT hsz hzl ⊢
    have HLN := Lib.hid (rline_any X g hgin hglen _ w3 hsz HAT.out)
    clear hsz
    go_wp2_with (refine load_blk (by rfl) 42 _ (by rfl) X (by rfl) _ _ HX.out _ Tryd.underlying42 rfl (by kernel_rfl) ?_)
    refine HLN.out.mono ?_
    rintro e w4 ⟨rfl, hb4⟩
    replace HX := Lib.hid (HX.out.below hb4 HX.out.lt)
    replace HZ := Lib.hid (HZ.out.below hb4 HZ.out.lt)
    replace HB := Lib.hid (HB.out.trans (hb4.mono HB.out.size))
    replace HBY := Lib.hid (bytes_below HBY.out hb4)
    clear hb4 HLN HAT
    cases hr : rightS g with
    | false =>
      have HN := Lib.hid (show rparseF l = none by rw [HRP.out, hr, if_neg (by simp)])
      rw [ln_none hr]
      dsimp only [Option.getD, Option.isSome]
      rw [if_neg (by decide)]
      go_wp2_with (refine store_blk (by rfl) 42 _ _ (by rfl) w.heap.size (by rfl) _ (stepC 0 0 0 (.slice none 0 0)) 42 HZ.out (by rfl) rfl (by kernel_rfl) (one_stp _ _ _ _ _ _) ?_)
      refine bodyPost_ret (results_blk_tmp (cs := stepC 0 0 0 (.slice none 0 0)) rfl rfl (HZ.out.setCells (stepC 0 0 0 (.slice none 0 0)) rfl) Tryd.underlying42 rfl (by kernel_rfl)) rfl ⟨.slice none 0 0, by rw [HN.out]; rfl, by rw [HN.out]; exact .inl ⟨rfl, rfl⟩, Below.setCells _ _ _ HB.out (Nat.le_refl _)⟩
    | true =>
      obtain ⟨e1, e2⟩ := ln_eq hr
      rw [e1, e2, if_pos rfl]
      clear e1 e2
      by_cases hj : joinW 32 (wordsF g) = l
      · have HS := Lib.hid (show rparseF l = some g by rw [HRP.out, if_pos ⟨hr, hj⟩])
        have hq : ((strB (joinW 32 (wordsF g))).toList == (strB l).toList) = true := by rw [hj]; simp
        generalize strB (joinW 32 (wordsF g)) = S1 at hq ⊢
        clear hr hj
        go_wp2_with (first
          | (refine load_blk (by rfl) 42 _ (by rfl) X (by rfl) _ _ HX.out _ Tryd.underlying42 rfl (by kernel_rfl) ?_)
          | (refine store_blk (by rfl) 42 _ _ (by rfl) w.heap.size (by rfl) _ (stepC g.k g.y g.v (.slice ua un uc)) 42 HZ.out (by rfl) rfl (by kernel_rfl) (one_stp _ _ _ _ _ _) ?_))
        refine bodyPost_ret (results_blk_tmp (cs := stepC g.k g.y g.v (.slice ua un uc)) rfl rfl (HZ.out.setCells (stepC g.k g.y g.v (.slice ua un uc)) rfl) Tryd.underlying42 rfl (by kernel_rfl)) rfl ⟨.slice ua un uc, by rw [HS.out]; rfl, by rw [HS.out]; exact bytes_cells _ _ _ _ HBY.out HZ.out, Below.setCells _ _ _ HB.out (Nat.le_refl _)⟩
      · have HN := Lib.hid (show rparseF l = none by rw [HRP.out, if_neg (fun h => hj h.2)])
        have hq : ((strB (joinW 32 (wordsF g))).toList == (strB l).toList) = false := strB_ne hj
        generalize strB (joinW 32 (wordsF g)) = S1 at hq ⊢
        clear hr hj
        go_wp2_with (refine store_blk (by rfl) 42 _ _ (by rfl) w.heap.size (by rfl) _ (stepC 0 0 0 (.slice none 0 0)) 42 HZ.out (by rfl) rfl (by kernel_rfl) (one_stp _ _ _ _ _ _) ?_)
        refine bodyPost_ret (results_blk_tmp (cs := stepC 0 0 0 (.slice none 0 0)) rfl rfl (HZ.out.setCells (stepC 0 0 0 (.slice none 0 0)) rfl) Tryd.underlying42 rfl (by kernel_rfl)) rfl ⟨.slice none 0 0, by rw [HN.out]; rfl, by rw [HN.out]; exact .inl ⟨rfl, rfl⟩, Below.setCells _ _ _ HB.out (Nat.le_refl _)⟩
end Go.Proofs.YtmkcooamgojbpaaDoor.Lines

/- damperlaw35.WordsParses: the walk. -/
namespace Go.Proofs.YtmkcooamgojbpaaDoor.Lines
open Go.RowKit Go.Proofs.YtmkcooamgojbpaaDoor.Kit Go.Proofs.YtmkcooamgojbpaaDoor.Blk Go.Proofs.YtmkcooamgojbpaaDoor.Dec Go.Proofs.YtmkcooamgojbpaaDoor.Words Go.Proofs.YtmkcooamgojbpaaDoor.Octets Go.Proofs.YtmkcooamgojbpaaDoor.Steps Go.Proofs.YtmkcooamgojbpaaDoor.Cmds
attribute [local go_sem ↓] Go.wp_at_zero Go.wp_at_succ
set_option linter.unusedVariables false

theorem row_lit {N : Nat} {s : Stp} {u : Value} {W : World} (h : BytesOf N s.l u W) (hN : N ≤ W.heap.size) : Row N (.slice (some ⟨W.heap.size, 0, none⟩) 1 1) [s] (W.alloc (.cells (stepC s.k s.y s.v u) 42)) :=
  ⟨[(s, u)], rfl, World.ownsRow_lit (base := N) (size := 4) W (stepC s.k s.y s.v u) 1 hN (by unfold maxLen; decide) rfl, fun x hx => by
    rw [List.mem_singleton] at hx
    subst hx
    exact bytes_alloc h _⟩
theorem row_old {N : Nat} {v : Value} {ss : List Stp} {W W' : World} (h : Row N v ss W) (hb : Below W.heap.size W W') : Row N v ss W' := by
  obtain ⟨r, hr, h1, h2⟩ := h
  have k : RowR N v r W' := RowR.below ⟨h1, h2⟩ hb
  exact ⟨r, hr, k.1, k.2⟩
set_option maxRecDepth 20000 in
set_option maxHeartbeats 4000000 in
/-- Two steps that are the same. -/
theorem one_same (s : Stp) (u1 u2 : Value) (w : World) (h1 : BytesOf 0 s.l u1 w) (h2 : BytesOf 0 s.l u2 w) :
    Calls Tryd.prog 28 #[.agg (stepC s.k s.y s.v u1), .agg (stepC s.k s.y s.v u2)] w fun e w' => e = .returned (.bool true) ∧ Below w.heap.size w w' := by
  have HA := Lib.hid ((Blk.new w (stepC s.k s.y s.v u1) 42 w.heap.size rfl).old (.cells (stepC s.k s.y s.v u2) 42))
  have HB := Lib.hid (Blk.new (w.alloc (.cells (stepC s.k s.y s.v u1) 42)) (stepC s.k s.y s.v u2) 42 (w.heap.size + 1) (by simp))
  have HW := Lib.hid (((Below.refl w.heap.size w).alloc (Nat.le_refl _) (.cells (stepC s.k s.y s.v u1) 42)).alloc (by simp) (.cells (stepC s.k s.y s.v u2) 42))
  have H1 := Lib.hid (bytes_alloc (bytes_alloc h1 (.cells (stepC s.k s.y s.v u1) 42)) (.cells (stepC s.k s.y s.v u2) 42))
  have H2 := Lib.hid (bytes_alloc (bytes_alloc h2 (.cells (stepC s.k s.y s.v u1) 42)) (.cells (stepC s.k s.y s.v u2) 42))
  obtain ⟨a1, n1, c1, rfl⟩ := bytes_form h1
  obtain ⟨a2, n2, c2, rfl⟩ := bytes_form h2
  clear h1 h2
  go_enter Tryd.func28, Tryd.ntmps28
  go_upto_region 1 with fail
  change Code.wp _ _ _ _ ((w.alloc (.cells (stepC s.k s.y s.v (.slice a1 n1 c1)) 42)).alloc (.cells (stepC s.k s.y s.v (.slice a2 n2 c2)) 42))
  generalize (w.alloc (.cells (stepC s.k s.y s.v (.slice a1 n1 c1)) 42)).alloc (.cells (stepC s.k s.y s.v (.slice a2 n2 c2)) 42) = w1 at HA HB HW H1 H2 ⊢
  have HR := Lib.hid (row_old (row_lit H1.out (Nat.zero_le _)) ((Below.refl _ _).alloc (Nat.le_refl _) (.cells (stepC s.k s.y s.v (.slice a2 n2 c2)) 42)))
  have HS := Lib.hid (row_lit (bytes_alloc H2.out (.cells (stepC s.k s.y s.v (.slice a1 n1 c1)) 42)) (Nat.zero_le _))
  replace HW := Lib.hid ((HW.out.alloc HW.out.size (.cells (stepC s.k s.y s.v (.slice a1 n1 c1)) 42)).alloc (Nat.le_trans HW.out.size (by simp)) (.cells (stepC s.k s.y s.v (.slice a2 n2 c2)) 42))
  have hsz : (w1.alloc (.cells (stepC s.k s.y s.v (.slice a1 n1 c1)) 42)).heap.size = w1.heap.size + 1 := by simp
  rw [hsz] at HS
  clear hsz
  replace HB := Lib.hid (HB.out.old (.cells (stepC s.k s.y s.v (.slice a1 n1 c1)) 42))
  unfold stepC at HA HB HR HS HW
  go_wp2_with (first
    | (refine load_blk (by rfl) 42 _ (by rfl) w.heap.size (by rfl) _ _ HA.out _ Tryd.underlying42 rfl (by kernel_rfl) ?_)
    | (refine load_blk (by rfl) 42 _ (by rfl) (w.heap.size + 1) (by rfl) _ _ HB.out _ Tryd.underlying42 rfl (by kernel_rfl) ?_))
  refine (same_steps 0 0 [s] (by simp) (by simp) _ _ _ HR.out HS.out).mono ?_
  rintro e w2 ⟨rfl, hb, -⟩
  replace HW := Lib.hid (HW.out.trans (hb.mono HW.out.size))
  clear hb
  go_wp2_with fail
  go_ret
  exact ⟨rfl, HW.out⟩
set_option maxRecDepth 20000 in
set_option maxHeartbeats 4000000 in
theorem parses_list (l : List UInt8) (w : World) (hm : MX w) : Calls Tryd.prog 5 #[.string (strB l)] w (AliveW w) := by
  have HM := Lib.hid hm
  have z1 : (strB l).size = l.length := strB_size l
  by_cases h : 300 < l.length
  · have b1 : (300 : Int) < (l.length : Int) := by omega
    clear hm
    go_enter Tryd.func5, Tryd.ntmps5
    go_wp2_with fail
    refine (alive35_any w HM.out).mono ?_
    rintro e w1 ⟨rfl, hb⟩
    have HB := Lib.hid hb
    clear hb
    go_wp2_with fail
    go_ret
    exact ⟨rfl, HB.out⟩
  · have b1 : ¬ (300 : Int) < (l.length : Int) := by omega
    have H1 := Lib.hid (fun W h => wparse_any l (by omega) W h)
    have H2 := Lib.hid (fun W => rwparse_any l (by omega) W)
    rw [rparse_eq] at H2
    unfold WParseIs at H1 H2
    generalize stepP (splitW l) = o at H1 H2
    generalize o.getD ⟨0, 0, 0, []⟩ = s at H1 H2
    generalize (if o.isSome = true then (0 : Int) else 4) = f at H1 H2
    clear hm h
    go_enter Tryd.func5, Tryd.ntmps5
    go_wp2_with fail
    refine (H1.out w HM.out).mono ?_
    rintro e w1 ⟨u1, rfl, hy1, hb1⟩
    have HB := Lib.hid hb1
    obtain ⟨a1, n1, c1, rfl⟩ := bytes_form hy1
    have HX := Lib.hid (Blk.new w1 (stepC s.k s.y s.v (.slice a1 n1 c1)) 42 w1.heap.size rfl)
    have HY := Lib.hid (bytes_alloc (bytes_mono hy1 (Nat.zero_le _)) (.cells (stepC s.k s.y s.v (.slice a1 n1 c1)) 42))
    replace HB := Lib.hid (HB.out.alloc HB.out.size (.cells (stepC s.k s.y s.v (.slice a1 n1 c1)) 42))
    clear hb1 hy1 H1
    unfold stepC
    go_upto_region 4 with fail
    change Code.wp _ _ _ _ (w1.alloc (.cells (stepC s.k s.y s.v (.slice a1 n1 c1)) 42))
    generalize w1.alloc (.cells (stepC s.k s.y s.v (.slice a1 n1 c1)) 42) = w2 at HX HY HB ⊢
    generalize w1.heap.size = X1 at HX ⊢
    go_wp2_with fail
    refine (H2.out w2).mono ?_
    rintro e w3 ⟨u2, rfl, hy2, hb2⟩
    obtain ⟨a2, n2, c2, rfl⟩ := bytes_form hy2
    have HX2 := Lib.hid (Blk.new w3 (stepC s.k s.y s.v (.slice a2 n2 c2)) 42 w3.heap.size rfl)
    have HY2 := Lib.hid (bytes_alloc (bytes_mono hy2 (Nat.zero_le _)) (.cells (stepC s.k s.y s.v (.slice a2 n2 c2)) 42))
    replace HY := Lib.hid (bytes_alloc (bytes_below HY.out hb2) (.cells (stepC s.k s.y s.v (.slice a2 n2 c2)) 42))
    replace HX := Lib.hid ((HX.out.below hb2 HX.out.lt).old (.cells (stepC s.k s.y s.v (.slice a2 n2 c2)) 42))
    replace HB := Lib.hid (HB.out.trans (hb2.mono HB.out.size))
    replace HB := Lib.hid (HB.out.alloc HB.out.size (.cells (stepC s.k s.y s.v (.slice a2 n2 c2)) 42))
    clear hb2 hy2 H2
    unfold stepC
    go_upto_region 5 with fail
    change Code.wp _ _ _ _ (w3.alloc (.cells (stepC s.k s.y s.v (.slice a2 n2 c2)) 42))
    generalize w3.alloc (.cells (stepC s.k s.y s.v (.slice a2 n2 c2)) 42) = w4 at HX HX2 HY HY2 HB ⊢
    generalize w3.heap.size = X2 at HX2 ⊢
    go_wp2_with (first
      | (refine load_blk (by rfl) 42 _ (by rfl) X1 (by rfl) _ _ HX.out _ Tryd.underlying42 rfl (by kernel_rfl) ?_)
      | (refine load_blk (by rfl) 42 _ (by rfl) X2 (by rfl) _ _ HX2.out _ Tryd.underlying42 rfl (by kernel_rfl) ?_))
    refine (one_same s _ _ w4 HY.out HY2.out).mono ?_
    rintro e w5 ⟨rfl, hb5⟩
    replace HB := Lib.hid (HB.out.trans (hb5.mono HB.out.size))
    clear hb5
    go_wp2_with fail
    refine (alive35_any _ (HM.out.below (n := 0) HB.out)).mono ?_
    rintro e w6 ⟨rfl, hb6⟩
    replace HB := Lib.hid (HB.out.trans (hb6.mono HB.out.size))
    clear hb6
    go_wp2_with fail
    go_ret
    exact ⟨rfl, HB.out⟩
theorem parses_law (s : ByteArray) (w : World) (hm : MX w) : Calls Tryd.prog 5 #[.string s] w (AliveW w) := by
  have h := parses_list s.data.toList w hm
  rwa [show strB s.data.toList = s by simp [strB]] at h
end Go.Proofs.YtmkcooamgojbpaaDoor.Lines

/- damperref29.Same and damperlaw35.one over steps from anywhere. -/
namespace Go.Proofs.YtmkcooamgojbpaaDoor.Octets
open Go.RowKit Go.Proofs.YtmkcooamgojbpaaDoor.Kit Go.Proofs.YtmkcooamgojbpaaDoor.Blk Go.Proofs.YtmkcooamgojbpaaDoor.Lines
attribute [local go_sem ↓] Go.wp_at_zero Go.wp_at_succ
theorem atE_string {M : Nat} {l : List Nat} {v : Value} {w : World} (h : AtE M l v w) : (convert 40 9 v).run Tryd.prog w = .ok (.string (strOfNums (nums l))) w := by
  rcases h with (⟨rfl, rfl⟩ | ⟨g, o, c, rfl, h2, h3, h4, h5, h6⟩) | ⟨rfl, a, c, rfl⟩
  · exact Lib.run_convert_nil_bytes w 40 9 5 0 (by kernel_rfl) (by kernel_rfl) (by kernel_rfl)
  · refine run_convert_bytes_arg w 40 5 (by kernel_rfl) (by kernel_rfl) g o l.length c (nums l) (by simp [nums]) (fun i hi => ?_) 9 (by kernel_rfl)
    have := h6 i hi
    simpa [nums, List.getD, hi] using this
  · rw [run_convert_bytes_string w 40 9 5 (some a) 0 c (by kernel_rfl) (by kernel_rfl) (by kernel_rfl)]
    simp [Conv.bytesToString]
    rfl
theorem same03_e (M N : Nat) (l : List Nat) (v u : Value) (w : World) (hv : AtE M l v w) (hu : AtE N l u w) :
    Calls Tryd.prog 97 #[v, u] w fun e w' => e = .returned (.bool true) ∧ w = w' := by
  have h1 := atE_string hv
  have h2 := atE_string hu
  clear hv hu
  generalize strOfNums (nums l) = s at h1 h2
  go_enter Tryd.func97, Tryd.ntmps97
  go_wp2_with fail
  go_ret
  simp
end Go.Proofs.YtmkcooamgojbpaaDoor.Octets
namespace Go.Proofs.YtmkcooamgojbpaaDoor.Lines
open Go.RowKit Go.Proofs.YtmkcooamgojbpaaDoor.Kit Go.Proofs.YtmkcooamgojbpaaDoor.Blk Go.Proofs.YtmkcooamgojbpaaDoor.Dec Go.Proofs.YtmkcooamgojbpaaDoor.Words Go.Proofs.YtmkcooamgojbpaaDoor.Octets Go.Proofs.YtmkcooamgojbpaaDoor.Steps Go.Proofs.YtmkcooamgojbpaaDoor.Cmds
attribute [local go_sem ↓] Go.wp_at_zero Go.wp_at_succ
set_option linter.unusedVariables false
/-- A row of steps somewhere. -/
structure RC (M : Nat) (a : Option Addr) (r : List (Stp × Value)) (W : World) : Prop where
  cells : ∀ i, (h : i < r.length) → ∃ b o, a = some ⟨b, o, none⟩ ∧ b < M ∧ W.rangeAt b (o + i * 4) (stepC r[i].1.k r[i].1.y r[i].1.v r[i].2).toList
  bytes : ∀ x ∈ r, AtE M x.1.l x.2 W
theorem RowE.rc {M : Nat} {a : Option Addr} {r : List (Stp × Value)} {W : World} (h : RowE M a r W) : RC M a r W := ⟨h.cells, h.bytes⟩
theorem RC.heap {M : Nat} {a : Option Addr} {r : List (Stp × Value)} {W W' : World} (h : RC M a r W) (hh : W'.heap = W.heap) : RC M a r W' := by
  have hcell : ∀ p, W'.cell? p = W.cell? p := fun p => by simp [World.cell?, hh]
  refine ⟨fun i hi => ?_, fun x hx => ?_⟩
  · obtain ⟨b, o, h1, h2, h3⟩ := h.cells i hi
    exact ⟨b, o, h1, h2, fun j v hv => by rw [hcell]; exact h3 j v hv⟩
  · rcases h.bytes x hx with h | h
    · exact .inl (h.keep fun b _ _ => by rw [hh])
    · exact .inr h
theorem atE_of {N : Nat} {l : List Nat} {u : Value} {W : World} (h : BytesOf N l u W) : AtE W.heap.size l u W := .inl (bytes_atB h)
theorem row_rc {N : Nat} {a : Option Addr} {c : Nat} {r : List (Stp × Value)} {W : World} (h : W.ownsRow N 42 4 (.slice a r.length c) r.length (flat r)) (hb : ∀ x ∈ r, BytesOf N x.1.l x.2 W) : RC W.heap.size a r W := by
  refine ⟨fun i hi => ?_, fun x hx => atE_of (hb x hx)⟩
  obtain ⟨g, cap, he, -, -⟩ := World.ownsRow.form h (by omega)
  injection he with he1 he2 he3
  subst he1
  refine ⟨g, 0, rfl, (World.ownsRow.lt h g rfl).2, fun j v hv => ?_⟩
  obtain ⟨a0, a1, a2, a3⟩ := flat_at r i hi
  have hc := World.ownsRow.cells h rfl
  have hj : j < 4 := by
    have := (List.getElem?_eq_some_iff.1 hv).1
    simpa [stepC] using this
  have : j = 0 ∨ j = 1 ∨ j = 2 ∨ j = 3 := by omega
  rcases this with rfl | rfl | rfl | rfl
  · have := hc _ _ a0; rw [Addr.add_mid] at this; simp [stepC] at hv; subst hv; exact this
  · have := hc _ _ a1; rw [Addr.add_mid] at this; simp [stepC] at hv; subst hv; exact this
  · have := hc _ _ a2; rw [Addr.add_mid] at this; simp [stepC] at hv; subst hv; exact this
  · have := hc _ _ a3; rw [Addr.add_mid] at this; simp [stepC] at hv; subst hv; exact this
set_option maxRecDepth 20000 in
set_option maxHeartbeats 4000000 in
theorem same_rc (N M : Nat) (r r2 : List (Stp × Value)) (he : r.map (·.1) = r2.map (·.1)) (hl : r.length ≤ 100000) (va ua : Option Addr) (vc uc : Nat) (w : World) (hv : RC N va r w) (hu : RC M ua r2 w) :
    Calls Tryd.prog 38 #[.slice va r.length vc, .slice ua r2.length uc] w fun e w' => e = .returned (.bool true) ∧ Below w.heap.size w w' ∧ w'.heap = w.heap := by
  have hn : r2.length = r.length := by have := congrArg List.length he; simpa using this.symm
  have HC := Lib.hid hv
  have HC2 := Lib.hid hu
  have HE := Lib.hid he
  have HN := Lib.hid hn
  rw [hn]
  clear hv hu he hn
  go_enter Tryd.func38, Tryd.ntmps38
  go_wp2_with fail
  go_loopw [5] (fun i wr => ∃ k : Nat, k ≤ r.length ∧ i = .int .i64 k ∧ Below w.heap.size w wr ∧ wr.heap = w.heap) (fun i _ => r.length - (intOf i).toNat)
  case atStart => exact ⟨0, by omega, rfl, Below.refl _ _, rfl⟩
  case round =>
    obtain ⟨k, hk, rfl, hbw, hwr⟩ := hrel
    by_cases hlt : k < r.length
    · have hk2 : k < r2.length := by have := HN.out; omega
      have e1 : r2[k].1 = r[k].1 := by
        have := congrArg (fun l : List Stp => l[k]?) HE.out
        simp only [List.getElem?_map, List.getElem?_eq_getElem hlt, List.getElem?_eq_getElem hk2, Option.map_some] at this
        injection this with this
        exact this.symm
      obtain ⟨g, o, rfl, -, hat⟩ := (HC.out.heap hwr).cells k hlt
      obtain ⟨g2, o2, rfl, -, hat2⟩ := (HC2.out.heap hwr).cells k hk2
      have hx := (HC.out.heap hwr).bytes _ (List.getElem_mem hlt)
      have hy := (HC2.out.heap hwr).bytes _ (List.getElem_mem hk2)
      rw [e1] at hat2 hy
      clear e1 HE
      have hkl : (k : Int) < (r.length : Int) := by omega
      generalize r[k].2 = x at hx hat
      generalize r2[k].2 = y at hy hat2
      generalize r[k].1 = s at hx hy hat hat2
      have c0 : wr.cell? ⟨g, o + k * 4, none⟩ = some (.int .i64 s.k) := hat 0 _ rfl
      have c1 : wr.cell? ⟨g, o + k * 4 + 1, none⟩ = some (.int .i64 s.y) := hat 1 _ rfl
      have c2 : wr.cell? ⟨g, o + k * 4 + 2, none⟩ = some (.int .i64 s.v) := hat 2 _ rfl
      have c3 : wr.cell? ⟨g, o + k * 4 + 3, none⟩ = some x := hat 3 _ rfl
      have d0 : wr.cell? ⟨g2, o2 + k * 4, none⟩ = some (.int .i64 s.k) := hat2 0 _ rfl
      have d1 : wr.cell? ⟨g2, o2 + k * 4 + 1, none⟩ = some (.int .i64 s.y) := hat2 1 _ rfl
      have d2 : wr.cell? ⟨g2, o2 + k * 4 + 2, none⟩ = some (.int .i64 s.v) := hat2 2 _ rfl
      have d3 : wr.cell? ⟨g2, o2 + k * 4 + 3, none⟩ = some y := hat2 3 _ rfl
      clear hat hat2 HC HC2
      have HS := Lib.hid (show ∀ W, W.heap = wr.heap → Calls Tryd.prog 97 #[x, y] W fun e w' => e = .returned (.bool true) ∧ w' = W from fun W hW => by
        refine Calls.mono (R := fun e w' => e = .returned (.bool true) ∧ W = w') ?_ (fun _ _ ⟨h, h'⟩ => ⟨h, h'.symm⟩)
        exact same03_e N M s.l x y W (hx.imp (fun h => h.keep fun b _ _ => by rw [hW]) id) (hy.imp (fun h => h.keep fun b _ _ => by rw [hW]) id))
      have HWR := Lib.hid hwr
      have HBW := Lib.hid hbw
      clear hx hy hwr hbw
      go_wp2_with fail
      go_quiet ((go_at_call 97; exact Calls.quiet_of_same (HS.out _ rfl)))
      replace HWR := Lib.hid (show (wr.drewN nq).heap = w.heap from HWR.out)
      replace HBW := Lib.hid (below_drewN HBW.out nq)
      generalize wr.drewN nq = w2 at HWR HBW ⊢
      go_wp2_with fail
      go_roundw
      case rel => exact ⟨k + 1, by omega, by go_num, HBW.out, HWR.out⟩
      case measure => simp [intOf]; omega
    · go_wp2_with fail
      go_ret
      exact ⟨rfl, hbw, hwr⟩
end Go.Proofs.YtmkcooamgojbpaaDoor.Lines

/- damperlaw35.one of two steps that are the same, from anywhere. -/
namespace Go.Proofs.YtmkcooamgojbpaaDoor.Lines
open Go.RowKit Go.Proofs.YtmkcooamgojbpaaDoor.Kit Go.Proofs.YtmkcooamgojbpaaDoor.Blk Go.Proofs.YtmkcooamgojbpaaDoor.Dec Go.Proofs.YtmkcooamgojbpaaDoor.Words Go.Proofs.YtmkcooamgojbpaaDoor.Octets Go.Proofs.YtmkcooamgojbpaaDoor.Steps Go.Proofs.YtmkcooamgojbpaaDoor.Cmds
attribute [local go_sem ↓] Go.wp_at_zero Go.wp_at_succ
set_option linter.unusedVariables false

theorem AtE.mono {M M' : Nat} {l : List Nat} {v : Value} {W : World} (h : AtE M l v W) (hM : M ≤ M') : AtE M' l v W := h.imp (fun h => h.mono (Nat.le_refl _) hM) id
theorem RC.below {M n : Nat} {a : Option Addr} {r : List (Stp × Value)} {W W' : World} (h : RC M a r W) (hM : M ≤ n) (hb : Below n W W') : RC M a r W' :=
  ⟨fun i hi => by
    obtain ⟨b, o, h1, h2, h3⟩ := h.cells i hi
    exact ⟨b, o, h1, h2, fun j v hv => by rw [hb.cell (p := ⟨b, _, none⟩) (by show b < n; omega)]; exact h3 j v hv⟩,
   fun x hx => (h.bytes x hx).below hM hb⟩
theorem rc_lit {s : Stp} {u : Value} {W : World} (h : AtE W.heap.size s.l u W) : RC (W.heap.size + 1) (some ⟨W.heap.size, 0, none⟩) [(s, u)] (W.alloc (.cells (stepC s.k s.y s.v u) 42)) := by
  refine ⟨fun i hi => ?_, fun x hx => ?_⟩
  · have : i = 0 := by simp at hi; exact hi
    subst this
    refine ⟨_, _, rfl, by omega, fun j v hv => ?_⟩
    simp only [Nat.zero_mul, Nat.zero_add]
    have hb := Blk.new W (stepC s.k s.y s.v u) 42 W.heap.size rfl
    exact hb.cell j (by simpa using hv)
  · rw [List.mem_singleton] at hx
    subst hx
    exact (h.below (Nat.le_refl _) ((Below.refl _ _).alloc (Nat.le_refl _) _)).mono (by omega)
theorem atE_alloc {l : List Nat} {u : Value} {W : World} (h : AtE W.heap.size l u W) (o : Obj) : AtE (W.alloc o).heap.size l u (W.alloc o) :=
  (h.below (Nat.le_refl _) ((Below.refl _ _).alloc (Nat.le_refl _) _)).mono (by simp)
set_option maxRecDepth 20000 in
set_option maxHeartbeats 4000000 in
/-- Two steps that are the same. -/
theorem one_e (s : Stp) (u1 u2 : Value) (w : World) (h1 : AtE w.heap.size s.l u1 w) (h2 : AtE w.heap.size s.l u2 w) :
    Calls Tryd.prog 28 #[.agg (stepC s.k s.y s.v u1), .agg (stepC s.k s.y s.v u2)] w fun e w' => e = .returned (.bool true) ∧ Below w.heap.size w w' := by
  have HA := Lib.hid ((Blk.new w (stepC s.k s.y s.v u1) 42 w.heap.size rfl).old (.cells (stepC s.k s.y s.v u2) 42))
  have HB := Lib.hid (Blk.new (w.alloc (.cells (stepC s.k s.y s.v u1) 42)) (stepC s.k s.y s.v u2) 42 (w.heap.size + 1) (by simp))
  have HW := Lib.hid (((Below.refl w.heap.size w).alloc (Nat.le_refl _) (.cells (stepC s.k s.y s.v u1) 42)).alloc (by simp) (.cells (stepC s.k s.y s.v u2) 42))
  have H1 := Lib.hid (atE_alloc (atE_alloc h1 (.cells (stepC s.k s.y s.v u1) 42)) (.cells (stepC s.k s.y s.v u2) 42))
  have H2 := Lib.hid (atE_alloc (atE_alloc h2 (.cells (stepC s.k s.y s.v u1) 42)) (.cells (stepC s.k s.y s.v u2) 42))
  obtain ⟨a1, c1, rfl⟩ := AtE.form h1
  obtain ⟨a2, c2, rfl⟩ := AtE.form h2
  clear h1 h2
  go_enter Tryd.func28, Tryd.ntmps28
  go_upto_region 1 with fail
  change Code.wp _ _ _ _ ((w.alloc (.cells (stepC s.k s.y s.v (.slice a1 s.l.length c1)) 42)).alloc (.cells (stepC s.k s.y s.v (.slice a2 s.l.length c2)) 42))
  generalize (w.alloc (.cells (stepC s.k s.y s.v (.slice a1 s.l.length c1)) 42)).alloc (.cells (stepC s.k s.y s.v (.slice a2 s.l.length c2)) 42) = w1 at HA HB HW H1 H2 ⊢
  have HR := Lib.hid ((rc_lit H1.out).below (n := w1.heap.size + 1) (by omega) ((Below.refl _ _).alloc (by simp) (.cells (stepC s.k s.y s.v (.slice a2 s.l.length c2)) 42)))
  have HS := Lib.hid (rc_lit (atE_alloc H2.out (.cells (stepC s.k s.y s.v (.slice a1 s.l.length c1)) 42)))
  replace HW := Lib.hid ((HW.out.alloc HW.out.size (.cells (stepC s.k s.y s.v (.slice a1 s.l.length c1)) 42)).alloc (Nat.le_trans HW.out.size (by simp)) (.cells (stepC s.k s.y s.v (.slice a2 s.l.length c2)) 42))
  have hsz : (w1.alloc (.cells (stepC s.k s.y s.v (.slice a1 s.l.length c1)) 42)).heap.size = w1.heap.size + 1 := by simp
  rw [hsz] at HS
  clear hsz
  replace HB := Lib.hid (HB.out.old (.cells (stepC s.k s.y s.v (.slice a1 s.l.length c1)) 42))
  unfold stepC at HA HB HR HS HW
  go_wp2_with (first
    | (refine load_blk (by rfl) 42 _ (by rfl) w.heap.size (by rfl) _ _ HA.out _ Tryd.underlying42 rfl (by kernel_rfl) ?_)
    | (refine load_blk (by rfl) 42 _ (by rfl) (w.heap.size + 1) (by rfl) _ _ HB.out _ Tryd.underlying42 rfl (by kernel_rfl) ?_))
  refine (same_rc _ _ [(s, .slice a1 s.l.length c1)] [(s, .slice a2 s.l.length c2)] rfl (by simp) _ _ _ _ _ HR.out HS.out).mono ?_
  rintro e w2 ⟨rfl, hb, -⟩
  replace HW := Lib.hid (HW.out.trans (hb.mono HW.out.size))
  clear hb
  go_wp2_with fail
  go_ret
  exact ⟨rfl, HW.out⟩
end Go.Proofs.YtmkcooamgojbpaaDoor.Lines

/- damperlaw35.WordsLines: the walk. -/
namespace Go.Proofs.YtmkcooamgojbpaaDoor.Lines
open Go.RowKit Go.Proofs.YtmkcooamgojbpaaDoor.Kit Go.Proofs.YtmkcooamgojbpaaDoor.Blk Go.Proofs.YtmkcooamgojbpaaDoor.Dec Go.Proofs.YtmkcooamgojbpaaDoor.Words Go.Proofs.YtmkcooamgojbpaaDoor.Octets Go.Proofs.YtmkcooamgojbpaaDoor.Steps Go.Proofs.YtmkcooamgojbpaaDoor.Cmds
attribute [local go_sem ↓] Go.wp_at_zero Go.wp_at_succ
set_option linter.unusedVariables false

def textT (r : List (Stp × Value)) : Tok := if 2000 < r.length then [] else (textS r).getD []
def textF (r : List (Stp × Value)) : Int := if 2000 < r.length then 9 else if (textS r).isSome = true then 0 else 1
theorem text_val {r : List (Stp × Value)} {w : World} {e : Ending} {w' : World} (h : TextSIs r w e w') : e = .returned (.tuple #[.string (strB (textT r)), .int .i64 (textF r)]) ∧ Below w.heap.size w w' := by
  obtain ⟨h1, h2⟩ := h
  refine ⟨?_, h2⟩
  unfold textT textF
  by_cases h : 2000 < r.length
  · rw [if_pos h, if_pos h]; rwa [if_pos h] at h1
  · rw [if_neg h, if_neg h]; rwa [if_neg h] at h1
set_option maxRecDepth 20000 in
set_option maxHeartbeats 8000000 in
theorem wlines_law (a : Option Addr) (cap : Nat) (r : List (Stp × Value)) (w : World) (hrow : RowE w.heap.size a r w) (hl : r.length ≤ maxLen) (hm : MX w) :
    Calls Tryd.prog 13 #[.slice a r.length cap] w (AliveW w) := by
  have HM := Lib.hid hm
  have HR := Lib.hid hrow
  have HLG := Lib.hid (light29_any w.heap.size a cap r w hrow (Nat.le_refl _) hl)
  clear hm hrow
  unfold LightIs at HLG
  cases hg : lightF r with
  | false =>
    rw [hg] at HLG
    clear hg
    go_enter Tryd.func13, Tryd.ntmps13
    go_wp2_with fail
    refine HLG.out.mono ?_
    rintro e w1 ⟨rfl, hb1⟩
    have HB1 := Lib.hid hb1
    clear hb1
    go_wp2_with fail
    refine (alive35_any _ (HM.out.below (n := 0) HB1.out)).mono ?_
    rintro e wz ⟨rfl, hbz⟩
    have HBZ := Lib.hid ((HB1.out).trans (hbz.mono (HB1.out).size))
    clear hbz
    go_wp2_with fail
    go_ret
    exact ⟨rfl, HBZ.out⟩
  | true =>
    have hlg := light_of hg
    rw [hg] at HLG
    clear hg
    by_cases h1 : 100 < r.length
    · have b1 : (100 : Int) < (r.length : Int) := by omega
      by_cases h2 : r.length < 1990
      · have b2 : (r.length : Int) < 1990 := by omega
        clear hlg
        go_enter Tryd.func13, Tryd.ntmps13
        go_wp2_with fail
        refine HLG.out.mono ?_
        rintro e w1 ⟨rfl, hb1⟩
        have HB1 := Lib.hid hb1
        clear hb1
        go_wp2_with fail
        refine (alive35_any _ (HM.out.below (n := 0) HB1.out)).mono ?_
        rintro e wz ⟨rfl, hbz⟩
        have HBZ := Lib.hid ((HB1.out).trans (hbz.mono (HB1.out).size))
        clear hbz
        go_wp2_with fail
        go_ret
        exact ⟨rfl, HBZ.out⟩
      · have b2 : ¬ (r.length : Int) < 1990 := by omega
        go_enter Tryd.func13, Tryd.ntmps13
        go_wp2_with fail
        refine HLG.out.mono ?_
        rintro e w1 ⟨rfl, hb1⟩
        have HB1 := Lib.hid hb1
        clear hb1
        go_wp2_with fail
        go_loopw [3] (fun i wr => ∃ k : Nat, k ≤ r.length ∧ i = .int .i64 k ∧ Below w.heap.size w wr) (fun i _ => r.length - (intOf i).toNat)
        case atStart => exact ⟨0, by omega, rfl, HB1.out⟩
        case round =>
          obtain ⟨k, hk, rfl, hbel⟩ := hrel
          have HBL := Lib.hid hbel
          clear hbel HB1
          have hend : (¬ k < r.length) ∨ (¬ k < 100) ∨ (k < r.length ∧ k < 100) := by omega
          have FIN := Lib.hid (fun W h1 => (wtext_any w.heap.size a cap r W (HR.out.below (Nat.le_refl _) h1) h1.size hlg.1 hlg.2).mono (fun _ _ h => text_val h))
          have RFIN := Lib.hid (fun W h1 => (rwtext_any w.heap.size a cap r W (HR.out.below (Nat.le_refl _) h1) h1.size hlg.1 hlg.2).mono (fun _ _ h => text_val h))
          generalize textT r = X at FIN RFIN
          generalize textF r = F at FIN RFIN
          by_cases hlt : k < r.length
          · have hkl : (k : Int) < (r.length : Int) := by omega
            by_cases hlt2 : k < 100
            · have hk2 : (k : Int) < 100 := by omega
              obtain ⟨g, off, rfl, hg, hat, ua, uc, hu⟩ := rowE_at (HR.out.below (Nat.le_refl _) HBL.out) k hlt
              rw [hu] at hat
              have HAT := Lib.hid hat
              have HGL := Lib.hid (Nat.lt_of_lt_of_le hg HBL.out.size)
              have HIN := Lib.hid (HR.out.inn _ (List.getElem_mem hlt)).1
              have HEE := Lib.hid ((HR.out.below (Nat.le_refl _) HBL.out).bytes _ (List.getElem_mem hlt))
              have HBYK := Lib.hid (hlg.2 _ (List.getElem_mem hlt))
              rw [hu] at HEE
              clear hat hu hg hend
              generalize r[k].1 = s at HAT HIN HEE HBYK
              have HL1 := Lib.hid (wline_e w.heap.size s HIN.out (by have := HBYK.out; omega) _ wr HBL.out.size HEE.out)
              have HL2 := Lib.hid (fun W h1 h2 => rline_e w.heap.size s HIN.out (by have := HBYK.out; omega) (.slice ua s.l.length uc) W h1 h2)
              have HE2 := Lib.hid (fun W h => HEE.out.below (W' := W) (n := wr.heap.size) HBL.out.size h)
              unfold LineIs at HL1 HL2
              generalize ((lineF s).getD []) = Y at HL1 HL2
              generalize (if (lineF s).isSome = true then (0 : Int) else 1) = G at HL1 HL2
              unfold stepC at HL1 HL2 HAT
              clear HEE HBYK HIN
              go_wp2_with (refine wpList_load_mid rfl 42 (.tmp 39) rfl g (off + k * 4) rfl _ _ HAT.out Tryd.underlying42 rfl (by kernel_rfl) ?_)
              refine HL1.out.mono ?_
              rintro e w5 ⟨rfl, hb5⟩
              have HB5 := Lib.hid (HBL.out.trans (hb5.mono HBL.out.size))
              have HAT5 := Lib.hid (show w5.rangeAt g (off + k * 4) _ from fun j v hv => by rw [hb5.cell (p := ⟨g, _, none⟩) HGL.out]; exact HAT.out j v hv)
              have HEE5 := Lib.hid (HE2.out w5 hb5)
              clear hb5 HL1 HAT HE2
              go_wp2_with (refine wpList_load_mid rfl 42 (.tmp 47) rfl g (off + k * 4) rfl _ _ HAT5.out Tryd.underlying42 rfl (by kernel_rfl) ?_)
              refine (HL2.out w5 HB5.out.size HEE5.out).mono ?_
              rintro e w6 ⟨rfl, hb6⟩
              have HB6 := Lib.hid (HB5.out.trans (hb6.mono HB5.out.size))
              clear hb6 HAT5 HL2 HEE5
              go_wp2_with fail
              go_roundw
              case rel => exact ⟨k + 1, by omega, by go_num, HB6.out⟩
              case measure => simp [intOf]; omega
            · have hk2 : ¬ (k : Int) < 100 := by omega
              clear hend
              go_wp2_with fail
              refine (FIN.out wr HBL.out).mono ?_
              rintro e w5 ⟨rfl, hb5⟩
              have HB5 := Lib.hid (HBL.out.trans (hb5.mono HBL.out.size))
              clear hb5
              go_wp2_with fail
              refine (RFIN.out w5 HB5.out).mono ?_
              rintro e w6 ⟨rfl, hb6⟩
              have HB6 := Lib.hid (HB5.out.trans (hb6.mono HB5.out.size))
              clear hb6 FIN RFIN
              go_wp2_with fail
              refine (alive35_any _ (HM.out.below (n := 0) HB6.out)).mono ?_
              rintro e wz ⟨rfl, hbz⟩
              have HBZ := Lib.hid ((HB6.out).trans (hbz.mono (HB6.out).size))
              clear hbz
              go_wp2_with fail
              go_ret
              exact ⟨rfl, HBZ.out⟩
          · obtain rfl : k = r.length := by omega
            clear hend
            go_wp2_with fail
            refine (FIN.out wr HBL.out).mono ?_
            rintro e w5 ⟨rfl, hb5⟩
            have HB5 := Lib.hid (HBL.out.trans (hb5.mono HBL.out.size))
            clear hb5
            go_wp2_with fail
            refine (RFIN.out w5 HB5.out).mono ?_
            rintro e w6 ⟨rfl, hb6⟩
            have HB6 := Lib.hid (HB5.out.trans (hb6.mono HB5.out.size))
            clear hb6 FIN RFIN
            go_wp2_with fail
            refine (alive35_any _ (HM.out.below (n := 0) HB6.out)).mono ?_
            rintro e wz ⟨rfl, hbz⟩
            have HBZ := Lib.hid ((HB6.out).trans (hbz.mono (HB6.out).size))
            clear hbz
            go_wp2_with fail
            go_ret
            exact ⟨rfl, HBZ.out⟩
    · have b1 : ¬ (100 : Int) < (r.length : Int) := by omega
      go_enter Tryd.func13, Tryd.ntmps13
      go_wp2_with fail
      refine HLG.out.mono ?_
      rintro e w1 ⟨rfl, hb1⟩
      have HB1 := Lib.hid hb1
      clear hb1
      go_wp2_with fail
      go_loopw [3] (fun i wr => ∃ k : Nat, k ≤ r.length ∧ i = .int .i64 k ∧ Below w.heap.size w wr) (fun i _ => r.length - (intOf i).toNat)
      case atStart => exact ⟨0, by omega, rfl, HB1.out⟩
      case round =>
        obtain ⟨k, hk, rfl, hbel⟩ := hrel
        have HBL := Lib.hid hbel
        clear hbel HB1
        have hend : (¬ k < r.length) ∨ (¬ k < 100) ∨ (k < r.length ∧ k < 100) := by omega
        have FIN := Lib.hid (fun W h1 => (wtext_any w.heap.size a cap r W (HR.out.below (Nat.le_refl _) h1) h1.size hlg.1 hlg.2).mono (fun _ _ h => text_val h))
        have RFIN := Lib.hid (fun W h1 => (rwtext_any w.heap.size a cap r W (HR.out.below (Nat.le_refl _) h1) h1.size hlg.1 hlg.2).mono (fun _ _ h => text_val h))
        generalize textT r = X at FIN RFIN
        generalize textF r = F at FIN RFIN
        by_cases hlt : k < r.length
        · have hkl : (k : Int) < (r.length : Int) := by omega
          by_cases hlt2 : k < 100
          · have hk2 : (k : Int) < 100 := by omega
            obtain ⟨g, off, rfl, hg, hat, ua, uc, hu⟩ := rowE_at (HR.out.below (Nat.le_refl _) HBL.out) k hlt
            rw [hu] at hat
            have HAT := Lib.hid hat
            have HGL := Lib.hid (Nat.lt_of_lt_of_le hg HBL.out.size)
            have HIN := Lib.hid (HR.out.inn _ (List.getElem_mem hlt)).1
            have HEE := Lib.hid ((HR.out.below (Nat.le_refl _) HBL.out).bytes _ (List.getElem_mem hlt))
            have HBYK := Lib.hid (hlg.2 _ (List.getElem_mem hlt))
            rw [hu] at HEE
            clear hat hu hg hend
            generalize r[k].1 = s at HAT HIN HEE HBYK
            have HL1 := Lib.hid (wline_e w.heap.size s HIN.out (by have := HBYK.out; omega) _ wr HBL.out.size HEE.out)
            have HL2 := Lib.hid (fun W h1 h2 => rline_e w.heap.size s HIN.out (by have := HBYK.out; omega) (.slice ua s.l.length uc) W h1 h2)
            have HE2 := Lib.hid (fun W h => HEE.out.below (W' := W) (n := wr.heap.size) HBL.out.size h)
            unfold LineIs at HL1 HL2
            generalize ((lineF s).getD []) = Y at HL1 HL2
            generalize (if (lineF s).isSome = true then (0 : Int) else 1) = G at HL1 HL2
            unfold stepC at HL1 HL2 HAT
            clear HEE HBYK HIN
            go_wp2_with (refine wpList_load_mid rfl 42 (.tmp 39) rfl g (off + k * 4) rfl _ _ HAT.out Tryd.underlying42 rfl (by kernel_rfl) ?_)
            refine HL1.out.mono ?_
            rintro e w5 ⟨rfl, hb5⟩
            have HB5 := Lib.hid (HBL.out.trans (hb5.mono HBL.out.size))
            have HAT5 := Lib.hid (show w5.rangeAt g (off + k * 4) _ from fun j v hv => by rw [hb5.cell (p := ⟨g, _, none⟩) HGL.out]; exact HAT.out j v hv)
            have HEE5 := Lib.hid (HE2.out w5 hb5)
            clear hb5 HL1 HAT HE2
            go_wp2_with (refine wpList_load_mid rfl 42 (.tmp 47) rfl g (off + k * 4) rfl _ _ HAT5.out Tryd.underlying42 rfl (by kernel_rfl) ?_)
            refine (HL2.out w5 HB5.out.size HEE5.out).mono ?_
            rintro e w6 ⟨rfl, hb6⟩
            have HB6 := Lib.hid (HB5.out.trans (hb6.mono HB5.out.size))
            clear hb6 HAT5 HL2 HEE5
            go_wp2_with fail
            go_roundw
            case rel => exact ⟨k + 1, by omega, by go_num, HB6.out⟩
            case measure => simp [intOf]; omega
          · have hk2 : ¬ (k : Int) < 100 := by omega
            clear hend
            go_wp2_with fail
            refine (FIN.out wr HBL.out).mono ?_
            rintro e w5 ⟨rfl, hb5⟩
            have HB5 := Lib.hid (HBL.out.trans (hb5.mono HBL.out.size))
            clear hb5
            go_wp2_with fail
            refine (RFIN.out w5 HB5.out).mono ?_
            rintro e w6 ⟨rfl, hb6⟩
            have HB6 := Lib.hid (HB5.out.trans (hb6.mono HB5.out.size))
            clear hb6 FIN RFIN
            go_wp2_with fail
            refine (alive35_any _ (HM.out.below (n := 0) HB6.out)).mono ?_
            rintro e wz ⟨rfl, hbz⟩
            have HBZ := Lib.hid ((HB6.out).trans (hbz.mono (HB6.out).size))
            clear hbz
            go_wp2_with fail
            go_ret
            exact ⟨rfl, HBZ.out⟩
        · obtain rfl : k = r.length := by omega
          clear hend
          go_wp2_with fail
          refine (FIN.out wr HBL.out).mono ?_
          rintro e w5 ⟨rfl, hb5⟩
          have HB5 := Lib.hid (HBL.out.trans (hb5.mono HBL.out.size))
          clear hb5
          go_wp2_with fail
          refine (RFIN.out w5 HB5.out).mono ?_
          rintro e w6 ⟨rfl, hb6⟩
          have HB6 := Lib.hid (HB5.out.trans (hb6.mono HB5.out.size))
          clear hb6 FIN RFIN
          go_wp2_with fail
          refine (alive35_any _ (HM.out.below (n := 0) HB6.out)).mono ?_
          rintro e wz ⟨rfl, hbz⟩
          have HBZ := Lib.hid ((HB6.out).trans (hbz.mono (HB6.out).size))
          clear hbz
          go_wp2_with fail
          go_ret
          exact ⟨rfl, HBZ.out⟩
end Go.Proofs.YtmkcooamgojbpaaDoor.Lines

/- damperlaw35.WordsBack: the walk. -/
namespace Go.Proofs.YtmkcooamgojbpaaDoor.Lines
open Go.RowKit Go.Proofs.YtmkcooamgojbpaaDoor.Kit Go.Proofs.YtmkcooamgojbpaaDoor.Blk Go.Proofs.YtmkcooamgojbpaaDoor.Dec Go.Proofs.YtmkcooamgojbpaaDoor.Words Go.Proofs.YtmkcooamgojbpaaDoor.Octets Go.Proofs.YtmkcooamgojbpaaDoor.Steps Go.Proofs.YtmkcooamgojbpaaDoor.Cmds
attribute [local go_sem ↓] Go.wp_at_zero Go.wp_at_succ
set_option linter.unusedVariables false

theorem right_len {s : Stp} (h : rightS s = true) : s.l.length ≤ 100000 := by
  unfold rightS at h
  by_cases h1 : s.k = 1
  · rw [if_pos h1] at h
    simp at h
    omega
  · rw [if_neg h1] at h
    by_cases h2 : s.k = 2 ∨ s.k = 3
    · rw [if_pos h2] at h
      simp at h
      rw [h.1]; simp
    · rw [if_neg h2] at h
      by_cases h4 : s.k = 4
      · rw [if_pos h4] at h
        simp at h
        rw [h.1]; simp
      · rw [if_neg h4] at h
        cases h
set_option maxRecDepth 20000 in
set_option maxHeartbeats 8000000 in
/-- What stands behind the first part: the loop over the steps, and the whole script. -/
theorem wback_list (a : Option Addr) (cap : Nat) (r : List (Stp × Value)) (l : List UInt8) (w : World) (hrow : RowE w.heap.size a r w) (hl : r.length ≤ maxLen) (hm : MX w) :
    Calls Tryd.prog 14 #[.slice a r.length cap, .string (strB l)] w (AliveW w) := by
  have HM := Lib.hid hm
  have HR := Lib.hid hrow
  have z1 : (strB l).size = l.length := strB_size l
  have HLG := Lib.hid (light29_any w.heap.size a cap r w hrow (Nat.le_refl _) hl)
  clear hm hrow
  unfold LightIs at HLG
  cases hg : lightF r with
  | false =>
    rw [hg] at HLG
    clear hg
    go_enter Tryd.func14, Tryd.ntmps14
    go_wp2_with fail
    refine HLG.out.mono ?_
    rintro e w1 ⟨rfl, hb1⟩
    have HB1 := Lib.hid hb1
    clear hb1
    go_wp2_with fail
    refine (alive35_any _ (HM.out.below (n := 0) HB1.out)).mono ?_
    rintro e wz ⟨rfl, hbz⟩
    have HBZ := Lib.hid ((HB1.out).trans (hbz.mono (HB1.out).size))
    clear hbz
    go_wp2_with fail
    go_ret
    exact ⟨rfl, HBZ.out⟩
  | true =>
    have hlg := light_of hg
    rw [hg] at HLG
    clear hg
    by_cases h1 : 100 < r.length
    · have b1 : (100 : Int) < (r.length : Int) := by omega
      go_enter Tryd.func14, Tryd.ntmps14
      go_wp2_with fail
      refine HLG.out.mono ?_
      rintro e w1 ⟨rfl, hb1⟩
      have HB1 := Lib.hid hb1
      clear hb1
      go_wp2_with fail
      refine (alive35_any _ (HM.out.below (n := 0) HB1.out)).mono ?_
      rintro e wz ⟨rfl, hbz⟩
      have HBZ := Lib.hid ((HB1.out).trans (hbz.mono (HB1.out).size))
      clear hbz
      go_wp2_with fail
      go_ret
      exact ⟨rfl, HBZ.out⟩
    have b1 : ¬ (100 : Int) < (r.length : Int) := by omega
    by_cases h2 : 300 < l.length
    · have b2 : (300 : Int) < (l.length : Int) := by omega
      go_enter Tryd.func14, Tryd.ntmps14
      go_wp2_with fail
      refine HLG.out.mono ?_
      rintro e w1 ⟨rfl, hb1⟩
      have HB1 := Lib.hid hb1
      clear hb1
      go_wp2_with fail
      refine (alive35_any _ (HM.out.below (n := 0) HB1.out)).mono ?_
      rintro e wz ⟨rfl, hbz⟩
      have HBZ := Lib.hid ((HB1.out).trans (hbz.mono (HB1.out).size))
      clear hbz
      go_wp2_with fail
      go_ret
      exact ⟨rfl, HBZ.out⟩
    have b2 : ¬ (300 : Int) < (l.length : Int) := by omega
    obtain ⟨s, f, hps, hsf⟩ : ∃ (s : Stp) (f : Int), (∀ W, MX W → Calls Tryd.prog 26 #[.string (strB l)] W fun e W' => ∃ u, e = .returned (.tuple #[.agg (stepC s.k s.y s.v u), .int .i64 f]) ∧ AtE W'.heap.size s.l u W' ∧ Below W.heap.size W W') ∧ (f = 4 ∨ (f = 0 ∧ StpIn s ∧ lineF s = some l ∧ s.l.length ≤ 100000)) := by
      refine ⟨(stepP (splitW l)).getD ⟨0, 0, 0, []⟩, if (stepP (splitW l)).isSome = true then 0 else 4, fun W h => (wparse_any l (by omega) W h).mono (fun e W' ⟨u, g1, g2, g3⟩ => ⟨u, g1, atE_of g2, g3⟩), ?_⟩
      cases hs : stepP (splitW l) with
      | none => exact .inl rfl
      | some s =>
        right
        obtain ⟨q1, q2⟩ := step_sound hs
        have hin : StpIn s := by rw [← guess_of hs]; exact guess_in _
        refine ⟨rfl, hin, ?_, ?_⟩
        · show lineF s = some l
          rw [lineF_eq, if_pos q1]
          unfold lineT
          rw [q2]
          have hne : l ≠ [] := fun e => by rw [e, show stepP (splitW []) = none from rfl] at hs; cases hs
          unfold splitW
          rw [if_neg hne, join_cut]
        · show s.l.length ≤ 100000
          exact right_len q1
    have HP := Lib.hid hps
    have HSF := Lib.hid hsf
    have hl100 : r.length ≤ 100 := by omega
    clear h1 h2 hps hsf
    go_enter Tryd.func14, Tryd.ntmps14
    go_wp2_with fail
    refine HLG.out.mono ?_
    rintro e w1 ⟨rfl, hb1⟩
    have HB1 := Lib.hid hb1
    clear hb1 HLG
    go_wp2_with fail
    refine (HP.out w1 (HM.out.below (n := 0) HB1.out)).mono ?_
    rintro e w2 ⟨u1, rfl, hy1, hb2⟩
    obtain ⟨a1, c1, rfl⟩ := AtE.form hy1
    replace HB1 := Lib.hid ((HB1.out.trans (hb2.mono HB1.out.size)).alloc (Nat.le_trans HB1.out.size hb2.size) (.cells (stepC s.k s.y s.v (.slice a1 s.l.length c1)) 42))
    have HX := Lib.hid (Blk.new w2 (stepC s.k s.y s.v (.slice a1 s.l.length c1)) 42 w2.heap.size rfl)
    have HY := Lib.hid (atE_alloc hy1 (.cells (stepC s.k s.y s.v (.slice a1 s.l.length c1)) 42))
    clear hb2 hy1 HP
    unfold stepC
    go_upto_region 4 with fail
    change Code.wp _ _ _ _ (w2.alloc (.cells (stepC s.k s.y s.v (.slice a1 s.l.length c1)) 42))
    generalize w2.alloc (.cells (stepC s.k s.y s.v (.slice a1 s.l.length c1)) 42) = w3 at HX HY HB1 ⊢
    generalize w2.heap.size = C at HX ⊢
    go_upto_if 38 with fail
    go_cut [] (fun wx => Below w.heap.size w wx)
    case first =>
      rcases HSF.out with h4 | ⟨h0, hin, hln, hl5⟩
      · have z : (f == 0) = false := by rw [h4]; rfl
        clear h4
        go_wp2_with fail
        go_meet
        exact HB1.out
      · have HLN := Lib.hid (wline_e w3.heap.size s hin hl5 _ w3 (Nat.le_refl _) HY.out)
        unfold LineIs at HLN
        rw [hln] at HLN
        have z : (f == 0) = true := by rw [h0]; rfl
        clear h0 hin hln hl5
        unfold stepC at HLN HX
        go_wp2_with (refine load_blk (by rfl) 42 _ (by rfl) C (by rfl) _ _ HX.out _ Tryd.underlying42 rfl (by kernel_rfl) ?_)
        refine HLN.out.mono ?_
        rintro e w5 ⟨rfl, hb5⟩
        have HB5 := Lib.hid (HB1.out.trans (hb5.mono HB1.out.size))
        clear hb5
        simp only [Option.getD_some, Option.isSome_some, if_true]
        go_wp2_with fail
        go_meet
        exact HB5.out
    case rest =>
      have HB0 := Lib.hid hcut
      clear hcut HB1 HX HY HSF
      go_wp2_with fail
      go_loopw [9] (fun i wr => ∃ k : Nat, k ≤ r.length ∧ i = .int .i64 k ∧ Below w.heap.size w wr ∧ Hid (OKto r k)) (fun i _ => r.length - (intOf i).toNat)
      case atStart => exact ⟨0, by omega, rfl, HB0.out, Lib.hid fun j _ h => absurd h (Nat.not_lt_zero _)⟩
      case round =>
        obtain ⟨k, hk, rfl, hbel, HOK⟩ := hrel
        have HBL := Lib.hid hbel
        clear hbel HB0
        by_cases hlt : k < r.length
        · have hkl : (k : Int) < (r.length : Int) := by omega
          have HRW := Lib.hid (HR.out.below (Nat.le_refl _) HBL.out)
          obtain ⟨g, off, rfl, hg, hat, ua, uc, hu⟩ := rowE_at HRW.out k hlt
          rw [hu] at hat
          have HAT := Lib.hid hat
          have HG := Lib.hid hg
          have HIN := Lib.hid (HRW.out.inn _ (List.getElem_mem hlt)).1
          have HEE := Lib.hid (HRW.out.bytes _ (List.getElem_mem hlt))
          have HBYK := Lib.hid (hlg.2 _ (List.getElem_mem hlt))
          rw [hu] at HEE
          have HSTEP := Lib.hid (okto_next HOK.out hlt)
          clear hat hu HRW hg
          generalize r[k].1 = s at HAT HIN HEE HBYK HSTEP
          have HLN := Lib.hid (wline_e w.heap.size s HIN.out (by have := HBYK.out; omega) _ wr HBL.out.size HEE.out)
          rw [lineF_eq] at HLN
          unfold LineIs at HLN
          cases hr : rightS s with
          | false =>
            rw [hr, if_neg (by decide)] at HLN
            clear hr
            unfold stepC at HLN HAT
            go_wp2_with (refine wpList_load_mid rfl 42 (.tmp 60) rfl g (off + k * 4) rfl _ _ HAT.out Tryd.underlying42 rfl (by kernel_rfl) ?_)
            refine HLN.out.mono ?_
            rintro e w5 ⟨rfl, hb5⟩
            have HB5 := Lib.hid (HBL.out.trans (hb5.mono HBL.out.size))
            clear hb5
            simp only [Option.getD_none, Option.isSome_none, Bool.false_eq_true, if_false]
            rw [show strB ([] : List UInt8) = ⟨#[]⟩ from rfl]
            go_wp2_with fail
            refine (alive35_any _ (HM.out.below (n := 0) HB5.out)).mono ?_
            rintro e wz ⟨rfl, hbz⟩
            have HBZ := Lib.hid ((HB5.out).trans (hbz.mono (HB5.out).size))
            clear hbz
            go_wp2_with fail
            go_ret
            exact ⟨rfl, HBZ.out⟩
          | true =>
            have HS := Lib.hid (HSTEP.out hr)
            have HPL := Lib.hid (fun W h => wparse_any (lineT s) (by have := lineT_short hr HIN.out; omega) W h)
            rw [(step_line hr HIN.out).2] at HPL
            rw [hr, if_pos rfl] at HLN
            clear hr HIN HBYK HSTEP
            unfold stepC at HLN HAT
            go_wp2_with (refine wpList_load_mid rfl 42 (.tmp 60) rfl g (off + k * 4) rfl _ _ HAT.out Tryd.underlying42 rfl (by kernel_rfl) ?_)
            refine HLN.out.mono ?_
            rintro e w5 ⟨rfl, hb5⟩
            have HBL5 := Lib.hid (HBL.out.trans (hb5.mono HBL.out.size))
            have HC5 := Lib.hid hb5
            clear hb5 HLN
            simp only [Option.getD_some, Option.isSome_some, if_true]
            go_wp2_with fail
            refine (HPL.out w5 (HM.out.below (n := 0) HBL5.out)).mono ?_
            rintro e w6 ⟨u6, rfl, hy6, hb6⟩
            simp only [Option.getD_some, Option.isSome_some, if_true] at hy6 ⊢
            obtain ⟨a7, c7, rfl⟩ := AtE.form (atE_of hy6)
            have HBL7 := Lib.hid ((HBL5.out.trans (hb6.mono HBL5.out.size)).alloc (Nat.le_trans HBL5.out.size hb6.size) (.cells (stepC s.k s.y s.v (.slice a7 s.l.length c7)) 42))
            have HC7 := Lib.hid ((HC5.out.trans (hb6.mono HC5.out.size)).alloc (Nat.le_trans HC5.out.size hb6.size) (.cells (stepC s.k s.y s.v (.slice a7 s.l.length c7)) 42))
            have HX := Lib.hid (Blk.new w6 (stepC s.k s.y s.v (.slice a7 s.l.length c7)) 42 w6.heap.size rfl)
            have HY := Lib.hid (atE_alloc (atE_of hy6) (.cells (stepC s.k s.y s.v (.slice a7 s.l.length c7)) 42))
            clear hb6 hy6 HPL HBL5
            unfold stepC
            go_upto_region 15 with fail
            change Code.wp _ _ _ _ (w6.alloc (.cells (stepC s.k s.y s.v (.slice a7 s.l.length c7)) 42))
            generalize w6.alloc (.cells (stepC s.k s.y s.v (.slice a7 s.l.length c7)) 42) = w7 at HX HY HBL7 HC7 ⊢
            generalize w6.heap.size = C at HX ⊢
            have HGL := Lib.hid (show g < w7.heap.size from Nat.lt_of_lt_of_le HG.out HBL7.out.size)
            have HCL := Lib.hid (show C < w7.heap.size from HX.out.lt)
            have HAT7 := Lib.hid (show w7.rangeAt g (off + k * 4) _ from fun j v hv => by rw [HC7.out.cell (p := ⟨g, _, none⟩) (Nat.lt_of_lt_of_le HG.out HBL.out.size)]; exact HAT.out j v hv)
            have HEE7 := Lib.hid ((HEE.out.below HBL.out.size HC7.out).mono (M' := w7.heap.size) HBL7.out.size)
            have HXR := Lib.hid HX.out.range
            unfold stepC at HXR
            clear HAT HEE HC5 HC7 HX HBL
            refine wp_region_held_drew (S := (fun w' => w'.rangeAt g (off + k * 4) [.int .i64 s.k, .int .i64 s.y, .int .i64 s.v, .slice ua s.l.length uc] ∧ w'.rangeAt C 0 [.int .i64 s.k, .int .i64 s.y, .int .i64 s.v, .slice a7 s.l.length c7])) (by kernel_rfl) (⟨fun j v hv => HAT7.out j v hv, fun j v hv => HXR.out j v hv⟩) (fun hHeld => ?_)
            replace HGL := Lib.hid (show g < w7.drew.heap.size from HGL.out)
            replace HCL := Lib.hid (show C < w7.drew.heap.size from HCL.out)
            replace HAT7 := Lib.hid (show w7.drew.rangeAt g (off + k * 4) _ from fun j v hv => HAT7.out j v hv)
            replace HXR := Lib.hid (show w7.drew.rangeAt C 0 _ from fun j v hv => HXR.out j v hv)
            replace HEE7 := Lib.hid (show AtE w7.drew.heap.size s.l (.slice ua s.l.length uc) w7.drew from HEE7.out.below (Nat.le_refl _) (Below.refl _ _).drew)
            replace HY := Lib.hid (show AtE w7.drew.heap.size s.l (.slice a7 s.l.length c7) w7.drew from HY.out.below (Nat.le_refl _) (Below.refl _ _).drew)
            replace HBL7 := Lib.hid HBL7.out.drew
            generalize w7.drew = w8 at HGL HCL HAT7 HXR HEE7 HY HBL7 hHeld ⊢
            refine wpAnyH_take (i := 0) (oi := ⟨some 77, _, _, _, _, _⟩) (v := ?_) rfl (by kernel_rfl) (by kernel_rfl) (by kernel_rfl) (fun _ _ _ h => h) (Or.inl ⟨by rfl, ?_⟩) (by assumption) ?_
            rotate_left
            · (intro w hSw; (try dsimp only at hSw); go_simp; (try with_reducible rfl))
            simp only [Act.put, List.setIfInBounds_toArray, List.set_cons_zero, List.set_cons_succ]
            refine wpAnyH_take (i := 1) (oi := ⟨some 78, _, _, _, _, _⟩) (v := ?_) rfl (by kernel_rfl) (by kernel_rfl) (by kernel_rfl) (fun _ _ _ h => h) (Or.inl ⟨by rfl, ?_⟩) (by assumption) ?_
            rotate_left
            · (intro w hSw; (try dsimp only at hSw); go_simp; (try with_reducible rfl))
            simp only [Act.put, List.setIfInBounds_toArray, List.set_cons_zero, List.set_cons_succ]
            refine wpAnyH_take (i := 2) (oi := ⟨some 79, _, _, _, _, _⟩) (v := ?_) rfl (by kernel_rfl) (by kernel_rfl) (by kernel_rfl) (fun _ _ _ h => h) (Or.inl ⟨by rfl, ?_⟩) (by assumption) ?_
            rotate_left
            · (intro w hSw; (try dsimp only at hSw); go_simp; (try with_reducible rfl))
            simp only [Act.put, List.setIfInBounds_toArray, List.set_cons_zero, List.set_cons_succ]
            refine wpAnyH_take (i := 3) (oi := ⟨some 80, .load 42 (.tmp 12), _, _, _, _⟩) (v := _) rfl (by kernel_rfl) (by kernel_rfl) (by kernel_rfl) (fun _ _ _ h => h) (yieldsIf_load_mid (by rfl) _ _ rfl _ _ rfl _ _ (fun w h => h.2) Tryd.underlying42 rfl (by kernel_rfl)) (by assumption) ?_
            simp only [Act.put, List.setIfInBounds_toArray, List.set_cons_zero, List.set_cons_succ]
            refine wpAnyH_take (i := 4) (oi := ⟨some 81, _, _, _, _, _⟩) (v := ?_) rfl (by kernel_rfl) (by kernel_rfl) (by kernel_rfl) (fun _ _ _ h => h) (Or.inl ⟨by rfl, ?_⟩) (by assumption) ?_
            rotate_left
            · (intro w hSw; (try dsimp only at hSw); go_simp; (try with_reducible rfl))
            simp only [Act.put, List.setIfInBounds_toArray, List.set_cons_zero, List.set_cons_succ]
            refine wpAnyH_take (i := 5) (oi := ⟨some 82, _, _, _, _, _⟩) (v := ?_) rfl (by kernel_rfl) (by kernel_rfl) (by kernel_rfl) (fun _ _ _ h => h) (Or.inl ⟨by rfl, ?_⟩) (by assumption) ?_
            rotate_left
            · (intro w hSw; (try dsimp only at hSw); go_simp; (try with_reducible rfl))
            simp only [Act.put, List.setIfInBounds_toArray, List.set_cons_zero, List.set_cons_succ]
            refine wpAnyH_take (i := 6) (oi := ⟨some 83, _, _, _, _, _⟩) (v := ?_) rfl (by kernel_rfl) (by kernel_rfl) (by kernel_rfl) (fun _ _ _ h => h) (Or.inl ⟨by rfl, ?_⟩) (by assumption) ?_
            rotate_left
            · (intro w hSw; (try dsimp only at hSw); go_simp; (try with_reducible rfl))
            simp only [Act.put, List.setIfInBounds_toArray, List.set_cons_zero, List.set_cons_succ]
            refine wpAnyH_take (i := 7) (oi := ⟨some 84, .load 42 (.tmp 83), _, _, _, _⟩) (v := _) rfl (by kernel_rfl) (by kernel_rfl) (by kernel_rfl) (fun _ _ _ h => h) (yieldsIf_load_mid (by rfl) _ _ rfl _ _ rfl _ _ (fun w h => h.1) Tryd.underlying42 rfl (by kernel_rfl)) (by assumption) ?_
            simp only [Act.put, List.setIfInBounds_toArray, List.set_cons_zero, List.set_cons_succ]
            refine wpAnyH_ready (rs := [8]) (by kernel_rfl) (by simp) ?_
            refine AllReadyH.cons (o := ⟨some 85, _, _, _, _, _⟩) rfl (fun KK hK => ?_) AllReadyH.nil
            go_simp
            refine (one_e s (.slice a7 s.l.length c7) (.slice ua s.l.length uc) w8 HY.out HEE7.out).mono ?_
            rintro e WX1 ⟨rfl, hbo⟩
            have HBL8 := Lib.hid (HBL7.out.trans (hbo.mono HBL7.out.size))
            have HH8 := Lib.hid (show WX1.rangeAt g (off + k * 4) _ ∧ WX1.rangeAt C 0 _ from ⟨fun j v hv => by rw [hbo.cell (p := ⟨g, _, none⟩) HGL.out]; exact HAT7.out j v hv, fun j v hv => by rw [hbo.cell (p := ⟨C, _, none⟩) HCL.out]; exact HXR.out j v hv⟩)
            clear hbo
            refine hK.out _ _ (HH8.out) (fun hHeld => ?_)
            clear hK; try clear KK
            try simp only [Act.put, List.setIfInBounds_toArray, List.set_cons_zero, List.set_cons_succ]
            refine wpAnyH_take (i := 9) (oi := ⟨some 86, _, _, _, _, _⟩) (v := ?_) rfl (by kernel_rfl) (by kernel_rfl) (by kernel_rfl) (fun _ _ _ h => h) (Or.inl ⟨by rfl, ?_⟩) (by assumption) ?_
            rotate_left
            · (intro w hSw; (try dsimp only at hSw); go_simp; (try with_reducible rfl))
            simp only [Act.put, List.setIfInBounds_toArray, List.set_cons_zero, List.set_cons_succ]
            refine wpAnyH_take (i := 10) (oi := ⟨some 87, _, _, _, _, _⟩) (v := ?_) rfl (by kernel_rfl) (by kernel_rfl) (by kernel_rfl) (fun _ _ _ h => h) (Or.inl ⟨by rfl, ?_⟩) (by assumption) ?_
            rotate_left
            · (intro w hSw; (try dsimp only at hSw); go_simp; (try with_reducible rfl))
            simp only [Act.put, List.setIfInBounds_toArray, List.set_cons_zero, List.set_cons_succ]
            refine wpAnyH_done (by kernel_rfl) ?_ _
            go_wp2_with fail
            go_roundw
            case rel => exact ⟨k + 1, by omega, by go_num, HBL8.out, HS⟩
            case measure => simp [intOf]; omega
        · obtain rfl : k = r.length := by omega
          have hrx : ∀ x ∈ r, rightS x.1 = true := fun x hx => by
            obtain ⟨j, hj, rfl⟩ := List.mem_iff_getElem.1 hx
            exact HOK.out j hj hj
          have HT1 := Lib.hid (show Calls Tryd.prog 54 #[.slice a r.length cap] wr fun e w' => e = .returned (.tuple #[.string (strB (txtS r)), .int .i64 0]) ∧ Below wr.heap.size wr w' from by
            refine (wtext_any w.heap.size a cap r wr (HR.out.below (Nat.le_refl _) HBL.out) HBL.out.size hlg.1 hlg.2).mono fun e w' ⟨h1, h2⟩ => ⟨?_, h2⟩
            rw [if_neg (by omega), texts_all (fun j hj => HOK.out j hj hj)] at h1
            exact h1)
          have HT2 := Lib.hid (fun W h => wread_any (txtS r) (by have := txts_short (fun x hx => (HR.out.inn x hx).1) hrx; omega) W h)
          rw [script_text (by omega) (fun x hx => (HR.out.inn x hx).1) hrx] at HT2
          clear hrx HOK
          go_wp2_with fail
          refine HT1.out.mono ?_
          rintro e w5 ⟨rfl, hb5⟩
          have HB5 := Lib.hid (HBL.out.trans (hb5.mono HBL.out.size))
          clear hb5 HT1
          go_wp2_with fail
          refine (HT2.out w5 (HM.out.below (n := 0) HB5.out)).mono ?_
          rintro e w6 ⟨v6, r6, rfl, he6, hs6⟩
          have HB6 := Lib.hid (HB5.out.trans (hs6.bel.mono HB5.out.size))
          obtain ⟨a6, c6, rfl⟩ := hs6.form
          have HSM := Lib.hid (same_rc _ _ r r6 he6.symm (by omega) a a6 cap c6 w6 ((HR.out.below (Nat.le_refl _) HB6.out).rc) (row_rc hs6.row.1 hs6.row.2))
          clear he6 hs6 HT2
          go_wp2_with fail
          refine HSM.out.mono ?_
          rintro e w7 ⟨rfl, hb7, -⟩
          have HB7 := Lib.hid (HB6.out.trans (hb7.mono HB6.out.size))
          clear hb7 HSM
          go_wp2_with fail
          refine (alive35_any _ (HM.out.below (n := 0) HB7.out)).mono ?_
          rintro e wz ⟨rfl, hbz⟩
          have HBZ := Lib.hid ((HB7.out).trans (hbz.mono (HB7.out).size))
          clear hbz
          go_wp2_with fail
          go_ret
          exact ⟨rfl, HBZ.out⟩
theorem wback_law (a : Option Addr) (cap : Nat) (r : List (Stp × Value)) (s : ByteArray) (w : World) (hrow : RowE w.heap.size a r w) (hl : r.length ≤ maxLen) (hm : MX w) :
    Calls Tryd.prog 14 #[.slice a r.length cap, .string s] w (AliveW w) := by
  have h := wback_list a cap r s.data.toList w hrow hl hm
  rwa [show strB s.data.toList = s by simp [strB]] at h
end Go.Proofs.YtmkcooamgojbpaaDoor.Lines
