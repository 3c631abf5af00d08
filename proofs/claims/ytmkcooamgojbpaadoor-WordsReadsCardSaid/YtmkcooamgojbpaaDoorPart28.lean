/- Parts of the proof: RGuess2, RGuess3, RWParse, RWRead, WReadsW. -/
import Derived.Test.YtmkcooamgojbpaaDoorPart27
import Derived.WalkMore
import Derived.IntWalk
import Derived.Deep.RegionHeld3
import Derived.Deep.DrawnRows
import Derived.Test.YtmkcooamgojbpaaDoorPart21
import Derived.Test.YtmkcooamgojbpaaDoorPart7
import Derived.Test.YtmkcooamgojbpaaDoorPart25
import Derived.Test.YtmkcooamgojbpaaDoorPart20

/- damperref35.guess, of commands. -/
namespace Go.Proofs.YtmkcooamgojbpaaDoor.Lines
open Go.RowKit Go.Proofs.YtmkcooamgojbpaaDoor.Kit Go.Proofs.YtmkcooamgojbpaaDoor.Blk Go.Proofs.YtmkcooamgojbpaaDoor.Dec Go.Proofs.YtmkcooamgojbpaaDoor.Words Go.Proofs.YtmkcooamgojbpaaDoor.Octets Go.Proofs.YtmkcooamgojbpaaDoor.Steps Go.Proofs.YtmkcooamgojbpaaDoor.Cmds
attribute [local go_sem ↓] Go.wp_at_zero Go.wp_at_succ
set_option linter.unusedVariables false

theorem ofG_yes {c : Cmd} (h : rightC c = true) : ofG c = ⟨1, 0, 0, formC c⟩ := by unfold ofG; rw [if_pos h]
theorem ofG_no {c : Cmd} (h : rightC c = false) : ofG c = ⟨0, 0, 0, []⟩ := by unfold ofG; rw [if_neg (by rw [h]; decide)]
theorem form_pos (c : Cmd) : 0 < (formC c).length := by unfold formC; simp
set_option maxRecDepth 20000 in
set_option maxHeartbeats 4000000 in
theorem guess_cancel (b cp : Nat) (t : Tok) (ht : t = tCancel) (l : List Tok) (hl : ∀ x ∈ t :: l, x.length ≤ 100000) (hcp : l.length + 1 ≤ cp) (w : World) (hb : b < w.heap.size) (hrow : ∀ j, (h : j < (t :: l).length) → w.cell? ⟨b, j, none⟩ = some (.string (strB (t :: l)[j]))) :
    Calls Tryd.prog 81 #[.slice (some ⟨b, 0, none⟩) (l.length + 1) cp] w (StepAns (guessF (t :: l)) w) := by
  have HE := Lib.hid (show guessF (t :: l) = ofG (cmdG (t :: l) 2) from by unfold guessF; rw [if_neg (show ¬ ((t :: l)[0]?).getD [] = tTick from by rw [show ((t :: l)[0]?).getD [] = t from rfl, ht]; decide), if_neg (show ¬ ((t :: l)[0]?).getD [] = tIndex from by rw [show ((t :: l)[0]?).getD [] = t from rfl, ht]; decide), if_neg (show ¬ ((t :: l)[0]?).getD [] = tBid from by rw [show ((t :: l)[0]?).getD [] = t from rfl, ht]; decide), if_neg (show ¬ ((t :: l)[0]?).getD [] = tRaw from by rw [show ((t :: l)[0]?).getD [] = t from rfl, ht]; decide), if_pos (show ((t :: l)[0]?).getD [] = tCancel from ht)])
  have k1 : ((strB t).toList == [116, 105, 99, 107]) = decide (t = tTick) := tok_eq t _
  have k2 : ((strB t).toList == [105, 110, 100, 101, 120]) = decide (t = tIndex) := tok_eq t _
  have k3 : ((strB t).toList == [98, 105, 100]) = decide (t = tBid) := tok_eq t _
  have k4 : ((strB t).toList == [114, 97, 119]) = decide (t = tRaw) := tok_eq t _
  have k5 : ((strB t).toList == [99, 97, 110, 99, 101, 108]) = decide (t = tCancel) := tok_eq t _
  have k6 : ((strB t).toList == [114, 101, 112, 108, 97, 99, 101]) = decide (t = tReplace) := tok_eq t _
  have k7 : ((strB t).toList == [110, 101, 119]) = decide (t = tNew) := tok_eq t _
  rw [decide_eq_false (show ¬ t = tTick from by rw [ht]; decide)] at k1
  rw [decide_eq_false (show ¬ t = tIndex from by rw [ht]; decide)] at k2
  rw [decide_eq_false (show ¬ t = tBid from by rw [ht]; decide)] at k3
  rw [decide_eq_false (show ¬ t = tRaw from by rw [ht]; decide)] at k4
  rw [decide_eq_true ht] at k5
  rw [decide_eq_false (show ¬ t = tReplace from by rw [ht]; decide)] at k6
  rw [decide_eq_false (show ¬ t = tNew from by rw [ht]; decide)] at k7
  clear ht
  have HZ0 := Lib.hid (Blk.new w (stepC 0 0 0 (.slice none 0 0)) 42 w.heap.size rfl)
  have HSR := Lib.hid ((show StrRow (.slice (some ⟨b, 0, none⟩) (l.length + 1) cp) (t :: l) w from .inr ⟨by simp, b, cp, rfl, by simpa using hcp, hb, hrow⟩).below ((Below.refl w.heap.size w).alloc (Nat.le_refl _) (.cells (stepC 0 0 0 (.slice none 0 0)) 42)))
  have HROW := Lib.hid hrow
  have HN := Lib.hid (fun j hj v W h => rnum_any v (t :: l) hl j hj W h)
  have HL := Lib.hid hl
  clear hrow hl
  go_enter Tryd.func81, Tryd.ntmps81
  go_wp2_with fail
  refine (HN.out 1 (by omega) _ _ HSR.out).mono ?_
  rintro e w1 ⟨rfl, hb1⟩
  replace HSR := Lib.hid (HSR.out.below hb1)
  replace HZ0 := Lib.hid (HZ0.out.below hb1 (by simp))
  have HB1 := Lib.hid (((Below.refl w.heap.size w).alloc (Nat.le_refl _) (.cells (stepC 0 0 0 (.slice none 0 0)) 42)).trans (hb1.mono (by simp)))
  clear hb1
  go_wp2_with fail
  refine (HN.out 2 (by omega) _ _ HSR.out).mono ?_
  rintro e w2 ⟨rfl, hb2⟩
  have hsz : w.heap.size < w2.heap.size := Nat.lt_of_lt_of_le HZ0.out.lt hb2.size
  have HG := Lib.hid (show GS w w2.heap.size b (t :: l) ⟨0, nAt (t :: l) 1, nAt (t :: l) 2, 0, 0, 0, 0, 0, 0⟩ (w2.alloc (.cells (Cmd.cells ⟨0, nAt (t :: l) 1, nAt (t :: l) 2, 0, 0, 0, 0, 0, 0⟩) 164)) from ⟨(HZ0.out.below hb2 HZ0.out.lt).old _, Blk.new _ _ _ _ rfl, (HB1.out.trans (hb2.mono HB1.out.size)).alloc (by omega) _, fun j hj => by
    have hx := ((HB1.out.trans (hb2.mono HB1.out.size)).alloc (by omega) (.cells (Cmd.cells ⟨0, nAt (t :: l) 1, nAt (t :: l) 2, 0, 0, 0, 0, 0, 0⟩) 164)).cell (p := ⟨b, j, none⟩) (by show b < _; omega)
    rw [hx]; exact HROW.out j hj, hb, hsz⟩)
  clear hb2 HZ0 HB1 HSR
  go_upto_region 2 with fail
  change Code.wp _ _ _ _ (w2.alloc (.cells (Cmd.cells ⟨0, nAt (t :: l) 1, nAt (t :: l) 2, 0, 0, 0, 0, 0, 0⟩) 164))
  generalize w2.alloc (.cells (Cmd.cells ⟨0, nAt (t :: l) 1, nAt (t :: l) 2, 0, 0, 0, 0, 0, 0⟩) 164) = w3 at HG ⊢
  generalize w2.heap.size = C at HG hsz ⊢
  have c0 : w3.cell? ⟨b, 0, none⟩ = some (.string (strB t)) := HG.out.row 0 (by simp)
  generalize strB t = T at c0 k1 k2 k3 k4 k5 k6 k7
  have k0 : w3.cell? ⟨C, 0, none⟩ = some (.int .i64 (0)) := HG.out.c.cell 0 rfl
  have f0 := HG.out.c.free 0
  have HG2 := Lib.hid (HG.out.store (c' := ⟨2, nAt (t :: l) 1, nAt (t :: l) 2, 0, 0, 0, 0, 0, 0⟩) 0 (.int .i64 (2)) rfl)
  go_upto_region 35 with fail
  change Code.wp _ _ _ _ (w3.setCell ⟨C, 0, none⟩ (.int .i64 (2)))
  generalize w3.setCell ⟨C, 0, none⟩ (.int .i64 (2)) = w4 at HG2 ⊢
  clear k0 f0 HG
  have HG := HG2
  clear HG2
  have HOF := Lib.hid (rof_any (Cmd.mk 2 (nAt (t :: l) 1) (nAt (t :: l) 2) 0 0 0 0 0 0) w4 (by first | exact (nAt_in _ _).1 | exact (show (-9223372036854775808 : Int) ≤ 0 by decide)) (by first | exact (nAt_in _ _).2 | exact (show (0 : Int) ≤ 9223372036854775807 by decide)) (by first | exact (nAt_in _ _).1 | exact (show (-9223372036854775808 : Int) ≤ 0 by decide)) (by first | exact (nAt_in _ _).2 | exact (show (0 : Int) ≤ 9223372036854775807 by decide)))
  have hs7 := HG.out.bel.size
  go_wp2_with (refine load_blk (by rfl) 164 _ (by rfl) C (by rfl) _ _ HG.out.c _ Tryd.underlying164 rfl (by kernel_rfl) ?_)
  refine HOF.out.mono ?_
  rintro e w8 (⟨hr, v, rfl, ho, hb8⟩ | ⟨hr, rfl, hb8⟩)
  · have HE2 := Lib.hid (show guessF (t :: l) = ⟨1, 0, 0, formC (Cmd.mk 2 (nAt (t :: l) 1) (nAt (t :: l) 2) 0 0 0 0 0 0)⟩ from HE.out.trans (ofG_yes hr))
    replace HG := Lib.hid (HG.out.below hb8)
    have hop := own_mono ho hs7
    obtain ⟨va, vc, rfl, -, -⟩ := World.ownsRow.form ho (form_pos _)
    have HY := Lib.hid (bytes_alloc (show BytesOf w.heap.size (formC (Cmd.mk 2 (nAt (t :: l) 1) (nAt (t :: l) 2) 0 0 0 0 0 0)) _ w8 from .inr ⟨form_pos _, hop⟩) (.cells (stepC 1 0 0 (.slice (some ⟨va, 0, none⟩) (formC (Cmd.mk 2 (nAt (t :: l) 1) (nAt (t :: l) 2) 0 0 0 0 0 0)).length vc)) 42))
    clear hr ho hb8 hop HOF HE
    generalize (formC (Cmd.mk 2 (nAt (t :: l) 1) (nAt (t :: l) 2) 0 0 0 0 0 0)).length = vn at HY ⊢
    have hX : w.heap.size < w8.heap.size := HG.out.z.lt
    have HX := Lib.hid (Blk.new w8 (stepC 1 0 0 (.slice (some ⟨va, 0, none⟩) vn vc)) 42 w8.heap.size rfl)
    replace HG := Lib.hid (HG.out.below ((Below.refl w8.heap.size w8).alloc (Nat.le_refl _) (.cells (stepC 1 0 0 (.slice (some ⟨va, 0, none⟩) vn vc)) 42)))
    have HZ := Lib.hid HG.out.z
    have HB := Lib.hid HG.out.bel
    unfold stepC
    go_upto_region 36 with fail
    change Code.wp _ _ _ _ (w8.alloc (.cells (stepC 1 0 0 (.slice (some ⟨va, 0, none⟩) vn vc)) 42))
    generalize w8.alloc (.cells (stepC 1 0 0 (.slice (some ⟨va, 0, none⟩) vn vc)) 42) = w9 at HX HZ HB HY ⊢
    clear HG
    generalize w8.heap.size = X at HX hX ⊢
    go_wp2_with (first
      | (refine load_blk (by rfl) 42 _ (by rfl) X (by rfl) _ _ HX.out _ Tryd.underlying42 rfl (by kernel_rfl) ?_)
      | (refine store_blk (by rfl) 42 _ _ (by rfl) w.heap.size (by rfl) _ (stepC 1 0 0 (.slice (some ⟨va, 0, none⟩) vn vc)) 42 HZ.out (by rfl) rfl (by kernel_rfl) (one_stp _ _ _ _ _ _) ?_))
    refine bodyPost_ret (results_cell_row rfl _ _ _ _ _ (0, 0) _ rfl (HZ.out.setCells (stepC 1 0 0 (.slice (some ⟨va, 0, none⟩) vn vc)) rfl) Tryd.underlying42 rfl (by kernel_rfl)) rfl ?_
    exact ⟨_, by rw [HE2.out], by rw [HE2.out]; exact bytes_cells _ _ _ _ HY.out HZ.out, Blk.Below.setCells _ _ _ HB.out (Nat.le_refl _)⟩
  · have HE2 := Lib.hid (show guessF (t :: l) = ⟨0, 0, 0, []⟩ from HE.out.trans (ofG_no hr))
    replace HG := Lib.hid (HG.out.below hb8)
    have HY := Lib.hid (show BytesOf w.heap.size [] (.slice none 0 0) (w8.alloc (.cells (stepC 0 0 0 (.slice none 0 0)) 42)) from .inl ⟨rfl, rfl⟩)
    clear hr hb8 HOF HE
    have hX : w.heap.size < w8.heap.size := HG.out.z.lt
    have HX := Lib.hid (Blk.new w8 (stepC 0 0 0 (.slice none 0 0)) 42 w8.heap.size rfl)
    replace HG := Lib.hid (HG.out.below ((Below.refl w8.heap.size w8).alloc (Nat.le_refl _) (.cells (stepC 0 0 0 (.slice none 0 0)) 42)))
    have HZ := Lib.hid HG.out.z
    have HB := Lib.hid HG.out.bel
    unfold stepC
    go_upto_region 36 with fail
    change Code.wp _ _ _ _ (w8.alloc (.cells (stepC 0 0 0 (.slice none 0 0)) 42))
    generalize w8.alloc (.cells (stepC 0 0 0 (.slice none 0 0)) 42) = w9 at HX HZ HB HY ⊢
    clear HG
    generalize w8.heap.size = X at HX hX ⊢
    go_wp2_with (first
      | (refine load_blk (by rfl) 42 _ (by rfl) X (by rfl) _ _ HX.out _ Tryd.underlying42 rfl (by kernel_rfl) ?_)
      | (refine store_blk (by rfl) 42 _ _ (by rfl) w.heap.size (by rfl) _ (stepC 0 0 0 (.slice none 0 0)) 42 HZ.out (by rfl) rfl (by kernel_rfl) (one_stp _ _ _ _ _ _) ?_))
    refine bodyPost_ret (results_cell_row rfl _ _ _ _ _ (0, 0) _ rfl (HZ.out.setCells (stepC 0 0 0 (.slice none 0 0)) rfl) Tryd.underlying42 rfl (by kernel_rfl)) rfl ?_
    exact ⟨_, by rw [HE2.out], by rw [HE2.out]; exact bytes_cells _ _ _ _ HY.out HZ.out, Blk.Below.setCells _ _ _ HB.out (Nat.le_refl _)⟩
set_option maxRecDepth 20000 in
set_option maxHeartbeats 4000000 in
theorem guess_other (b cp : Nat) (t : Tok) (h1 : t ≠ tTick) (h2 : t ≠ tIndex) (h3 : t ≠ tBid) (h4 : t ≠ tRaw) (h5 : t ≠ tCancel) (h6 : t ≠ tReplace) (h7 : t ≠ tNew) (l : List Tok) (hl : ∀ x ∈ t :: l, x.length ≤ 100000) (hcp : l.length + 1 ≤ cp) (w : World) (hb : b < w.heap.size) (hrow : ∀ j, (h : j < (t :: l).length) → w.cell? ⟨b, j, none⟩ = some (.string (strB (t :: l)[j]))) :
    Calls Tryd.prog 81 #[.slice (some ⟨b, 0, none⟩) (l.length + 1) cp] w (StepAns (guessF (t :: l)) w) := by
  have k1 : ((strB t).toList == [116, 105, 99, 107]) = decide (t = tTick) := tok_eq t _
  have k2 : ((strB t).toList == [105, 110, 100, 101, 120]) = decide (t = tIndex) := tok_eq t _
  have k3 : ((strB t).toList == [98, 105, 100]) = decide (t = tBid) := tok_eq t _
  have k4 : ((strB t).toList == [114, 97, 119]) = decide (t = tRaw) := tok_eq t _
  have k5 : ((strB t).toList == [99, 97, 110, 99, 101, 108]) = decide (t = tCancel) := tok_eq t _
  have k6 : ((strB t).toList == [114, 101, 112, 108, 97, 99, 101]) = decide (t = tReplace) := tok_eq t _
  have k7 : ((strB t).toList == [110, 101, 119]) = decide (t = tNew) := tok_eq t _
  rw [decide_eq_false (show ¬ t = tTick from h1)] at k1
  rw [decide_eq_false (show ¬ t = tIndex from h2)] at k2
  rw [decide_eq_false (show ¬ t = tBid from h3)] at k3
  rw [decide_eq_false (show ¬ t = tRaw from h4)] at k4
  rw [decide_eq_false (show ¬ t = tCancel from h5)] at k5
  rw [decide_eq_false (show ¬ t = tReplace from h6)] at k6
  rw [decide_eq_false (show ¬ t = tNew from h7)] at k7
  have HZ0 := Lib.hid (Blk.new w (stepC 0 0 0 (.slice none 0 0)) 42 w.heap.size rfl)
  have HSR := Lib.hid ((show StrRow (.slice (some ⟨b, 0, none⟩) (l.length + 1) cp) (t :: l) w from .inr ⟨by simp, b, cp, rfl, by simpa using hcp, hb, hrow⟩).below ((Below.refl w.heap.size w).alloc (Nat.le_refl _) (.cells (stepC 0 0 0 (.slice none 0 0)) 42)))
  have HROW := Lib.hid hrow
  have HN := Lib.hid (fun j hj v W h => rnum_any v (t :: l) hl j hj W h)
  have HL := Lib.hid hl
  clear hrow hl
  go_enter Tryd.func81, Tryd.ntmps81
  go_wp2_with fail
  refine (HN.out 1 (by omega) _ _ HSR.out).mono ?_
  rintro e w1 ⟨rfl, hb1⟩
  replace HSR := Lib.hid (HSR.out.below hb1)
  replace HZ0 := Lib.hid (HZ0.out.below hb1 (by simp))
  have HB1 := Lib.hid (((Below.refl w.heap.size w).alloc (Nat.le_refl _) (.cells (stepC 0 0 0 (.slice none 0 0)) 42)).trans (hb1.mono (by simp)))
  clear hb1
  go_wp2_with fail
  refine (HN.out 2 (by omega) _ _ HSR.out).mono ?_
  rintro e w2 ⟨rfl, hb2⟩
  have hsz : w.heap.size < w2.heap.size := Nat.lt_of_lt_of_le HZ0.out.lt hb2.size
  have HG := Lib.hid (show GS w w2.heap.size b (t :: l) ⟨0, nAt (t :: l) 1, nAt (t :: l) 2, 0, 0, 0, 0, 0, 0⟩ (w2.alloc (.cells (Cmd.cells ⟨0, nAt (t :: l) 1, nAt (t :: l) 2, 0, 0, 0, 0, 0, 0⟩) 164)) from ⟨(HZ0.out.below hb2 HZ0.out.lt).old _, Blk.new _ _ _ _ rfl, (HB1.out.trans (hb2.mono HB1.out.size)).alloc (by omega) _, fun j hj => by
    have hx := ((HB1.out.trans (hb2.mono HB1.out.size)).alloc (by omega) (.cells (Cmd.cells ⟨0, nAt (t :: l) 1, nAt (t :: l) 2, 0, 0, 0, 0, 0, 0⟩) 164)).cell (p := ⟨b, j, none⟩) (by show b < _; omega)
    rw [hx]; exact HROW.out j hj, hb, hsz⟩)
  clear hb2 HZ0 HB1 HSR
  go_upto_region 2 with fail
  change Code.wp _ _ _ _ (w2.alloc (.cells (Cmd.cells ⟨0, nAt (t :: l) 1, nAt (t :: l) 2, 0, 0, 0, 0, 0, 0⟩) 164))
  generalize w2.alloc (.cells (Cmd.cells ⟨0, nAt (t :: l) 1, nAt (t :: l) 2, 0, 0, 0, 0, 0, 0⟩) 164) = w3 at HG ⊢
  generalize w2.heap.size = C at HG hsz ⊢
  have c0 : w3.cell? ⟨b, 0, none⟩ = some (.string (strB t)) := HG.out.row 0 (by simp)
  generalize strB t = T at c0 k1 k2 k3 k4 k5 k6 k7
  have HE := Lib.hid (show guessF (t :: l) = ofG (cmdG (t :: l) 0) from by unfold guessF; rw [if_neg (show ¬ ((t :: l)[0]?).getD [] = tTick from h1), if_neg (show ¬ ((t :: l)[0]?).getD [] = tIndex from h2), if_neg (show ¬ ((t :: l)[0]?).getD [] = tBid from h3), if_neg (show ¬ ((t :: l)[0]?).getD [] = tRaw from h4), if_neg (show ¬ ((t :: l)[0]?).getD [] = tCancel from h5), if_neg (show ¬ ((t :: l)[0]?).getD [] = tReplace from h6), if_neg (show ¬ ((t :: l)[0]?).getD [] = tNew from h7)])
  have HOF := Lib.hid (rof_any (Cmd.mk 0 (nAt (t :: l) 1) (nAt (t :: l) 2) 0 0 0 0 0 0) w3 (by first | exact (nAt_in _ _).1 | exact (show (-9223372036854775808 : Int) ≤ 0 by decide)) (by first | exact (nAt_in _ _).2 | exact (show (0 : Int) ≤ 9223372036854775807 by decide)) (by first | exact (nAt_in _ _).1 | exact (show (-9223372036854775808 : Int) ≤ 0 by decide)) (by first | exact (nAt_in _ _).2 | exact (show (0 : Int) ≤ 9223372036854775807 by decide)))
  have hs7 := HG.out.bel.size
  go_wp2_with (refine load_blk (by rfl) 164 _ (by rfl) C (by rfl) _ _ HG.out.c _ Tryd.underlying164 rfl (by kernel_rfl) ?_)
  refine HOF.out.mono ?_
  rintro e w8 (⟨hr, v, rfl, ho, hb8⟩ | ⟨hr, rfl, hb8⟩)
  · have HE2 := Lib.hid (show guessF (t :: l) = ⟨1, 0, 0, formC (Cmd.mk 0 (nAt (t :: l) 1) (nAt (t :: l) 2) 0 0 0 0 0 0)⟩ from HE.out.trans (ofG_yes hr))
    replace HG := Lib.hid (HG.out.below hb8)
    have hop := own_mono ho hs7
    obtain ⟨va, vc, rfl, -, -⟩ := World.ownsRow.form ho (form_pos _)
    have HY := Lib.hid (bytes_alloc (show BytesOf w.heap.size (formC (Cmd.mk 0 (nAt (t :: l) 1) (nAt (t :: l) 2) 0 0 0 0 0 0)) _ w8 from .inr ⟨form_pos _, hop⟩) (.cells (stepC 1 0 0 (.slice (some ⟨va, 0, none⟩) (formC (Cmd.mk 0 (nAt (t :: l) 1) (nAt (t :: l) 2) 0 0 0 0 0 0)).length vc)) 42))
    clear hr ho hb8 hop HOF HE
    generalize (formC (Cmd.mk 0 (nAt (t :: l) 1) (nAt (t :: l) 2) 0 0 0 0 0 0)).length = vn at HY ⊢
    have hX : w.heap.size < w8.heap.size := HG.out.z.lt
    have HX := Lib.hid (Blk.new w8 (stepC 1 0 0 (.slice (some ⟨va, 0, none⟩) vn vc)) 42 w8.heap.size rfl)
    replace HG := Lib.hid (HG.out.below ((Below.refl w8.heap.size w8).alloc (Nat.le_refl _) (.cells (stepC 1 0 0 (.slice (some ⟨va, 0, none⟩) vn vc)) 42)))
    have HZ := Lib.hid HG.out.z
    have HB := Lib.hid HG.out.bel
    unfold stepC
    go_upto_region 36 with fail
    change Code.wp _ _ _ _ (w8.alloc (.cells (stepC 1 0 0 (.slice (some ⟨va, 0, none⟩) vn vc)) 42))
    generalize w8.alloc (.cells (stepC 1 0 0 (.slice (some ⟨va, 0, none⟩) vn vc)) 42) = w9 at HX HZ HB HY ⊢
    clear HG
    generalize w8.heap.size = X at HX hX ⊢
    go_wp2_with (first
      | (refine load_blk (by rfl) 42 _ (by rfl) X (by rfl) _ _ HX.out _ Tryd.underlying42 rfl (by kernel_rfl) ?_)
      | (refine store_blk (by rfl) 42 _ _ (by rfl) w.heap.size (by rfl) _ (stepC 1 0 0 (.slice (some ⟨va, 0, none⟩) vn vc)) 42 HZ.out (by rfl) rfl (by kernel_rfl) (one_stp _ _ _ _ _ _) ?_))
    refine bodyPost_ret (results_cell_row rfl _ _ _ _ _ (0, 0) _ rfl (HZ.out.setCells (stepC 1 0 0 (.slice (some ⟨va, 0, none⟩) vn vc)) rfl) Tryd.underlying42 rfl (by kernel_rfl)) rfl ?_
    exact ⟨_, by rw [HE2.out], by rw [HE2.out]; exact bytes_cells _ _ _ _ HY.out HZ.out, Blk.Below.setCells _ _ _ HB.out (Nat.le_refl _)⟩
  · have HE2 := Lib.hid (show guessF (t :: l) = ⟨0, 0, 0, []⟩ from HE.out.trans (ofG_no hr))
    replace HG := Lib.hid (HG.out.below hb8)
    have HY := Lib.hid (show BytesOf w.heap.size [] (.slice none 0 0) (w8.alloc (.cells (stepC 0 0 0 (.slice none 0 0)) 42)) from .inl ⟨rfl, rfl⟩)
    clear hr hb8 HOF HE
    have hX : w.heap.size < w8.heap.size := HG.out.z.lt
    have HX := Lib.hid (Blk.new w8 (stepC 0 0 0 (.slice none 0 0)) 42 w8.heap.size rfl)
    replace HG := Lib.hid (HG.out.below ((Below.refl w8.heap.size w8).alloc (Nat.le_refl _) (.cells (stepC 0 0 0 (.slice none 0 0)) 42)))
    have HZ := Lib.hid HG.out.z
    have HB := Lib.hid HG.out.bel
    unfold stepC
    go_upto_region 36 with fail
    change Code.wp _ _ _ _ (w8.alloc (.cells (stepC 0 0 0 (.slice none 0 0)) 42))
    generalize w8.alloc (.cells (stepC 0 0 0 (.slice none 0 0)) 42) = w9 at HX HZ HB HY ⊢
    clear HG
    generalize w8.heap.size = X at HX hX ⊢
    go_wp2_with (first
      | (refine load_blk (by rfl) 42 _ (by rfl) X (by rfl) _ _ HX.out _ Tryd.underlying42 rfl (by kernel_rfl) ?_)
      | (refine store_blk (by rfl) 42 _ _ (by rfl) w.heap.size (by rfl) _ (stepC 0 0 0 (.slice none 0 0)) 42 HZ.out (by rfl) rfl (by kernel_rfl) (one_stp _ _ _ _ _ _) ?_))
    refine bodyPost_ret (results_cell_row rfl _ _ _ _ _ (0, 0) _ rfl (HZ.out.setCells (stepC 0 0 0 (.slice none 0 0)) rfl) Tryd.underlying42 rfl (by kernel_rfl)) rfl ?_
    exact ⟨_, by rw [HE2.out], by rw [HE2.out]; exact bytes_cells _ _ _ _ HY.out HZ.out, Blk.Below.setCells _ _ _ HB.out (Nat.le_refl _)⟩
set_option maxRecDepth 20000 in
set_option maxHeartbeats 4000000 in
theorem guess_replace (b cp : Nat) (t : Tok) (ht : t = tReplace) (l : List Tok) (hl : ∀ x ∈ t :: l, x.length ≤ 100000) (hcp : l.length + 1 ≤ cp) (w : World) (hb : b < w.heap.size) (hrow : ∀ j, (h : j < (t :: l).length) → w.cell? ⟨b, j, none⟩ = some (.string (strB (t :: l)[j]))) :
    Calls Tryd.prog 81 #[.slice (some ⟨b, 0, none⟩) (l.length + 1) cp] w (StepAns (guessF (t :: l)) w) := by
  have HE := Lib.hid (show guessF (t :: l) = ofG (cmdG (t :: l) 3) from by unfold guessF; rw [if_neg (show ¬ ((t :: l)[0]?).getD [] = tTick from by rw [show ((t :: l)[0]?).getD [] = t from rfl, ht]; decide), if_neg (show ¬ ((t :: l)[0]?).getD [] = tIndex from by rw [show ((t :: l)[0]?).getD [] = t from rfl, ht]; decide), if_neg (show ¬ ((t :: l)[0]?).getD [] = tBid from by rw [show ((t :: l)[0]?).getD [] = t from rfl, ht]; decide), if_neg (show ¬ ((t :: l)[0]?).getD [] = tRaw from by rw [show ((t :: l)[0]?).getD [] = t from rfl, ht]; decide), if_neg (show ¬ ((t :: l)[0]?).getD [] = tCancel from by rw [show ((t :: l)[0]?).getD [] = t from rfl, ht]; decide), if_pos (show ((t :: l)[0]?).getD [] = tReplace from ht)])
  have k1 : ((strB t).toList == [116, 105, 99, 107]) = decide (t = tTick) := tok_eq t _
  have k2 : ((strB t).toList == [105, 110, 100, 101, 120]) = decide (t = tIndex) := tok_eq t _
  have k3 : ((strB t).toList == [98, 105, 100]) = decide (t = tBid) := tok_eq t _
  have k4 : ((strB t).toList == [114, 97, 119]) = decide (t = tRaw) := tok_eq t _
  have k5 : ((strB t).toList == [99, 97, 110, 99, 101, 108]) = decide (t = tCancel) := tok_eq t _
  have k6 : ((strB t).toList == [114, 101, 112, 108, 97, 99, 101]) = decide (t = tReplace) := tok_eq t _
  have k7 : ((strB t).toList == [110, 101, 119]) = decide (t = tNew) := tok_eq t _
  rw [decide_eq_false (show ¬ t = tTick from by rw [ht]; decide)] at k1
  rw [decide_eq_false (show ¬ t = tIndex from by rw [ht]; decide)] at k2
  rw [decide_eq_false (show ¬ t = tBid from by rw [ht]; decide)] at k3
  rw [decide_eq_false (show ¬ t = tRaw from by rw [ht]; decide)] at k4
  rw [decide_eq_false (show ¬ t = tCancel from by rw [ht]; decide)] at k5
  rw [decide_eq_true ht] at k6
  rw [decide_eq_false (show ¬ t = tNew from by rw [ht]; decide)] at k7
  clear ht
  have HZ0 := Lib.hid (Blk.new w (stepC 0 0 0 (.slice none 0 0)) 42 w.heap.size rfl)
  have HSR := Lib.hid ((show StrRow (.slice (some ⟨b, 0, none⟩) (l.length + 1) cp) (t :: l) w from .inr ⟨by simp, b, cp, rfl, by simpa using hcp, hb, hrow⟩).below ((Below.refl w.heap.size w).alloc (Nat.le_refl _) (.cells (stepC 0 0 0 (.slice none 0 0)) 42)))
  have HROW := Lib.hid hrow
  have HN := Lib.hid (fun j hj v W h => rnum_any v (t :: l) hl j hj W h)
  have HL := Lib.hid hl
  clear hrow hl
  go_enter Tryd.func81, Tryd.ntmps81
  go_wp2_with fail
  refine (HN.out 1 (by omega) _ _ HSR.out).mono ?_
  rintro e w1 ⟨rfl, hb1⟩
  replace HSR := Lib.hid (HSR.out.below hb1)
  replace HZ0 := Lib.hid (HZ0.out.below hb1 (by simp))
  have HB1 := Lib.hid (((Below.refl w.heap.size w).alloc (Nat.le_refl _) (.cells (stepC 0 0 0 (.slice none 0 0)) 42)).trans (hb1.mono (by simp)))
  clear hb1
  go_wp2_with fail
  refine (HN.out 2 (by omega) _ _ HSR.out).mono ?_
  rintro e w2 ⟨rfl, hb2⟩
  have hsz : w.heap.size < w2.heap.size := Nat.lt_of_lt_of_le HZ0.out.lt hb2.size
  have HG := Lib.hid (show GS w w2.heap.size b (t :: l) ⟨0, nAt (t :: l) 1, nAt (t :: l) 2, 0, 0, 0, 0, 0, 0⟩ (w2.alloc (.cells (Cmd.cells ⟨0, nAt (t :: l) 1, nAt (t :: l) 2, 0, 0, 0, 0, 0, 0⟩) 164)) from ⟨(HZ0.out.below hb2 HZ0.out.lt).old _, Blk.new _ _ _ _ rfl, (HB1.out.trans (hb2.mono HB1.out.size)).alloc (by omega) _, fun j hj => by
    have hx := ((HB1.out.trans (hb2.mono HB1.out.size)).alloc (by omega) (.cells (Cmd.cells ⟨0, nAt (t :: l) 1, nAt (t :: l) 2, 0, 0, 0, 0, 0, 0⟩) 164)).cell (p := ⟨b, j, none⟩) (by show b < _; omega)
    rw [hx]; exact HROW.out j hj, hb, hsz⟩)
  clear hb2 HZ0 HB1 HSR
  go_upto_region 2 with fail
  change Code.wp _ _ _ _ (w2.alloc (.cells (Cmd.cells ⟨0, nAt (t :: l) 1, nAt (t :: l) 2, 0, 0, 0, 0, 0, 0⟩) 164))
  generalize w2.alloc (.cells (Cmd.cells ⟨0, nAt (t :: l) 1, nAt (t :: l) 2, 0, 0, 0, 0, 0, 0⟩) 164) = w3 at HG ⊢
  generalize w2.heap.size = C at HG hsz ⊢
  have c0 : w3.cell? ⟨b, 0, none⟩ = some (.string (strB t)) := HG.out.row 0 (by simp)
  generalize strB t = T at c0 k1 k2 k3 k4 k5 k6 k7
  have k0 : w3.cell? ⟨C, 0, none⟩ = some (.int .i64 (0)) := HG.out.c.cell 0 rfl
  have f0 := HG.out.c.free 0
  have HG2 := Lib.hid (HG.out.store (c' := ⟨3, nAt (t :: l) 1, nAt (t :: l) 2, 0, 0, 0, 0, 0, 0⟩) 0 (.int .i64 (3)) rfl)
  go_upto_region 18 with fail
  change Code.wp _ _ _ _ (w3.setCell ⟨C, 0, none⟩ (.int .i64 (3)))
  generalize w3.setCell ⟨C, 0, none⟩ (.int .i64 (3)) = w4 at HG2 ⊢
  clear k0 f0 HG
  have HG := HG2
  clear HG2
  go_wp2_with fail
  refine (HN.out 3 (by omega) _ _ (HG.out.strRow (by simp) hcp)).mono ?_
  rintro e w5 ⟨rfl, hb⟩
  replace HG := Lib.hid (HG.out.below hb)
  clear hb
  have k6 : w5.cell? ⟨C, 6, none⟩ = some (.int .i64 (0)) := HG.out.c.cell 6 rfl
  have f6 := HG.out.c.free 6
  have HG2 := Lib.hid (HG.out.store (c' := ⟨3, nAt (t :: l) 1, nAt (t :: l) 2, 0, 0, 0, nAt (t :: l) 3, 0, 0⟩) 6 (.int .i64 (nAt (t :: l) 3)) rfl)
  go_upto_region 19 with fail
  change Code.wp _ _ _ _ (w5.setCell ⟨C, 6, none⟩ (.int .i64 (nAt (t :: l) 3)))
  generalize w5.setCell ⟨C, 6, none⟩ (.int .i64 (nAt (t :: l) 3)) = w6 at HG2 ⊢
  clear k6 f6 HG
  have HG := HG2
  clear HG2
  go_wp2_with fail
  refine (HN.out 4 (by omega) _ _ (HG.out.strRow (by simp) hcp)).mono ?_
  rintro e w7 ⟨rfl, hb⟩
  replace HG := Lib.hid (HG.out.below hb)
  clear hb
  have k7 : w7.cell? ⟨C, 7, none⟩ = some (.int .i64 (0)) := HG.out.c.cell 7 rfl
  have f7 := HG.out.c.free 7
  have HG2 := Lib.hid (HG.out.store (c' := ⟨3, nAt (t :: l) 1, nAt (t :: l) 2, 0, 0, 0, nAt (t :: l) 3, nAt (t :: l) 4, 0⟩) 7 (.int .i64 (nAt (t :: l) 4)) rfl)
  go_upto_region 35 with fail
  change Code.wp _ _ _ _ (w7.setCell ⟨C, 7, none⟩ (.int .i64 (nAt (t :: l) 4)))
  generalize w7.setCell ⟨C, 7, none⟩ (.int .i64 (nAt (t :: l) 4)) = w7' at HG2 ⊢
  clear k7 f7 HG
  have HG := HG2
  clear HG2
  have HOF := Lib.hid (rof_any (Cmd.mk 3 (nAt (t :: l) 1) (nAt (t :: l) 2) 0 0 0 (nAt (t :: l) 3) (nAt (t :: l) 4) 0) w7' (by first | exact (nAt_in _ _).1 | exact (show (-9223372036854775808 : Int) ≤ 0 by decide)) (by first | exact (nAt_in _ _).2 | exact (show (0 : Int) ≤ 9223372036854775807 by decide)) (by first | exact (nAt_in _ _).1 | exact (show (-9223372036854775808 : Int) ≤ 0 by decide)) (by first | exact (nAt_in _ _).2 | exact (show (0 : Int) ≤ 9223372036854775807 by decide)))
  have hs7 := HG.out.bel.size
  go_wp2_with (refine load_blk (by rfl) 164 _ (by rfl) C (by rfl) _ _ HG.out.c _ Tryd.underlying164 rfl (by kernel_rfl) ?_)
  refine HOF.out.mono ?_
  rintro e w8 (⟨hr, v, rfl, ho, hb8⟩ | ⟨hr, rfl, hb8⟩)
  · have HE2 := Lib.hid (show guessF (t :: l) = ⟨1, 0, 0, formC (Cmd.mk 3 (nAt (t :: l) 1) (nAt (t :: l) 2) 0 0 0 (nAt (t :: l) 3) (nAt (t :: l) 4) 0)⟩ from HE.out.trans (ofG_yes hr))
    replace HG := Lib.hid (HG.out.below hb8)
    have hop := own_mono ho hs7
    obtain ⟨va, vc, rfl, -, -⟩ := World.ownsRow.form ho (form_pos _)
    have HY := Lib.hid (bytes_alloc (show BytesOf w.heap.size (formC (Cmd.mk 3 (nAt (t :: l) 1) (nAt (t :: l) 2) 0 0 0 (nAt (t :: l) 3) (nAt (t :: l) 4) 0)) _ w8 from .inr ⟨form_pos _, hop⟩) (.cells (stepC 1 0 0 (.slice (some ⟨va, 0, none⟩) (formC (Cmd.mk 3 (nAt (t :: l) 1) (nAt (t :: l) 2) 0 0 0 (nAt (t :: l) 3) (nAt (t :: l) 4) 0)).length vc)) 42))
    clear hr ho hb8 hop HOF HE
    generalize (formC (Cmd.mk 3 (nAt (t :: l) 1) (nAt (t :: l) 2) 0 0 0 (nAt (t :: l) 3) (nAt (t :: l) 4) 0)).length = vn at HY ⊢
    have hX : w.heap.size < w8.heap.size := HG.out.z.lt
    have HX := Lib.hid (Blk.new w8 (stepC 1 0 0 (.slice (some ⟨va, 0, none⟩) vn vc)) 42 w8.heap.size rfl)
    replace HG := Lib.hid (HG.out.below ((Below.refl w8.heap.size w8).alloc (Nat.le_refl _) (.cells (stepC 1 0 0 (.slice (some ⟨va, 0, none⟩) vn vc)) 42)))
    have HZ := Lib.hid HG.out.z
    have HB := Lib.hid HG.out.bel
    unfold stepC
    go_upto_region 36 with fail
    change Code.wp _ _ _ _ (w8.alloc (.cells (stepC 1 0 0 (.slice (some ⟨va, 0, none⟩) vn vc)) 42))
    generalize w8.alloc (.cells (stepC 1 0 0 (.slice (some ⟨va, 0, none⟩) vn vc)) 42) = w9 at HX HZ HB HY ⊢
    clear HG
    generalize w8.heap.size = X at HX hX ⊢
    go_wp2_with (first
      | (refine load_blk (by rfl) 42 _ (by rfl) X (by rfl) _ _ HX.out _ Tryd.underlying42 rfl (by kernel_rfl) ?_)
      | (refine store_blk (by rfl) 42 _ _ (by rfl) w.heap.size (by rfl) _ (stepC 1 0 0 (.slice (some ⟨va, 0, none⟩) vn vc)) 42 HZ.out (by rfl) rfl (by kernel_rfl) (one_stp _ _ _ _ _ _) ?_))
    refine bodyPost_ret (results_cell_row rfl _ _ _ _ _ (0, 0) _ rfl (HZ.out.setCells (stepC 1 0 0 (.slice (some ⟨va, 0, none⟩) vn vc)) rfl) Tryd.underlying42 rfl (by kernel_rfl)) rfl ?_
    exact ⟨_, by rw [HE2.out], by rw [HE2.out]; exact bytes_cells _ _ _ _ HY.out HZ.out, Blk.Below.setCells _ _ _ HB.out (Nat.le_refl _)⟩
  · have HE2 := Lib.hid (show guessF (t :: l) = ⟨0, 0, 0, []⟩ from HE.out.trans (ofG_no hr))
    replace HG := Lib.hid (HG.out.below hb8)
    have HY := Lib.hid (show BytesOf w.heap.size [] (.slice none 0 0) (w8.alloc (.cells (stepC 0 0 0 (.slice none 0 0)) 42)) from .inl ⟨rfl, rfl⟩)
    clear hr hb8 HOF HE
    have hX : w.heap.size < w8.heap.size := HG.out.z.lt
    have HX := Lib.hid (Blk.new w8 (stepC 0 0 0 (.slice none 0 0)) 42 w8.heap.size rfl)
    replace HG := Lib.hid (HG.out.below ((Below.refl w8.heap.size w8).alloc (Nat.le_refl _) (.cells (stepC 0 0 0 (.slice none 0 0)) 42)))
    have HZ := Lib.hid HG.out.z
    have HB := Lib.hid HG.out.bel
    unfold stepC
    go_upto_region 36 with fail
    change Code.wp _ _ _ _ (w8.alloc (.cells (stepC 0 0 0 (.slice none 0 0)) 42))
    generalize w8.alloc (.cells (stepC 0 0 0 (.slice none 0 0)) 42) = w9 at HX HZ HB HY ⊢
    clear HG
    generalize w8.heap.size = X at HX hX ⊢
    go_wp2_with (first
      | (refine load_blk (by rfl) 42 _ (by rfl) X (by rfl) _ _ HX.out _ Tryd.underlying42 rfl (by kernel_rfl) ?_)
      | (refine store_blk (by rfl) 42 _ _ (by rfl) w.heap.size (by rfl) _ (stepC 0 0 0 (.slice none 0 0)) 42 HZ.out (by rfl) rfl (by kernel_rfl) (one_stp _ _ _ _ _ _) ?_))
    refine bodyPost_ret (results_cell_row rfl _ _ _ _ _ (0, 0) _ rfl (HZ.out.setCells (stepC 0 0 0 (.slice none 0 0)) rfl) Tryd.underlying42 rfl (by kernel_rfl)) rfl ?_
    exact ⟨_, by rw [HE2.out], by rw [HE2.out]; exact bytes_cells _ _ _ _ HY.out HZ.out, Blk.Below.setCells _ _ _ HB.out (Nat.le_refl _)⟩
end Go.Proofs.YtmkcooamgojbpaaDoor.Lines

/- damperref35.guess, of a new order; of any words. -/
namespace Go.Proofs.YtmkcooamgojbpaaDoor.Lines
open Go.RowKit Go.Proofs.YtmkcooamgojbpaaDoor.Kit Go.Proofs.YtmkcooamgojbpaaDoor.Blk Go.Proofs.YtmkcooamgojbpaaDoor.Dec Go.Proofs.YtmkcooamgojbpaaDoor.Words Go.Proofs.YtmkcooamgojbpaaDoor.Octets Go.Proofs.YtmkcooamgojbpaaDoor.Steps Go.Proofs.YtmkcooamgojbpaaDoor.Cmds
attribute [local go_sem ↓] Go.wp_at_zero Go.wp_at_succ
set_option linter.unusedVariables false

theorem or_flag' (f k : Nat) (hf : f < 8) (hk : k < 3) : Go.bits .or .i64 (f : Int) ((2 ^ k : Nat) : Int) = ((f ||| 2 ^ k : Nat) : Int) := by
  have h : ∀ f : Fin 8, ∀ k : Fin 3, Go.bits .or .i64 ((f.1 : Nat) : Int) ((2 ^ k.1 : Nat) : Int) = ((f.1 ||| 2 ^ k.1 : Nat) : Int) := by decide +kernel
  exact h ⟨f, hf⟩ ⟨k, hk⟩
theorem flagG_lt (f : Nat) (w : Tok) (h : f < 8) : flagG f w < 8 := by
  unfold flagG
  cases e : placeF flagsD w with
  | none => exact h
  | some k =>
    have hk : k < 3 := by have := (List.getElem?_eq_some_iff.1 (place_ok e)).1; exact this
    have h2 : ∀ f : Fin 8, ∀ k : Fin 3, f.1 ||| 2 ^ k.1 < 8 := by decide
    exact h2 ⟨f, h⟩ ⟨k, hk⟩
theorem flagsG_lt : ∀ (l : List Tok) (f : Nat), f < 8 → l.foldl flagG f < 8 := by
  intro l
  induction l with
  | nil => intro f h; exact h
  | cons w l ih => intro f h; exact ih _ (flagG_lt f w h)
theorem flagsG_snoc (l : List Tok) (w : Tok) : flagsG (l ++ [w]) = flagG (flagsG l) w := by unfold flagsG; rw [List.foldl_append]; rfl
theorem GS.word {w W : World} {C b j : Nat} {ws : List Tok} {c : Cmd} {x : Tok} (h : GS w C b ws c W) (hx : ws[j]? = some x) : W.cell? ⟨b, j, none⟩ = some (.string (strB x)) := by
  obtain ⟨h1, rfl⟩ := List.getElem?_eq_some_iff.1 hx
  exact h.row j h1
theorem placeD_in (toks : List Tok) (x : Tok) : -1 ≤ placeD toks x ∧ placeD toks x < toks.length := by
  unfold placeD
  cases e : placeF toks x with
  | none => exact ⟨by decide, by show (-1 : Int) < _; omega⟩
  | some k =>
    have := (List.getElem?_eq_some_iff.1 (place_ok e)).1
    exact ⟨by show (-1 : Int) ≤ (k : Int); omega, by show (k : Int) < _; omega⟩
theorem getD_of {ws : List Tok} {j : Nat} {x : Tok} (h : ws[j]? = some x) : (ws[j]?).getD [] = x := by rw [h]; rfl
/-- What the flags add. -/
theorem flagG_cases (f : Nat) (x : Tok) : (placeD flagsD x = -1 ∧ flagG f x = f) ∨ ∃ k : Nat, k < 3 ∧ placeD flagsD x = (k : Int) ∧ flagG f x = f ||| (2 : Nat) ^ k := by
  unfold placeD flagG
  cases e : placeF flagsD x with
  | none => exact .inl ⟨rfl, rfl⟩
  | some k => exact .inr ⟨k, (List.getElem?_eq_some_iff.1 (place_ok e)).1, rfl, rfl⟩
set_option maxRecDepth 20000 in
set_option maxHeartbeats 4000000 in
theorem guess_short (b cp : Nat) (t : Tok) (ht : t = tNew) (l : List Tok) (hl : ∀ x ∈ t :: l, x.length ≤ 100000) (hlen : l.length + 1 < 8) (hcp : l.length + 1 ≤ cp) (w : World) (hb : b < w.heap.size) (hrow : ∀ j, (h : j < (t :: l).length) → w.cell? ⟨b, j, none⟩ = some (.string (strB (t :: l)[j]))) :
    Calls Tryd.prog 81 #[.slice (some ⟨b, 0, none⟩) (l.length + 1) cp] w (StepAns (guessF (t :: l)) w) := by
  have HE := Lib.hid (show guessF (t :: l) = ⟨0, 0, 0, []⟩ from by unfold guessF; rw [if_neg (show ¬ ((t :: l)[0]?).getD [] = tTick from by rw [show ((t :: l)[0]?).getD [] = t from rfl, ht]; decide), if_neg (show ¬ ((t :: l)[0]?).getD [] = tIndex from by rw [show ((t :: l)[0]?).getD [] = t from rfl, ht]; decide), if_neg (show ¬ ((t :: l)[0]?).getD [] = tBid from by rw [show ((t :: l)[0]?).getD [] = t from rfl, ht]; decide), if_neg (show ¬ ((t :: l)[0]?).getD [] = tRaw from by rw [show ((t :: l)[0]?).getD [] = t from rfl, ht]; decide), if_neg (show ¬ ((t :: l)[0]?).getD [] = tCancel from by rw [show ((t :: l)[0]?).getD [] = t from rfl, ht]; decide), if_neg (show ¬ ((t :: l)[0]?).getD [] = tReplace from by rw [show ((t :: l)[0]?).getD [] = t from rfl, ht]; decide), if_pos (show ((t :: l)[0]?).getD [] = tNew from ht), if_pos (show (t :: l).length < 8 from hlen)])
  have k1 : ((strB t).toList == [116, 105, 99, 107]) = decide (t = tTick) := tok_eq t _
  have k2 : ((strB t).toList == [105, 110, 100, 101, 120]) = decide (t = tIndex) := tok_eq t _
  have k3 : ((strB t).toList == [98, 105, 100]) = decide (t = tBid) := tok_eq t _
  have k4 : ((strB t).toList == [114, 97, 119]) = decide (t = tRaw) := tok_eq t _
  have k5 : ((strB t).toList == [99, 97, 110, 99, 101, 108]) = decide (t = tCancel) := tok_eq t _
  have k6 : ((strB t).toList == [114, 101, 112, 108, 97, 99, 101]) = decide (t = tReplace) := tok_eq t _
  have k7 : ((strB t).toList == [110, 101, 119]) = decide (t = tNew) := tok_eq t _
  rw [decide_eq_false (show ¬ t = tTick from by rw [ht]; decide)] at k1
  rw [decide_eq_false (show ¬ t = tIndex from by rw [ht]; decide)] at k2
  rw [decide_eq_false (show ¬ t = tBid from by rw [ht]; decide)] at k3
  rw [decide_eq_false (show ¬ t = tRaw from by rw [ht]; decide)] at k4
  rw [decide_eq_false (show ¬ t = tCancel from by rw [ht]; decide)] at k5
  rw [decide_eq_false (show ¬ t = tReplace from by rw [ht]; decide)] at k6
  rw [decide_eq_true ht] at k7
  clear ht
  have HZ0 := Lib.hid (Blk.new w (stepC 0 0 0 (.slice none 0 0)) 42 w.heap.size rfl)
  have HSR := Lib.hid ((show StrRow (.slice (some ⟨b, 0, none⟩) (l.length + 1) cp) (t :: l) w from .inr ⟨by simp, b, cp, rfl, by simpa using hcp, hb, hrow⟩).below ((Below.refl w.heap.size w).alloc (Nat.le_refl _) (.cells (stepC 0 0 0 (.slice none 0 0)) 42)))
  have HROW := Lib.hid hrow
  have HN := Lib.hid (fun j hj v W h => rnum_any v (t :: l) hl j hj W h)
  have HL := Lib.hid hl
  clear hrow hl
  go_enter Tryd.func81, Tryd.ntmps81
  go_wp2_with fail
  refine (HN.out 1 (by omega) _ _ HSR.out).mono ?_
  rintro e w1 ⟨rfl, hb1⟩
  replace HSR := Lib.hid (HSR.out.below hb1)
  replace HZ0 := Lib.hid (HZ0.out.below hb1 (by simp))
  have HB1 := Lib.hid (((Below.refl w.heap.size w).alloc (Nat.le_refl _) (.cells (stepC 0 0 0 (.slice none 0 0)) 42)).trans (hb1.mono (by simp)))
  clear hb1
  go_wp2_with fail
  refine (HN.out 2 (by omega) _ _ HSR.out).mono ?_
  rintro e w2 ⟨rfl, hb2⟩
  have hsz : w.heap.size < w2.heap.size := Nat.lt_of_lt_of_le HZ0.out.lt hb2.size
  have HG := Lib.hid (show GS w w2.heap.size b (t :: l) ⟨0, nAt (t :: l) 1, nAt (t :: l) 2, 0, 0, 0, 0, 0, 0⟩ (w2.alloc (.cells (Cmd.cells ⟨0, nAt (t :: l) 1, nAt (t :: l) 2, 0, 0, 0, 0, 0, 0⟩) 164)) from ⟨(HZ0.out.below hb2 HZ0.out.lt).old _, Blk.new _ _ _ _ rfl, (HB1.out.trans (hb2.mono HB1.out.size)).alloc (by omega) _, fun j hj => by
    have hx := ((HB1.out.trans (hb2.mono HB1.out.size)).alloc (by omega) (.cells (Cmd.cells ⟨0, nAt (t :: l) 1, nAt (t :: l) 2, 0, 0, 0, 0, 0, 0⟩) 164)).cell (p := ⟨b, j, none⟩) (by show b < _; omega)
    rw [hx]; exact HROW.out j hj, hb, hsz⟩)
  clear hb2 HZ0 HB1 HSR
  go_upto_region 2 with fail
  change Code.wp _ _ _ _ (w2.alloc (.cells (Cmd.cells ⟨0, nAt (t :: l) 1, nAt (t :: l) 2, 0, 0, 0, 0, 0, 0⟩) 164))
  generalize w2.alloc (.cells (Cmd.cells ⟨0, nAt (t :: l) 1, nAt (t :: l) 2, 0, 0, 0, 0, 0, 0⟩) 164) = w3 at HG ⊢
  generalize w2.heap.size = C at HG hsz ⊢
  have c0 : w3.cell? ⟨b, 0, none⟩ = some (.string (strB t)) := HG.out.row 0 (by simp)
  generalize strB t = T at c0 k1 k2 k3 k4 k5 k6 k7
  have g1 : (l.length : Int) + 1 < 8 := by omega
  go_wp2_with (refine store_blk (by rfl) 42 _ _ (by rfl) w.heap.size (by rfl) _ (stepC 0 0 0 (.slice none 0 0)) 42 (HG).out.z (by rfl) rfl (by kernel_rfl) (one_stp _ _ _ _ _ _) ?_)
  refine bodyPost_ret (results_cell_row rfl _ _ _ _ _ (0, 0) _ rfl ((HG).out.z.setCells (stepC 0 0 0 (.slice none 0 0)) rfl) Tryd.underlying42 rfl (by kernel_rfl)) rfl ?_
  exact ⟨_, by rw [HE.out], .inl ⟨by rw [HE.out], rfl⟩, Blk.Below.setCells _ _ _ (HG).out.bel (Nat.le_refl _)⟩
set_option maxRecDepth 20000 in
set_option maxHeartbeats 4000000 in
theorem guess_new (b cp : Nat) (t : Tok) (ht : t = tNew) (l : List Tok) (hl : ∀ x ∈ t :: l, x.length ≤ 100000) (hlen : ¬ l.length + 1 < 8) (hnl : l.length ≤ 100000) (hcp : l.length + 1 ≤ cp) (w : World) (hb : b < w.heap.size) (hrow : ∀ j, (h : j < (t :: l).length) → w.cell? ⟨b, j, none⟩ = some (.string (strB (t :: l)[j]))) :
    Calls Tryd.prog 81 #[.slice (some ⟨b, 0, none⟩) (l.length + 1) cp] w (StepAns (guessF (t :: l)) w) := by
  have HE := Lib.hid (show guessF (t :: l) = ofG (cmdG (t :: l) 1) from by unfold guessF; rw [if_neg (show ¬ ((t :: l)[0]?).getD [] = tTick from by rw [show ((t :: l)[0]?).getD [] = t from rfl, ht]; decide), if_neg (show ¬ ((t :: l)[0]?).getD [] = tIndex from by rw [show ((t :: l)[0]?).getD [] = t from rfl, ht]; decide), if_neg (show ¬ ((t :: l)[0]?).getD [] = tBid from by rw [show ((t :: l)[0]?).getD [] = t from rfl, ht]; decide), if_neg (show ¬ ((t :: l)[0]?).getD [] = tRaw from by rw [show ((t :: l)[0]?).getD [] = t from rfl, ht]; decide), if_neg (show ¬ ((t :: l)[0]?).getD [] = tCancel from by rw [show ((t :: l)[0]?).getD [] = t from rfl, ht]; decide), if_neg (show ¬ ((t :: l)[0]?).getD [] = tReplace from by rw [show ((t :: l)[0]?).getD [] = t from rfl, ht]; decide), if_pos (show ((t :: l)[0]?).getD [] = tNew from ht), if_neg (show ¬ (t :: l).length < 8 from hlen)])
  obtain ⟨x4, hx4⟩ : ∃ x, (t :: l)[4]? = some x := ⟨_, List.getElem?_eq_getElem (by simp; omega)⟩
  obtain ⟨x5, hx5⟩ : ∃ x, (t :: l)[5]? = some x := ⟨_, List.getElem?_eq_getElem (by simp; omega)⟩
  have HCG := Lib.hid (show cmdG (t :: l) 1 = ⟨1, nAt (t :: l) 1, nAt (t :: l) 2, nAt (t :: l) 3, placeD sidesF x4, placeD typesF x5 + 1, nAt (t :: l) 6, nAt (t :: l) 7, flagsG ((t :: l).drop 8)⟩ by unfold cmdG; rw [if_pos rfl, getD_of hx4, getD_of hx5])
  have k1 : ((strB t).toList == [116, 105, 99, 107]) = decide (t = tTick) := tok_eq t _
  have k2 : ((strB t).toList == [105, 110, 100, 101, 120]) = decide (t = tIndex) := tok_eq t _
  have k3 : ((strB t).toList == [98, 105, 100]) = decide (t = tBid) := tok_eq t _
  have k4 : ((strB t).toList == [114, 97, 119]) = decide (t = tRaw) := tok_eq t _
  have k5 : ((strB t).toList == [99, 97, 110, 99, 101, 108]) = decide (t = tCancel) := tok_eq t _
  have k6 : ((strB t).toList == [114, 101, 112, 108, 97, 99, 101]) = decide (t = tReplace) := tok_eq t _
  have k7 : ((strB t).toList == [110, 101, 119]) = decide (t = tNew) := tok_eq t _
  rw [decide_eq_false (show ¬ t = tTick from by rw [ht]; decide)] at k1
  rw [decide_eq_false (show ¬ t = tIndex from by rw [ht]; decide)] at k2
  rw [decide_eq_false (show ¬ t = tBid from by rw [ht]; decide)] at k3
  rw [decide_eq_false (show ¬ t = tRaw from by rw [ht]; decide)] at k4
  rw [decide_eq_false (show ¬ t = tCancel from by rw [ht]; decide)] at k5
  rw [decide_eq_false (show ¬ t = tReplace from by rw [ht]; decide)] at k6
  rw [decide_eq_true ht] at k7
  clear ht
  have HZ0 := Lib.hid (Blk.new w (stepC 0 0 0 (.slice none 0 0)) 42 w.heap.size rfl)
  have HSR := Lib.hid ((show StrRow (.slice (some ⟨b, 0, none⟩) (l.length + 1) cp) (t :: l) w from .inr ⟨by simp, b, cp, rfl, by simpa using hcp, hb, hrow⟩).below ((Below.refl w.heap.size w).alloc (Nat.le_refl _) (.cells (stepC 0 0 0 (.slice none 0 0)) 42)))
  have HROW := Lib.hid hrow
  have HN := Lib.hid (fun j hj v W h => rnum_any v (t :: l) hl j hj W h)
  have HL := Lib.hid hl
  clear hrow hl
  go_enter Tryd.func81, Tryd.ntmps81
  go_wp2_with fail
  refine (HN.out 1 (by omega) _ _ HSR.out).mono ?_
  rintro e w1 ⟨rfl, hb1⟩
  replace HSR := Lib.hid (HSR.out.below hb1)
  replace HZ0 := Lib.hid (HZ0.out.below hb1 (by simp))
  have HB1 := Lib.hid (((Below.refl w.heap.size w).alloc (Nat.le_refl _) (.cells (stepC 0 0 0 (.slice none 0 0)) 42)).trans (hb1.mono (by simp)))
  clear hb1
  go_wp2_with fail
  refine (HN.out 2 (by omega) _ _ HSR.out).mono ?_
  rintro e w2 ⟨rfl, hb2⟩
  have hsz : w.heap.size < w2.heap.size := Nat.lt_of_lt_of_le HZ0.out.lt hb2.size
  have HG := Lib.hid (show GS w w2.heap.size b (t :: l) ⟨0, nAt (t :: l) 1, nAt (t :: l) 2, 0, 0, 0, 0, 0, 0⟩ (w2.alloc (.cells (Cmd.cells ⟨0, nAt (t :: l) 1, nAt (t :: l) 2, 0, 0, 0, 0, 0, 0⟩) 164)) from ⟨(HZ0.out.below hb2 HZ0.out.lt).old _, Blk.new _ _ _ _ rfl, (HB1.out.trans (hb2.mono HB1.out.size)).alloc (by omega) _, fun j hj => by
    have hx := ((HB1.out.trans (hb2.mono HB1.out.size)).alloc (by omega) (.cells (Cmd.cells ⟨0, nAt (t :: l) 1, nAt (t :: l) 2, 0, 0, 0, 0, 0, 0⟩) 164)).cell (p := ⟨b, j, none⟩) (by show b < _; omega)
    rw [hx]; exact HROW.out j hj, hb, hsz⟩)
  clear hb2 HZ0 HB1 HSR
  go_upto_region 2 with fail
  change Code.wp _ _ _ _ (w2.alloc (.cells (Cmd.cells ⟨0, nAt (t :: l) 1, nAt (t :: l) 2, 0, 0, 0, 0, 0, 0⟩) 164))
  generalize w2.alloc (.cells (Cmd.cells ⟨0, nAt (t :: l) 1, nAt (t :: l) 2, 0, 0, 0, 0, 0, 0⟩) 164) = w3 at HG ⊢
  generalize w2.heap.size = C at HG hsz ⊢
  have c0 : w3.cell? ⟨b, 0, none⟩ = some (.string (strB t)) := HG.out.row 0 (by simp)
  generalize strB t = T at c0 k1 k2 k3 k4 k5 k6 k7
  have g1 : ¬ (l.length : Int) + 1 < 8 := by omega
  have k0 : w3.cell? ⟨C, 0, none⟩ = some (.int .i64 (0)) := HG.out.c.cell 0 rfl
  have f0 := HG.out.c.free 0
  have HG2 := Lib.hid (HG.out.store (c' := ⟨1, nAt (t :: l) 1, nAt (t :: l) 2, 0, 0, 0, 0, 0, 0⟩) 0 (.int .i64 (1)) rfl)
  go_upto_region 24 with fail
  change Code.wp _ _ _ _ (w3.setCell ⟨C, 0, none⟩ (.int .i64 (1)))
  generalize w3.setCell ⟨C, 0, none⟩ (.int .i64 (1)) = w4 at HG2 ⊢
  clear k0 f0 HG
  have HG := HG2
  clear HG2
  go_wp2_with fail
  refine (HN.out 3 (by omega) _ _ (HG.out.strRow (by simp) hcp)).mono ?_
  rintro e w5 ⟨rfl, hb⟩
  replace HG := Lib.hid (HG.out.below hb)
  clear hb
  have k3 : w5.cell? ⟨C, 3, none⟩ = some (.int .i64 (0)) := HG.out.c.cell 3 rfl
  have f3 := HG.out.c.free 3
  have HG2 := Lib.hid (HG.out.store (c' := ⟨1, nAt (t :: l) 1, nAt (t :: l) 2, nAt (t :: l) 3, 0, 0, 0, 0, 0⟩) 3 (.int .i64 (nAt (t :: l) 3)) rfl)
  go_upto_region 25 with fail
  change Code.wp _ _ _ _ (w5.setCell ⟨C, 3, none⟩ (.int .i64 (nAt (t :: l) 3)))
  generalize w5.setCell ⟨C, 3, none⟩ (.int .i64 (nAt (t :: l) 3)) = w6 at HG2 ⊢
  clear k3 f3 HG
  have HG := HG2
  clear HG2
  have g4 : (4 : Int) < (l.length : Int) + 1 := by omega
  have g5 : (5 : Int) < (l.length : Int) + 1 := by omega
  have HX4 := Lib.hid hx4
  have HX5 := Lib.hid hx5
  clear hx4 hx5
  have HPS := Lib.hid (placeD_in sidesF x4)
  have HPT := Lib.hid (placeD_in typesF x5)
  clear c0 k1 k2 k3 k4 k5 k6 k7
  refine wp_region_held_drew (S := (fun w' => w'.cell? ⟨b, 4, none⟩ = some (.string (strB x4)))) (by kernel_rfl) (HG.out.word HX4.out) (fun hHeld => ?_)
  replace HG := Lib.hid HG.out.drew
  generalize w6.drew = w7 at HG hHeld ⊢
  refine wpAnyH_take (i := 1) (oi := ⟨some 69, _, _, _, _, _⟩) (v := ?_) rfl (by kernel_rfl) (by kernel_rfl) (by kernel_rfl) (fun _ _ _ h => h) (Or.inl ⟨by rfl, ?_⟩) (by assumption) ?_
  rotate_left
  · (intro w hSw; (try dsimp only at hSw); go_simp; (try with_reducible rfl))
  simp only [Act.put, List.setIfInBounds_toArray, List.set_cons_zero, List.set_cons_succ]
  refine wpAnyH_take (i := 2) (oi := ⟨some 70, _, _, _, _, _⟩) (v := ?_) rfl (by kernel_rfl) (by kernel_rfl) (by kernel_rfl) (fun _ _ _ h => h) (Or.inl ⟨by rfl, ?_⟩) (by assumption) ?_
  rotate_left
  · (intro w hSw; (try dsimp only at hSw); go_simp; (try with_reducible rfl))
  simp only [Act.put, List.setIfInBounds_toArray, List.set_cons_zero, List.set_cons_succ]
  refine wpAnyH_take (i := 3) (oi := ⟨some 71, _, _, _, _, _⟩) (v := ?_) rfl (by kernel_rfl) (by kernel_rfl) (by kernel_rfl) (fun _ _ _ h => h) (Or.inl ⟨by rfl, ?_⟩) (by assumption) ?_
  rotate_left
  · (intro w hSw; (try dsimp only at hSw); go_simp; (try with_reducible rfl))
  simp only [Act.put, List.setIfInBounds_toArray, List.set_cons_zero, List.set_cons_succ]
  refine wpAnyH_ready (rs := [0]) (by kernel_rfl) (by simp) ?_
  refine AllReadyH.cons (o := ⟨some 68, _, _, _, _, _⟩) rfl (fun KK hK => ?_) AllReadyH.nil
  go_simp
  refine (dsides_any _).mono ?_
  rintro e w8 ⟨tb, tc, rfl, -, -, h3, h4⟩
  replace HG := Lib.hid (HG.out.below h4)
  have HTB := Lib.hid h3
  clear h3 h4
  refine hK.out _ _ (HG.out.word HX4.out) (fun hHeld => ?_)
  clear hK; try clear KK
  try simp only [Act.put, List.setIfInBounds_toArray, List.set_cons_zero, List.set_cons_succ]
  refine wpAnyH_ready (rs := [4]) (by kernel_rfl) (by simp) ?_
  refine AllReadyH.cons (o := ⟨some 72, _, _, _, _, _⟩) rfl (fun KK hK => ?_) AllReadyH.nil
  go_simp
  refine (rplace_any tb tc sidesF x4 (by decide) _ HTB.out).mono ?_
  rintro e w9 ⟨rfl, rfl⟩
  have HP4 := Lib.hid (HG.out.store (c' := ⟨1, nAt (t :: l) 1, nAt (t :: l) 2, nAt (t :: l) 3, placeD sidesF x4, 0, 0, 0, 0⟩) 4 (.int .i64 (placeD sidesF x4)) rfl)
  generalize placeD sidesF x4 = p4 at HCG HPS HP4 ⊢
  refine hK.out _ _ (HG.out.word HX4.out) (fun hHeld => ?_)
  clear hK; try clear KK
  try simp only [Act.put, List.setIfInBounds_toArray, List.set_cons_zero, List.set_cons_succ]
  refine wpAnyH_take (i := 5) (oi := ⟨some 73, _, _, _, _, _⟩) (v := ?_) rfl (by kernel_rfl) (by kernel_rfl) (by kernel_rfl) (fun _ _ _ h => h) (Or.inl ⟨by rfl, ?_⟩) (by assumption) ?_
  rotate_left
  · (intro w hSw; (try dsimp only at hSw); go_simp; (try with_reducible rfl))
  simp only [Act.put, List.setIfInBounds_toArray, List.set_cons_zero, List.set_cons_succ]
  have q4 : w9.cell? ⟨C, 4, none⟩ = some (.int .i64 0) := HG.out.c.cell 4 rfl
  have f4 := HG.out.c.free 4
  refine wpAnyH_ready (rs := [6]) (by kernel_rfl) (by simp) ?_
  refine AllReadyH.cons (o := ⟨none, _, _, _, _, _⟩) rfl (fun KK hK => ?_) AllReadyH.nil
  go_simp
  refine hK.out _ _ (HP4.out.word HX4.out) (fun hHeld => ?_)
  clear hK; try clear KK
  clear q4 f4 HG HTB
  have HG := HP4
  clear HP4
  refine wpAnyH_done (by kernel_rfl) ?_ _
  go_upto_region 26 with fail
  change Code.wp _ _ _ _ (w9.setCell ⟨C, 4, none⟩ (.int .i64 p4))
  generalize w9.setCell ⟨C, 4, none⟩ (.int .i64 p4) = w10 at HG ⊢
  clear hHeld
  refine wp_region_held_drew (S := (fun w' => w'.cell? ⟨b, 5, none⟩ = some (.string (strB x5)))) (by kernel_rfl) (HG.out.word HX5.out) (fun hHeld => ?_)
  replace HG := Lib.hid HG.out.drew
  generalize w10.drew = w11 at HG hHeld ⊢
  refine wpAnyH_take (i := 1) (oi := ⟨some 75, _, _, _, _, _⟩) (v := ?_) rfl (by kernel_rfl) (by kernel_rfl) (by kernel_rfl) (fun _ _ _ h => h) (Or.inl ⟨by rfl, ?_⟩) (by assumption) ?_
  rotate_left
  · (intro w hSw; (try dsimp only at hSw); go_simp; (try with_reducible rfl))
  simp only [Act.put, List.setIfInBounds_toArray, List.set_cons_zero, List.set_cons_succ]
  refine wpAnyH_take (i := 2) (oi := ⟨some 76, _, _, _, _, _⟩) (v := ?_) rfl (by kernel_rfl) (by kernel_rfl) (by kernel_rfl) (fun _ _ _ h => h) (Or.inl ⟨by rfl, ?_⟩) (by assumption) ?_
  rotate_left
  · (intro w hSw; (try dsimp only at hSw); go_simp; (try with_reducible rfl))
  simp only [Act.put, List.setIfInBounds_toArray, List.set_cons_zero, List.set_cons_succ]
  refine wpAnyH_take (i := 3) (oi := ⟨some 77, _, _, _, _, _⟩) (v := ?_) rfl (by kernel_rfl) (by kernel_rfl) (by kernel_rfl) (fun _ _ _ h => h) (Or.inl ⟨by rfl, ?_⟩) (by assumption) ?_
  rotate_left
  · (intro w hSw; (try dsimp only at hSw); go_simp; (try with_reducible rfl))
  simp only [Act.put, List.setIfInBounds_toArray, List.set_cons_zero, List.set_cons_succ]
  refine wpAnyH_ready (rs := [0]) (by kernel_rfl) (by simp) ?_
  refine AllReadyH.cons (o := ⟨some 74, _, _, _, _, _⟩) rfl (fun KK hK => ?_) AllReadyH.nil
  go_simp
  refine (dtypes_any _).mono ?_
  rintro e w12 ⟨tb2, tc2, rfl, -, -, h3, h4⟩
  replace HG := Lib.hid (HG.out.below h4)
  have HTB := Lib.hid h3
  clear h3 h4
  refine hK.out _ _ (HG.out.word HX5.out) (fun hHeld => ?_)
  clear hK; try clear KK
  try simp only [Act.put, List.setIfInBounds_toArray, List.set_cons_zero, List.set_cons_succ]
  refine wpAnyH_ready (rs := [4]) (by kernel_rfl) (by simp) ?_
  refine AllReadyH.cons (o := ⟨some 78, _, _, _, _, _⟩) rfl (fun KK hK => ?_) AllReadyH.nil
  go_simp
  refine (rplace_any tb2 tc2 typesF x5 (by decide) _ HTB.out).mono ?_
  rintro e w13 ⟨rfl, rfl⟩
  have HP4 := Lib.hid (HG.out.store (c' := ⟨1, nAt (t :: l) 1, nAt (t :: l) 2, nAt (t :: l) 3, p4, placeD typesF x5 + 1, 0, 0, 0⟩) 5 (.int .i64 (placeD typesF x5 + 1)) rfl)
  have hp0 : -1 ≤ placeD typesF x5 := HPT.out.1
  have hp1 : placeD typesF x5 < 5 := HPT.out.2
  clear HPT
  generalize placeD typesF x5 = p5 at HCG HP4 hp0 hp1 ⊢
  refine hK.out _ _ (HG.out.word HX5.out) (fun hHeld => ?_)
  clear hK; try clear KK
  try simp only [Act.put, List.setIfInBounds_toArray, List.set_cons_zero, List.set_cons_succ]
  have hw : IntKind.i64.wrap (p5 + 1) = p5 + 1 := IntWalk.i64_in _ (by omega)
  refine wpAnyH_take (i := 5) (oi := ⟨some 79, _, _, _, _, _⟩) (v := ?_) rfl (by kernel_rfl) (by kernel_rfl) (by kernel_rfl) (fun _ _ _ h => h) (Or.inl ⟨by rfl, ?_⟩) (by assumption) ?_
  rotate_left
  · (intro w hSw; (try dsimp only at hSw); go_simp; (try with_reducible rfl))
  simp only [Act.put, List.setIfInBounds_toArray, List.set_cons_zero, List.set_cons_succ]
  refine wpAnyH_take (i := 6) (oi := ⟨some 80, _, _, _, _, _⟩) (v := ?_) rfl (by kernel_rfl) (by kernel_rfl) (by kernel_rfl) (fun _ _ _ h => h) (Or.inl ⟨by rfl, ?_⟩) (by assumption) ?_
  rotate_left
  · (intro w hSw; (try dsimp only at hSw); go_simp; (try with_reducible rfl))
  simp only [Act.put, List.setIfInBounds_toArray, List.set_cons_zero, List.set_cons_succ]
  have q4 : w13.cell? ⟨C, 5, none⟩ = some (.int .i64 0) := HG.out.c.cell 5 rfl
  have f4 := HG.out.c.free 5
  refine wpAnyH_ready (rs := [7]) (by kernel_rfl) (by simp) ?_
  refine AllReadyH.cons (o := ⟨none, _, _, _, _, _⟩) rfl (fun KK hK => ?_) AllReadyH.nil
  go_simp
  refine hK.out _ _ (HP4.out.word HX5.out) (fun hHeld => ?_)
  clear hK; try clear KK
  clear q4 f4 HG HTB
  have HG := HP4
  clear HP4
  refine wpAnyH_done (by kernel_rfl) ?_ _
  go_upto_region 27 with fail
  change Code.wp _ _ _ _ (w13.setCell ⟨C, 5, none⟩ (.int .i64 (p5 + 1)))
  generalize w13.setCell ⟨C, 5, none⟩ (.int .i64 (p5 + 1)) = w14 at HG ⊢
  clear hHeld hp0 hp1
  go_wp2_with fail
  refine (HN.out 6 (by omega) _ _ (HG.out.strRow (by simp) hcp)).mono ?_
  rintro e w15 ⟨rfl, hb⟩
  replace HG := Lib.hid (HG.out.below hb)
  clear hb
  have k6 : w15.cell? ⟨C, 6, none⟩ = some (.int .i64 (0)) := HG.out.c.cell 6 rfl
  have f6 := HG.out.c.free 6
  have HG2 := Lib.hid (HG.out.store (c' := ⟨1, nAt (t :: l) 1, nAt (t :: l) 2, nAt (t :: l) 3, p4, p5 + 1, nAt (t :: l) 6, 0, 0⟩) 6 (.int .i64 (nAt (t :: l) 6)) rfl)
  go_upto_region 28 with fail
  change Code.wp _ _ _ _ (w15.setCell ⟨C, 6, none⟩ (.int .i64 (nAt (t :: l) 6)))
  generalize w15.setCell ⟨C, 6, none⟩ (.int .i64 (nAt (t :: l) 6)) = w16 at HG2 ⊢
  clear k6 f6 HG
  have HG := HG2
  clear HG2
  go_wp2_with fail
  refine (HN.out 7 (by omega) _ _ (HG.out.strRow (by simp) hcp)).mono ?_
  rintro e w17 ⟨rfl, hb⟩
  replace HG := Lib.hid (HG.out.below hb)
  clear hb
  have k7 : w17.cell? ⟨C, 7, none⟩ = some (.int .i64 (0)) := HG.out.c.cell 7 rfl
  have f7 := HG.out.c.free 7
  have HG2 := Lib.hid (HG.out.store (c' := ⟨1, nAt (t :: l) 1, nAt (t :: l) 2, nAt (t :: l) 3, p4, p5 + 1, nAt (t :: l) 6, nAt (t :: l) 7, 0⟩) 7 (.int .i64 (nAt (t :: l) 7)) rfl)
  go_upto_region 29 with fail
  change Code.wp _ _ _ _ (w17.setCell ⟨C, 7, none⟩ (.int .i64 (nAt (t :: l) 7)))
  generalize w17.setCell ⟨C, 7, none⟩ (.int .i64 (nAt (t :: l) 7)) = w18 at HG2 ⊢
  clear k7 f7 HG
  have HG := HG2
  clear HG2
  go_wp2_with fail
  go_loopw [5] (fun i wr => ∃ k : Nat, 8 ≤ k ∧ k ≤ l.length + 1 ∧ i = .int .i64 (k : Int) ∧ GS w C b (t :: l) ⟨1, nAt (t :: l) 1, nAt (t :: l) 2, nAt (t :: l) 3, p4, p5 + 1, nAt (t :: l) 6, nAt (t :: l) 7, ((flagsG (((t :: l).drop 8).take (k - 8)) : Nat) : Int)⟩ wr) (fun i _ => l.length + 1 - (intOf i).toNat)
  case atStart => exact ⟨8, by omega, by omega, rfl, HG.out⟩
  case round =>
    obtain ⟨k, hk8, hkl, rfl, hg⟩ := hrel
    replace HG := Lib.hid hg
    clear hg
    by_cases hlt : k < l.length + 1
    · obtain ⟨y, hy⟩ : ∃ y, (t :: l)[k]? = some y := ⟨_, List.getElem?_eq_getElem (by simpa using hlt)⟩
      have HFS := Lib.hid (show flagsG (((t :: l).drop 8).take (k + 1 - 8)) = flagG (flagsG (((t :: l).drop 8).take (k - 8))) y by
        rw [← flagsG_snoc]
        congr 1
        rw [show k + 1 - 8 = (k - 8) + 1 by omega, List.take_add_one, List.getElem?_drop, show 8 + (k - 8) = k by omega, hy]
        rfl)
      have hf8 := flagsG_lt (((t :: l).drop 8).take (k - 8)) 0 (by decide)
      change flagsG (((t :: l).drop 8).take (k - 8)) < 8 at hf8
      generalize flagsG (((t :: l).drop 8).take (k - 8)) = f at HG HFS hf8
      have HY := Lib.hid hy
      have g3 : (k : Int) < (l.length : Int) + 1 := by omega
      clear hy
      go_upto_region 32 with fail
      refine wp_region_held_drew (S := (fun w' => w'.cell? ⟨b, k, none⟩ = some (.string (strB y)))) (by kernel_rfl) (HG.out.word HY.out) (fun hHeld => ?_)
      replace HG := Lib.hid HG.out.drew
      generalize wr.drew = wa at HG hHeld ⊢
      refine wpAnyH_take (i := 1) (oi := ⟨some 94, _, _, _, _, _⟩) (v := ?_) rfl (by kernel_rfl) (by kernel_rfl) (by kernel_rfl) (fun _ _ _ h => h) (Or.inl ⟨by rfl, ?_⟩) (by assumption) ?_
      rotate_left
      · (intro w hSw; (try dsimp only at hSw); go_simp; (try with_reducible rfl))
      simp only [Act.put, List.setIfInBounds_toArray, List.set_cons_zero, List.set_cons_succ]
      refine wpAnyH_take (i := 2) (oi := ⟨some 95, _, _, _, _, _⟩) (v := ?_) rfl (by kernel_rfl) (by kernel_rfl) (by kernel_rfl) (fun _ _ _ h => h) (Or.inl ⟨by rfl, ?_⟩) (by assumption) ?_
      rotate_left
      · (intro w hSw; (try dsimp only at hSw); go_simp; (try with_reducible rfl))
      simp only [Act.put, List.setIfInBounds_toArray, List.set_cons_zero, List.set_cons_succ]
      refine wpAnyH_take (i := 3) (oi := ⟨some 96, _, _, _, _, _⟩) (v := ?_) rfl (by kernel_rfl) (by kernel_rfl) (by kernel_rfl) (fun _ _ _ h => h) (Or.inl ⟨by rfl, ?_⟩) (by assumption) ?_
      rotate_left
      · (intro w hSw; (try dsimp only at hSw); go_simp; (try with_reducible rfl))
      simp only [Act.put, List.setIfInBounds_toArray, List.set_cons_zero, List.set_cons_succ]
      refine wpAnyH_take (i := 4) (oi := ⟨some 97, _, _, _, _, _⟩) (v := ?_) rfl (by kernel_rfl) (by kernel_rfl) (by kernel_rfl) (fun _ _ _ h => h) (Or.inl ⟨by rfl, ?_⟩) (by assumption) ?_
      rotate_left
      · (intro w hSw; (try dsimp only at hSw); go_simp; (try with_reducible rfl))
      simp only [Act.put, List.setIfInBounds_toArray, List.set_cons_zero, List.set_cons_succ]
      refine wpAnyH_ready (rs := [0]) (by kernel_rfl) (by simp) ?_
      refine AllReadyH.cons (o := ⟨some 93, _, _, _, _, _⟩) rfl (fun KK hK => ?_) AllReadyH.nil
      go_simp
      refine (dflags_any _).mono ?_
      rintro e wb ⟨tb3, tc3, rfl, -, -, h3, h4⟩
      replace HG := Lib.hid (HG.out.below h4)
      have HTB := Lib.hid h3
      clear h3 h4
      refine hK.out _ _ (HG.out.word HY.out) (fun hHeld => ?_)
      clear hK; try clear KK
      try simp only [Act.put, List.setIfInBounds_toArray, List.set_cons_zero, List.set_cons_succ]
      refine wpAnyH_ready (rs := [5]) (by kernel_rfl) (by simp) ?_
      refine AllReadyH.cons (o := ⟨some 98, _, _, _, _, _⟩) rfl (fun KK hK => ?_) AllReadyH.nil
      go_simp
      refine (rplace_any tb3 tc3 flagsD y (by decide) _ HTB.out).mono ?_
      rintro e wd ⟨rfl, rfl⟩
      refine hK.out _ _ (HG.out.word HY.out) (fun hHeld => ?_)
      clear hK; try clear KK
      try simp only [Act.put, List.setIfInBounds_toArray, List.set_cons_zero, List.set_cons_succ]
      refine wpAnyH_take (i := 6) (oi := ⟨some 6, _, _, _, _, _⟩) (v := ?_) rfl (by kernel_rfl) (by kernel_rfl) (by kernel_rfl) (fun _ _ _ h => h) (Or.inl ⟨by rfl, ?_⟩) (by assumption) ?_
      rotate_left
      · (intro w hSw; (try dsimp only at hSw); go_simp; (try with_reducible rfl))
      simp only [Act.put, List.setIfInBounds_toArray, List.set_cons_zero, List.set_cons_succ]
      refine wpAnyH_done (by kernel_rfl) ?_ _
      have k8 : wd.cell? ⟨C, 8, none⟩ = some (.int .i64 (f : Int)) := HG.out.c.cell 8 rfl
      have f8 := HG.out.c.free 8
      clear hHeld HTB
      rcases flagG_cases f y with ⟨hp, hq⟩ | ⟨q, hq3, hp, hq⟩
      · rw [hp]
        have HQ := Lib.hid hq
        clear hp hq
        go_wp2_with fail
        go_roundw
        case rel => exact ⟨k + 1, by omega, by omega, by go_num, by rw [HFS.out, HQ.out]; exact HG.out⟩
        case measure => simp [intOf]; omega
      · have hor := or_flag' f q hf8 hq3
        rw [hp]
        have HQ := Lib.hid hq
        clear hp hq
        have HG2 := Lib.hid (HG.out.store (c' := ⟨1, nAt (t :: l) 1, nAt (t :: l) 2, nAt (t :: l) 3, p4, p5 + 1, nAt (t :: l) 6, nAt (t :: l) 7, ((f ||| 2 ^ q : Nat) : Int)⟩) 8 (.int .i64 ((f ||| 2 ^ q : Nat) : Int)) rfl)
        rw [← HQ.out, ← HFS.out] at HG2 hor
        generalize hf2 : flagsG (((t :: l).drop 8).take (k + 1 - 8)) = f2 at HG2 hor HFS
        have HF2 := Lib.hid hf2
        clear hf2
        have hq' : q = 0 ∨ q = 1 ∨ q = 2 := by omega
        rcases hq' with rfl | rfl | rfl
        · change bits .or .i64 (f : Int) 1 = (f2 : Int) at hor
          go_wp2_with fail
          go_roundw
          case rel => exact ⟨k + 1, by omega, by omega, by go_num, by rw [HF2.out]; exact HG2.out⟩
          case measure => simp [intOf]; omega
        · change bits .or .i64 (f : Int) 2 = (f2 : Int) at hor
          go_wp2_with fail
          go_roundw
          case rel => exact ⟨k + 1, by omega, by omega, by go_num, by rw [HF2.out]; exact HG2.out⟩
          case measure => simp [intOf]; omega
        · change bits .or .i64 (f : Int) 4 = (f2 : Int) at hor
          go_wp2_with fail
          go_roundw
          case rel => exact ⟨k + 1, by omega, by omega, by go_num, by rw [HF2.out]; exact HG2.out⟩
          case measure => simp [intOf]; omega
    · obtain rfl : k = l.length + 1 := by omega
      have hfl : ((t :: l).drop 8).take (l.length + 1 - 8) = (t :: l).drop 8 := List.take_of_length_le (by simp)
      rw [hfl] at HG
      clear hfl
      generalize flagsG ((t :: l).drop 8) = f at HG HCG
      rw [HCG.out] at HE
      have HOF := Lib.hid (rof_any (Cmd.mk 1 (nAt (t :: l) 1) (nAt (t :: l) 2) (nAt (t :: l) 3) p4 (p5 + 1) (nAt (t :: l) 6) (nAt (t :: l) 7) (f : Int)) wr (by first | exact (nAt_in _ _).1 | exact (show (-9223372036854775808 : Int) ≤ 0 by decide)) (by first | exact (nAt_in _ _).2 | exact (show (0 : Int) ≤ 9223372036854775807 by decide)) (by first | exact (nAt_in _ _).1 | exact (show (-9223372036854775808 : Int) ≤ 0 by decide)) (by first | exact (nAt_in _ _).2 | exact (show (0 : Int) ≤ 9223372036854775807 by decide)))
      have hs7 := HG.out.bel.size
      go_wp2_with (refine load_blk (by rfl) 164 _ (by rfl) C (by rfl) _ _ HG.out.c _ Tryd.underlying164 rfl (by kernel_rfl) ?_)
      refine HOF.out.mono ?_
      rintro e w8 (⟨hr, v, rfl, ho, hb8⟩ | ⟨hr, rfl, hb8⟩)
      · have HE2 := Lib.hid (show guessF (t :: l) = ⟨1, 0, 0, formC (Cmd.mk 1 (nAt (t :: l) 1) (nAt (t :: l) 2) (nAt (t :: l) 3) p4 (p5 + 1) (nAt (t :: l) 6) (nAt (t :: l) 7) (f : Int))⟩ from HE.out.trans (ofG_yes hr))
        replace HG := Lib.hid (HG.out.below hb8)
        have hop := own_mono ho hs7
        obtain ⟨va, vc, rfl, -, -⟩ := World.ownsRow.form ho (form_pos _)
        have HY := Lib.hid (bytes_alloc (show BytesOf w.heap.size (formC (Cmd.mk 1 (nAt (t :: l) 1) (nAt (t :: l) 2) (nAt (t :: l) 3) p4 (p5 + 1) (nAt (t :: l) 6) (nAt (t :: l) 7) (f : Int))) _ w8 from .inr ⟨form_pos _, hop⟩) (.cells (stepC 1 0 0 (.slice (some ⟨va, 0, none⟩) (formC (Cmd.mk 1 (nAt (t :: l) 1) (nAt (t :: l) 2) (nAt (t :: l) 3) p4 (p5 + 1) (nAt (t :: l) 6) (nAt (t :: l) 7) (f : Int))).length vc)) 42))
        clear hr ho hb8 hop HOF HE
        generalize (formC (Cmd.mk 1 (nAt (t :: l) 1) (nAt (t :: l) 2) (nAt (t :: l) 3) p4 (p5 + 1) (nAt (t :: l) 6) (nAt (t :: l) 7) (f : Int))).length = vn at HY ⊢
        have hX : w.heap.size < w8.heap.size := HG.out.z.lt
        have HX := Lib.hid (Blk.new w8 (stepC 1 0 0 (.slice (some ⟨va, 0, none⟩) vn vc)) 42 w8.heap.size rfl)
        replace HG := Lib.hid (HG.out.below ((Below.refl w8.heap.size w8).alloc (Nat.le_refl _) (.cells (stepC 1 0 0 (.slice (some ⟨va, 0, none⟩) vn vc)) 42)))
        have HZ := Lib.hid HG.out.z
        have HB := Lib.hid HG.out.bel
        unfold stepC
        go_upto_region 36 with fail
        change Code.wp _ _ _ _ (w8.alloc (.cells (stepC 1 0 0 (.slice (some ⟨va, 0, none⟩) vn vc)) 42))
        generalize w8.alloc (.cells (stepC 1 0 0 (.slice (some ⟨va, 0, none⟩) vn vc)) 42) = w9 at HX HZ HB HY ⊢
        clear HG
        generalize w8.heap.size = X at HX hX ⊢
        go_wp2_with (first
          | (refine load_blk (by rfl) 42 _ (by rfl) X (by rfl) _ _ HX.out _ Tryd.underlying42 rfl (by kernel_rfl) ?_)
          | (refine store_blk (by rfl) 42 _ _ (by rfl) w.heap.size (by rfl) _ (stepC 1 0 0 (.slice (some ⟨va, 0, none⟩) vn vc)) 42 HZ.out (by rfl) rfl (by kernel_rfl) (one_stp _ _ _ _ _ _) ?_))
        refine bodyPost_ret (results_cell_row rfl _ _ _ _ _ (0, 0) _ rfl (HZ.out.setCells (stepC 1 0 0 (.slice (some ⟨va, 0, none⟩) vn vc)) rfl) Tryd.underlying42 rfl (by kernel_rfl)) rfl ?_
        exact ⟨_, by rw [HE2.out], by rw [HE2.out]; exact bytes_cells _ _ _ _ HY.out HZ.out, Blk.Below.setCells _ _ _ HB.out (Nat.le_refl _)⟩
      · have HE2 := Lib.hid (show guessF (t :: l) = ⟨0, 0, 0, []⟩ from HE.out.trans (ofG_no hr))
        replace HG := Lib.hid (HG.out.below hb8)
        have HY := Lib.hid (show BytesOf w.heap.size [] (.slice none 0 0) (w8.alloc (.cells (stepC 0 0 0 (.slice none 0 0)) 42)) from .inl ⟨rfl, rfl⟩)
        clear hr hb8 HOF HE
        have hX : w.heap.size < w8.heap.size := HG.out.z.lt
        have HX := Lib.hid (Blk.new w8 (stepC 0 0 0 (.slice none 0 0)) 42 w8.heap.size rfl)
        replace HG := Lib.hid (HG.out.below ((Below.refl w8.heap.size w8).alloc (Nat.le_refl _) (.cells (stepC 0 0 0 (.slice none 0 0)) 42)))
        have HZ := Lib.hid HG.out.z
        have HB := Lib.hid HG.out.bel
        unfold stepC
        go_upto_region 36 with fail
        change Code.wp _ _ _ _ (w8.alloc (.cells (stepC 0 0 0 (.slice none 0 0)) 42))
        generalize w8.alloc (.cells (stepC 0 0 0 (.slice none 0 0)) 42) = w9 at HX HZ HB HY ⊢
        clear HG
        generalize w8.heap.size = X at HX hX ⊢
        go_wp2_with (first
          | (refine load_blk (by rfl) 42 _ (by rfl) X (by rfl) _ _ HX.out _ Tryd.underlying42 rfl (by kernel_rfl) ?_)
          | (refine store_blk (by rfl) 42 _ _ (by rfl) w.heap.size (by rfl) _ (stepC 0 0 0 (.slice none 0 0)) 42 HZ.out (by rfl) rfl (by kernel_rfl) (one_stp _ _ _ _ _ _) ?_))
        refine bodyPost_ret (results_cell_row rfl _ _ _ _ _ (0, 0) _ rfl (HZ.out.setCells (stepC 0 0 0 (.slice none 0 0)) rfl) Tryd.underlying42 rfl (by kernel_rfl)) rfl ?_
        exact ⟨_, by rw [HE2.out], by rw [HE2.out]; exact bytes_cells _ _ _ _ HY.out HZ.out, Blk.Below.setCells _ _ _ HB.out (Nat.le_refl _)⟩
/-- damperref35.guess, of any words. -/
theorem guess_any (ws : List Tok) (h0 : 0 < ws.length) (hn : ws.length ≤ 100000) (hl : ∀ x ∈ ws, x.length ≤ 100000) (v : Value) (w : World) (h : StrRow v ws w) :
    Calls Tryd.prog 81 #[v] w (StepAns (guessF ws) w) := by
  rcases h with ⟨rfl, rfl⟩ | ⟨_, b, c, rfl, h2, h3, h4⟩
  · simp at h0
  cases ws with
  | nil => simp at h0
  | cons t l =>
    have hc : l.length + 1 ≤ c := by simpa using h2
    have hnl : l.length ≤ 100000 := by simp at hn; omega
    show Calls Tryd.prog 81 #[.slice (some ⟨b, 0, none⟩) (l.length + 1) c] w _
    by_cases h1 : t = tTick
    · exact guess_tick b c t h1 l hl hc w h3 h4
    by_cases h2 : t = tIndex
    · exact guess_index b c t h2 l hl hc w h3 h4
    by_cases h5 : t = tBid
    · exact guess_bid b c t h5 l hl hc w h3 h4
    by_cases h6 : t = tRaw
    · exact guess_raw b c t h6 l hl hc w h3 h4
    by_cases h7 : t = tCancel
    · exact guess_cancel b c t h7 l hl hc w h3 h4
    by_cases h8 : t = tReplace
    · exact guess_replace b c t h8 l hl hc w h3 h4
    by_cases h9 : t = tNew
    · by_cases hs : l.length + 1 < 8
      · exact guess_short b c t h9 l hl hs hc w h3 h4
      · exact guess_new b c t h9 l hl hs hnl hc w h3 h4
    · exact guess_other b c t h1 h2 h5 h6 h7 h8 h9 l hl hc w h3 h4
end Go.Proofs.YtmkcooamgojbpaaDoor.Lines

/- damperref35.Parse, of any line. -/
namespace Go.Proofs.YtmkcooamgojbpaaDoor.Lines
open Go.RowKit Go.Proofs.YtmkcooamgojbpaaDoor.Kit Go.Proofs.YtmkcooamgojbpaaDoor.Blk Go.Proofs.YtmkcooamgojbpaaDoor.Dec Go.Proofs.YtmkcooamgojbpaaDoor.Words Go.Proofs.YtmkcooamgojbpaaDoor.Octets Go.Proofs.YtmkcooamgojbpaaDoor.Steps Go.Proofs.YtmkcooamgojbpaaDoor.Cmds
attribute [local go_sem ↓] Go.wp_at_zero Go.wp_at_succ
set_option linter.unusedVariables false

theorem bytes_atB {N : Nat} {l : List Nat} {u : Value} {W : World} (h : BytesOf N l u W) : AtB 0 W.heap.size l u W := by
  rcases h with ⟨rfl, rfl⟩ | ⟨_, h⟩
  · exact .inl ⟨rfl, rfl⟩
  · exact (own_atB h).mono (Nat.zero_le _) (Nat.le_refl _)
theorem ofG_len (c : Cmd) : (ofG c).l.length ≤ 64 := by
  unfold ofG
  split
  · exact form_len c
  · simp
theorem hexG_len : ∀ (w : Tok), (hexG w).length ≤ w.length
  | [] => by simp [hexG]
  | [_] => by simp [hexG]
  | a :: b :: w => by
    have := hexG_len w
    rw [hexG]
    simp
    omega
theorem guess_len {ws : List Tok} (hl : ∀ x ∈ ws, x.length ≤ 100000) : (guessF ws).l.length ≤ 100000 := by
  have ho := fun c => Nat.le_trans (ofG_len c) (show 64 ≤ 100000 by decide)
  unfold guessF
  split
  · simp
  split
  · simp
  split
  · simp
  split
  · cases h : ws[1]? with
    | none => simp [hexG]
    | some x => exact Nat.le_trans (hexG_len x) (hl x (List.mem_of_getElem? h))
  split
  · exact ho _
  split
  · exact ho _
  split
  · split
    · simp
    · exact ho _
  · exact ho _
set_option maxRecDepth 20000 in
set_option maxHeartbeats 4000000 in
theorem rwparse_any (l : List UInt8) (hl : l.length ≤ 90000) (w : World) :
    Calls Tryd.prog 27 #[.string (strB l)] w (WParseIs (rparseF l) w) := by
  have HZ := Lib.hid (Blk.new w (stepC 0 0 0 (.slice none 0 0)) 42 w.heap.size rfl)
  have HB := Lib.hid ((Below.refl w.heap.size w).alloc (Nat.le_refl _) (.cells (stepC 0 0 0 (.slice none 0 0)) 42))
  have HSP := Lib.hid (rsplit_any l (by omega) (w.alloc (.cells (stepC 0 0 0 (.slice none 0 0)) 42)))
  go_enter Tryd.func27, Tryd.ntmps27
  go_wp2_with fail
  refine HSP.out.mono ?_
  rintro e w1 ⟨v, rfl, hrow, hb⟩
  replace HZ := Lib.hid (HZ.out.below hb (by simp))
  replace HB := Lib.hid (HB.out.trans (hb.mono (by simp)))
  have HROW := Lib.hid hrow
  clear hb HSP
  by_cases h : l = []
  · have HN := Lib.hid (show rparseF l = none by unfold rparseF; rw [if_pos h])
    have hv : v = .slice none 0 0 := by
      rcases hrow with ⟨_, h2⟩ | ⟨h0, _⟩
      · exact h2
      · rw [h] at h0; simp [splitW] at h0
    subst hv
    clear hrow
    go_wp2_with (refine store_blk (by rfl) 42 _ _ (by rfl) w.heap.size (by rfl) _ (stepC 0 0 0 (.slice none 0 0)) 42 HZ.out (by rfl) rfl (by kernel_rfl) (one_stp _ _ _ _ _ _) ?_)
    refine bodyPost_ret (results_blk_tmp (cs := stepC 0 0 0 (.slice none 0 0)) rfl rfl (HZ.out.setCells (stepC 0 0 0 (.slice none 0 0)) rfl) Tryd.underlying42 rfl (by kernel_rfl)) rfl ⟨.slice none 0 0, by rw [HN.out]; rfl, by rw [HN.out]; exact .inl ⟨rfl, rfl⟩, Below.setCells _ _ _ HB.out (Nat.le_refl _)⟩
  · have hcut : splitW l = cutW 32 l := by unfold splitW; rw [if_neg h]
    have hwl : ∀ x ∈ cutW 32 l, x.length ≤ 100000 := fun x hx => Nat.le_trans (cut_bytes 32 l x hx) (by omega)
    have hne : 0 < (cutW 32 l).length := List.length_pos_iff.2 (cutW_ne _ _)
    have hnl : (cutW 32 l).length ≤ 100000 := by rw [cut_len]; have := List.count_le_length (a := (32 : UInt8)) (l := l); omega
    rw [hcut] at hrow HROW
    have hv : ∃ b c, v = .slice (some ⟨b, 0, none⟩) (cutW 32 l).length c := by
      rcases hrow with ⟨h1, _⟩ | ⟨_, b, c, h1, _⟩
      · rw [h1] at hne; simp at hne
      · exact ⟨b, c, h1⟩
    obtain ⟨b, c, rfl⟩ := hv
    have HGU := Lib.hid (guess_any (cutW 32 l) hne hnl hwl _ w1 HROW.out)
    have hgin := guess_in (cutW 32 l)
    have hglen := guess_len hwl
    have HRP := Lib.hid (show rparseF l = if rightS (guessF (cutW 32 l)) = true ∧ joinW 32 (wordsF (guessF (cutW 32 l))) = l then some (guessF (cutW 32 l)) else none by unfold rparseF; rw [if_neg h])
    generalize guessF (cutW 32 l) = g at HGU hgin hglen HRP
    have gl : (((cutW 32 l).length : Int) == 0) = false := by rw [beq_eq_false_iff_ne]; omega
    generalize (cutW 32 l).length = n at hne hnl gl HROW HGU ⊢
    clear hrow HROW hcut hwl
    go_wp2_with fail
    refine HGU.out.mono ?_
    rintro e w2 ⟨u, rfl, hby, hb2⟩
    obtain ⟨ua, un, uc, rfl⟩ := bytes_form hby
    have hs1 := HB.out.size
    replace HZ := Lib.hid (HZ.out.below hb2 HZ.out.lt)
    replace HB := Lib.hid (HB.out.trans (hb2.mono HB.out.size))
    have HBY := Lib.hid (bytes_alloc (bytes_mono hby hs1) (.cells (stepC g.k g.y g.v (.slice ua un uc)) 42))
    have HAT := Lib.hid ((bytes_atB hby).below (Nat.le_refl _) ((Below.refl _ _).alloc (Nat.le_refl _) (.cells (stepC g.k g.y g.v (.slice ua un uc)) 42)))
    have HX := Lib.hid (Blk.new w2 (stepC g.k g.y g.v (.slice ua un uc)) 42 w2.heap.size rfl)
    have hzl := HZ.out.lt
    replace HZ := Lib.hid (HZ.out.old (.cells (stepC g.k g.y g.v (.slice ua un uc)) 42))
    replace HB := Lib.hid (HB.out.alloc HB.out.size (.cells (stepC g.k g.y g.v (.slice ua un uc)) 42))
    have hsz : w2.heap.size ≤ (w2.alloc (.cells (stepC g.k g.y g.v (.slice ua un uc)) 42)).heap.size := by simp
    clear hby hb2 HGU
    unfold stepC
    go_upto_region 5 with fail
    change Code.wp _ _ _ _ (w2.alloc (.cells (stepC g.k g.y g.v (.slice ua un uc)) 42))
    generalize w2.alloc (.cells (stepC g.k g.y g.v (.slice ua un uc)) 42) = w3 at HX HZ HB HBY HAT hsz ⊢
    generalize w2.heap.size = X at HX HAT hsz hzl ⊢
    have HLN := Lib.hid (rline_any X g hgin hglen _ w3 hsz HAT.out)
    clear hsz
    go_wp2_with (refine load_blk (by rfl) 42 _ (by rfl) X (by rfl) _ _ HX.out _ Tryd.underlying42 rfl (by kernel_rfl) ?_)
    refine HLN.out.mono ?_
    rintro e w4 ⟨rfl, hb4⟩
    replace HX := Lib.hid (HX.out.below hb4 HX.out.lt)
    replace HZ := Lib.hid (HZ.out.below hb4 HZ.out.lt)
    replace HB := Lib.hid (HB.out.trans (hb4.mono HB.out.size))
    replace HBY := Lib.hid (bytes_below HBY.out hb4)
    clear hb4 HLN HAT
    cases hr : rightS g with
    | false =>
      have HN := Lib.hid (show rparseF l = none by rw [HRP.out, hr, if_neg (by simp)])
      rw [ln_none hr]
      dsimp only [Option.getD, Option.isSome]
      rw [if_neg (by decide)]
      go_wp2_with (refine store_blk (by rfl) 42 _ _ (by rfl) w.heap.size (by rfl) _ (stepC 0 0 0 (.slice none 0 0)) 42 HZ.out (by rfl) rfl (by kernel_rfl) (one_stp _ _ _ _ _ _) ?_)
      refine bodyPost_ret (results_blk_tmp (cs := stepC 0 0 0 (.slice none 0 0)) rfl rfl (HZ.out.setCells (stepC 0 0 0 (.slice none 0 0)) rfl) Tryd.underlying42 rfl (by kernel_rfl)) rfl ⟨.slice none 0 0, by rw [HN.out]; rfl, by rw [HN.out]; exact .inl ⟨rfl, rfl⟩, Below.setCells _ _ _ HB.out (Nat.le_refl _)⟩
    | true =>
      obtain ⟨e1, e2⟩ := ln_eq hr
      rw [e1, e2, if_pos rfl]
      clear e1 e2
      by_cases hj : joinW 32 (wordsF g) = l
      · have HS := Lib.hid (show rparseF l = some g by rw [HRP.out, if_pos ⟨hr, hj⟩])
        have hq : ((strB (joinW 32 (wordsF g))).toList == (strB l).toList) = true := by rw [hj]; simp
        generalize strB (joinW 32 (wordsF g)) = S1 at hq ⊢
        clear hr hj
        go_wp2_with (first
          | (refine load_blk (by rfl) 42 _ (by rfl) X (by rfl) _ _ HX.out _ Tryd.underlying42 rfl (by kernel_rfl) ?_)
          | (refine store_blk (by rfl) 42 _ _ (by rfl) w.heap.size (by rfl) _ (stepC g.k g.y g.v (.slice ua un uc)) 42 HZ.out (by rfl) rfl (by kernel_rfl) (one_stp _ _ _ _ _ _) ?_))
        refine bodyPost_ret (results_blk_tmp (cs := stepC g.k g.y g.v (.slice ua un uc)) rfl rfl (HZ.out.setCells (stepC g.k g.y g.v (.slice ua un uc)) rfl) Tryd.underlying42 rfl (by kernel_rfl)) rfl ⟨.slice ua un uc, by rw [HS.out]; rfl, by rw [HS.out]; exact bytes_cells _ _ _ _ HBY.out HZ.out, Below.setCells _ _ _ HB.out (Nat.le_refl _)⟩
      · have HN := Lib.hid (show rparseF l = none by rw [HRP.out, if_neg (fun h => hj h.2)])
        have hq : ((strB (joinW 32 (wordsF g))).toList == (strB l).toList) = false := strB_ne hj
        generalize strB (joinW 32 (wordsF g)) = S1 at hq ⊢
        clear hr hj
        go_wp2_with (refine store_blk (by rfl) 42 _ _ (by rfl) w.heap.size (by rfl) _ (stepC 0 0 0 (.slice none 0 0)) 42 HZ.out (by rfl) rfl (by kernel_rfl) (one_stp _ _ _ _ _ _) ?_)
        refine bodyPost_ret (results_blk_tmp (cs := stepC 0 0 0 (.slice none 0 0)) rfl rfl (HZ.out.setCells (stepC 0 0 0 (.slice none 0 0)) rfl) Tryd.underlying42 rfl (by kernel_rfl)) rfl ⟨.slice none 0 0, by rw [HN.out]; rfl, by rw [HN.out]; exact .inl ⟨rfl, rfl⟩, Below.setCells _ _ _ HB.out (Nat.le_refl _)⟩
end Go.Proofs.YtmkcooamgojbpaaDoor.Lines

/- damperref35.Read, of any text. -/
namespace Go.Proofs.YtmkcooamgojbpaaDoor.Lines
open Go.RowKit Go.Proofs.YtmkcooamgojbpaaDoor.Kit Go.Proofs.YtmkcooamgojbpaaDoor.Blk Go.Proofs.YtmkcooamgojbpaaDoor.Dec Go.Proofs.YtmkcooamgojbpaaDoor.Words Go.Proofs.YtmkcooamgojbpaaDoor.Octets Go.Proofs.YtmkcooamgojbpaaDoor.Steps Go.Proofs.YtmkcooamgojbpaaDoor.Cmds
attribute [local go_sem ↓] Go.wp_at_zero Go.wp_at_succ
set_option linter.unusedVariables false

theorem count_next {l : List UInt8} {k : Nat} (h : k < l.length) : (l.take (k + 1)).count 10 = (l.take k).count 10 + if l[k] = 10 then 1 else 0 := by
  rw [List.take_succ_eq_append_getElem h, List.count_append]
  by_cases e : l[k] = 10
  · rw [if_pos e, e]; simp
  · rw [if_neg e]; simp [e]
theorem rparse_l (x : Tok) : rparseF x = stepL x := rparse_eq x
set_option maxRecDepth 20000 in
set_option maxHeartbeats 8000000 in
theorem rwread_any (l : List UInt8) (hl : l.length ≤ 90000) (w : World) :
    Calls Tryd.prog 37 #[.string (strB l)] w (ReadSIs (scriptF l) w) := by
  obtain ⟨i0, hi0, hz0, hz1, hz2⟩ := info_parts infoStp
  have z1 : (strB l).size = l.length := strB_size l
  go_enter Tryd.func37, Tryd.ntmps37
  go_wp2_with fail
  go_loop [5, 6] (fun m i => ∃ k : Nat, k ≤ l.length ∧ i = .int .i64 (k : Int) ∧ m = .int .i64 (((l.take k).count 10 : Nat) : Int)) (fun _ i => l.length - (intOf i).toNat)
  case atStart => exact ⟨0, by omega, rfl, rfl⟩
  case round =>
    obtain ⟨k, hk, rfl, rfl⟩ := hrel
    by_cases hlt : k < l.length
    · have hat := strB_at l k (by omega) hlt
      have HN := Lib.hid (count_next hlt)
      have hcl : (l.take k).count 10 ≤ k := Nat.le_trans List.count_le_length (by rw [List.length_take]; omega)
      by_cases hc : l[k] = 10
      · have b3 : ∀ h, ((((strB l)[k]'h).toNat : Int) == 10) = true := fun h => by rw [hat, hc]; rfl
        rw [if_pos hc] at HN
        clear hat hc
        generalize (l.take k).count 10 = c at HN hcl
        go_wp2_with fail
        go_round
        case rel => exact ⟨k + 1, by omega, by go_num, by rw [HN.out]; go_num⟩
        case measure => simp [intOf]; omega
      · have b3 : ∀ h, ((((strB l)[k]'h).toNat : Int) == 10) = false := fun h => by
          rw [hat, beq_eq_false_iff_ne]
          intro e
          exact hc (UInt8.toNat_inj.1 (by show l[k].toNat = 10; omega))
        rw [if_neg hc] at HN
        clear hat hc
        generalize (l.take k).count 10 = c at HN hcl
        go_wp2_with fail
        go_round
        case rel => exact ⟨k + 1, by omega, by go_num, by rw [HN.out]; rfl⟩
        case measure => simp [intOf]; omega
    · obtain rfl : k = l.length := by omega
      rw [List.take_length]
      by_cases hc : 2000 < l.count 10
      · have HS := Lib.hid (script_many hc)
        have g1 : (2000 : Int) < ((l.count 10 : Nat) : Int) := by omega
        go_wp2_with fail
        go_ret3
        rw [HS.out]
        exact ⟨rfl, Below.refl _ _⟩
      have HS := Lib.hid (script_few hc)
      have g1 : ¬ (2000 : Int) < ((l.count 10 : Nat) : Int) := by omega
      generalize l.count 10 = n at g1 hc
      go_wp2_with fail
      clear g1 hc
      go_loopw [7, 8, 9] (fun o f i wr => ∃ (r : List (Stp × Value)) (fr k : Nat), f = .int .i64 fr ∧ i = .int .i64 k ∧ fr ≤ k ∧ k ≤ l.length ∧ r.length ≤ fr ∧ SRow w o r wr ∧ Hid (readT stepL l = behind (firsts r) (readT stepL (l.drop fr))) ∧ Hid (NoEol l fr k)) (fun _ _ i _ => l.length - (intOf i).toNat)
      case atStart => exact ⟨[], 0, 0, rfl, rfl, by omega, by omega, by simp, SRow.start, Lib.hid (behind_nil _).symm, Lib.hid fun j _ _ h => absurd h (Nat.not_lt_zero _)⟩
      case round =>
        obtain ⟨r, fr, k, rfl, rfl, hfk, hk, hmf, hsr, HE, HNE⟩ := hrel
        have HR := Lib.hid hsr
        obtain ⟨oa, oc, rfl⟩ := hsr.form
        clear hsr
        by_cases hlt : k < l.length
        · have hat := strB_at l k (by omega) hlt
          by_cases hc : l[k] = 10
          · have b3 : ∀ h, ((((strB l)[k]'h).toNat : Int) != 10) = false := fun h => by rw [hat, hc]; rfl
            have hx := chunk_free' HNE.out
            have hdp := drop_parts' hfk hlt hc
            have hct := chunk_text' l fr k hfk hk
            have hxl : ((l.drop fr).take (k - fr)).length ≤ l.length := by rw [List.length_take, List.length_drop]; omega
            clear hat hc
            generalize (l.drop fr).take (k - fr) = x at hx hdp hct hxl
            have g1 : (fr : Int) ≤ (k : Int) := by omega
            have g2 : (k : Int) ≤ (l.length : Int) := by omega
            have HPR := Lib.hid (rwparse_any x (by omega) wr)
            rw [rparse_l] at HPR
            unfold WParseIs at HPR
            cases hp : stepL x with
            | none =>
              have HRD := Lib.hid (show scriptF l = some (.inl (r.length + 1)) by rw [HS.out, HE.out, hdp, read_bad stepL hx hp, ← firsts_len r]; rfl)
              rw [hp] at HPR
              simp only [Option.getD_none, Option.isSome_none] at HPR
              clear hx hp hdp HE HNE
              have e4 : (if (false = true) then (0 : Int) else 4) = 4 := rfl
              rw [e4] at HPR
              clear e4
              go_wp2_with fail
              refine HPR.out.mono ?_
              rintro e w2 ⟨u, rfl, hby, hb2⟩
              obtain ⟨ua, un, uc, rfl⟩ := bytes_form hby
              have HB2 := Lib.hid ((HR.out.bel.trans (hb2.mono HR.out.bel.size)).alloc (Nat.le_trans HR.out.bel.size hb2.size) (.cells (stepC 0 0 0 (.slice ua un uc)) 42))
              clear hb2 hby
              unfold stepC at HB2 ⊢
              go_wp2_with fail
              go_ret3
              rw [HRD.out]
              exact ⟨rfl, HB2.out⟩
            | some s =>
              have HRD := Lib.hid (show ∀ u, readT stepL l = behind (firsts (r ++ [(s, u)])) (readT stepL (l.drop (k + 1))) from fun u => by rw [HE.out, hdp, read_ok stepL hx hp, behind_app, firsts_snoc])
              rw [hp] at HPR
              simp only [Option.getD_some, Option.isSome_some, if_true] at HPR
              clear hx hp hdp HE HNE
              have hsz1 := HR.out.bel.size
              go_wp2_with fail
              refine HPR.out.mono ?_
              rintro e w2 ⟨u, rfl, hby, hb2⟩
              obtain ⟨ua, un, uc, rfl⟩ := bytes_form hby
              replace HR := Lib.hid ((HR.out.below hb2).alloc (.cells (stepC s.k s.y s.v (.slice ua un uc)) 42))
              have HY := Lib.hid (bytes_alloc (bytes_mono hby hsz1) (.cells (stepC s.k s.y s.v (.slice ua un uc)) 42))
              have HX := Lib.hid (Blk.new w2 (stepC s.k s.y s.v (.slice ua un uc)) 42 w2.heap.size rfl)
              clear hb2 hby hsz1
              unfold stepC
              go_upto_region 18 with fail
              change Code.wp _ _ _ _ (w2.alloc (.cells (stepC s.k s.y s.v (.slice ua un uc)) 42))
              generalize w2.alloc (.cells (stepC s.k s.y s.v (.slice ua un uc)) 42) = w3 at HR HY HX ⊢
              generalize w2.heap.size = X at HX ⊢
              have HNB := Lib.hid (Blk.new w3 (stepC s.k s.y s.v (.slice ua un uc)) 42 w3.heap.size rfl)
              have HR2 := Lib.hid (HR.out.alloc (.cells (stepC s.k s.y s.v (.slice ua un uc)) 42))
              have HY2 := Lib.hid (bytes_alloc HY.out (.cells (stepC s.k s.y s.v (.slice ua un uc)) 42))
              have HX2 := Lib.hid (show Blk w3 X #[.int .i64 s.k, .int .i64 s.y, .int .i64 s.v, .slice ua un uc] 42 from HX.out)
              have hrl : r.length ≤ 90000 := by omega
              clear HR HY HX
              go_wp2_with (first
                | (refine load_blk (by rfl) 42 _ (by rfl) X (by rfl) _ _ HX2.out _ Tryd.underlying42 rfl (by kernel_rfl) ?_)
                | (at_builtin; refine wpList_append_lies _ (by rfl) _ _ _ (by rfl) w.heap.size 42 i0 (.agg (stepC 0 0 0 (.slice none 0 0))) 4 48 Tryd.underlying57 hi0 hz0 hz1 hz2 (by rfl) (by decide) _ r.length (flat r) (by rfl) HR2.out.row.1 ⟨w3.heap.size, 0, none⟩ 1 1 (stepC s.k s.y s.v (.slice ua un uc)).toList (by rfl) (by rfl) (news_stp HNB.out) (mem_stp (one_stp _ _ _ _ _ _)) (by decide) (by unfold maxLen; omega) (by omega) HR2.out.bel.size (w3.heap.size + 1) (by simp) ?_; intro g cap2 w9 hown9 hgrow9 hat9 hlt9; have H9 := Lib.hid (HR2.out.push HY2.out hown9 hgrow9); clear hown9 hgrow9 hat9 hlt9))
              go_roundw
              case rel => exact ⟨r ++ [(s, .slice ua un uc)], k + 1, k + 1, by go_num, by go_num, by omega, by omega, by rw [List.length_append]; simp; omega, H9.out, Lib.hid (HRD.out _), Lib.hid fun j _ h1 h2 => by omega⟩
              case measure => simp [intOf]; omega
          · have b3 : ∀ h, ((((strB l)[k]'h).toNat : Int) != 10) = true := fun h => by
              rw [hat, bne_iff_ne]
              intro e
              exact hc (UInt8.toNat_inj.1 (by show l[k].toNat = 10; omega))
            have HNE2 := Lib.hid (show NoEol l fr (k + 1) from fun j hj h1 h2 => by
              by_cases e : j < k
              · exact HNE.out j hj h1 e
              · have : j = k := by omega
                subst this; exact hc)
            clear hat hc
            go_wp2_with fail
            go_roundw
            case rel => exact ⟨r, fr, k + 1, rfl, by go_num, by omega, by omega, hmf, HR.out, HE, HNE2⟩
            case measure => simp [intOf]; omega
        · obtain rfl : k = l.length := by omega
          have hx : (10 : UInt8) ∉ l.drop fr := by
            have := chunk_free' HNE.out
            rwa [List.take_of_length_le (by rw [List.length_drop]; omega)] at this
          by_cases hfl : fr < l.length
          · have h0 : l.drop fr ≠ [] := fun e => by have := congrArg List.length e; rw [List.length_drop] at this; simp at this; omega
            have HRD := Lib.hid (show scriptF l = some (.inl (r.length + 1)) by rw [HS.out, HE.out, read_none stepL hx, if_neg h0, ← firsts_len r]; rfl)
            have HB := Lib.hid HR.out.bel
            clear hx h0
            have g1 : (fr : Int) < (l.length : Int) := by omega
            go_wp2_with fail
            go_ret3
            rw [HRD.out]
            exact ⟨rfl, HB.out⟩
          · have h0 : l.drop fr = [] := List.drop_of_length_le (by omega)
            have HRD := Lib.hid (show scriptF l = some (.inr (firsts r)) by rw [HS.out, HE.out, h0, readS_empty]; simp [behind])
            clear hx h0
            have g1 : ¬ (fr : Int) < (l.length : Int) := by omega
            go_wp2_with fail
            go_ret3
            rw [HRD.out]
            exact ⟨_, r, rfl, rfl, HR.out⟩
end Go.Proofs.YtmkcooamgojbpaaDoor.Lines

/- damperlaw35.WordsReads: the walk. -/
namespace Go.Proofs.YtmkcooamgojbpaaDoor.Lines
open Go.RowKit Go.Proofs.YtmkcooamgojbpaaDoor.Kit Go.Proofs.YtmkcooamgojbpaaDoor.Blk Go.Proofs.YtmkcooamgojbpaaDoor.Dec Go.Proofs.YtmkcooamgojbpaaDoor.Words Go.Proofs.YtmkcooamgojbpaaDoor.Octets Go.Proofs.YtmkcooamgojbpaaDoor.Steps Go.Proofs.YtmkcooamgojbpaaDoor.Cmds Go.Proofs.YtmkcooamgojbpaaDoor.Reports
attribute [local go_sem ↓] Go.wp_at_zero Go.wp_at_succ
set_option linter.unusedVariables false

theorem row_nil (w : World) : Row 0 (.slice none 0 0) [] w := ⟨[], rfl, World.ownsRow_nil _ _ _ _, fun x hx => by cases hx⟩
theorem own_base {W : World} {N M T k : Nat} {v : Value} {n : Nat} {xs : List Value} (h : W.ownsRow M T k v n xs) (hN : N ≤ M) : W.ownsRow N T k v n xs :=
  ⟨h.1, h.2.imp id fun ⟨g, cap, cur, h1, h2, h3⟩ => ⟨g, cap, cur, h1, Nat.le_trans hN h2, h3⟩⟩
theorem SRow.same {w W : World} {v : Value} {r : List (Stp × Value)} (h : SRow w v r W) : Row 0 v (r.map (·.1)) W :=
  ⟨r, rfl, own_base h.row.1 (Nat.zero_le _), fun x hx => bytes_mono (h.row.2 x hx) (Nat.zero_le _)⟩
theorem row_keep {N : Nat} {v : Value} {ss : List Stp} {W W' : World} (h : Row N v ss W) (hb : Below W.heap.size W W') : Row N v ss W' := by
  obtain ⟨r, hr, h1, h2⟩ := h
  have k : RowR N v r W' := RowR.below ⟨h1, h2⟩ hb
  exact ⟨r, hr, k.1, k.2⟩
set_option maxRecDepth 20000 in
set_option maxHeartbeats 8000000 in
theorem wreads_list (l : List UInt8) (w : World) (hm : MX w) : Calls Tryd.prog 8 #[.string (strB l)] w (AliveW w) := by
  have HM := Lib.hid hm
  have z1 : (strB l).size = l.length := strB_size l
  clear hm
  by_cases h : 2100 < l.length
  · have b1 : (2100 : Int) < (l.length : Int) := by omega
    go_enter Tryd.func8, Tryd.ntmps8
    go_wp2_with fail
    refine (alive35_any _ (HM.out)).mono ?_
    rintro e wz ⟨rfl, hbz⟩
    have HBZ := Lib.hid ((Below.refl w.heap.size w).trans (hbz.mono (Below.refl w.heap.size w).size))
    clear hbz
    go_wp2_with fail
    go_ret
    exact ⟨rfl, HBZ.out⟩
  · have b1 : ¬ (2100 : Int) < (l.length : Int) := by omega
    have H1 := Lib.hid (wread_any l (by omega) w HM.out)
    have H2 := Lib.hid (fun W => rwread_any l (by omega) W)
    have hso : ∀ ss, scriptF l = some (.inr ss) → ss.length ≤ 100000 := fun ss hs => by
      unfold scriptF at hs
      split at hs
      · cases hs
      · injection hs with hs
        have := readT_len hs
        omega
    cases hr : scriptF l with
    | none =>
      rw [hr] at H1 H2
      clear hr hso
      go_enter Tryd.func8, Tryd.ntmps8
      go_wp2_with fail
      refine H1.out.mono ?_
      rintro e w1 ⟨rfl, hb1⟩
      have HB1 := Lib.hid hb1
      clear hb1
      go_wp2_with fail
      refine (H2.out w1).mono ?_
      rintro e w2 ⟨rfl, hb2⟩
      have HB2 := Lib.hid (HB1.out.trans (hb2.mono HB1.out.size))
      clear hb2
      go_wp2_with fail
      refine (same_rows 0 0 [] (by decide) _ _ w2 (row_nil _) (row_nil _)).mono ?_
      rintro e w3 ⟨rfl, hb3, -⟩
      have HB3 := Lib.hid (HB2.out.trans (hb3.mono HB2.out.size))
      clear hb3
      go_wp2_with fail
      refine (alive35_any _ (HM.out.below (n := 0) HB3.out)).mono ?_
      rintro e wz ⟨rfl, hbz⟩
      have HBZ := Lib.hid ((HB3.out).trans (hbz.mono (HB3.out).size))
      clear hbz
      go_wp2_with fail
      go_ret
      exact ⟨rfl, HBZ.out⟩
    | some q =>
      cases q with
      | inl n =>
        rw [hr] at H1 H2
        clear hr hso
        go_enter Tryd.func8, Tryd.ntmps8
        go_wp2_with fail
        refine H1.out.mono ?_
        rintro e w1 ⟨rfl, hb1⟩
        have HB1 := Lib.hid hb1
        clear hb1
        go_wp2_with fail
        refine (H2.out w1).mono ?_
        rintro e w2 ⟨rfl, hb2⟩
        have HB2 := Lib.hid (HB1.out.trans (hb2.mono HB1.out.size))
        clear hb2
        go_wp2_with fail
        refine (same_rows 0 0 [] (by decide) _ _ w2 (row_nil _) (row_nil _)).mono ?_
        rintro e w3 ⟨rfl, hb3, -⟩
        have HB3 := Lib.hid (HB2.out.trans (hb3.mono HB2.out.size))
        clear hb3
        go_wp2_with fail
        refine (alive35_any _ (HM.out.below (n := 0) HB3.out)).mono ?_
        rintro e wz ⟨rfl, hbz⟩
        have HBZ := Lib.hid ((HB3.out).trans (hbz.mono (HB3.out).size))
        clear hbz
        go_wp2_with fail
        go_ret
        exact ⟨rfl, HBZ.out⟩
      | inr ss =>
        have hsl := hso ss hr
        rw [hr] at H1 H2
        clear hr hso
        go_enter Tryd.func8, Tryd.ntmps8
        go_wp2_with fail
        refine H1.out.mono ?_
        rintro e w1 ⟨v1, r1, rfl, hr1, hs1⟩
        have HS1 := Lib.hid hs1
        obtain ⟨a1, c1, rfl⟩ := hs1.form
        have HR1 := Lib.hid (show Row 0 (.slice a1 r1.length c1) ss w1 by rw [← hr1]; exact hs1.same)
        clear hs1 hr1
        go_wp2_with fail
        refine (H2.out w1).mono ?_
        rintro e w2 ⟨v2, r2, rfl, hr2, hs2⟩
        have HB2 := Lib.hid (HS1.out.bel.trans (hs2.bel.mono HS1.out.bel.size))
        have HR12 := Lib.hid (row_keep HR1.out hs2.bel)
        obtain ⟨a2, c2, rfl⟩ := hs2.form
        have HR2 := Lib.hid (show Row 0 (.slice a2 r2.length c2) ss w2 by rw [← hr2]; exact hs2.same)
        clear hs2 hr2
        go_wp2_with fail
        refine (same_rows 0 0 ss hsl _ _ w2 HR12.out HR2.out).mono ?_
        rintro e w3 ⟨rfl, hb3, -⟩
        have HB3 := Lib.hid (HB2.out.trans (hb3.mono HB2.out.size))
        clear hb3
        go_wp2_with fail
        refine (alive35_any _ (HM.out.below (n := 0) HB3.out)).mono ?_
        rintro e wz ⟨rfl, hbz⟩
        have HBZ := Lib.hid ((HB3.out).trans (hbz.mono (HB3.out).size))
        clear hbz
        go_wp2_with fail
        go_ret
        exact ⟨rfl, HBZ.out⟩
theorem wreads_law (s : ByteArray) (w : World) (hm : MX w) : Calls Tryd.prog 8 #[.string s] w (AliveW w) := by
  have := wreads_list s.data.toList w hm
  rwa [show strB s.data.toList = s from by simp [strB]] at this
end Go.Proofs.YtmkcooamgojbpaaDoor.Lines
