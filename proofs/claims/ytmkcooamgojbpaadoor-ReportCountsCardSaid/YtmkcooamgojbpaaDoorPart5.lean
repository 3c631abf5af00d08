/- Parts of the proof: CntC. -/
import Derived.Test.YtmkcooamgojbpaaDoorPart2
import Derived.Test.YtmkcooamgojbpaaDoorPart4
import Derived.Deep.RegionHeld3
import Derived.Deep.DrawnRows
import Derived.Shelf.SlSortCmp.WholeK

/- The comparison of counts: cmp.Or of two, and the closure. -/
namespace Go.Proofs.YtmkcooamgojbpaaDoor.Counts
open Go.RowKit Go.Proofs.YtmkcooamgojbpaaDoor.Kit Go.Proofs.YtmkcooamgojbpaaDoor.Blk Go.Shelf Go.Lib Go.Sort
attribute [local go_sem ↓] Go.wp_at_zero Go.wp_at_succ
set_option linter.unusedVariables false

theorem or2_any (g c : Nat) (x y : Int) (w : World) (h0 : w.cell? ⟨g, 0, none⟩ = some (.int .i64 x)) (h1 : w.cell? ⟨g, 1, none⟩ = some (.int .i64 y)) :
    Calls Tryd.prog 119 #[.slice (some ⟨g, 0, none⟩) 2 c] w fun e w' => e = .returned (.int .i64 (if x = 0 then y else x)) ∧ w = w' := by
  go_enter Tryd.func119, Tryd.ntmps119
  go_wp2_with fail
  go_loop [8] (fun i => (i = .int .i64 0) ∨ (i = .int .i64 1 ∧ x = 0) ∨ (i = .int .i64 2 ∧ x = 0 ∧ y = 0)) (fun i => 2 - (intOf i).toNat)
  case atStart => exact .inl rfl
  case round =>
    rcases hrel with rfl | ⟨rfl, rfl⟩ | ⟨rfl, rfl, rfl⟩
    · by_cases hx : x = 0
      · subst hx
        go_wp2_with fail
        go_round
        case rel => simp
        case measure => simp [intOf]
      · skip
        go_wp2_with fail
        go_ret
        exact ⟨rfl, rfl⟩
    · by_cases hy : y = 0
      · subst hy
        go_wp2_with fail
        go_round
        case rel => simp
        case measure => simp [intOf]
      · go_wp2_with fail
        go_ret
        exact ⟨rfl, rfl⟩
    · go_wp2_with fail
      go_ret
      exact ⟨rfl, rfl⟩
def cfC (x y : Cnt) : Int := if compareInt x.kind y.kind = 0 then compareInt x.code y.code else compareInt x.kind y.kind
theorem lt_cfC (x y : Cnt) : ltOf cfC x y = klt x.key y.key := by
  unfold ltOf cfC klt Cnt.key compareInt
  dsimp only
  by_cases h1 : x.kind < y.kind
  · simp [h1]
  · by_cases h2 : y.kind < x.kind
    · have h3 : ¬ x.kind = y.kind := by omega
      simp [h1, h2, h3]
    · have h3 : x.kind = y.kind := by omega
      simp only [h3, if_false, if_true, gt_iff_lt, Int.lt_irrefl, decide_true, decide_false, Bool.false_or, Bool.true_and]
      by_cases h4 : x.code < y.code
      · simp [h4]
      · by_cases h5 : y.code < x.code <;> simp [h4, h5]
theorem swo_cfC : SWO (ltOf cfC) where
  irrefl x := by rw [lt_cfC]; exact klt_irrefl _
  trans x y z h1 h2 := by rw [lt_cfC] at *; exact klt_trans h1 h2
  ntrans x y z h1 h2 := by
    rw [lt_cfC] at *
    unfold klt at *
    simp only [Bool.or_eq_false_iff, Bool.and_eq_false_iff, decide_eq_false_iff_not] at *
    omega
set_option maxRecDepth 20000 in
theorem cmp_any (x y : Cnt) (W : World) :
    Calls Tryd.prog 118 #[.agg x.cells, .agg y.cells] W fun e w' => e = .returned (.int .i64 (cfC x y)) ∧ ∃ q os', w' = grow (W.drewN q) os' := by
  obtain ⟨x0, x1, x2, x3⟩ := x
  obtain ⟨y0, y1, y2, y3⟩ := y
  have HE := Lib.hid (show cfC ⟨x0, x1, x2, x3⟩ ⟨y0, y1, y2, y3⟩ = if compareInt x0 y0 = 0 then compareInt x1 y1 else compareInt x0 y0 from rfl)
  have HX := Lib.hid ((Blk.new W (Cnt.cells ⟨x0, x1, x2, x3⟩) 85 W.heap.size rfl).old (.cells (Cnt.cells ⟨y0, y1, y2, y3⟩) 85))
  have HY := Lib.hid (Blk.new (W.alloc (.cells (Cnt.cells ⟨x0, x1, x2, x3⟩) 85)) (Cnt.cells ⟨y0, y1, y2, y3⟩) 85 (W.heap.size + 1) (by simp))
  have HG := Lib.hid (show ∀ cs : Array Value, ∃ q os', ((((W.alloc (.cells (Cnt.cells ⟨x0, x1, x2, x3⟩) 85)).alloc (.cells (Cnt.cells ⟨y0, y1, y2, y3⟩) 85)).alloc (.cells cs 3)).drew) = grow (W.drewN q) os' from fun cs => ⟨1, _, by
    rw [alloc_eq_grow, alloc_eq_grow, alloc_eq_grow, grow_grow, grow_grow]; rfl⟩)
  generalize cfC ⟨x0, x1, x2, x3⟩ ⟨y0, y1, y2, y3⟩ = r at HE ⊢
  unfold Cnt.cells at *
  go_enter Tryd.func118, Tryd.ntmps118
  go_upto_region 1 with fail
  refine wp_region_held_drew (S := (fun w' => w'.cell? ⟨W.heap.size, 0, none⟩ = some (.int .i64 x0) ∧ w'.cell? ⟨W.heap.size, 1, none⟩ = some (.int .i64 x1) ∧ w'.cell? ⟨W.heap.size + 1, 0, none⟩ = some (.int .i64 y0) ∧ w'.cell? ⟨W.heap.size + 1, 1, none⟩ = some (.int .i64 y1))) (by kernel_rfl) ⟨HX.out.cell 0 rfl, HX.out.cell 1 rfl, HY.out.cell 0 rfl, HY.out.cell 1 rfl⟩ (fun hHeld => ?_)
  generalize hW0 : (W.alloc (.cells #[.int .i64 x0, .int .i64 x1, .int .i64 x2, .int .i64 x3] 85)).alloc (.cells #[.int .i64 y0, .int .i64 y1, .int .i64 y2, .int .i64 y3] 85) = W0 at HX HY HG hHeld ⊢
  refine wpAnyH_take (i := 0) (oi := ⟨some 5, _, _, _, _, _⟩) (v := (.pointer (some ⟨W.heap.size, 0, none⟩))) rfl (by kernel_rfl) (by kernel_rfl) (by kernel_rfl) (fun _ _ _ h => h) (Or.inl ⟨by rfl, fun w hSw => by (try dsimp only at hSw); go_simp⟩) (by assumption) ?_
  simp only [Act.put, List.setIfInBounds_toArray, List.set_cons_zero, List.set_cons_succ]
  refine wpAnyH_take (i := 1) (oi := ⟨some 6, _, _, _, _, _⟩) (v := (.int .i64 x0)) rfl (by kernel_rfl) (by kernel_rfl) (by kernel_rfl) (fun _ _ _ h => h) (Or.inl ⟨by rfl, fun w hSw => by (try dsimp only at hSw); go_simp⟩) (by assumption) ?_
  simp only [Act.put, List.setIfInBounds_toArray, List.set_cons_zero, List.set_cons_succ]
  refine wpAnyH_take (i := 2) (oi := ⟨some 7, _, _, _, _, _⟩) (v := (.pointer (some ⟨W.heap.size + 1, 0, none⟩))) rfl (by kernel_rfl) (by kernel_rfl) (by kernel_rfl) (fun _ _ _ h => h) (Or.inl ⟨by rfl, fun w hSw => by (try dsimp only at hSw); go_simp⟩) (by assumption) ?_
  simp only [Act.put, List.setIfInBounds_toArray, List.set_cons_zero, List.set_cons_succ]
  refine wpAnyH_take (i := 3) (oi := ⟨some 8, _, _, _, _, _⟩) (v := (.int .i64 y0)) rfl (by kernel_rfl) (by kernel_rfl) (by kernel_rfl) (fun _ _ _ h => h) (Or.inl ⟨by rfl, fun w hSw => by (try dsimp only at hSw); go_simp⟩) (by assumption) ?_
  simp only [Act.put, List.setIfInBounds_toArray, List.set_cons_zero, List.set_cons_succ]
  refine wpAnyH_take (i := 5) (oi := ⟨some 10, _, _, _, _, _⟩) (v := (.pointer (some ⟨W.heap.size, 1, none⟩))) rfl (by kernel_rfl) (by kernel_rfl) (by kernel_rfl) (fun _ _ _ h => h) (Or.inl ⟨by rfl, fun w hSw => by (try dsimp only at hSw); go_simp⟩) (by assumption) ?_
  simp only [Act.put, List.setIfInBounds_toArray, List.set_cons_zero, List.set_cons_succ]
  refine wpAnyH_take (i := 6) (oi := ⟨some 11, _, _, _, _, _⟩) (v := (.int .i64 x1)) rfl (by kernel_rfl) (by kernel_rfl) (by kernel_rfl) (fun _ _ _ h => h) (Or.inl ⟨by rfl, fun w hSw => by (try dsimp only at hSw); go_simp⟩) (by assumption) ?_
  simp only [Act.put, List.setIfInBounds_toArray, List.set_cons_zero, List.set_cons_succ]
  refine wpAnyH_take (i := 7) (oi := ⟨some 12, _, _, _, _, _⟩) (v := (.pointer (some ⟨W.heap.size + 1, 1, none⟩))) rfl (by kernel_rfl) (by kernel_rfl) (by kernel_rfl) (fun _ _ _ h => h) (Or.inl ⟨by rfl, fun w hSw => by (try dsimp only at hSw); go_simp⟩) (by assumption) ?_
  simp only [Act.put, List.setIfInBounds_toArray, List.set_cons_zero, List.set_cons_succ]
  refine wpAnyH_take (i := 8) (oi := ⟨some 13, _, _, _, _, _⟩) (v := (.int .i64 y1)) rfl (by kernel_rfl) (by kernel_rfl) (by kernel_rfl) (fun _ _ _ h => h) (Or.inl ⟨by rfl, fun w hSw => by (try dsimp only at hSw); go_simp⟩) (by assumption) ?_
  simp only [Act.put, List.setIfInBounds_toArray, List.set_cons_zero, List.set_cons_succ]
  refine wpAnyH_ready (rs := [4]) (by kernel_rfl) (by simp) ?_
  refine AllReadyH.cons (o := ⟨some 9, _, _, _, _, _⟩) rfl (fun KK hK => ?_) AllReadyH.nil
  go_simp
  refine (Shelf.cmp_Compare_int x0 y0 _).mono ?_
  rintro e w' ⟨rfl, rfl⟩
  dsimp only
  refine hK.out _ _ hHeld (fun hHeld => ?_)
  clear hK; try clear KK
  try simp only [Act.put, List.setIfInBounds_toArray, List.set_cons_zero, List.set_cons_succ]
  refine wpAnyH_ready (rs := [9]) (by kernel_rfl) (by simp) ?_
  refine AllReadyH.cons (o := ⟨some 14, _, _, _, _, _⟩) rfl (fun KK hK => ?_) AllReadyH.nil
  go_simp
  refine (Shelf.cmp_Compare_int x1 y1 _).mono ?_
  rintro e w' ⟨rfl, rfl⟩
  dsimp only
  refine hK.out _ _ hHeld (fun hHeld => ?_)
  clear hK; try clear KK
  try simp only [Act.put, List.setIfInBounds_toArray, List.set_cons_zero, List.set_cons_succ]
  refine wpAnyH_ready (rs := [10]) (by kernel_rfl) (by simp) ?_
  refine AllReadyH.cons (o := ⟨some 15, _, _, _, _, _⟩) rfl (fun KK hK => ?_) AllReadyH.nil
  go_simp
  generalize compareInt x0 y0 = ca at HE ⊢
  generalize compareInt x1 y1 = cb at HE ⊢
  change KK _ (W0.alloc (.cells #[.int .i64 ca, .int .i64 cb] 3)).drew
  have HC := Lib.hid (Blk.new W0 #[.int .i64 ca, .int .i64 cb] 3 W0.heap.size rfl)
  have HX1 := Lib.hid (HX.out.old (.cells #[.int .i64 ca, .int .i64 cb] 3))
  have HY1 := Lib.hid (HY.out.old (.cells #[.int .i64 ca, .int .i64 cb] 3))
  replace HG := Lib.hid (HG.out #[.int .i64 ca, .int .i64 cb])
  refine hK.out _ _ ⟨HX1.out.cell 0 rfl, HX1.out.cell 1 rfl, HY1.out.cell 0 rfl, HY1.out.cell 1 rfl⟩ (fun hHeld => ?_)
  clear hK; try clear KK
  try simp only [Act.put, List.setIfInBounds_toArray, List.set_cons_zero, List.set_cons_succ]
  refine wpAnyH_ready (rs := [11]) (by kernel_rfl) (by simp) ?_
  refine AllReadyH.cons (o := ⟨some 16, _, _, _, _, _⟩) rfl (fun KK hK => ?_) AllReadyH.nil
  go_simp
  have hor := or2_any W0.heap.size 2 ca cb (W0.alloc (.cells #[.int .i64 ca, .int .i64 cb] 3)).drew (HC.out.cell 0 rfl) (HC.out.cell 1 rfl)
  rw [← HE.out] at hor
  refine hor.mono ?_
  rintro e w' ⟨rfl, rfl⟩
  dsimp only
  refine hK.out _ _ hHeld (fun hHeld => ?_)
  clear hK; try clear KK
  try simp only [Act.put, List.setIfInBounds_toArray, List.set_cons_zero, List.set_cons_succ]
  refine wpAnyH_take (i := 12) (oi := ⟨some 4, _, _, _, _, _⟩) (v := (.int .i64 r)) rfl (by kernel_rfl) (by kernel_rfl) (by kernel_rfl) (fun _ _ _ h => h) (Or.inl ⟨by rfl, fun w hSw => by (try dsimp only at hSw); go_simp⟩) (by assumption) ?_
  simp only [Act.put, List.setIfInBounds_toArray, List.set_cons_zero, List.set_cons_succ]
  refine wpAnyH_done (by kernel_rfl) ?_ _
  go_wp2_with fail
  go_ret
  exact ⟨rfl, HG.out⟩
end Go.Proofs.YtmkcooamgojbpaaDoor.Counts
