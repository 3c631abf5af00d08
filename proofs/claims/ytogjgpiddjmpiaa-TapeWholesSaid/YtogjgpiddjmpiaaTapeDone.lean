/- tape's maker: done; fix.Qty. -/
import Derived.Test.YtogjgpiddjmpiaaTapeAdd
namespace Go.Proofs.Ytogjgpiddjmpiaa.Tape
set_option linter.unusedVariables false
open Go.RowKit Go.Proofs.Ytogjgpiddjmpiaa.Kit Go.Proofs.Ytogjgpiddjmpiaa.Blk Go.Proofs.Ytogjgpiddjmpiaa.Msgs
attribute [local go_sem ↓] Go.wp_at_zero Go.wp_at_succ

def withMean (b : Bar) (n : Int) : Bar := ⟨b.frm, b.opn, b.high, b.low, b.cls, b.vol, b.trd, n⟩
theorem blk_mean {w : World} {K : Nat} {b : Bar} {x : Nat} (h : Blk w K (mk b x) 146) (v : Int) : Blk (w.setCell ⟨K, 7, none⟩ (.int .i64 v)) K (mk (withMean b v) x) 146 := h.set 7 _
theorem range_bar {w : World} {K : Nat} {b : Bar} {x : Nat} (h : Blk w K (mk b x) 146) : w.rangeAt K 0 b.cells.toList := fun j v hv => by
  have hj : j < 8 := (List.getElem?_eq_some_iff.1 hv).1
  rw [Nat.zero_add]
  refine h.cell j ?_
  have : j = 0 ∨ j = 1 ∨ j = 2 ∨ j = 3 ∨ j = 4 ∨ j = 5 ∨ j = 6 ∨ j = 7 := by omega
  rcases this with rfl | rfl | rfl | rfl | rfl | rfl | rfl | rfl <;> exact hv
theorem mean_wc (x v : Nat) (hx : x < 340282366920938463463374607431768211456) (hv0 : 0 < v) (hv : v < 9223372036854775808) (hq : x / v < 9223372036854775808) (w : World) :
    Calls Try.prog 78 #[.agg (wcells x), .int .i64 v] w fun e w' => e = .returned (.int .i64 ((x / v : Nat) : Int)) ∧ Below w.heap.size w w' := by
  have h := WideN.mean_any (x / 18446744073709551616) (x % 18446744073709551616) v (by omega) (by omega) hv0 hv (by rw [Nat.div_add_mod']; exact hq) w
  rw [Nat.div_add_mod'] at h
  exact h

set_option maxRecDepth 20000 in
set_option maxHeartbeats 4000000 in
theorem done_any (K : Nat) (b : Bar) (x v : Nat) (w : World) (hk : Blk w K (mk b x) 146) (hv : b.vol = (v : Int)) (hv0 : 0 < v) (hv1 : v < 9223372036854775808) (hx : x < 340282366920938463463374607431768211456) (hq : x / v < 9223372036854775808) :
    Calls Try.prog 73 #[.pointer (some ⟨K, 0, none⟩)] w fun e w' => e = .returned (.agg (withMean b ((x / v : Nat) : Int)).cells) ∧ Blk w' K (mk (withMean b ((x / v : Nat) : Int)) x) 146 ∧ Chg w.heap.size K w w' := by
  have HR := Lib.hid (Blk.new w Bar.zero.cells 53 w.heap.size rfl)
  have HK := Lib.hid (hk.old (.cells Bar.zero.cells 53))
  have HC := Lib.hid ((Chg.refl w.heap.size K w).alloc (Nat.le_refl _) (.cells Bar.zero.cells 53))
  have hKB : K < w.heap.size := hk.lt
  have HV := Lib.hid hv
  have HME := Lib.hid (fun w => mean_wc x v hx hv0 hv1 hq w)
  clear hk hv
  generalize x / v = n at *
  go_enter Try.func73, Try.ntmps73
  go_upto_region 1 with fail
  change Code.wp _ _ _ _ (w.alloc (.cells Bar.zero.cells 53))
  generalize w.alloc (.cells Bar.zero.cells 53) = W at HR HK HC ⊢
  generalize hBB : w.heap.size = B at HR HK HC hKB ⊢
  have HB := Lib.hid hBB
  clear hBB
  have k5 : W.drew.cell? ⟨K, 5, none⟩ = some (.int .i64 v) := by rw [← HV.out]; exact HK.out.cell 5 rfl
  refine wp_region_held_drew (S := (fun w' => w'.cell? ⟨K, 5, none⟩ = some (.int .i64 v) ∧ w'.rangeAt K 8 (wcells x).toList)) (by kernel_rfl) ⟨k5, range_worth HK.out.drew⟩ (fun hHeld => ?_)
  replace HK := Lib.hid HK.out.drew
  replace HR := Lib.hid HR.out.drew
  replace HC := Lib.hid HC.out.drew
  generalize W.drew = W at HK HR HC hHeld k5 ⊢
  refine wpAnyH_take (i := 0) (oi := ⟨some 3, _, _, _, _, _⟩) (v := (.pointer (some ⟨K, 0, none⟩))) rfl (by kernel_rfl) (by kernel_rfl) (by kernel_rfl) (fun _ _ _ h => h) (Or.inl ⟨by rfl, fun w hSw => by (try dsimp only at hSw); go_simp⟩) (by assumption) ?_
  simp only [Act.put, List.setIfInBounds_toArray, List.set_cons_zero, List.set_cons_succ]
  refine wpAnyH_take (i := 1) (oi := ⟨some 4, _, _, _, _, _⟩) (v := (.pointer (some ⟨K, 0, none⟩))) rfl (by kernel_rfl) (by kernel_rfl) (by kernel_rfl) (fun _ _ _ h => h) (Or.inl ⟨by rfl, fun w hSw => by (try dsimp only at hSw); go_simp⟩) (by assumption) ?_
  simp only [Act.put, List.setIfInBounds_toArray, List.set_cons_zero, List.set_cons_succ]
  refine wpAnyH_take (i := 2) (oi := ⟨some 5, _, _, _, _, _⟩) (v := (.pointer (some ⟨K, 0, none⟩))) rfl (by kernel_rfl) (by kernel_rfl) (by kernel_rfl) (fun _ _ _ h => h) (Or.inl ⟨by rfl, fun w hSw => by (try dsimp only at hSw); go_simp⟩) (by assumption) ?_
  simp only [Act.put, List.setIfInBounds_toArray, List.set_cons_zero, List.set_cons_succ]
  refine wpAnyH_take (i := 3) (oi := ⟨some 6, _, _, _, _, _⟩) (v := (.pointer (some ⟨K, 8, none⟩))) rfl (by kernel_rfl) (by kernel_rfl) (by kernel_rfl) (fun _ _ _ h => h) (Or.inl ⟨by rfl, fun w hSw => by (try dsimp only at hSw); go_simp⟩) (by assumption) ?_
  simp only [Act.put, List.setIfInBounds_toArray, List.set_cons_zero, List.set_cons_succ]
  refine wpAnyH_take (i := 4) (oi := ⟨some 7, .load 144 (.tmp 6), _, _, _, _⟩) (v := _) rfl (by kernel_rfl) (by kernel_rfl) (by kernel_rfl) (fun _ _ _ h => h) (yieldsIf_load_mid (by rfl) _ _ rfl _ _ rfl _ _ (fun w h => h.2) Try.underlying144 rfl (by kernel_rfl)) (by assumption) ?_
  simp only [Act.put, List.setIfInBounds_toArray, List.set_cons_zero, List.set_cons_succ]
  refine wpAnyH_take (i := 5) (oi := ⟨some 8, _, _, _, _, _⟩) (v := (.pointer (some ⟨K, 0, none⟩))) rfl (by kernel_rfl) (by kernel_rfl) (by kernel_rfl) (fun _ _ _ h => h) (Or.inl ⟨by rfl, fun w hSw => by (try dsimp only at hSw); go_simp⟩) (by assumption) ?_
  simp only [Act.put, List.setIfInBounds_toArray, List.set_cons_zero, List.set_cons_succ]
  refine wpAnyH_take (i := 6) (oi := ⟨some 9, _, _, _, _, _⟩) (v := (.pointer (some ⟨K, 0, none⟩))) rfl (by kernel_rfl) (by kernel_rfl) (by kernel_rfl) (fun _ _ _ h => h) (Or.inl ⟨by rfl, fun w hSw => by (try dsimp only at hSw); go_simp⟩) (by assumption) ?_
  simp only [Act.put, List.setIfInBounds_toArray, List.set_cons_zero, List.set_cons_succ]
  refine wpAnyH_take (i := 7) (oi := ⟨some 10, _, _, _, _, _⟩) (v := (.pointer (some ⟨K, 0, none⟩))) rfl (by kernel_rfl) (by kernel_rfl) (by kernel_rfl) (fun _ _ _ h => h) (Or.inl ⟨by rfl, fun w hSw => by (try dsimp only at hSw); go_simp⟩) (by assumption) ?_
  simp only [Act.put, List.setIfInBounds_toArray, List.set_cons_zero, List.set_cons_succ]
  refine wpAnyH_take (i := 8) (oi := ⟨some 11, _, _, _, _, _⟩) (v := (.pointer (some ⟨K, 5, none⟩))) rfl (by kernel_rfl) (by kernel_rfl) (by kernel_rfl) (fun _ _ _ h => h) (Or.inl ⟨by rfl, fun w hSw => by (try dsimp only at hSw); go_simp⟩) (by assumption) ?_
  simp only [Act.put, List.setIfInBounds_toArray, List.set_cons_zero, List.set_cons_succ]
  refine wpAnyH_take (i := 9) (oi := ⟨some 12, _, _, _, _, _⟩) (v := (.int .i64 v)) rfl (by kernel_rfl) (by kernel_rfl) (by kernel_rfl) (fun _ _ _ h => h) (Or.inl ⟨by rfl, fun w hSw => by (try dsimp only at hSw); go_simp⟩) (by assumption) ?_
  simp only [Act.put, List.setIfInBounds_toArray, List.set_cons_zero, List.set_cons_succ]
  refine wpAnyH_ready (rs := [10]) (by kernel_rfl) (by simp) ?_
  refine AllReadyH.cons (o := ⟨some 13, _, _, _, _, _⟩) rfl (fun KK hK => ?_) AllReadyH.nil
  go_simp
  refine (HME.out _).mono ?_
  rintro e w2 ⟨rfl, hb⟩
  replace HC := Lib.hid (HC.out.step (hb.mono (Nat.le_trans (Nat.le_of_eq HB.out.symm) HC.out.size)))
  replace HK := Lib.hid (HK.out.below hb HK.out.lt)
  replace HR := Lib.hid (HR.out.below hb HR.out.lt)
  clear hb hHeld k5
  have k5 : w2.cell? ⟨K, 5, none⟩ = some (.int .i64 v) := by rw [← HV.out]; exact HK.out.cell 5 rfl
  go_wp2_with fail
  refine hK.out _ _ ⟨k5, range_worth HK.out⟩ (fun hHeld => ?_)
  clear hK; try clear KK
  try simp only [Act.put, List.setIfInBounds_toArray, List.set_cons_zero, List.set_cons_succ]
  refine wpAnyH_take (i := 11) (oi := ⟨some 14, _, _, _, _, _⟩) (v := (.pointer (some ⟨K, 0, none⟩))) rfl (by kernel_rfl) (by kernel_rfl) (by kernel_rfl) (fun _ _ _ h => h) (Or.inl ⟨by rfl, fun w hSw => by (try dsimp only at hSw); go_simp⟩) (by assumption) ?_
  simp only [Act.put, List.setIfInBounds_toArray, List.set_cons_zero, List.set_cons_succ]
  refine wpAnyH_take (i := 12) (oi := ⟨some 15, _, _, _, _, _⟩) (v := (.pointer (some ⟨K, 0, none⟩))) rfl (by kernel_rfl) (by kernel_rfl) (by kernel_rfl) (fun _ _ _ h => h) (Or.inl ⟨by rfl, fun w hSw => by (try dsimp only at hSw); go_simp⟩) (by assumption) ?_
  simp only [Act.put, List.setIfInBounds_toArray, List.set_cons_zero, List.set_cons_succ]
  refine wpAnyH_take (i := 13) (oi := ⟨some 16, _, _, _, _, _⟩) (v := (.pointer (some ⟨K, 7, none⟩))) rfl (by kernel_rfl) (by kernel_rfl) (by kernel_rfl) (fun _ _ _ h => h) (Or.inl ⟨by rfl, fun w hSw => by (try dsimp only at hSw); go_simp⟩) (by assumption) ?_
  simp only [Act.put, List.setIfInBounds_toArray, List.set_cons_zero, List.set_cons_succ]
  have c7 : w2.cell? ⟨K, 7, none⟩ = some (.int .i64 b.mean) := HK.out.cell 7 rfl
  have f7 : w2.frozen? ⟨K, 7, none⟩ = false := HK.out.free 7
  refine wpAnyH_ready (rs := [14]) (by kernel_rfl) (by simp) ?_
  refine AllReadyH.cons (o := ⟨none, _, _, _, _, _⟩) rfl (fun KK hK => ?_) AllReadyH.nil
  go_simp
  replace HK := Lib.hid (blk_mean HK.out (n : Int))
  replace HR := Lib.hid (HR.out.apart ⟨K, 7, none⟩ (.int .i64 (n : Int)) (by show K ≠ B; omega))
  replace HC := Lib.hid (HC.out.setCell ⟨K, 7, none⟩ (.int .i64 (n : Int)) (Or.inl rfl))
  clear c7 f7 hHeld k5
  generalize World.setCell w2 ⟨K, 7, none⟩ (.int .i64 (n : Int)) = W3 at HK HR HC ⊢
  refine hK.out _ _ ⟨by rw [← HV.out]; exact HK.out.cell 5 rfl, range_worth HK.out⟩ (fun hHeld => ?_)
  clear hK; try clear KK
  refine wpAnyH_done (by kernel_rfl) ?_ _
  go_wp2_with (first
    | (refine wpList_load_mid (by rfl) 53 _ (by rfl) _ _ (by rfl) _ _ (range_bar HK.out) Try.underlying53 rfl (by kernel_rfl) ?_)
    | (refine store_blk (by rfl) 53 _ _ (by rfl) B (by rfl) Bar.zero.cells (withMean b (n : Int)).cells 53 HR.out (by rfl) (by rfl) (by kernel_rfl) (one_bar _) ?_))
  replace HK := Lib.hid (Blk.apartAll (B := B) (withMean b (n : Int)).cells.toList 0 _ HK.out (by omega))
  replace HR := Lib.hid (HR.out.setCells (withMean b (n : Int)).cells rfl)
  replace HC := Lib.hid (Chg.setCells (B := B) (withMean b (n : Int)).cells.toList 0 _ HC.out (Or.inr (Nat.le_refl _)))
  refine bodyPost_ret (results_cell_row rfl _ _ _ _ _ (0, 0) _ rfl HR.out Try.underlying53 rfl (by kernel_rfl)) rfl ?_
  exact ⟨rfl, HK.out, by rw [HB.out]; exact HC.out⟩

theorem in_any (A : Nat) (q lo hi : Int) (w : World) (hA : w.cell? ⟨A, 0, none⟩ = some (.int .i64 q)) :
    Calls Try.prog 149 #[.int .i64 lo, .int .i64 hi, .pointer (some ⟨A, 0, none⟩)] w fun e w' => e = .returned (.bool (decide (lo ≤ q) && decide (q ≤ hi))) ∧ w = w' := by
  by_cases h : lo ≤ q
  · go_enter Try.func149, Try.ntmps149
    go_wp2
    go_ret
    exact ⟨by simp [h], rfl⟩
  · have h2 : q < lo := by omega
    go_enter Try.func149, Try.ntmps149
    go_wp2
    go_ret
    exact ⟨ret_bool (by simp; omega), rfl⟩
def qtyF (q : Int) : Int := if 1 ≤ q ∧ q ≤ 4294967296 then 0 else 9
theorem qty_any (q : Int) (w : World) : Calls Try.prog 114 #[.int .i64 q] w fun e w' => e = .returned (.int .i64 (qtyF q)) ∧ Below w.heap.size w w' := by
  by_cases h : 1 ≤ q ∧ q ≤ 4294967296
  · have b1 : (decide (1 ≤ q) && decide (q ≤ 4294967296)) = true := by simp [h]
    go_enter Try.func114, Try.ntmps114
    go_wp2_with (go_at_call 149; refine (in_any w.heap.size q _ _ _ (cell_new _ _ _ _ _ _ rfl rfl)).mono ?_; rintro e w' ⟨rfl, rfl⟩; rw [b1])
    refine bodyPost_ret (v := .int .i64 0) (by simp [results, Try.results114, go_sem]) rfl ?_
    exact ⟨ret_int (if_pos h).symm, (Below.refl _ _).alloc (Nat.le_refl _) _⟩
  · have b1 : (decide (1 ≤ q) && decide (q ≤ 4294967296)) = false := by
      rw [Bool.eq_false_iff]; simpa using h
    go_enter Try.func114, Try.ntmps114
    go_wp2_with (go_at_call 149; refine (in_any w.heap.size q _ _ _ (cell_new _ _ _ _ _ _ rfl rfl)).mono ?_; rintro e w' ⟨rfl, rfl⟩; rw [b1])
    refine bodyPost_ret (v := .int .i64 9) (by simp [results, Try.results114, go_sem]) rfl ?_
    exact ⟨ret_int (if_neg h).symm, (Below.refl _ _).alloc (Nat.le_refl _) _⟩
end Go.Proofs.Ytogjgpiddjmpiaa.Tape
