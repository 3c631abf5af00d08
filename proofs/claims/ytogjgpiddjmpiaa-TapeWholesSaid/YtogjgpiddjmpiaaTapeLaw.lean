/- The walk of damperlaw34.TapeBars: it returns true, and leaves what was there as it was. -/
import Derived.Test.YtogjgpiddjmpiaaTapeAlive
import Derived.Test.YtogjgpiddjmpiaaTapeRefB
namespace Go.Proofs.Ytogjgpiddjmpiaa.Tape
set_option linter.unusedVariables false
open Go.RowKit Go.Proofs.Ytogjgpiddjmpiaa.Kit Go.Proofs.Ytogjgpiddjmpiaa.Blk Go.Proofs.Ytogjgpiddjmpiaa.Msgs
attribute [local go_sem ↓] Go.wp_at_zero Go.wp_at_succ

theorem rowsOf_at (l : List Bar) : ∀ (i : Nat) (h : i < l.length) (j : Nat) (v : Value), l[i].cells[j]? = some v → (rowsOf l)[i * 8 + j]? = some v := by
  induction l with
  | nil => intro i h; simp at h
  | cons m l ih =>
    intro i h j v hv
    have hc : rowsOf (m :: l) = m.cells.toList ++ rowsOf l := by simp [rowsOf]
    have hs : m.cells.toList.length = 8 := rfl
    rw [hc]
    cases i with
    | zero =>
      rw [List.getElem_cons_zero] at hv
      have hj : j < 8 := (Array.getElem?_eq_some_iff.1 hv).1
      rw [List.getElem?_append_left (by omega), show 0 * 8 + j = j by omega]
      simpa using hv
    | succ i =>
      rw [List.getElem_cons_succ] at hv
      rw [List.getElem?_append_right (by omega), hs]
      have := ih i (by simpa using h) j v hv
      rw [show (i + 1) * 8 + j - 8 = i * 8 + j by omega]
      exact this
/-- A bar of a row that is owned. -/
theorem row_range {w : World} {N T g cap : Nat} {l : List Bar} (h : w.ownsRow N T 8 (.slice (some ⟨g, 0, none⟩) l.length cap) l.length (rowsOf l)) (i : Nat) (hi : i < l.length) : w.rangeAt g (i * 8) l[i].cells.toList := fun j v hv => by
  have hj : j < 8 := (List.getElem?_eq_some_iff.1 hv).1
  rw [h.cellAt (i * 8 + j) (by have : (i + 1) * 8 ≤ l.length * 8 := Nat.mul_le_mul_right _ hi; omega)]
  exact rowsOf_at l i hi j v (by simpa using hv)
theorem range_below {w w' : World} {g o : Nat} {cs : List Value} (h : w.rangeAt g o cs) (hg : g < w.heap.size) (hb : Below w.heap.size w w') : w'.rangeAt g o cs := fun j v hv => by
  rw [hb.cell (p := ⟨g, _, none⟩) hg]; exact h j v hv
theorem row_lt {W : World} {base e size k g cap : Nat} {xs : List Value} (hr : W.ownsRow base e size (.slice (some ⟨g, 0, none⟩) k cap) k xs) : g < W.heap.size := by
  obtain ⟨_, cur, hc⟩ := row_from hr (j := g) rfl
  exact (Array.getElem?_eq_some_iff.1 hc).1

set_option maxRecDepth 20000 in
set_option maxHeartbeats 2000000 in
theorem bars_law (a : Option Addr) (cap : Nat) (ms : List Msg) (sym wd : Int) (w : World) (hm : MsgRow w a ms) (hmx : ms.length ≤ maxLen) (hfit : ∀ m ∈ ms, m.tick ≤ 9223372036854775807) :
    Calls Try.prog 5 #[.slice a ms.length cap, .int .i64 sym, .int .i64 wd] w fun e w' => e = .returned (.bool true) ∧ Below w.heap.size w w' := by
  unfold maxLen at hmx
  by_cases hl : 150 < ms.length
  · have g0 : (150 : Int) < (ms.length : Int) := by omega
    go_enter Try.func5, Try.ntmps5
    go_wp2_with fail
    refine (alive_any _).mono ?_
    rintro e w1 ⟨rfl, hb1⟩
    go_wp2
    go_ret
    exact ⟨rfl, hb1⟩
  · have g0 : ¬ (150 : Int) < (ms.length : Int) := by omega
    have HA := Lib.hid (bars_any a cap ms sym wd w hm (by omega) hfit)
    have HBf := Lib.hid (fun w' (hb : Below w.heap.size w w') => refbars_any a cap ms sym wd w' (hm.all hb) (by omega) hfit)
    rw [cnt_map] at HA
    have hgood : ∀ m ∈ ms.filter (isT sym), Good m := fun m hm => good_of (List.mem_filter.1 hm).2
    have hbl := bars_len wd (ms.filter (isT sym)) hgood
    have hfl := List.length_filter_le (isT sym) ms
    unfold BarsIs at HA
    unfold RBarsIs at HBf
    have hB : (if wd < 1 then [] else barsF wd (ms.filter (isT sym))).length ≤ 1001 := by split; simp; omega
    generalize (if wd < 1 then [] else barsF wd (ms.filter (isT sym))) = B at HA HBf hB
    generalize (if wd < 1 then (9 : Int) else 0) = q at HA HBf
    clear hgood hbl hfl hm hfit hl
    go_enter Try.func5, Try.ntmps5
    go_wp2_with fail
    refine HA.out.mono ?_
    rintro e w1 ⟨va, rfl, hra, hb1⟩
    have HRA := Lib.hid hra
    have HB1 := Lib.hid hb1
    obtain ⟨aa, ac, rfl⟩ := row_slice hra
    clear hra hb1
    go_wp2_with fail
    refine (HBf.out _ HB1.out).mono ?_
    rintro e w2 ⟨vb, rfl, hrb, hb2⟩
    have HRB := Lib.hid hrb
    have HRA2 := Lib.hid (row_below HRA.out hb2)
    have HB2 := Lib.hid (HB1.out.trans (hb2.mono HB1.out.size))
    obtain ⟨ba, bc, rfl⟩ := row_slice hrb
    clear hrb hb2 HA HBf HRA HB1
    go_wp2_with fail
    go_loopw [11] (fun i wr => ∃ k : Nat, k ≤ B.length ∧ i = .int .i64 k ∧ Below w2.heap.size w2 wr) (fun i _ => B.length - (intOf i).toNat)
    case atStart => exact ⟨0, by omega, rfl, Below.refl _ _⟩
    case round =>
      obtain ⟨k, hk, rfl, hb⟩ := hrel
      have HB := Lib.hid hb
      clear hb
      by_cases hlt : k < B.length
      · obtain ⟨ga, ca, hca⟩ := row_some (by omega) HRA2.out
        cases hca
        obtain ⟨gb, cb, hcb⟩ := row_some (by omega) HRB.out
        cases hcb
        have HX := Lib.hid (range_below (row_range HRA2.out k hlt) (row_lt HRA2.out) HB.out)
        have HY := Lib.hid (range_below (row_range HRB.out k hlt) (row_lt HRB.out) HB.out)
        have hga : ga < wr.heap.size := Nat.lt_of_lt_of_le (row_lt HRA2.out) HB.out.size
        have hgb : gb < wr.heap.size := Nat.lt_of_lt_of_le (row_lt HRB.out) HB.out.size
        generalize B[k] = d at HX HY
        have g1 : (0 : Int) ≤ (k : Int) := by omega
        have g2 : (k : Int) < (B.length : Int) := by omega
        go_wp2_with fail
        refine wp_region_held_drew (S := (fun w' => w'.rangeAt ga (k * 8) d.cells.toList ∧ w'.rangeAt gb (k * 8) d.cells.toList)) (by kernel_rfl) ⟨HX.out, HY.out⟩ (fun hHeld => ?_)
        have HX2 := Lib.hid (show wr.drew.rangeAt ga (k * 8) d.cells.toList from HX.out)
        have HY2 := Lib.hid (show wr.drew.rangeAt gb (k * 8) d.cells.toList from HY.out)
        replace HB := Lib.hid HB.out.drew
        replace hga : ga < wr.drew.heap.size := hga
        replace hgb : gb < wr.drew.heap.size := hgb
        clear HX HY
        generalize wr.drew = W at HX2 HY2 HB hga hgb hHeld ⊢
        refine wpAnyH_take (i := 0) (oi := ⟨some 46, _, _, _, _, _⟩) (v := (.slice (some ⟨ga, 0, none⟩) B.length ac)) rfl (by kernel_rfl) (by kernel_rfl) (by kernel_rfl) (fun _ _ _ h => h) (Or.inl ⟨by rfl, fun w hSw => by (try dsimp only at hSw); go_simp⟩) (by assumption) ?_
        simp only [Act.put, List.setIfInBounds_toArray, List.set_cons_zero, List.set_cons_succ]
        refine wpAnyH_take (i := 1) (oi := ⟨some 47, _, _, _, _, _⟩) (v := (.int .i64 k)) rfl (by kernel_rfl) (by kernel_rfl) (by kernel_rfl) (fun _ _ _ h => h) (Or.inl ⟨by rfl, fun w hSw => by (try dsimp only at hSw); go_simp⟩) (by assumption) ?_
        simp only [Act.put, List.setIfInBounds_toArray, List.set_cons_zero, List.set_cons_succ]
        refine wpAnyH_take (i := 2) (oi := ⟨some 48, _, _, _, _, _⟩) (v := (.pointer (some ⟨ga, k * 8, none⟩))) rfl (by kernel_rfl) (by kernel_rfl) (by kernel_rfl) (fun _ _ _ h => h) (Or.inl ⟨by rfl, fun w hSw => by (try dsimp only at hSw); go_simp⟩) (by assumption) ?_
        simp only [Act.put, List.setIfInBounds_toArray, List.set_cons_zero, List.set_cons_succ]
        refine wpAnyH_take (i := 3) (oi := ⟨some 49, .load 53 (.tmp 48), _, _, _, _⟩) (v := _) rfl (by kernel_rfl) (by kernel_rfl) (by kernel_rfl) (fun _ _ _ h => h) (yieldsIf_load_mid (by rfl) _ _ rfl _ _ rfl _ _ (fun w h => h.1) Try.underlying53 rfl (by kernel_rfl)) (by assumption) ?_
        simp only [Act.put, List.setIfInBounds_toArray, List.set_cons_zero, List.set_cons_succ]
        refine wpAnyH_take (i := 4) (oi := ⟨some 50, _, _, _, _, _⟩) (v := (.slice (some ⟨gb, 0, none⟩) B.length bc)) rfl (by kernel_rfl) (by kernel_rfl) (by kernel_rfl) (fun _ _ _ h => h) (Or.inl ⟨by rfl, fun w hSw => by (try dsimp only at hSw); go_simp⟩) (by assumption) ?_
        simp only [Act.put, List.setIfInBounds_toArray, List.set_cons_zero, List.set_cons_succ]
        refine wpAnyH_take (i := 5) (oi := ⟨some 51, _, _, _, _, _⟩) (v := (.int .i64 k)) rfl (by kernel_rfl) (by kernel_rfl) (by kernel_rfl) (fun _ _ _ h => h) (Or.inl ⟨by rfl, fun w hSw => by (try dsimp only at hSw); go_simp⟩) (by assumption) ?_
        simp only [Act.put, List.setIfInBounds_toArray, List.set_cons_zero, List.set_cons_succ]
        refine wpAnyH_take (i := 6) (oi := ⟨some 52, _, _, _, _, _⟩) (v := (.pointer (some ⟨gb, k * 8, none⟩))) rfl (by kernel_rfl) (by kernel_rfl) (by kernel_rfl) (fun _ _ _ h => h) (Or.inl ⟨by rfl, fun w hSw => by (try dsimp only at hSw); go_simp⟩) (by assumption) ?_
        simp only [Act.put, List.setIfInBounds_toArray, List.set_cons_zero, List.set_cons_succ]
        refine wpAnyH_take (i := 7) (oi := ⟨some 53, .load 55 (.tmp 52), _, _, _, _⟩) (v := _) rfl (by kernel_rfl) (by kernel_rfl) (by kernel_rfl) (fun _ _ _ h => h) (yieldsIf_load_mid (by rfl) _ _ rfl _ _ rfl _ _ (fun w h => h.2) Try.underlying55 rfl (by kernel_rfl)) (by assumption) ?_
        simp only [Act.put, List.setIfInBounds_toArray, List.set_cons_zero, List.set_cons_succ]
        refine wpAnyH_ready (rs := [8]) (by kernel_rfl) (by simp) ?_
        refine AllReadyH.cons (o := ⟨some 54, _, _, _, _, _⟩) rfl (fun KK hK => ?_) AllReadyH.nil
        go_simp
        refine (own_any d _).mono ?_
        rintro e w3 ⟨rfl, hb3⟩
        have HX3 := Lib.hid (range_below HX2.out hga hb3)
        have HY3 := Lib.hid (range_below HY2.out hgb hb3)
        have HB3 := Lib.hid (HB.out.trans (hb3.mono HB.out.size))
        clear hb3 hHeld
        go_wp2_with fail
        refine hK.out _ _ ⟨HX3.out, HY3.out⟩ (fun hHeld => ?_)
        clear hK; try clear KK
        try simp only [Act.put, List.setIfInBounds_toArray, List.set_cons_zero, List.set_cons_succ]
        simp only [Bar.cells]
        refine wpAnyH_take (i := 9) (oi := ⟨some 55, _, _, _, _, _⟩) (v := (.bool false)) rfl (by kernel_rfl) (by kernel_rfl) (by kernel_rfl) (fun _ _ _ h => h) (Or.inl ⟨by rfl, fun w hSw => by (try dsimp only at hSw); go_simp⟩) (by assumption) ?_
        simp only [Act.put, List.setIfInBounds_toArray, List.set_cons_zero, List.set_cons_succ]
        refine wpAnyH_done (by kernel_rfl) ?_ _
        go_wp2
        go_roundw
        case rel => exact ⟨k + 1, by omega, by go_num, HB3.out⟩
        case measure => simp [intOf]; omega
      · obtain rfl : k = B.length := by omega
        have g2 : (B.length : Int) ≤ (B.length : Int) := by omega
        go_wp2_with fail
        refine (alive_any _).mono ?_
        rintro e w3 ⟨rfl, hb3⟩
        have HF := Lib.hid (HB2.out.trans ((HB.out.trans (hb3.mono HB.out.size)).mono HB2.out.size))
        clear hb3
        go_wp2
        go_ret
        exact ⟨rfl, HF.out⟩
end Go.Proofs.Ytogjgpiddjmpiaa.Tape
