/- Parts of the proof: ShTextQ, ShField, ShPlain, ShAlive, ShTextsW. -/
import Derived.Test.YtmkcooamgojbpaaGreatDoorPart33
import Derived.Test.YtmkcooamgojbpaaGreatDoorPart28
import Derived.Test.YtmkcooamgojbpaaGreatDoorPart30
import Derived.Test.YtmkcooamgojbpaaGreatDoorPart22
import Derived.Test.YtmkcooamgojbpaaGreatDoorPart3
import Derived.Test.YtmkcooamgojbpaaGreatDoorPart7
import Derived.Test.YtmkcooamgojbpaaGreatDoorPart27
import Derived.Test.YtmkcooamgojbpaaGreatDoorPart8
import Derived.Test.YtmkcooamgojbpaaGreatDoorPart31

/- damperref40.Text. -/
namespace Go.Proofs.YtmkcooamgojbpaaGreatDoor.Sheet
open Go.RowKit Go.Proofs.YtmkcooamgojbpaaGreatDoor.Kit Go.Proofs.YtmkcooamgojbpaaGreatDoor.Blk Go.Proofs.YtmkcooamgojbpaaGreatDoor.Words Go.Proofs.YtmkcooamgojbpaaGreatDoor.Octets Go.Proofs.YtmkcooamgojbpaaGreatDoor.Lines Go.Proofs.YtmkcooamgojbpaaGreatDoor.Dec Go.Proofs.YtmkcooamgojbpaaGreatDoor.Symbol Go.Proofs.YtmkcooamgojbpaaGreatDoor.Check Go.Proofs.YtmkcooamgojbpaaGreatDoor.Table
attribute [local go_sem ↓] Go.wp_at_zero Go.wp_at_succ
set_option linter.unusedVariables false

theorem cat_line (t l : Txt) : strB t ++ strB l ++ ⟨#[10]⟩ = strB (t ++ (l ++ [10])) := by
  rw [show (⟨#[10]⟩ : ByteArray) = strB [10] from rfl, strB_app, strB_app, List.append_assoc]
theorem vals_cell (s : Sym) : ∀ k, (h : k < s.vals.length) → s.cells[k]? = some (.int .i64 s.vals[k])
  | 0, _ => rfl
  | 1, _ => rfl
  | 2, _ => rfl
  | 3, _ => rfl
  | 4, _ => rfl
  | 5, _ => rfl
  | 6, _ => rfl
  | 7, _ => rfl
  | 8, _ => rfl
  | 9, _ => rfl
  | 10, _ => rfl
  | 11, _ => rfl
  | 12, _ => rfl
  | 13, _ => rfl
  | 14, _ => rfl
  | 15, _ => rfl
  | k + 16, h => absurd h (by show ¬ k + 16 < 16; omega)
theorem nums_sym {W : World} {g T : Nat} {s : Sym} (h : Blk W g s.cells T) : Nums W (some ⟨g, 0, none⟩) s.vals := fun i hi =>
  ⟨g, 0, rfl, h.lt, by rw [Nat.zero_add]; exact h.cell i (vals_cell s i hi)⟩
theorem cat_row (T : Txt) (t p : Int) : strB T ++ strB (lineP wRow [t]) ++ ⟨#[32]⟩ ++ strB (phaseT p) ++ ⟨#[10]⟩ = strB (T ++ (rowT (t, p) ++ [10])) := by
  rw [show (⟨#[10]⟩ : ByteArray) = strB [10] from rfl, show (⟨#[32]⟩ : ByteArray) = strB [32] from rfl, strB_app, strB_app, strB_app, strB_app]
  congr 1
  have e : rowT (t, p) = lineP wRow [t] ++ 32 :: phaseT p := by
    unfold rowT lineP
    rw [show ([wRow, decB (t, p).1, phaseT (t, p).2] : List Txt) = wRow :: ([decB t] ++ [phaseT p]) from rfl, join_snoc]
    rfl
  rw [e]
  simp
set_option maxRecDepth 20000 in
set_option maxHeartbeats 2000000 in
theorem rsheet_text (c : Cfg) (sa ta : Option Addr) (sc tc : Nat) (w : World) (hin : c.In w sa ta) (hs : c.syms.length ≤ 10000) (ht : c.tab.length ≤ 10000) :
    Calls Tryz.prog 8 #[.agg (c.cells sa ta sc tc)] w (TextIs c w) := by
  have HM := Lib.hid (Blk.new w (c.cells sa ta sc tc) 27 w.heap.size rfl)
  have HB := Lib.hid ((Below.refl w.heap.size w).alloc (Nat.le_refl _) (.cells (c.cells sa ta sc tc) 27))
  have HIN := Lib.hid hin
  have HLN := Lib.hid (And.intro hs ht)
  have HCK := Lib.hid (RefCheck.check_ref c sa ta sc tc (w.alloc (.cells (c.cells sa ta sc tc) 27)) (hin.below HB.out))
  rw [CheckEq.check_eq] at HCK
  clear hin hs ht
  unfold Cfg.cells
  go_enter Tryz.func8, Tryz.ntmps8
  go_upto_region 1 with fail
  change Code.wp _ _ _ _ (w.alloc (.cells (c.cells sa ta sc tc) 27))
  generalize w.alloc (.cells (c.cells sa ta sc tc) 27) = w1 at HM HB HCK ⊢
  go_wp2_with (refine load_blk (by rfl) 27 _ (by rfl) w.heap.size (by rfl) _ _ HM.out _ Tryz.underlying27 rfl (by kernel_rfl) ?_)
  refine HCK.out.mono ?_
  clear HCK
  rintro e w2 ⟨rfl, hb2⟩
  have HM2 := Lib.hid (HM.out.below hb2 HM.out.lt)
  have HB2 := Lib.hid (HB.out.trans (hb2.mono HB.out.size))
  clear hb2 HM HB
  by_cases hf : (checkF c).1 = 0
  · have HN := Lib.hid (check_nat hf)
    have HF := Lib.hid hf
    rw [hf]
    clear hf
    have c2 : w2.cell? ⟨w.heap.size, 2, none⟩ = some (.int .i64 c.index) := HM2.out.cell 2 rfl
    have HA2 := Lib.hid ((Below.refl w2.heap.size w2).alloc (Nat.le_refl _) (.cells #[.int .i64 c.index] 2))
    have HL1 := Lib.hid (rline_part wIndex (by decide) [c.index] (by simp) (hvals_nat HN.out (k := 0) (by decide)) (some ⟨w2.heap.size, 0, none⟩) 1 (w2.alloc (.cells #[.int .i64 c.index] 2)) (nums_new _ _ _ _ _ rfl rfl))
    go_wp2_with fail
    refine HL1.out.mono ?_
    clear HL1
    rintro e w3 ⟨rfl, hb3⟩
    have HM3 := Lib.hid (HM2.out.below (HA2.out.trans (hb3.mono HA2.out.size)) HM2.out.lt)
    have HB3 := Lib.hid (HB2.out.trans ((HA2.out.trans (hb3.mono HA2.out.size)).mono HB2.out.size))
    clear hb3 HM2 HB2 HA2 c2
    have HH1 := Lib.hid (show strB (lineP wIndex [c.index]) ++ ⟨#[10]⟩ = strB (feedT (hlines c 1)) by
      rw [show (⟨#[10]⟩ : ByteArray) = strB [10] from rfl, strB_app, hlines_next]
      rfl)
    have sA : (strB (lineP wIndex [c.index])).size ≤ 200 := by rw [strB_size]; have := hline_len HN.out (k := 0) (by decide); exact Nat.le_trans this (by decide)
    generalize strB (lineP wIndex [c.index]) = A1 at HH1 sA ⊢
    have g1 : ¬ 9223372036854775807 < A1.size + 1 := by omega
    clear sA
    go_upto_region 5 with fail
    rw [HH1.out]
    clear HH1 g1
    have c3 : w3.cell? ⟨w.heap.size, 3, none⟩ = some (.int .i64 c.f0) := HM3.out.cell 3 rfl
    have c4 : w3.cell? ⟨w.heap.size, 4, none⟩ = some (.int .i64 c.f1) := HM3.out.cell 4 rfl
    have c5 : w3.cell? ⟨w.heap.size, 5, none⟩ = some (.int .i64 c.f2) := HM3.out.cell 5 rfl
    have HA3 := Lib.hid ((Below.refl w3.heap.size w3).alloc (Nat.le_refl _) (.cells #[.int .i64 c.f0, .int .i64 c.f1, .int .i64 c.f2] 2))
    have HL1 := Lib.hid (rline_part wFalls (by decide) [c.f0, c.f1, c.f2] (by simp) (hvals_nat HN.out (k := 1) (by decide)) (some ⟨w3.heap.size, 0, none⟩) 3 (w3.alloc (.cells #[.int .i64 c.f0, .int .i64 c.f1, .int .i64 c.f2] 2)) (nums_new _ _ _ _ _ rfl rfl))
    go_wp2_with fail
    refine HL1.out.mono ?_
    clear HL1
    rintro e w4 ⟨rfl, hb4⟩
    have HM4 := Lib.hid (HM3.out.below (HA3.out.trans (hb4.mono HA3.out.size)) HM3.out.lt)
    have HB4 := Lib.hid (HB3.out.trans ((HA3.out.trans (hb4.mono HA3.out.size)).mono HB3.out.size))
    clear hb4 HM3 HB3 HA3 c3 c4 c5
    obtain ⟨C, hC⟩ : ∃ C, strB (feedT (hlines c 1)) = C := ⟨_, rfl⟩
    obtain ⟨A, hA⟩ : ∃ A, strB (lineP wFalls [c.f0, c.f1, c.f2]) = A := ⟨_, rfl⟩
    have sC : C.size ≤ 50000000 := by rw [← hC, strB_size]; exact (Nat.le_trans (hlines_len HN.out 1 (by decide)) (by decide))
    have sA : A.size ≤ 50000000 := by rw [← hA, strB_size]; exact (Nat.le_trans (hline_len HN.out (k := 1) (by decide)) (by decide))
    have HCT := Lib.hid (cat_line (feedT (hlines c 1)) (lineP wFalls [c.f0, c.f1, c.f2]))
    rw [hC, hA] at HCT
    obtain ⟨E, hE⟩ : ∃ E, C ++ A = E := ⟨_, rfl⟩
    have sE : E.size ≤ 100000000 := by rw [← hE, ByteArray.size_append]; omega
    rw [hE] at HCT
    have g1 : ¬ 9223372036854775807 < C.size + A.size := by omega
    have g2 : ¬ 9223372036854775807 < E.size + 1 := by omega
    rw [hC, hA]
    clear hC hA sC sA sE
    go_upto_region 6 with fail
    rw [HCT.out, show feedT (hlines c 1) ++ (lineP wFalls [c.f0, c.f1, c.f2] ++ [10]) = feedT (hlines c 2) from (hlines_next c 1).symm]
    clear HCT g1 g2 hE
    have c6 : w4.cell? ⟨w.heap.size, 6, none⟩ = some (.int .i64 c.h0) := HM4.out.cell 6 rfl
    have c7 : w4.cell? ⟨w.heap.size, 7, none⟩ = some (.int .i64 c.h1) := HM4.out.cell 7 rfl
    have HA4 := Lib.hid ((Below.refl w4.heap.size w4).alloc (Nat.le_refl _) (.cells #[.int .i64 c.h0, .int .i64 c.h1] 2))
    have HL1 := Lib.hid (rline_part wHalts (by decide) [c.h0, c.h1] (by simp) (hvals_nat HN.out (k := 2) (by decide)) (some ⟨w4.heap.size, 0, none⟩) 2 (w4.alloc (.cells #[.int .i64 c.h0, .int .i64 c.h1] 2)) (nums_new _ _ _ _ _ rfl rfl))
    go_wp2_with fail
    refine HL1.out.mono ?_
    clear HL1
    rintro e w5 ⟨rfl, hb5⟩
    have HM5 := Lib.hid (HM4.out.below (HA4.out.trans (hb5.mono HA4.out.size)) HM4.out.lt)
    have HB5 := Lib.hid (HB4.out.trans ((HA4.out.trans (hb5.mono HA4.out.size)).mono HB4.out.size))
    clear hb5 HM4 HB4 HA4 c6 c7
    obtain ⟨C, hC⟩ : ∃ C, strB (feedT (hlines c 2)) = C := ⟨_, rfl⟩
    obtain ⟨A, hA⟩ : ∃ A, strB (lineP wHalts [c.h0, c.h1]) = A := ⟨_, rfl⟩
    have sC : C.size ≤ 50000000 := by rw [← hC, strB_size]; exact (Nat.le_trans (hlines_len HN.out 2 (by decide)) (by decide))
    have sA : A.size ≤ 50000000 := by rw [← hA, strB_size]; exact (Nat.le_trans (hline_len HN.out (k := 2) (by decide)) (by decide))
    have HCT := Lib.hid (cat_line (feedT (hlines c 2)) (lineP wHalts [c.h0, c.h1]))
    rw [hC, hA] at HCT
    obtain ⟨E, hE⟩ : ∃ E, C ++ A = E := ⟨_, rfl⟩
    have sE : E.size ≤ 100000000 := by rw [← hE, ByteArray.size_append]; omega
    rw [hE] at HCT
    have g1 : ¬ 9223372036854775807 < C.size + A.size := by omega
    have g2 : ¬ 9223372036854775807 < E.size + 1 := by omega
    rw [hC, hA]
    clear hC hA sC sA sE
    go_upto_region 7 with fail
    rw [HCT.out, show feedT (hlines c 2) ++ (lineP wHalts [c.h0, c.h1] ++ [10]) = feedT (hlines c 3) from (hlines_next c 2).symm]
    clear HCT g1 g2 hE
    go_wp2_with fail
    go_loopw [6, 7] (fun o i wr => ∃ k : Nat, k ≤ c.tab.length ∧ i = .int .i64 ((k : Nat) : Int) ∧ o = .string (strB (feedT (hlines c 3) ++ feedT ((c.tab.take k).map rowT))) ∧ Below w5.heap.size w5 wr) (fun _ i _ => c.tab.length - (intOf i).toNat)
    case atStart => exact ⟨0, by omega, rfl, by simp [feedT], Below.refl _ _⟩
    case round =>
      obtain ⟨k, hk, rfl, rfl, hb⟩ := hrel
      have HBR := Lib.hid hb
      have HMR := Lib.hid (HM5.out.below hb HM5.out.lt)
      clear hb
      have hkm := HLN.out.2
      have hl3 := hlines_len HN.out 3 (Nat.le_refl _)
      by_cases hlt : k < c.tab.length
      · have hkl : (k : Int) < (c.tab.length : Int) := by omega
        obtain ⟨b, off, rfl, hbl, hc1, hc2⟩ := (HIN.out.below (HB5.out.trans (HBR.out.mono HB5.out.size))).tab k hlt
        have hrn := HN.out.rows _ (List.getElem_mem hlt)
        have HNX := Lib.hid (feed_next rowT hlt (feedT (hlines c 3)))
        have htl : (feedT (hlines c 3) ++ feedT ((c.tab.take k).map rowT)).length ≤ 1000000 := by
          have h1 := feed_len (f := rowT) (m := 50) (l := c.tab.take k) (fun x hx => rowT_len HN.out x (List.mem_of_mem_take hx))
          rw [List.length_take] at h1
          rw [List.length_append]
          omega
        generalize c.tab[k] = r at hc1 hc2 hrn HNX
        obtain ⟨t, ph⟩ := r
        obtain ⟨p, rfl⟩ : ∃ p : Nat, ph = (p : Int) := Int.eq_ofNat_of_zero_le hrn.2.1
        dsimp only at hc1 hc2 hrn
        have hp3 : p < 3 := by have := hrn.2.2; omega
        have hp4 : (p : Int) < 3 := by omega
        generalize hT : feedT (hlines c 3) ++ feedT ((c.tab.take k).map rowT) = T at htl HNX ⊢
        have c1 : wr.cell? ⟨w.heap.size, 1, none⟩ = some (.slice (some ⟨b, off, none⟩) c.tab.length tc) := HMR.out.cell 1 rfl
        have HA := Lib.hid ((Below.refl wr.heap.size wr).alloc (Nat.le_refl _) (.cells #[.int .i64 t] 2))
        have HLI := Lib.hid (fun (W : World) => rline_part wRow (by decide) [t] (by simp) (by simpa using hrn.1) (some ⟨W.heap.size, 0, none⟩) 1 (W.alloc (.cells #[.int .i64 t] 2)) (nums_new _ _ _ _ _ rfl rfl))
        have HCR := Lib.hid (cat_row T t (p : Int))
        have HLL := Lib.hid (lineP_len wRow [t] (by simpa using hrn.1))
        have HPL := Lib.hid (phaseT_len (p : Int))
        have hlr := World.block_lt_of_cell? wr _ c1
        go_upto_region 10 with fail
        refine wp_region_held_drew (S := (fun w' => w'.cell? ⟨w.heap.size, 1, none⟩ = some (.slice (some ⟨b, off, none⟩) c.tab.length tc) ∧ w'.cell? ⟨b, off + k * 2, none⟩ = some (.int .i64 t) ∧ w'.cell? ⟨b, off + k * 2 + 1, none⟩ = some (.int .i64 (p : Int)))) (by kernel_rfl) (⟨c1, hc1, hc2⟩) (fun hHeld => ?_)
        have HSS := Lib.hid (fun (W' : World) (hb' : Below wr.drew.heap.size wr.drew W') => And.intro ((hb'.cell (p := ⟨w.heap.size, 1, none⟩) hlr).trans c1) (And.intro ((hb'.cell (p := ⟨b, off + k * 2, none⟩) hbl).trans hc1) ((hb'.cell (p := ⟨b, off + k * 2 + 1, none⟩) hbl).trans hc2)))
        have HBD := Lib.hid (HBR.out.trans ((Below.refl wr.heap.size wr).drew.mono HBR.out.size))
        clear c1 hc1 hc2 hbl hlr HA HBR HMR
        generalize wr.drew = w6 at hHeld HSS HBD ⊢
        refine wpAnyH_take (i := 0) (oi := ⟨some 54, _, _, _, _, _⟩) (v := (.string (strB T))) rfl (by kernel_rfl) (by kernel_rfl) (by kernel_rfl) (fun _ _ _ h => h) (Or.inl ⟨by rfl, fun w hSw => by (try dsimp only at hSw); go_simp⟩) (by assumption) ?_
        simp only [Act.put, List.setIfInBounds_toArray, List.set_cons_zero, List.set_cons_succ]
        refine wpAnyH_take (i := 1) (oi := ⟨some 55, _, _, _, _, _⟩) (v := (.pointer (some ⟨w.heap.size, 1, none⟩))) rfl (by kernel_rfl) (by kernel_rfl) (by kernel_rfl) (fun _ _ _ h => h) (Or.inl ⟨by rfl, fun w hSw => by (try dsimp only at hSw); go_simp⟩) (by assumption) ?_
        simp only [Act.put, List.setIfInBounds_toArray, List.set_cons_zero, List.set_cons_succ]
        refine wpAnyH_take (i := 2) (oi := ⟨some 56, _, _, _, _, _⟩) (v := (.slice (some ⟨b, off, none⟩) c.tab.length tc)) rfl (by kernel_rfl) (by kernel_rfl) (by kernel_rfl) (fun _ _ _ h => h) (Or.inl ⟨by rfl, fun w hSw => by (try dsimp only at hSw); go_simp⟩) (by assumption) ?_
        simp only [Act.put, List.setIfInBounds_toArray, List.set_cons_zero, List.set_cons_succ]
        refine wpAnyH_take (i := 3) (oi := ⟨some 57, _, _, _, _, _⟩) (v := (.int .i64 (k : Int))) rfl (by kernel_rfl) (by kernel_rfl) (by kernel_rfl) (fun _ _ _ h => h) (Or.inl ⟨by rfl, fun w hSw => by (try dsimp only at hSw); go_simp⟩) (by assumption) ?_
        simp only [Act.put, List.setIfInBounds_toArray, List.set_cons_zero, List.set_cons_succ]
        refine wpAnyH_take (i := 4) (oi := ⟨some 58, _, _, _, _, _⟩) (v := (.pointer (some ⟨b, off + k * 2, none⟩))) rfl (by kernel_rfl) (by kernel_rfl) (by kernel_rfl) (fun _ _ _ h => h) (Or.inl ⟨by rfl, fun w hSw => by (try dsimp only at hSw); go_simp⟩) (by assumption) ?_
        simp only [Act.put, List.setIfInBounds_toArray, List.set_cons_zero, List.set_cons_succ]
        refine wpAnyH_take (i := 5) (oi := ⟨some 59, _, _, _, _, _⟩) (v := (.pointer (some ⟨b, off + k * 2, none⟩))) rfl (by kernel_rfl) (by kernel_rfl) (by kernel_rfl) (fun _ _ _ h => h) (Or.inl ⟨by rfl, fun w hSw => by (try dsimp only at hSw); go_simp⟩) (by assumption) ?_
        simp only [Act.put, List.setIfInBounds_toArray, List.set_cons_zero, List.set_cons_succ]
        refine wpAnyH_take (i := 6) (oi := ⟨some 60, _, _, _, _, _⟩) (v := (.int .i64 t)) rfl (by kernel_rfl) (by kernel_rfl) (by kernel_rfl) (fun _ _ _ h => h) (Or.inl ⟨by rfl, fun w hSw => by (try dsimp only at hSw); go_simp⟩) (by assumption) ?_
        simp only [Act.put, List.setIfInBounds_toArray, List.set_cons_zero, List.set_cons_succ]
        refine wpAnyH_take (i := 12) (oi := ⟨some 66, _, _, _, _, _⟩) (v := (.pointer (some ⟨w.heap.size, 1, none⟩))) rfl (by kernel_rfl) (by kernel_rfl) (by kernel_rfl) (fun _ _ _ h => h) (Or.inl ⟨by rfl, fun w hSw => by (try dsimp only at hSw); go_simp⟩) (by assumption) ?_
        simp only [Act.put, List.setIfInBounds_toArray, List.set_cons_zero, List.set_cons_succ]
        refine wpAnyH_take (i := 13) (oi := ⟨some 67, _, _, _, _, _⟩) (v := (.slice (some ⟨b, off, none⟩) c.tab.length tc)) rfl (by kernel_rfl) (by kernel_rfl) (by kernel_rfl) (fun _ _ _ h => h) (Or.inl ⟨by rfl, fun w hSw => by (try dsimp only at hSw); go_simp⟩) (by assumption) ?_
        simp only [Act.put, List.setIfInBounds_toArray, List.set_cons_zero, List.set_cons_succ]
        refine wpAnyH_take (i := 14) (oi := ⟨some 68, _, _, _, _, _⟩) (v := (.int .i64 (k : Int))) rfl (by kernel_rfl) (by kernel_rfl) (by kernel_rfl) (fun _ _ _ h => h) (Or.inl ⟨by rfl, fun w hSw => by (try dsimp only at hSw); go_simp⟩) (by assumption) ?_
        simp only [Act.put, List.setIfInBounds_toArray, List.set_cons_zero, List.set_cons_succ]
        refine wpAnyH_take (i := 15) (oi := ⟨some 69, _, _, _, _, _⟩) (v := (.pointer (some ⟨b, off + k * 2, none⟩))) rfl (by kernel_rfl) (by kernel_rfl) (by kernel_rfl) (fun _ _ _ h => h) (Or.inl ⟨by rfl, fun w hSw => by (try dsimp only at hSw); go_simp⟩) (by assumption) ?_
        simp only [Act.put, List.setIfInBounds_toArray, List.set_cons_zero, List.set_cons_succ]
        refine wpAnyH_take (i := 16) (oi := ⟨some 70, _, _, _, _, _⟩) (v := (.pointer (some ⟨b, off + k * 2 + 1, none⟩))) rfl (by kernel_rfl) (by kernel_rfl) (by kernel_rfl) (fun _ _ _ h => h) (Or.inl ⟨by rfl, fun w hSw => by (try dsimp only at hSw); go_simp⟩) (by assumption) ?_
        simp only [Act.put, List.setIfInBounds_toArray, List.set_cons_zero, List.set_cons_succ]
        refine wpAnyH_take (i := 17) (oi := ⟨some 71, _, _, _, _, _⟩) (v := (.int .i64 (p : Int))) rfl (by kernel_rfl) (by kernel_rfl) (by kernel_rfl) (fun _ _ _ h => h) (Or.inl ⟨by rfl, fun w hSw => by (try dsimp only at hSw); go_simp⟩) (by assumption) ?_
        simp only [Act.put, List.setIfInBounds_toArray, List.set_cons_zero, List.set_cons_succ]
        refine wpAnyH_ready (rs := [7]) (by kernel_rfl) (by simp) ?_
        refine AllReadyH.cons (o := ⟨some 61, _, _, _, _, _⟩) rfl (fun KK hK => ?_) AllReadyH.nil
        go_simp
        change KK _ (w6.alloc (.cells #[.int .i64 t] 2))
        have HA7 := Lib.hid ((Below.refl w6.heap.size w6).alloc (Nat.le_refl _) (.cells #[.int .i64 t] 2))
        refine hK.out _ _ (HSS.out _ HA7.out) (fun hHeld => ?_)
        clear hK; try clear KK
        try simp only [Act.put, List.setIfInBounds_toArray, List.set_cons_zero, List.set_cons_succ]
        refine wpAnyH_ready (rs := [8]) (by kernel_rfl) (by simp) ?_
        refine AllReadyH.cons (o := ⟨some 62, _, _, _, _, _⟩) rfl (fun KK hK => ?_) AllReadyH.nil
        go_simp
        refine (HLI.out w6).mono ?_
        clear HLI
        rintro e w7 ⟨rfl, hb7⟩
        have HA8 := Lib.hid (HA7.out.trans (hb7.mono HA7.out.size))
        clear hb7 HA7 hHeld
        dsimp only
        refine hK.out _ _ (HSS.out _ HA8.out) (fun hHeld => ?_)
        clear hK; try clear KK
        try simp only [Act.put, List.setIfInBounds_toArray, List.set_cons_zero, List.set_cons_succ]
        obtain ⟨C, hC⟩ : ∃ C, strB T = C := ⟨_, rfl⟩
        obtain ⟨A, hA⟩ : ∃ A, strB (lineP wRow [t]) = A := ⟨_, rfl⟩
        obtain ⟨P, hP⟩ : ∃ P, strB (phaseT (p : Int)) = P := ⟨_, rfl⟩
        have sC : C.size ≤ 1000000 := by rw [← hC, strB_size]; exact htl
        have sA : A.size ≤ 100 := by rw [← hA, strB_size]; have := HLL.out; exact Nat.le_trans this (by simp [wRow])
        have sP : P.size ≤ 10 := by rw [← hP, strB_size]; exact HPL.out
        rw [hC, hA]
        rw [hC, hA, hP] at HCR
        obtain ⟨E1, hE1⟩ : ∃ E1, C ++ A = E1 := ⟨_, rfl⟩
        obtain ⟨E2, hE2⟩ : ∃ E2, E1 ++ ⟨#[32]⟩ = E2 := ⟨_, rfl⟩
        obtain ⟨E3, hE3⟩ : ∃ E3, E2 ++ P = E3 := ⟨_, rfl⟩
        obtain ⟨E4, hE4⟩ : ∃ E4, E3 ++ ⟨#[10]⟩ = E4 := ⟨_, rfl⟩
        have s1 : E1.size ≤ 1000100 := by rw [← hE1, ByteArray.size_append]; omega
        have s2 : E2.size ≤ 1000101 := by rw [← hE2, ByteArray.size_append]; show E1.size + 1 ≤ _; omega
        have s3 : E3.size ≤ 1000111 := by rw [← hE3, ByteArray.size_append]; omega
        have g1 : ¬ 9223372036854775807 < C.size + A.size := by omega
        have g2 : ¬ 9223372036854775807 < E1.size + 1 := by omega
        have g3 : ¬ 9223372036854775807 < E2.size + P.size := by omega
        have g4 : ¬ 9223372036854775807 < E3.size + 1 := by omega
        rw [hE1, hE2, hE3, hE4] at HCR
        have HPP := Lib.hid hP
        clear hC hA hP sC sA sP s1 s2 s3
        refine wpAnyH_take (i := 9) (oi := ⟨some 63, _, _, _, _, _⟩) (v := (.string E1)) rfl (by kernel_rfl) (by kernel_rfl) (by kernel_rfl) (fun _ _ _ h => h) (Or.inl ⟨by rfl, fun w hSw => by (try dsimp only at hSw); go_simp⟩) (by assumption) ?_
        simp only [Act.put, List.setIfInBounds_toArray, List.set_cons_zero, List.set_cons_succ]
        refine wpAnyH_take (i := 10) (oi := ⟨some 64, _, _, _, _, _⟩) (v := (.string E2)) rfl (by kernel_rfl) (by kernel_rfl) (by kernel_rfl) (fun _ _ _ h => h) (Or.inl ⟨by rfl, fun w hSw => by (try dsimp only at hSw); go_simp⟩) (by assumption) ?_
        simp only [Act.put, List.setIfInBounds_toArray, List.set_cons_zero, List.set_cons_succ]
        refine wpAnyH_ready (rs := [11]) (by kernel_rfl) (by simp) ?_
        refine AllReadyH.cons (o := ⟨some 65, _, _, _, _, _⟩) rfl (fun KK hK => ?_) AllReadyH.nil
        go_simp
        refine (rphases_any w7).mono ?_
        rintro e w8 ⟨rfl, hph, hb8⟩
        have HA9 := Lib.hid (HA8.out.trans (hb8.mono HA8.out.size))
        have hcp := hph p hp3
        rw [show phF p = phaseT (p : Int) from rfl, HPP.out] at hcp
        clear hb8 hph hHeld
        dsimp only
        refine hK.out _ _ (HSS.out _ HA9.out) (fun hHeld => ?_)
        clear hK; try clear KK
        try simp only [Act.put, List.setIfInBounds_toArray, List.set_cons_zero, List.set_cons_succ]
        refine wpAnyH_take (i := 18) (oi := ⟨some 72, _, _, _, _, _⟩) (v := (.pointer (some ⟨w7.heap.size, p, none⟩))) rfl (by kernel_rfl) (by kernel_rfl) (by kernel_rfl) (fun _ _ _ h => h) (Or.inl ⟨by rfl, fun w hSw => by (try dsimp only at hSw); go_simp⟩) (by assumption) ?_
        simp only [Act.put, List.setIfInBounds_toArray, List.set_cons_zero, List.set_cons_succ]
        refine wpAnyH_ready (rs := [19]) (by kernel_rfl) (by simp) ?_
        refine AllReadyH.cons (o := ⟨some 73, _, _, _, _, _⟩) rfl (fun KK hK => ?_) AllReadyH.nil
        go_simp
        clear hcp
        refine hK.out _ _ (HSS.out _ HA9.out) (fun hHeld => ?_)
        clear hK; try clear KK
        try simp only [Act.put, List.setIfInBounds_toArray, List.set_cons_zero, List.set_cons_succ]
        refine wpAnyH_take (i := 20) (oi := ⟨some 74, _, _, _, _, _⟩) (v := (.string E3)) rfl (by kernel_rfl) (by kernel_rfl) (by kernel_rfl) (fun _ _ _ h => h) (Or.inl ⟨by rfl, fun w hSw => by (try dsimp only at hSw); go_simp⟩) (by assumption) ?_
        simp only [Act.put, List.setIfInBounds_toArray, List.set_cons_zero, List.set_cons_succ]
        refine wpAnyH_take (i := 21) (oi := ⟨some 75, _, _, _, _, _⟩) (v := (.string E4)) rfl (by kernel_rfl) (by kernel_rfl) (by kernel_rfl) (fun _ _ _ h => h) (Or.inl ⟨by rfl, fun w hSw => by (try dsimp only at hSw); go_simp⟩) (by assumption) ?_
        simp only [Act.put, List.setIfInBounds_toArray, List.set_cons_zero, List.set_cons_succ]
        refine wpAnyH_take (i := 22) (oi := ⟨some 6, _, _, _, _, _⟩) (v := (.string E4)) rfl (by kernel_rfl) (by kernel_rfl) (by kernel_rfl) (fun _ _ _ h => h) (Or.inl ⟨by rfl, fun w hSw => by (try dsimp only at hSw); go_simp⟩) (by assumption) ?_
        simp only [Act.put, List.setIfInBounds_toArray, List.set_cons_zero, List.set_cons_succ]
        refine wpAnyH_done (by kernel_rfl) ?_ _
        have HBF := Lib.hid (HBD.out.trans (HA9.out.mono HBD.out.size))
        clear hHeld g1 g2 g3 g4
        go_wp2_with fail
        go_roundw
        case rel => exact ⟨k + 1, by omega, by go_num, by rw [HCR.out, ← HNX.out], HBF.out⟩
        case measure => simp [intOf]; omega
      · obtain rfl : k = c.tab.length := by omega
        rw [List.take_length]
        have HTB := Lib.hid (show (feedT (hlines c 3) ++ feedT (c.tab.map rowT)).length ≤ 1000000 from by
          have h1 := feed_len (f := rowT) (m := 50) (l := c.tab) (fun x hx => rowT_len HN.out x hx)
          rw [List.length_append]
          omega)
        have c1 : wr.cell? ⟨w.heap.size, 1, none⟩ = some (.slice ta c.tab.length tc) := HMR.out.cell 1 rfl
        clear hl3
        go_wp2_with fail
        clear c1
        obtain ⟨wo, rfl⟩ : ∃ wo : World, wo = wr := ⟨_, rfl⟩
        go_loopw [6, 8] (fun o i wr => ∃ k : Nat, k ≤ c.syms.length ∧ i = .int .i64 ((k : Nat) : Int) ∧ o = .string (strB ((feedT (hlines c 3) ++ feedT (c.tab.map rowT)) ++ feedT ((c.syms.take k).map symT))) ∧ Below w5.heap.size w5 wr) (fun _ i _ => c.syms.length - (intOf i).toNat)
        case atStart => exact ⟨0, by omega, rfl, by simp [feedT], HBR.out⟩
        case round =>
          obtain ⟨k, hk, rfl, rfl, hb⟩ := hrel
          clear HBR HMR
          have HBR := Lib.hid hb
          have HMR := Lib.hid (HM5.out.below hb HM5.out.lt)
          clear hb
          have hks := HLN.out.1
          have c0 : wr.cell? ⟨w.heap.size, 0, none⟩ = some (.slice sa c.syms.length sc) := HMR.out.cell 0 rfl
          by_cases hlt : k < c.syms.length
          · have hkl : (k : Int) < (c.syms.length : Int) := by omega
            obtain ⟨b, off, rfl, hbl, hcs⟩ := (HIN.out.below (HB5.out.trans (HBR.out.mono HB5.out.size))).syms k hlt
            have HR := Lib.hid (show wr.rangeAt b (off + k * 16) c.syms[k].cells.toList from fun j v hv => hcs j v (by simpa using hv))
            have HNS := Lib.hid (HN.out.syms _ (List.getElem_mem hlt))
            have HNX := Lib.hid (feed_next symT hlt (feedT (hlines c 3) ++ feedT (c.tab.map rowT)))
            have HSL := Lib.hid (symT_len HN.out _ (List.getElem_mem hlt))
            have htl : ((feedT (hlines c 3) ++ feedT (c.tab.map rowT)) ++ feedT ((c.syms.take k).map symT)).length ≤ 10000000 := by
              have h1 := feed_len (f := symT) (m := 400) (l := c.syms.take k) (fun x hx => symT_len HN.out x (List.mem_of_mem_take hx))
              have h3 := HTB.out
              rw [List.length_take] at h1
              rw [List.length_append]
              omega
            generalize c.syms[k] = s at HR HNS HNX HSL
            generalize hT : (feedT (hlines c 3) ++ feedT (c.tab.map rowT)) ++ feedT ((c.syms.take k).map symT) = T at htl HNX ⊢
            clear hT hcs hbl
            go_wp2_with (refine wpList_load_mid rfl 46 _ rfl _ _ rfl _ _ HR.out Tryz.underlying46 rfl (by kernel_rfl) ?_)
            refine (rfields_any s wr).mono ?_
            rintro e w6 ⟨g, rfl, hg, hb6⟩
            have HLI := Lib.hid (rline_part wSymbol (by decide) s.vals (show (16 : Nat) ≤ 100 by decide) HNS.out (some ⟨g, 0, none⟩) 16 w6 (nums_sym hg))
            have HB6 := Lib.hid (HBR.out.trans (hb6.mono HBR.out.size))
            rw [show s.vals.length = 16 from rfl] at HLI
            clear hg hb6 c0 HR HMR HBR
            go_wp2_with fail
            refine HLI.out.mono ?_
            rintro e w7 ⟨rfl, hb7⟩
            have HB7 := Lib.hid (HB6.out.trans (hb7.mono HB6.out.size))
            have HST := Lib.hid (show lineP wSymbol s.vals = symT s from rfl)
            rw [HST.out]
            clear hb7 HB6 HLI
            obtain ⟨C, hC⟩ : ∃ C, strB (T) = C := ⟨_, rfl⟩
            obtain ⟨A, hA⟩ : ∃ A, strB (symT s) = A := ⟨_, rfl⟩
            have sC : C.size ≤ 50000000 := by rw [← hC, strB_size]; exact (Nat.le_trans htl (by decide))
            have sA : A.size ≤ 50000000 := by rw [← hA, strB_size]; exact (Nat.le_trans HSL.out (by decide))
            have HCT := Lib.hid (cat_line (T) (symT s))
            rw [hC, hA] at HCT
            obtain ⟨E, hE⟩ : ∃ E, C ++ A = E := ⟨_, rfl⟩
            have sE : E.size ≤ 100000000 := by rw [← hE, ByteArray.size_append]; omega
            rw [hE] at HCT
            have g1 : ¬ 9223372036854775807 < C.size + A.size := by omega
            have g2 : ¬ 9223372036854775807 < E.size + 1 := by omega
            rw [hC, hA]
            clear hC hA sC sA sE
            go_wp2_with fail
            go_roundw
            case rel => exact ⟨k + 1, by omega, by go_num, by rw [HCT.out, ← HNX.out], HB7.out⟩
            case measure => simp [intOf]; omega
          · obtain rfl : k = c.syms.length := by omega
            rw [List.take_length, ← sheet_parts]
            have HFB := Lib.hid (HB5.out.trans (HBR.out.mono HB5.out.size))
            go_wp2_with fail
            go_ret2
            exact ⟨by rw [if_pos HF.out, HF.out]; rfl, HFB.out⟩
  · have HF := Lib.hid hf
    have b1 : ((checkF c).1 != 0) = true := by simpa using hf
    clear hf
    go_wp2_with fail
    go_ret2
    exact ⟨by rw [if_neg HF.out]; rfl, HB2.out⟩
end Go.Proofs.YtmkcooamgojbpaaGreatDoor.Sheet

/- sheet.Field. -/
namespace Go.Proofs.YtmkcooamgojbpaaGreatDoor.Sheet
open Go.RowKit Go.Proofs.YtmkcooamgojbpaaGreatDoor.Kit Go.Proofs.YtmkcooamgojbpaaGreatDoor.Blk Go.Proofs.YtmkcooamgojbpaaGreatDoor.Words Go.Proofs.YtmkcooamgojbpaaGreatDoor.Octets Go.Proofs.YtmkcooamgojbpaaGreatDoor.Lines Go.Proofs.YtmkcooamgojbpaaGreatDoor.Dec Go.Proofs.YtmkcooamgojbpaaGreatDoor.Symbol
attribute [local go_sem ↓] Go.wp_at_zero Go.wp_at_succ
set_option linter.unusedVariables false

/-- The place of a name among a symbol's; -1: it is none. -/
def nameI (x : ByteArray) : Int := Lib.idxOfS (nameL.take 16) x
theorem name_or (x : ByteArray) : (nameI x = -1 ∧ ∀ j, j < 16 → nameL.getD j ByteArray.empty ≠ x) ∨ ∃ k : Nat, k < 16 ∧ nameI x = (k : Int) ∧ nameL.getD k ByteArray.empty = x ∧ ∀ j, j < k → nameL.getD j ByteArray.empty ≠ x := by
  have gen : ∀ n, n ≤ 16 → (∀ j, j < n → nameL.getD j ByteArray.empty ≠ x) ∨ ∃ k, k < n ∧ nameL.getD k ByteArray.empty = x ∧ ∀ j, j < k → nameL.getD j ByteArray.empty ≠ x := by
    intro n
    induction n with
    | zero => intro _; exact .inl fun j hj => absurd hj (by omega)
    | succ n ih =>
      intro hn
      rcases ih (by omega) with h | ⟨k, h1, h2⟩
      · by_cases he : nameL.getD n ByteArray.empty = x
        · exact .inr ⟨n, by omega, he, h⟩
        · refine .inl fun j hj => ?_
          by_cases e : j = n
          · subst e; exact he
          · exact h j (by omega)
      · exact .inr ⟨k, by omega, h2⟩
  rcases gen 16 (Nat.le_refl _) with h | ⟨k, h1, h2, h3⟩
  · exact .inl ⟨Lib.idxOfS_miss nameL 16 x h, h⟩
  · exact .inr ⟨k, h1, Lib.idxOfS_hit nameL 16 k x h1 (by decide) h2 h3, h2, h3⟩
def fieldV (s : Sym) (x : ByteArray) : Int := if 0 ≤ nameI x then s.vals.getD (nameI x).toNat 0 else 0
def FieldIs (s : Sym) (x : ByteArray) (w : World) (e : Ending) (w' : World) : Prop :=
  e = .returned (.tuple #[.int .i64 (fieldV s x), .bool (decide (0 ≤ nameI x))]) ∧ Below w.heap.size w w'
theorem fields_get (B k : Nat) (h : k < 16) : ∃ lg, (fieldsL B)[k]? = some (lg, ⟨B, k, none⟩) := by
  have : k = 0 ∨ k = 1 ∨ k = 2 ∨ k = 3 ∨ k = 4 ∨ k = 5 ∨ k = 6 ∨ k = 7 ∨ k = 8 ∨ k = 9 ∨ k = 10 ∨ k = 11 ∨ k = 12 ∨ k = 13 ∨ k = 14 ∨ k = 15 := by omega
  rcases this with rfl | rfl | rfl | rfl | rfl | rfl | rfl | rfl | rfl | rfl | rfl | rfl | rfl | rfl | rfl | rfl <;> exact ⟨_, rfl⟩
theorem cells_get (s : Sym) (k : Nat) (h : k < 16) : s.cells[k]? = some (.int .i64 (s.vals.getD k 0)) := by
  have : k = 0 ∨ k = 1 ∨ k = 2 ∨ k = 3 ∨ k = 4 ∨ k = 5 ∨ k = 6 ∨ k = 7 ∨ k = 8 ∨ k = 9 ∨ k = 10 ∨ k = 11 ∨ k = 12 ∨ k = 13 ∨ k = 14 ∨ k = 15 := by omega
  rcases this with rfl | rfl | rfl | rfl | rfl | rfl | rfl | rfl | rfl | rfl | rfl | rfl | rfl | rfl | rfl | rfl <;> rfl
set_option maxRecDepth 20000 in
set_option maxHeartbeats 4000000 in
theorem field_any (s : Sym) (x : ByteArray) (w : World) :
    Calls Tryz.prog 13 #[.agg s.cells, .string x] w (FieldIs s x w) := by
  have HX := Lib.hid (Blk.new w s.cells 46 w.heap.size rfl)
  have HB := Lib.hid ((Below.refl w.heap.size w).alloc (Nat.le_refl _) (.cells s.cells 46))
  unfold Sym.cells
  go_enter Tryz.func13, Tryz.ntmps13
  go_upto_region 1 with fail
  change Code.wp _ _ _ _ (w.alloc (.cells s.cells 46))
  generalize w.alloc (.cells s.cells 46) = w1 at HX HB ⊢
  go_wp2_with fail
  refine (names_any w1).mono ?_
  rintro e w2 ⟨rfl, hb2⟩
  have HX2 := Lib.hid ((HX.out.below hb2 HX.out.lt).old (.cells nameA 103))
  have HB2 := Lib.hid ((HB.out.trans (hb2.mono HB.out.size)).alloc (Nat.le_trans HB.out.size hb2.size) (.cells nameA 103))
  have HN2 := Lib.hid (Blk.new w2 nameA 103 w2.heap.size rfl)
  clear hb2 HX HB
  unfold nameA
  go_upto_region 2 with fail
  change Code.wp _ _ _ _ (w2.alloc (.cells nameA 103))
  generalize w2.alloc (.cells nameA 103) = w3 at HX2 HB2 HN2 ⊢
  have HIX := Lib.hid (fun c => show Calls Tryz.prog 53 #[.slice (some ⟨w2.heap.size, 0, none⟩) 16 c, .string x] w3 fun e w' => e = .returned (.int .i64 (nameI x)) ∧ w3 = w' from (Shelf.slices_Index_string w2.heap.size 0 16 c nameL x w3 (by decide) (by decide) (name_at _ _ HN2.out)).mono fun _ _ h => ⟨h.1, h.2.symm⟩)
  have HV := Lib.hid (show fieldV s x = if 0 ≤ nameI x then s.vals.getD (nameI x).toNat 0 else 0 from rfl)
  go_wp2_with fail
  refine (HIX.out _).mono ?_
  clear HIX
  rintro e w4 ⟨rfl, rfl⟩
  clear HN2
  rcases name_or x with ⟨hi, -⟩ | ⟨k, hk, hi, -, -⟩
  · have HE := Lib.hid (show FieldIs s x w (.returned (.tuple #[.int .i64 0, .bool false])) w3 from ⟨by rw [HV.out, hi]; rfl, HB2.out⟩)
    rw [hi]
    clear hi HV
    go_wp2_with fail
    go_ret2
    exact HE.out
  · have HE := Lib.hid (show fieldV s x = s.vals.getD k 0 ∧ decide (0 ≤ nameI x) = true from ⟨by rw [HV.out, hi, if_pos (by omega)]; simp, by rw [hi]; simp⟩)
    rw [hi]
    have g1 : ¬ (k : Int) < 0 := by omega
    clear hi HV
    go_wp2_with fail
    refine (fields_any w.heap.size w3).mono ?_
    rintro e w5 ⟨v, rfl, hrow⟩
    have hrow' := hrow.at (by simp [fieldsL, grpN, grp])
    obtain ⟨g, c, rfl, hg, hcells⟩ := hrow'
    obtain ⟨lg, hlg⟩ := fields_get w.heap.size k hk
    have hkl : k < (fieldsL w.heap.size).length := (List.getElem?_eq_some_iff.1 hlg).1
    have hx : (fieldsL w.heap.size)[k] = (lg, ⟨w.heap.size, k, none⟩) := (List.getElem?_eq_some_iff.1 hlg).2
    have HR := Lib.hid (show w5.rangeAt g (k * 2) (numC (lg, ⟨w.heap.size, k, none⟩)).toList from hx ▸ nums_at hcells k hkl)
    have HX5 := Lib.hid (HX2.out.below hrow.bel HX2.out.lt)
    have HB5 := Lib.hid (HB2.out.trans (hrow.bel.mono HB2.out.size))
    have HSZ := Lib.hid (show (numC (lg, ⟨w.heap.size, k, none⟩)).size = 2 by cases lg <;> rfl)
    have hl16 : (fieldsL w.heap.size).length = 16 := rfl
    rw [hl16]
    have g2 : (k : Int) < 16 := by omega
    clear hrow hcells hlg hx hkl hl16 HX2 HB2 hg
    have HG := Lib.hid (get_any lg w.heap.size k (s.vals.getD k 0) w5 (HX5.out.cell k (cells_get s k hk)))
    generalize s.vals.getD k 0 = z at HG HE
    go_wp2_with (refine wpList_load_mid rfl 107 _ rfl _ _ rfl _ _ HR.out Tryz.underlying107 rfl (by rw [Array.length_toList, HSZ.out]; kernel_rfl) ?_)
    refine HG.out.mono ?_
    rintro e w6 ⟨rfl, hb6⟩
    have HB6 := Lib.hid (HB5.out.trans (hb6.mono HB5.out.size))
    clear hb6 HG
    have HE3 := Lib.hid (show FieldIs s x w (.returned (.tuple #[.int .i64 z, .bool true])) w6 from ⟨by rw [HE.out.1, HE.out.2], HB6.out⟩)
    go_wp2_with fail
    go_ret2
    exact HE3.out
end Go.Proofs.YtmkcooamgojbpaaGreatDoor.Sheet

/- damperlaw07.Plain of one symbol. -/
namespace Go.Proofs.YtmkcooamgojbpaaGreatDoor.Sheet
open Go.RowKit Go.Proofs.YtmkcooamgojbpaaGreatDoor.Kit Go.Proofs.YtmkcooamgojbpaaGreatDoor.Blk Go.Proofs.YtmkcooamgojbpaaGreatDoor.Words Go.Proofs.YtmkcooamgojbpaaGreatDoor.Octets Go.Proofs.YtmkcooamgojbpaaGreatDoor.Lines Go.Proofs.YtmkcooamgojbpaaGreatDoor.Dec Go.Proofs.YtmkcooamgojbpaaGreatDoor.Symbol
attribute [local go_sem ↓] Go.wp_at_zero Go.wp_at_succ
set_option linter.unusedVariables false

def plainS : Sym := ⟨5, 1000, 2000, 500, 20, 100, 3, 10, 5, 2, 500, 500, 1, 40, 12, 1000⟩
def plainC (sy ta : Value) : Array Value := #[sy, ta, .int .i64 10000, .int .i64 700, .int .i64 1300, .int .i64 2000, .int .i64 15, .int .i64 30]
def zeroC : Array Value := #[.slice none 0 0, .slice none 0 0, .int .i64 0, .int .i64 0, .int .i64 0, .int .i64 0, .int .i64 0, .int .i64 0]
def PlainIs (w : World) (e : Ending) (w' : World) : Prop := ∃ g cap ta, e = .returned (.agg (plainC (.slice (some ⟨g, 0, none⟩) 1 cap) ta)) ∧ w'.rangeAt g 0 plainS.cells.toList ∧ Below w.heap.size w w'
theorem infoSym : (Tryz.prog.info? 46).map (fun i => (i.zero, i.size, i.bytes)) = some (some (.agg zeroSym.cells), 16, 128) := by kernel_rfl
def plainR : Array Value := #[.int .i64 5, .int .i64 1, .int .i64 10, .int .i64 2, .int .i64 500, .int .i64 0]
/-- Between two rounds. -/
structure PlS (w : World) (k : Nat) (ta v : Value) (W : World) : Prop where
  res : Blk W w.heap.size zeroC 27
  sym : Blk W (w.heap.size + 1) plainS.cells 46
  cfg : Blk W (w.heap.size + 1 + 1 + 1) (plainC v ta) 27
  bel : Below w.heap.size w W
  nil : k = 0 → v = .slice none 0 0
  row : k = 1 → ∃ g cap, v = .slice (some ⟨g, 0, none⟩) 1 cap ∧ W.rangeAt g 0 plainS.cells.toList
def plainW (w : World) : World := (((w.alloc (.cells zeroC 27)).alloc (.cells plainS.cells 46)).alloc (.cells plainR 40)).alloc (.cells (plainC (.slice none 0 0) (.slice (some ⟨w.heap.size + 1 + 1, 0, none⟩) 3 3)) 27)
theorem pls_start (w : World) : PlS w 0 (.slice (some ⟨w.heap.size + 1 + 1, 0, none⟩) 3 3) (.slice none 0 0) (plainW w) := by
  have hb : Below w.heap.size w (plainW w) := ((((Below.refl _ _).alloc (Nat.le_refl _) _).alloc (by simp) _).alloc (by simp; omega) _).alloc (by simp; omega) _
  refine ⟨(((Blk.new w _ _ w.heap.size rfl).old _).old _).old _, ((Blk.new (w.alloc _) _ _ (w.heap.size + 1) (by simp)).old _).old _, Blk.new _ _ _ _ (by simp), hb, fun _ => rfl, fun h => (by cases h)⟩
theorem range_set {W : World} {g B o : Nat} {l : List Value} (h : W.rangeAt g o l) (hne : g ≠ B) (vs : List Value) : (W.setCells B 0 vs).rangeAt g o l := fun j u hu => by
  rw [← h j u hu]
  have gen : ∀ (vs : List Value) (i : Nat) (W : World), (W.setCells B i vs).cell? ⟨g, o + j, none⟩ = W.cell? ⟨g, o + j, none⟩ := by
    intro vs
    induction vs with
    | nil => intro i W; rfl
    | cons v vs ih =>
      intro i W
      rw [show W.setCells B i (v :: vs) = (W.setCell ⟨B, i, none⟩ v).setCells B (i + 1) vs from rfl, ih]
      exact World.cell?_of_block (Below.heap_setCell _ _ _ _ hne)
  exact gen vs 0 W
set_option maxRecDepth 20000 in
set_option maxHeartbeats 8000000 in
theorem plain_any (w : World) : Calls Tryz.prog 14 #[.int .i64 1] w (PlainIs w) := by
  obtain ⟨i0, hi0, hz0, hz1, hz2⟩ := info_parts infoSym
  have HP0 := Lib.hid (pls_start w)
  go_enter Tryz.func14, Tryz.ntmps14
  go_upto_region 3 with fail
  change Code.wp _ _ _ _ (plainW w)
  generalize plainW w = w1 at HP0 ⊢
  generalize (some (⟨w.heap.size + 1 + 1, 0, none⟩ : Addr)) = tb at HP0 ⊢
  go_wp2_with fail
  go_loopw [5] (fun i wr => ∃ k v, k ≤ 1 ∧ i = .int .i64 ((k : Nat) : Int) ∧ PlS w k (.slice tb 3 3) v wr) (fun i _ => 1 - (intOf i).toNat)
  case atStart => exact ⟨0, _, by omega, rfl, HP0.out⟩
  case round =>
    obtain ⟨k, v, hk, rfl, hp⟩ := hrel
    have HP := Lib.hid hp
    clear hp HP0
    by_cases hlt : k < 1
    · obtain rfl : k = 0 := by omega
      obtain rfl : v = .slice none 0 0 := HP.out.nil rfl
      have c0 : wr.cell? ⟨w.heap.size + 1 + 1 + 1, 0, none⟩ = some (.slice none 0 0) := HP.out.cfg.cell 0 rfl
      have HNB := Lib.hid ((GL.start wr.heap.size 46 16 (Below.refl _ wr) (Nat.le_refl _)).new plainS.cells)
      have HR2 := Lib.hid (HP.out.res.old (.cells plainS.cells 46))
      have HS2 := Lib.hid (HP.out.sym.old (.cells plainS.cells 46))
      have HC2 := Lib.hid (HP.out.cfg.old (.cells plainS.cells 46))
      go_wp2_with (first
        | (refine load_blk (by rfl) 46 _ (by rfl) (w.heap.size + 1) (by rfl) _ _ HP.out.sym _ Tryz.underlying46 rfl (by kernel_rfl) ?_; unfold plainS Sym.cells)
        | (at_builtin; refine GN.wp HNB.out rfl _ _ 22 (by rfl) i0 (.agg zeroSym.cells) 128 Tryz.underlying22 hi0 hz0 hz1 hz2 rfl (by decide) (by rfl) (by rfl) rfl (by simp [plainS, Sym.cells, Value.oneCell']) (by unfold maxLen; omega) (by omega) ?_; intro g5 cap5 w5 H5; replace H5 := Lib.hid H5; have HR5 := Lib.hid (HP.out.res.below H5.out.bel HP.out.res.lt); have HS5 := Lib.hid (HP.out.sym.below H5.out.bel HP.out.sym.lt); have HC5 := Lib.hid (HP.out.cfg.below H5.out.bel HP.out.cfg.lt); have f5 := HC5.out.free 0; have c5 : w5.cell? ⟨w.heap.size + 1 + 1 + 1, 0, none⟩ = some (.slice none 0 0) := HC5.out.cell 0 rfl))
      have hne : g5 ≠ w.heap.size + 1 + 1 + 1 := by
        have := (World.ownsRow.lt H5.out.own g5 rfl).1
        have := HP.out.cfg.lt
        omega
      have HE := Lib.hid (show PlS w 1 (.slice tb 3 3) (.slice (some ⟨g5, 0, none⟩) 1 cap5) (w5.setCell ⟨w.heap.size + 1 + 1 + 1, 0, none⟩ (.slice (some ⟨g5, 0, none⟩) 1 cap5)) from
        ⟨HR5.out.apart _ _ (by show w.heap.size + 1 + 1 + 1 ≠ w.heap.size; omega), HS5.out.apart _ _ (by show w.heap.size + 1 + 1 + 1 ≠ w.heap.size + 1; omega), HC5.out.set 0 _, (HP.out.bel.trans (H5.out.bel.mono HP.out.bel.size)).setCell (by show w.heap.size ≤ w.heap.size + 1 + 1 + 1; omega) _, fun h => (by cases h), fun _ => ⟨g5, cap5, rfl, fun j u hu => by
          rw [World.cell?_of_block (w := w5) (a := ⟨g5, 0 + j, none⟩) (Below.heap_setCell _ _ _ _ (by show g5 ≠ w.heap.size + 1 + 1 + 1; exact hne)), Nat.zero_add]
          have := World.ownsRow.cells H5.out.own rfl j u hu
          rwa [Addr.add_mid, Nat.zero_add] at this⟩⟩)
      clear hne
      go_roundw
      case rel => exact ⟨1, _, by omega, rfl, HE.out⟩
      case measure => simp [intOf]
    · obtain rfl : k = 1 := by omega
      obtain ⟨g, cap, rfl, hr⟩ := HP.out.row rfl
      have HRG := Lib.hid hr
      clear hr
      go_wp2_with (first
        | (refine load_blk (by rfl) 27 _ (by rfl) (w.heap.size + 1 + 1 + 1) (by rfl) _ _ HP.out.cfg _ Tryz.underlying27 rfl (by kernel_rfl) ?_)
        | (refine store_blk (by rfl) 27 _ _ (by rfl) w.heap.size (by rfl) _ (plainC (.slice (some ⟨g, 0, none⟩) 1 cap) (.slice tb 3 3)) 27 HP.out.res (by rfl) rfl (by kernel_rfl) (by simp [plainC, Value.oneCell']) ?_))
      have hne : g ≠ w.heap.size := by
        rintro rfl
        have h1 := HRG.out 0 (.int .i64 5) rfl
        have h2 := HP.out.res.cell 0 (v := .slice none 0 0) rfl
        rw [show w.heap.size = w.heap.size from rfl] at h1
        rw [show (0 + 0 : Nat) = 0 from rfl, h2] at h1
        cases h1
      refine bodyPost_ret (results_blk (cs := plainC (.slice (some ⟨g, 0, none⟩) 1 cap) (.slice tb 3 3)) rfl rfl (HP.out.res.setCells (plainC (.slice (some ⟨g, 0, none⟩) 1 cap) (.slice tb 3 3)) rfl) Tryz.underlying27 rfl (by kernel_rfl)) rfl ⟨g, cap, _, rfl, range_set HRG.out hne _, Blk.Below.setCells _ _ _ HP.out.bel (Nat.le_refl _)⟩
end Go.Proofs.YtmkcooamgojbpaaGreatDoor.Sheet

/- damperlaw40.alive. -/
namespace Go.Proofs.YtmkcooamgojbpaaGreatDoor.Sheet
open Go.RowKit Go.Proofs.YtmkcooamgojbpaaGreatDoor.Kit Go.Proofs.YtmkcooamgojbpaaGreatDoor.Blk Go.Proofs.YtmkcooamgojbpaaGreatDoor.Words Go.Proofs.YtmkcooamgojbpaaGreatDoor.Octets Go.Proofs.YtmkcooamgojbpaaGreatDoor.Lines Go.Proofs.YtmkcooamgojbpaaGreatDoor.Dec Go.Proofs.YtmkcooamgojbpaaGreatDoor.Symbol
attribute [local go_sem ↓] Go.wp_at_zero Go.wp_at_succ
set_option linter.unusedVariables false

def lRow5 : Txt := [114, 111, 119, 32, 53, 32, 111, 112, 101, 110, 105, 110, 103]
theorem row5 : rowF lRow5 = some (5, 1) := by decide +kernel
theorem pause_v : fieldV plainS ⟨#[112, 97, 117, 115, 101]⟩ = 10 ∧ decide (0 ≤ nameI ⟨#[112, 97, 117, 115, 101]⟩) = true := by decide +kernel
def AliveIs (w : World) (e : Ending) (w' : World) : Prop := e = .returned (.bool true) ∧ Below w.heap.size w w'
set_option maxRecDepth 20000 in
set_option maxHeartbeats 4000000 in
theorem alive_any (w : World) (hm : MX w) : Calls Tryz.prog 6 #[] w (AliveIs w) := by
  have H1 := Lib.hid (row_any lRow5 (by decide) w hm)
  rw [row5] at H1
  have HF := Lib.hid (fun W => field_any plainS ⟨#[112, 97, 117, 115, 101]⟩ W)
  unfold FieldIs at HF
  rw [pause_v.1, pause_v.2] at HF
  clear hm
  go_enter Tryz.func6, Tryz.ntmps6
  go_wp2_with fail
  refine H1.out.mono ?_
  rintro e w1 ⟨rfl, hb1⟩
  have HB1 := Lib.hid (hb1.alloc hb1.size (.cells (rowC (5, 1)) 40))
  have HX1 := Lib.hid (Blk.new w1 (rowC (5, 1)) 40 w1.heap.size rfl)
  clear hb1 H1
  simp only [Option.getD_some, Option.isSome_some, if_true]
  unfold rowC
  go_upto_region 2 with fail
  change Code.wp _ _ _ _ (w1.alloc (.cells (rowC (5, 1)) 40))
  generalize w1.alloc (.cells (rowC (5, 1)) 40) = w2 at HB1 HX1 ⊢
  go_wp2_with fail
  refine (plain_any w2).mono ?_
  rintro e w3 ⟨g, cap, ta, rfl, hr, hb3⟩
  have HB3 := Lib.hid (HB1.out.trans (hb3.mono HB1.out.size))
  have HX3 := Lib.hid (HX1.out.below hb3 HX1.out.lt)
  have HR3 := Lib.hid hr
  clear hr hb3 HB1 HX1
  unfold plainC
  have hfd : ∀ w, (Instr.field 27 (.agg #[.slice (some ⟨g, 0, none⟩) 1 cap, ta, .int .i64 10000, .int .i64 700, .int .i64 1300, .int .i64 2000, .int .i64 15, .int .i64 30]) 0).run Tryz.prog w = .ok (.slice (some ⟨g, 0, none⟩) 1 cap) w := fun _ => by kernel_rfl
  go_wp2_with (refine wpList_load_mid rfl 46 _ rfl _ _ rfl _ _ HR3.out Tryz.underlying46 rfl (by kernel_rfl) ?_)
  refine (HF.out w3).mono ?_
  rintro e w4 ⟨rfl, hb4⟩
  have HB4 := Lib.hid (HB3.out.trans (hb4.mono HB3.out.size))
  have HX4 := Lib.hid (HX3.out.below hb4 HX3.out.lt)
  have c0 : w4.cell? ⟨w1.heap.size, 0, none⟩ = some (.int .i64 5) := HX4.out.cell 0 rfl
  have c1 : w4.cell? ⟨w1.heap.size, 1, none⟩ = some (.int .i64 1) := HX4.out.cell 1 rfl
  clear hb4 HR3 hfd
  go_wp2_with (refine load_blk (by rfl) 40 _ (by rfl) w1.heap.size (by rfl) _ _ HX4.out _ Tryz.underlying40 rfl (by kernel_rfl) ?_)
  go_ret
  exact ⟨rfl, HB4.out⟩
end Go.Proofs.YtmkcooamgojbpaaGreatDoor.Sheet

/- damperlaw40.SheetTexts: the walk. -/
namespace Go.Proofs.YtmkcooamgojbpaaGreatDoor.Sheet
open Go.RowKit Go.Proofs.YtmkcooamgojbpaaGreatDoor.Kit Go.Proofs.YtmkcooamgojbpaaGreatDoor.Blk Go.Proofs.YtmkcooamgojbpaaGreatDoor.Words Go.Proofs.YtmkcooamgojbpaaGreatDoor.Octets Go.Proofs.YtmkcooamgojbpaaGreatDoor.Lines Go.Proofs.YtmkcooamgojbpaaGreatDoor.Dec Go.Proofs.YtmkcooamgojbpaaGreatDoor.Symbol Go.Proofs.YtmkcooamgojbpaaGreatDoor.Check
attribute [local go_sem ↓] Go.wp_at_zero Go.wp_at_succ
set_option linter.unusedVariables false

def lightC (c : Cfg) : Bool := decide (c.syms.length ≤ 20) && decide (c.tab.length ≤ 40)
theorem light07_any (c : Cfg) (sa ta : Option Addr) (sc tc : Nat) (w : World) : Calls Tryz.prog 5 #[.agg (c.cells sa ta sc tc)] w fun e w' => e = .returned (.bool (lightC c)) ∧ Below w.heap.size w w' := by
  have HM := Lib.hid (Blk.new w (c.cells sa ta sc tc) 27 w.heap.size rfl)
  have HB := Lib.hid ((Below.refl w.heap.size w).alloc (Nat.le_refl _) (.cells (c.cells sa ta sc tc) 27))
  have HL := Lib.hid (show lightC c = (decide (c.syms.length ≤ 20) && decide (c.tab.length ≤ 40)) from rfl)
  unfold Cfg.cells
  generalize lightC c = b at HL ⊢
  go_enter Tryz.func5, Tryz.ntmps5
  go_upto_region 1 with fail
  change Code.wp _ _ _ _ (w.alloc (.cells (c.cells sa ta sc tc) 27))
  generalize w.alloc (.cells (c.cells sa ta sc tc) 27) = w1 at HM HB ⊢
  have c0 : w1.cell? ⟨w.heap.size, 0, none⟩ = some (.slice sa c.syms.length sc) := HM.out.cell 0 rfl
  have c1 : w1.cell? ⟨w.heap.size, 1, none⟩ = some (.slice ta c.tab.length tc) := HM.out.cell 1 rfl
  clear HM
  by_cases h1 : c.syms.length ≤ 20
  · have g1 : (c.syms.length : Int) ≤ 20 := by omega
    have e1 : decide (c.syms.length ≤ 20) = true := by simpa using h1
    rw [e1] at HL
    by_cases h2 : c.tab.length ≤ 40
    · have g2 : (c.tab.length : Int) ≤ 40 := by omega
      have e2 : decide (c.tab.length ≤ 40) = true := by simpa using h2
      rw [e2] at HL
      go_wp2_with fail
      go_ret
      exact ⟨by rw [HL.out]; rfl, HB.out⟩
    · have g2 : ¬ (c.tab.length : Int) ≤ 40 := by omega
      have e2 : decide (c.tab.length ≤ 40) = false := by simpa using h2
      rw [e2] at HL
      go_wp2_with fail
      go_ret
      exact ⟨by rw [HL.out]; rfl, HB.out⟩
  · have g1 : ¬ (c.syms.length : Int) ≤ 20 := by omega
    have e1 : decide (c.syms.length ≤ 20) = false := by simpa using h1
    rw [e1] at HL
    go_wp2_with fail
    go_ret
    exact ⟨by rw [HL.out]; rfl, HB.out⟩
set_option maxRecDepth 20000 in
set_option maxHeartbeats 2000000 in
theorem texts_law (c : Cfg) (sa ta : Option Addr) (sc tc : Nat) (w : World) (hin : c.In w sa ta) (hm : MX w) : Calls Tryz.prog 3 #[.agg (c.cells sa ta sc tc)] w (AliveIs w) := by
  have HM := Lib.hid (Blk.new w (c.cells sa ta sc tc) 27 w.heap.size rfl)
  have HB := Lib.hid ((Below.refl w.heap.size w).alloc (Nat.le_refl _) (.cells (c.cells sa ta sc tc) 27))
  have HIN := Lib.hid hin
  have HX := Lib.hid hm
  clear hin hm
  unfold Cfg.cells
  go_enter Tryz.func3, Tryz.ntmps3
  go_upto_region 1 with fail
  change Code.wp _ _ _ _ (w.alloc (.cells (c.cells sa ta sc tc) 27))
  generalize w.alloc (.cells (c.cells sa ta sc tc) 27) = w1 at HM HB ⊢
  go_wp2_with (refine load_blk (by rfl) 27 _ (by rfl) w.heap.size (by rfl) _ _ HM.out _ Tryz.underlying27 rfl (by kernel_rfl) ?_)
  refine (light07_any c sa ta sc tc w1).mono ?_
  rintro e w2 ⟨rfl, hb2⟩
  have HM2 := Lib.hid (HM.out.below hb2 HM.out.lt)
  have HB2 := Lib.hid (HB.out.trans (hb2.mono HB.out.size))
  clear hb2 HM HB
  cases hl : lightC c with
  | false =>
    have HA := Lib.hid (alive_any w2 (HX.out.below (n := 0) HB2.out))
    go_wp2_with fail
    refine HA.out.mono ?_
    rintro e w3 ⟨rfl, hb3⟩
    have HB3 := Lib.hid (HB2.out.trans (hb3.mono HB2.out.size))
    clear hb3
    go_wp2_with fail
    go_ret
    exact ⟨rfl, HB3.out⟩
  | true =>
    have hll : c.syms.length ≤ 10000 ∧ c.tab.length ≤ 10000 := by
      unfold lightC at hl
      rw [Bool.and_eq_true, decide_eq_true_eq, decide_eq_true_eq] at hl
      omega
    have HT1 := Lib.hid (sheet_text c sa ta sc tc w2 (HIN.out.below HB2.out) hll.1 hll.2)
    have HT2 := Lib.hid (fun W (h : c.In W sa ta) => rsheet_text c sa ta sc tc W h hll.1 hll.2)
    unfold TextIs at HT1 HT2
    clear hl hll
    generalize strB (if (checkF c).1 = 0 then sheetF c else []) = S at HT1 HT2
    generalize (checkF c).1 = f at HT1 HT2
    go_wp2_with (refine load_blk (by rfl) 27 _ (by rfl) w.heap.size (by rfl) _ _ HM2.out _ Tryz.underlying27 rfl (by kernel_rfl) ?_)
    refine HT1.out.mono ?_
    clear HT1
    rintro e w3 ⟨rfl, hb3⟩
    have HM3 := Lib.hid (HM2.out.below hb3 HM2.out.lt)
    have HB3 := Lib.hid (HB2.out.trans (hb3.mono HB2.out.size))
    clear hb3 HM2 HB2
    go_wp2_with (refine load_blk (by rfl) 27 _ (by rfl) w.heap.size (by rfl) _ _ HM3.out _ Tryz.underlying27 rfl (by kernel_rfl) ?_)
    refine (HT2.out w3 (HIN.out.below HB3.out)).mono ?_
    clear HT2
    rintro e w4 ⟨rfl, hb4⟩
    have HB4 := Lib.hid (HB3.out.trans (hb4.mono HB3.out.size))
    have HA := Lib.hid (alive_any w4 (HX.out.below (n := 0) HB4.out))
    have b1 : (S == S) = true := by show (S.data == S.data) = true; simp
    have b2 : (S.toList == S.toList) = true := by simp
    clear hb4 HM3 HB3
    go_wp2_with fail
    refine HA.out.mono ?_
    rintro e w5 ⟨rfl, hb5⟩
    have HB5 := Lib.hid (HB4.out.trans (hb5.mono HB4.out.size))
    clear hb5 HB4 HA
    go_wp2_with fail
    go_ret
    exact ⟨rfl, HB5.out⟩
end Go.Proofs.YtmkcooamgojbpaaGreatDoor.Sheet
