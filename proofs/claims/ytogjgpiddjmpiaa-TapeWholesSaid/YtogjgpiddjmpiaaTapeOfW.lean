/- The document's bar of some trades: the walk of Of. -/
import Derived.Test.YtogjgpiddjmpiaaTapeOf
import Derived.Lib.MinMax
namespace Go.Proofs.Ytogjgpiddjmpiaa.Tape
set_option linter.unusedVariables false
open Go.RowKit Go.Proofs.Ytogjgpiddjmpiaa.Kit Go.Proofs.Ytogjgpiddjmpiaa.Blk Go.Proofs.Ytogjgpiddjmpiaa.Msgs
attribute [local go_sem ↓] Go.wp_at_zero Go.wp_at_succ

set_option maxRecDepth 100000 in
set_option maxHeartbeats 4000000 in
theorem of_any (a : Option Addr) (cap n L : Nat) (g : List Msg) (hn : g.length = L) (hLn : L = n + 1) (m0 ml : Msg) (h0 : g[0]'(by omega) = m0) (hl : g[n]'(by omega) = ml) (f : Int) (w : World) (hm : MsgRow w a g) (hb : n ≤ 999) (hg : ∀ m ∈ g, Good m) :
    Calls Try.prog 75 #[.slice a L cap, .int .i64 f] w fun e w' => e = .returned (.agg (ofF f g m0 ml).cells) ∧ Below w.heap.size w w' := by
  obtain ⟨b, off, rfl, hbl, hrow0⟩ := msgRow_at hm 0 (by omega)
  obtain ⟨b', off', hab, _, hrown⟩ := msgRow_at hm n (by omega)
  cases hab
  obtain ⟨i0, hi0, hz0, hz1, hz2⟩ := info_parts infoRBar
  obtain ⟨j0, hj0, hy0, hy1, hy2⟩ := info_parts infoI
  have HR := Lib.hid (Blk.new w Bar.zero.cells 55 w.heap.size rfl)
  have HB := Lib.hid ((Below.refl w.heap.size w).alloc (Nat.le_refl _) (.cells Bar.zero.cells 55))
  have c0 : (w.alloc (.cells Bar.zero.cells 55)).cell? ⟨b, off + 6, none⟩ = some (.int .i64 m0.price) := by
    rw [cell_old _ _ _ hbl, ← h0, show off + 6 = off + 0 * 9 + 6 by omega]; exact hrow0 6 _ rfl
  have cn : (w.alloc (.cells Bar.zero.cells 55)).cell? ⟨b, off + n * 9 + 6, none⟩ = some (.int .i64 ml.price) := by
    rw [cell_old _ _ _ hbl, ← hl]; exact hrown 6 _ rfl
  have hS1 : (w.alloc (.cells Bar.zero.cells 55)).heap.size = w.heap.size + 1 := by simp
  have HN := Lib.hid hn
  have HLN := Lib.hid hLn
  have hL0 : 0 < L := by omega
  have hLb : L ≤ 1000 := by omega
  have g2 : (n : Int) < (L : Int) := by omega
  have ew : IntKind.i64.wrap ((L : Int) - 1) = (n : Int) := by rw [hLn]; rw [IntWalk.i64_in _ ⟨by omega, by omega⟩]; omega
  have HM := Lib.hid (hm.all HB.out)
  have HM0 := Lib.hid hm
  have HG := Lib.hid hg
  clear hrow0 hrown h0 hl hm hn hg hLn
  go_enter Try.func75, Try.ntmps75
  go_upto_region 1 with fail
  change Code.wp _ _ _ _ (w.alloc (.cells Bar.zero.cells 55))
  generalize w.alloc (.cells Bar.zero.cells 55) = W at HR HB HM c0 cn hS1 ⊢
  have HS1 := Lib.hid hS1
  clear hS1
  have g0 : (0 : Int) ≤ (n : Int) := by omega
  have g1 : (n : Int) ≤ 999 := by omega
  refine wp_region_held_drew (S := (fun w' => w'.cell? ⟨b, off + 6, none⟩ = some (.int .i64 m0.price) ∧ w'.cell? ⟨b, off + n * 9 + 6, none⟩ = some (.int .i64 ml.price))) (by kernel_rfl) ⟨c0, cn⟩ (fun hHeld => ?_)
  replace HR := Lib.hid HR.out.drew
  replace HB := Lib.hid HB.out.drew
  replace HM := Lib.hid (HM.out.all ((Below.refl W.heap.size W).drew))
  have c0 : W.drew.cell? ⟨b, off + 6, none⟩ = some (.int .i64 m0.price) := c0
  have cn : W.drew.cell? ⟨b, off + n * 9 + 6, none⟩ = some (.int .i64 ml.price) := cn
  replace HS1 := Lib.hid (show W.drew.heap.size = w.heap.size + 1 from HS1.out)
  generalize W.drew = W at HR HB HM HS1 c0 cn hHeld ⊢
  refine wpAnyH_take (i := 0) (oi := ⟨some 9, _, _, _, _, _⟩) (v := (.int .i64 f)) rfl (by kernel_rfl) (by kernel_rfl) (by kernel_rfl) (fun _ _ _ h => h) (Or.inl ⟨by rfl, fun w hSw => by (try dsimp only at hSw); go_simp⟩) (by assumption) ?_
  simp only [Act.put, List.setIfInBounds_toArray, List.set_cons_zero, List.set_cons_succ]
  refine wpAnyH_take (i := 1) (oi := ⟨some 10, _, _, _, _, _⟩) (v := (.slice (some ⟨b, off, none⟩) L cap)) rfl (by kernel_rfl) (by kernel_rfl) (by kernel_rfl) (fun _ _ _ h => h) (Or.inl ⟨by rfl, fun w hSw => by (try dsimp only at hSw); go_simp⟩) (by assumption) ?_
  simp only [Act.put, List.setIfInBounds_toArray, List.set_cons_zero, List.set_cons_succ]
  refine wpAnyH_take (i := 2) (oi := ⟨some 11, _, _, _, _, _⟩) (v := (.pointer (some ⟨b, off, none⟩))) rfl (by kernel_rfl) (by kernel_rfl) (by kernel_rfl) (fun _ _ _ h => h) (Or.inl ⟨by rfl, fun w hSw => by (try dsimp only at hSw); go_simp⟩) (by assumption) ?_
  simp only [Act.put, List.setIfInBounds_toArray, List.set_cons_zero, List.set_cons_succ]
  refine wpAnyH_take (i := 3) (oi := ⟨some 12, _, _, _, _, _⟩) (v := (.pointer (some ⟨b, off + 6, none⟩))) rfl (by kernel_rfl) (by kernel_rfl) (by kernel_rfl) (fun _ _ _ h => h) (Or.inl ⟨by rfl, fun w hSw => by (try dsimp only at hSw); go_simp⟩) (by assumption) ?_
  simp only [Act.put, List.setIfInBounds_toArray, List.set_cons_zero, List.set_cons_succ]
  refine wpAnyH_take (i := 4) (oi := ⟨some 13, _, _, _, _, _⟩) (v := (.int .i64 m0.price)) rfl (by kernel_rfl) (by kernel_rfl) (by kernel_rfl) (fun _ _ _ h => h) (Or.inl ⟨by rfl, fun w hSw => by (try dsimp only at hSw); go_simp⟩) (by assumption) ?_
  simp only [Act.put, List.setIfInBounds_toArray, List.set_cons_zero, List.set_cons_succ]
  refine wpAnyH_take (i := 5) (oi := ⟨some 14, _, _, _, _, _⟩) (v := (.slice (some ⟨b, off, none⟩) L cap)) rfl (by kernel_rfl) (by kernel_rfl) (by kernel_rfl) (fun _ _ _ h => h) (Or.inl ⟨by rfl, fun w hSw => by (try dsimp only at hSw); go_simp⟩) (by assumption) ?_
  simp only [Act.put, List.setIfInBounds_toArray, List.set_cons_zero, List.set_cons_succ]
  refine wpAnyH_take (i := 6) (oi := ⟨some 15, _, _, _, _, _⟩) (v := (.pointer (some ⟨b, off, none⟩))) rfl (by kernel_rfl) (by kernel_rfl) (by kernel_rfl) (fun _ _ _ h => h) (Or.inl ⟨by rfl, fun w hSw => by (try dsimp only at hSw); go_simp⟩) (by assumption) ?_
  simp only [Act.put, List.setIfInBounds_toArray, List.set_cons_zero, List.set_cons_succ]
  refine wpAnyH_take (i := 7) (oi := ⟨some 16, _, _, _, _, _⟩) (v := (.pointer (some ⟨b, off + 6, none⟩))) rfl (by kernel_rfl) (by kernel_rfl) (by kernel_rfl) (fun _ _ _ h => h) (Or.inl ⟨by rfl, fun w hSw => by (try dsimp only at hSw); go_simp⟩) (by assumption) ?_
  simp only [Act.put, List.setIfInBounds_toArray, List.set_cons_zero, List.set_cons_succ]
  refine wpAnyH_take (i := 8) (oi := ⟨some 17, _, _, _, _, _⟩) (v := (.int .i64 m0.price)) rfl (by kernel_rfl) (by kernel_rfl) (by kernel_rfl) (fun _ _ _ h => h) (Or.inl ⟨by rfl, fun w hSw => by (try dsimp only at hSw); go_simp⟩) (by assumption) ?_
  simp only [Act.put, List.setIfInBounds_toArray, List.set_cons_zero, List.set_cons_succ]
  refine wpAnyH_take (i := 9) (oi := ⟨some 18, _, _, _, _, _⟩) (v := (.slice (some ⟨b, off, none⟩) L cap)) rfl (by kernel_rfl) (by kernel_rfl) (by kernel_rfl) (fun _ _ _ h => h) (Or.inl ⟨by rfl, fun w hSw => by (try dsimp only at hSw); go_simp⟩) (by assumption) ?_
  simp only [Act.put, List.setIfInBounds_toArray, List.set_cons_zero, List.set_cons_succ]
  refine wpAnyH_take (i := 10) (oi := ⟨some 19, _, _, _, _, _⟩) (v := (.pointer (some ⟨b, off, none⟩))) rfl (by kernel_rfl) (by kernel_rfl) (by kernel_rfl) (fun _ _ _ h => h) (Or.inl ⟨by rfl, fun w hSw => by (try dsimp only at hSw); go_simp⟩) (by assumption) ?_
  simp only [Act.put, List.setIfInBounds_toArray, List.set_cons_zero, List.set_cons_succ]
  refine wpAnyH_take (i := 11) (oi := ⟨some 20, _, _, _, _, _⟩) (v := (.pointer (some ⟨b, off + 6, none⟩))) rfl (by kernel_rfl) (by kernel_rfl) (by kernel_rfl) (fun _ _ _ h => h) (Or.inl ⟨by rfl, fun w hSw => by (try dsimp only at hSw); go_simp⟩) (by assumption) ?_
  simp only [Act.put, List.setIfInBounds_toArray, List.set_cons_zero, List.set_cons_succ]
  refine wpAnyH_take (i := 12) (oi := ⟨some 21, _, _, _, _, _⟩) (v := (.int .i64 m0.price)) rfl (by kernel_rfl) (by kernel_rfl) (by kernel_rfl) (fun _ _ _ h => h) (Or.inl ⟨by rfl, fun w hSw => by (try dsimp only at hSw); go_simp⟩) (by assumption) ?_
  simp only [Act.put, List.setIfInBounds_toArray, List.set_cons_zero, List.set_cons_succ]
  refine wpAnyH_take (i := 13) (oi := ⟨some 22, _, _, _, _, _⟩) (v := (.slice (some ⟨b, off, none⟩) L cap)) rfl (by kernel_rfl) (by kernel_rfl) (by kernel_rfl) (fun _ _ _ h => h) (Or.inl ⟨by rfl, fun w hSw => by (try dsimp only at hSw); go_simp⟩) (by assumption) ?_
  simp only [Act.put, List.setIfInBounds_toArray, List.set_cons_zero, List.set_cons_succ]
  refine wpAnyH_take (i := 14) (oi := ⟨some 23, _, _, _, _, _⟩) (v := (.slice (some ⟨b, off, none⟩) L cap)) rfl (by kernel_rfl) (by kernel_rfl) (by kernel_rfl) (fun _ _ _ h => h) (Or.inl ⟨by rfl, fun w hSw => by (try dsimp only at hSw); go_simp⟩) (by assumption) ?_
  simp only [Act.put, List.setIfInBounds_toArray, List.set_cons_zero, List.set_cons_succ]
  refine wpAnyH_take (i := 15) (oi := ⟨some 24, _, _, _, _, _⟩) (v := (.int .i64 L)) rfl (by kernel_rfl) (by kernel_rfl) (by kernel_rfl) (fun _ _ _ h => h) (Or.inl ⟨by rfl, fun w hSw => by (try dsimp only at hSw); go_simp⟩) (by assumption) ?_
  simp only [Act.put, List.setIfInBounds_toArray, List.set_cons_zero, List.set_cons_succ]
  refine wpAnyH_take (i := 16) (oi := ⟨some 25, _, _, _, _, _⟩) (v := (.int .i64 n)) rfl (by kernel_rfl) (by kernel_rfl) (by kernel_rfl) (fun _ _ _ h => h) (Or.inl ⟨by rfl, fun w hSw => by (try dsimp only at hSw); go_simp⟩) (by assumption) ?_
  simp only [Act.put, List.setIfInBounds_toArray, List.set_cons_zero, List.set_cons_succ]
  refine wpAnyH_take (i := 17) (oi := ⟨some 26, _, _, _, _, _⟩) (v := (.pointer (some ⟨b, off + n * 9, none⟩))) rfl (by kernel_rfl) (by kernel_rfl) (by kernel_rfl) (fun _ _ _ h => h) (Or.inl ⟨by rfl, fun w hSw => by (try dsimp only at hSw); go_simp⟩) (by assumption) ?_
  simp only [Act.put, List.setIfInBounds_toArray, List.set_cons_zero, List.set_cons_succ]
  refine wpAnyH_take (i := 18) (oi := ⟨some 27, _, _, _, _, _⟩) (v := (.pointer (some ⟨b, off + n * 9 + 6, none⟩))) rfl (by kernel_rfl) (by kernel_rfl) (by kernel_rfl) (fun _ _ _ h => h) (Or.inl ⟨by rfl, fun w hSw => by (try dsimp only at hSw); go_simp⟩) (by assumption) ?_
  simp only [Act.put, List.setIfInBounds_toArray, List.set_cons_zero, List.set_cons_succ]
  refine wpAnyH_take (i := 19) (oi := ⟨some 28, _, _, _, _, _⟩) (v := (.int .i64 ml.price)) rfl (by kernel_rfl) (by kernel_rfl) (by kernel_rfl) (fun _ _ _ h => h) (Or.inl ⟨by rfl, fun w hSw => by (try dsimp only at hSw); go_simp⟩) (by assumption) ?_
  simp only [Act.put, List.setIfInBounds_toArray, List.set_cons_zero, List.set_cons_succ]
  refine wpAnyH_take (i := 20) (oi := ⟨some 29, _, _, _, _, _⟩) (v := (.slice (some ⟨b, off, none⟩) L cap)) rfl (by kernel_rfl) (by kernel_rfl) (by kernel_rfl) (fun _ _ _ h => h) (Or.inl ⟨by rfl, fun w hSw => by (try dsimp only at hSw); go_simp⟩) (by assumption) ?_
  simp only [Act.put, List.setIfInBounds_toArray, List.set_cons_zero, List.set_cons_succ]
  refine wpAnyH_take (i := 21) (oi := ⟨some 30, _, _, _, _, _⟩) (v := (.int .i64 L)) rfl (by kernel_rfl) (by kernel_rfl) (by kernel_rfl) (fun _ _ _ h => h) (Or.inl ⟨by rfl, fun w hSw => by (try dsimp only at hSw); go_simp⟩) (by assumption) ?_
  simp only [Act.put, List.setIfInBounds_toArray, List.set_cons_zero, List.set_cons_succ]
  refine wpAnyH_take (i := 22) (oi := ⟨some 31, _, _, _, _, _⟩) (v := (.agg #[.int .i64 f, .int .i64 m0.price, .int .i64 m0.price, .int .i64 m0.price, .int .i64 ml.price, .int .i64 0, .int .i64 L, .int .i64 0])) rfl (by kernel_rfl) (by kernel_rfl) (by kernel_rfl) (fun _ _ _ h => h) (Or.inl ⟨by rfl, fun w hSw => by (try dsimp only at hSw); go_simp⟩) (by assumption) ?_
  simp only [Act.put, List.setIfInBounds_toArray, List.set_cons_zero, List.set_cons_succ]
  clear ew
  refine wpAnyH_ready (rs := [23]) (by kernel_rfl) (by simp) ?_
  refine AllReadyH.cons (o := ⟨some 5, _, _, _, _, _⟩) rfl (fun KK hK => ?_) AllReadyH.nil
  go_simp
  change KK _ (W.alloc (.cells Bar.zero.cells 55))
  have HB1 := Lib.hid (Blk.new W Bar.zero.cells 55 W.heap.size rfl)
  refine hK.out _ _ ⟨(cell_old _ _ _ (by have := HS1.out; show b < W.heap.size; omega)).trans c0, (cell_old _ _ _ (by have := HS1.out; show b < W.heap.size; omega)).trans cn⟩ (fun hHeld => ?_)
  clear hK; try clear KK
  try simp only [Act.put, List.setIfInBounds_toArray, List.set_cons_zero, List.set_cons_succ]
  refine wpAnyH_ready (rs := [24]) (by kernel_rfl) (by simp) ?_
  refine AllReadyH.cons (o := ⟨none, _, _, _, _, _⟩) rfl (fun KK hK => ?_) AllReadyH.nil
  refine step_store_blk (by rfl) 55 _ _ (by rfl) W.heap.size (by rfl) Bar.zero.cells (Bar.cells ⟨f, m0.price, m0.price, m0.price, ml.price, 0, L, 0⟩) 55 HB1.out (by rfl) (by rfl) (by kernel_rfl) (one_bar _) ?_
  rw [alloc_setCells W Bar.zero.cells (Bar.cells ⟨f, m0.price, m0.price, m0.price, ml.price, 0, L, 0⟩) 55 rfl W.heap.size rfl]
  refine hK.out _ _ ⟨(cell_old _ _ _ (by have := HS1.out; show b < W.heap.size; omega)).trans c0, (cell_old _ _ _ (by have := HS1.out; show b < W.heap.size; omega)).trans cn⟩ (fun hHeld => ?_)
  clear hK; try clear KK
  refine wpAnyH_done (by kernel_rfl) ?_ _
  replace HR := Lib.hid (HR.out.old (.cells (Bar.cells ⟨f, m0.price, m0.price, m0.price, ml.price, 0, L, 0⟩) 55))
  replace HB := Lib.hid (HB.out.alloc HB.out.size (.cells (Bar.cells ⟨f, m0.price, m0.price, m0.price, ml.price, 0, L, 0⟩) 55))
  have HX := Lib.hid (Blk.new W (Bar.cells ⟨f, m0.price, m0.price, m0.price, ml.price, 0, L, 0⟩) 55 W.heap.size rfl)
  replace HM := Lib.hid (HM.out.all ((Below.refl W.heap.size W).alloc (Nat.le_refl _) (.cells (Bar.cells ⟨f, m0.price, m0.price, m0.price, ml.price, 0, L, 0⟩) 55)))
  generalize W.alloc (.cells (Bar.cells ⟨f, m0.price, m0.price, m0.price, ml.price, 0, L, 0⟩) 55) = V at HR HB HX HM ⊢
  have hX := HS1.out
  generalize W.heap.size = X at HX hX ⊢
  have HXX := Lib.hid hX
  clear c0 cn hHeld HB1 HS1 hX
  go_wp2_with fail
  go_loopw [6, 7, 8] (fun v u i wr => ∃ k : Nat, k ≤ L ∧ i = .int .i64 k ∧ OfI w.heap.size X f g m0 ml L w k v u wr) (fun _ _ i _ => L - (intOf i).toNat)
  case atStart => exact ⟨0, by omega, rfl, HX.out, HR.out, World.ownsRow_nil _ _ _ _, World.ownsRow_nil _ _ _ _, (fun j hj => by simp [Value.ownBlock] at hj), HB.out⟩
  case round =>
    clear HX HR HB HM
    obtain ⟨k, hk, rfl, hI⟩ := hrel
    by_cases hlt : k < L
    · have hkg : k < g.length := by rw [HN.out]; exact hlt
      have HHI := Lib.hid (hi_next m0.price g k hkg)
      have HLO := Lib.hid (lo_next m0.price g k hkg)
      have HVO := Lib.hid (vol_next g k hkg)
      have HPR := Lib.hid (prices_next g k hkg)
      have HQT := Lib.hid (qtys_next g k hkg)
      have hgk := HG.out g[k] (List.getElem_mem hkg)
      have hvb := volF_bd (g.take k) (fun m hm => HG.out m (List.mem_of_mem_take hm))
      have hlk : (g.take k).length ≤ 1000 := by rw [List.length_take, HN.out]; have := HLN.out; omega
      have HCP := Lib.hid (show ∀ V, Below w.heap.size w V → V.cell? ⟨b, off + k * 9 + 6, none⟩ = some (.int .i64 g[k].price) from fun V hV => by
        obtain ⟨b1, o1, e1, h1, h2⟩ := HM0.out k hkg
        cases e1
        rw [hV.cell (p := ⟨b, _, none⟩) hbl]; exact h2 6 _ rfl)
      have HCQ := Lib.hid (show ∀ V, Below w.heap.size w V → V.cell? ⟨b, off + k * 9 + 7, none⟩ = some (.int .i64 g[k].qty) from fun V hV => by
        obtain ⟨b1, o1, e1, h1, h2⟩ := HM0.out k hkg
        cases e1
        rw [hV.cell (p := ⟨b, _, none⟩) hbl]; exact h2 7 _ rfl)
      have hv0 : 0 ≤ volF (g.take k) := by omega
      have hv1 : volF (g.take k) ≤ 4294967296000 := by omega
      have hq1 := hgk.q1
      have hq2 := hgk.q2
      clear hvb hlk hgk
      have HCPB := HCP
      have HDISO := Lib.hid hI.dis
      generalize g[k] = m at HHI HLO HVO HPR HQT HCP HCPB HCQ hq1 hq2
      have HBAR := Lib.hid hI.bar
      have HRES := Lib.hid hI.res
      have HPS := Lib.hid hI.ps
      have HQS := Lib.hid hI.qs
      have HDIS := Lib.hid hI.dis
      have HB := Lib.hid hI.bel
      clear hI
      obtain ⟨va, vc, rfl⟩ := row_slice HPS.out
      obtain ⟨ua, uc, rfl⟩ := row_slice HQS.out
      generalize hiF m0.price (g.take k) = hh at HBAR HHI
      generalize loF m0.price (g.take k) = ll at HBAR HLO
      generalize volF (g.take k) = vv at HBAR HVO hv0 hv1
      have g0 : (0 : Int) ≤ (k : Int) := by omega
      have g1 : (k : Int) < (L : Int) := by omega
      have k2 : wr.cell? ⟨X, 2, none⟩ = some (.int .i64 hh) := HBAR.out.cell 2 rfl
      have f2 : wr.frozen? ⟨X, 2, none⟩ = false := HBAR.out.free 2
      have cp := HCP.out _ HB.out
      go_wp2_with fail
      go_still_tail 9, (by kernel_rfl)
      change wpList _ _ _ _ _ wr.drew
      go_upto_region 7 with fail
      change Code.wp _ _ _ _ (World.drew (World.setCell wr ⟨X, 2, none⟩ (.int .i64 (max hh m.price))))
      replace HPS := Lib.hid (row_drew (row_set (j := 2) (u := .int .i64 (max hh m.price)) HBAR.out (by decide) HPS.out))
      replace HQS := Lib.hid (row_drew (row_set (j := 2) (u := .int .i64 (max hh m.price)) HBAR.out (by decide) HQS.out))
      replace HRES := Lib.hid (HRES.out.apart ⟨X, 2, none⟩ (.int .i64 (max hh m.price)) (by show X ≠ w.heap.size; have := HXX.out; omega)).drew
      replace HB := Lib.hid (HB.out.setCell (p := ⟨X, 2, none⟩) (by show w.heap.size ≤ X; have := HXX.out; omega) (.int .i64 (max hh m.price))).drew
      replace HBAR := Lib.hid (bar_high HBAR.out (max hh m.price)).drew
      clear k2 f2 cp
      generalize World.drew (World.setCell wr ⟨X, 2, none⟩ (.int .i64 (max hh m.price))) = wr at HPS HQS HRES HB HBAR ⊢
      have k3 : wr.cell? ⟨X, 3, none⟩ = some (.int .i64 ll) := HBAR.out.cell 3 rfl
      have f3 : wr.frozen? ⟨X, 3, none⟩ = false := HBAR.out.free 3
      have cp := HCP.out _ HB.out
      go_still_tail 9, (by kernel_rfl)
      change wpList _ _ _ _ _ wr.drew
      go_upto_region 8 with fail
      change Code.wp _ _ _ _ (World.drew (World.setCell wr ⟨X, 3, none⟩ (.int .i64 (min ll m.price))))
      replace HPS := Lib.hid (row_drew (row_set (j := 3) (u := .int .i64 (min ll m.price)) HBAR.out (by decide) HPS.out))
      replace HQS := Lib.hid (row_drew (row_set (j := 3) (u := .int .i64 (min ll m.price)) HBAR.out (by decide) HQS.out))
      replace HRES := Lib.hid (HRES.out.apart ⟨X, 3, none⟩ (.int .i64 (min ll m.price)) (by show X ≠ w.heap.size; have := HXX.out; omega)).drew
      replace HB := Lib.hid (HB.out.setCell (p := ⟨X, 3, none⟩) (by show w.heap.size ≤ X; have := HXX.out; omega) (.int .i64 (min ll m.price))).drew
      replace HBAR := Lib.hid (bar_low HBAR.out (min ll m.price)).drew
      clear k3 f3 cp
      generalize World.drew (World.setCell wr ⟨X, 3, none⟩ (.int .i64 (min ll m.price))) = wr at HPS HQS HRES HB HBAR ⊢
      have k5 : wr.cell? ⟨X, 5, none⟩ = some (.int .i64 vv) := HBAR.out.cell 5 rfl
      have f5 : wr.frozen? ⟨X, 5, none⟩ = false := HBAR.out.free 5
      have cq := HCQ.out _ HB.out
      go_still_tail 9, (by kernel_rfl)
      change wpList _ _ _ _ _ wr.drew
      go_upto_region 9 with fail
      change Code.wp _ _ _ _ (World.drew (World.setCell wr ⟨X, 5, none⟩ (.int .i64 (vv + m.qty))))
      replace HPS := Lib.hid (row_drew (row_set (j := 5) (u := .int .i64 (vv + m.qty)) HBAR.out (by decide) HPS.out))
      replace HQS := Lib.hid (row_drew (row_set (j := 5) (u := .int .i64 (vv + m.qty)) HBAR.out (by decide) HQS.out))
      replace HRES := Lib.hid (HRES.out.apart ⟨X, 5, none⟩ (.int .i64 (vv + m.qty)) (by show X ≠ w.heap.size; have := HXX.out; omega)).drew
      replace HB := Lib.hid (HB.out.setCell (p := ⟨X, 5, none⟩) (by show w.heap.size ≤ X; have := HXX.out; omega) (.int .i64 (vv + m.qty))).drew
      replace HBAR := Lib.hid (bar_vol HBAR.out (vv + m.qty)).drew
      clear k5 f5 cq
      generalize World.drew (World.setCell wr ⟨X, 5, none⟩ (.int .i64 (vv + m.qty))) = wr at HPS HQS HRES HB HBAR ⊢
      clear HCP
      have cp := HCPB.out _ HB.out
      have HPA := Lib.hid (HPS.out.alloc (.cells #[.int .i64 m.price] 2))
      have HNW := Lib.hid (Blk.new wr #[.int .i64 m.price] 2 wr.heap.size rfl)
      go_upto_region 10 with (at_builtin; refine wpList_append_lies _ (by rfl) _ _ _ (by rfl) w.heap.size 2 j0 (.int .i64 0) 1 8 Try.underlying104 hj0 hy0 hy1 hy2 (by rfl) (by decide) _ k (prices (g.take k)) (by rfl) HPA.out ⟨wr.heap.size, 0, none⟩ 1 1 [.int .i64 m.price] (by rfl) (by rfl) (news_blk HNW.out) (by simp [Value.oneCell']) (by decide) (by unfold maxLen; have := HLN.out; omega) (by have := HLN.out; omega) (HB.out.alloc HB.out.size (.cells #[.int .i64 m.price] 2)).size (wr.heap.size + 1) (by simp) ?_; intro ga capa w5 hown5 hgrow5 hat5 hlt5)
      replace HDIS := Lib.hid (apart_next (m := k + 1) (cap := capa) HDIS.out (HQS.out.alloc (.cells #[.int .i64 m.price] 2)) hat5 (by simp))
      replace HQS := Lib.hid (row_other HDISO.out (HQS.out.alloc (.cells #[.int .i64 m.price] 2)) hgrow5)
      replace HBAR := Lib.hid (blk_grown (HBAR.out.old (.cells #[.int .i64 m.price] 2)) hgrow5 (blk_not_row (HBAR.out.old (.cells #[.int .i64 m.price] 2)) (by decide) HPA.out))
      replace HRES := Lib.hid (blk_grown (HRES.out.old (.cells #[.int .i64 m.price] 2)) hgrow5 (blk_not_row (HRES.out.old (.cells #[.int .i64 m.price] 2)) (by decide) HPA.out))
      replace HB := Lib.hid (below_push (HB.out.alloc HB.out.size (.cells #[.int .i64 m.price] 2)) HPA.out hgrow5 (HB.out.alloc HB.out.size (.cells #[.int .i64 m.price] 2)).size)
      replace HPS := Lib.hid hown5
      clear hown5 hgrow5 hat5 hlt5 HPA HNW cp HDISO
      have cq := HCQ.out _ HB.out
      have HQA := Lib.hid (HQS.out.alloc (.cells #[.int .i64 m.qty] 2))
      have HNW := Lib.hid (Blk.new w5 #[.int .i64 m.qty] 2 w5.heap.size rfl)
      go_wp2_with (at_builtin; refine wpList_append_lies _ (by rfl) _ _ _ (by rfl) w.heap.size 2 j0 (.int .i64 0) 1 8 Try.underlying104 hj0 hy0 hy1 hy2 (by rfl) (by decide) _ k (qtys (g.take k)) (by rfl) HQA.out ⟨w5.heap.size, 0, none⟩ 1 1 [.int .i64 m.qty] (by rfl) (by rfl) (news_blk HNW.out) (by simp [Value.oneCell']) (by decide) (by unfold maxLen; have := HLN.out; omega) (by have := HLN.out; omega) (HB.out.alloc HB.out.size (.cells #[.int .i64 m.qty] 2)).size (w5.heap.size + 1) (by simp) ?_; intro gb capb w6 hown6 hgrow6 hat6 hlt6)
      have HDIS6 := Lib.hid (apart_symm (apart_next (m := k + 1) (cap := capb) (apart_symm HDIS.out) (HPS.out.alloc (.cells #[.int .i64 m.qty] 2)) hat6 (by simp)))
      have HPS6 := Lib.hid (row_other (apart_symm HDIS.out) (HPS.out.alloc (.cells #[.int .i64 m.qty] 2)) hgrow6)
      have HBAR6 := Lib.hid (blk_grown (HBAR.out.old (.cells #[.int .i64 m.qty] 2)) hgrow6 (blk_not_row (HBAR.out.old (.cells #[.int .i64 m.qty] 2)) (by decide) HQA.out))
      have HRES6 := Lib.hid (blk_grown (HRES.out.old (.cells #[.int .i64 m.qty] 2)) hgrow6 (blk_not_row (HRES.out.old (.cells #[.int .i64 m.qty] 2)) (by decide) HQA.out))
      have HB6 := Lib.hid (below_push (HB.out.alloc HB.out.size (.cells #[.int .i64 m.qty] 2)) HQA.out hgrow6 (HB.out.alloc HB.out.size (.cells #[.int .i64 m.qty] 2)).size)
      have HQS6 := Lib.hid hown6
      clear hown6 hgrow6 hat6 hlt6 HQA HNW
      go_roundw
      case rel => exact ⟨k + 1, by omega, by go_num, by rw [HHI.out, HLO.out, HVO.out]; exact HBAR6.out, HRES6.out, by rw [HPR.out]; exact HPS6.out, by rw [HQT.out]; exact HQS6.out, HDIS6.out, HB6.out⟩
      case measure => simp [intOf]; omega
    · obtain rfl : k = L := by omega
      have hI := hI
      have htk : g.take k = g := List.take_of_length_le (by rw [HN.out]; exact Nat.le_refl _)
      have HBAR := Lib.hid hI.bar
      have HRES := Lib.hid hI.res
      have HPS := Lib.hid hI.ps
      have HQS := Lib.hid hI.qs
      have HB := Lib.hid hI.bel
      rw [htk] at HBAR HPS HQS
      clear hI htk
      obtain ⟨P, cp, rfl⟩ := row_some hL0 HPS.out
      obtain ⟨Q, cq, rfl⟩ := row_some hL0 HQS.out
      have HMEAN := Lib.hid (meanr_any P Q cp cq k g HN.out hL0 hLb HG.out w.heap.size wr HPS.out HQS.out)
      have HOF := Lib.hid (show ofF f g m0 ml = ⟨f, m0.price, hiF m0.price g, loF m0.price g, ml.price, volF g, k, (meanF g : Int)⟩ by unfold ofF; rw [HN.out])
      generalize hiF m0.price g = hh at HBAR HOF
      generalize loF m0.price g = ll at HBAR HOF
      generalize volF g = vv at HBAR HOF
      generalize meanF g = mm at HMEAN HOF
      have g1 : (k : Int) ≤ (k : Int) := by omega
      go_wp2_with fail
      refine HMEAN.out.mono ?_
      rintro e w1 ⟨rfl, hb1⟩
      replace HBAR := Lib.hid (HBAR.out.below hb1 HBAR.out.lt)
      replace HRES := Lib.hid (HRES.out.below hb1 HRES.out.lt)
      replace HB := Lib.hid (HB.out.trans (hb1.mono HB.out.size))
      clear hb1 HPS HQS HMEAN
      have k7 : w1.cell? ⟨X, 7, none⟩ = some (.int .i64 0) := HBAR.out.cell 7 rfl
      have f7 : w1.frozen? ⟨X, 7, none⟩ = false := HBAR.out.free 7
      go_upto_region 12 with fail
      change Code.wp _ _ _ _ (World.setCell w1 ⟨X, 7, none⟩ (.int .i64 mm))
      replace HRES := Lib.hid (HRES.out.apart ⟨X, 7, none⟩ (.int .i64 mm) (by show X ≠ w.heap.size; have := HXX.out; omega))
      replace HB := Lib.hid (HB.out.setCell (p := ⟨X, 7, none⟩) (by show w.heap.size ≤ X; have := HXX.out; omega) (.int .i64 mm))
      replace HBAR := Lib.hid (bar_mean HBAR.out mm)
      clear k7 f7
      generalize World.setCell w1 ⟨X, 7, none⟩ (.int .i64 mm) = w2 at HRES HB HBAR ⊢
      go_wp2_with (first
        | (refine load_blk (by rfl) 55 _ (by rfl) X (by rfl) _ _ HBAR.out _ Try.underlying55 rfl (by kernel_rfl) ?_)
        | (refine store_blk (by rfl) 55 _ _ (by rfl) w.heap.size (by rfl) Bar.zero.cells (Bar.cells ⟨f, m0.price, hh, ll, ml.price, vv, k, mm⟩) 55 HRES.out (by rfl) (by rfl) (by kernel_rfl) (one_bar _) ?_))
      have HR3 := Lib.hid (HRES.out.setCells (Bar.cells ⟨f, m0.price, hh, ll, ml.price, vv, k, mm⟩) rfl)
      have HB3 := Lib.hid (Blk.Below.setCells (B := w.heap.size) (Bar.cells ⟨f, m0.price, hh, ll, ml.price, vv, k, mm⟩).toList 0 _ HB.out (Nat.le_refl _))
      refine bodyPost_ret (results_cell_row rfl _ _ _ _ _ (0, 0) _ rfl HR3.out Try.underlying55 rfl (by kernel_rfl)) rfl ?_
      exact ⟨by rw [HOF.out], HB3.out⟩
end Go.Proofs.Ytogjgpiddjmpiaa.Tape
