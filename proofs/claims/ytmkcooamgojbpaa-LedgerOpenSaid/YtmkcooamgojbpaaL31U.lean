/- The document's ledger: trade, walked. -/
import Derived.Test.YtmkcooamgojbpaaL31T
namespace Go.Proofs.Ytmkcooamgojbpaa.Ledger
open Go.RowKit Go.Proofs.Ytmkcooamgojbpaa.Kit Go.Proofs.Ytmkcooamgojbpaa.Blk Go.Proofs.Ytmkcooamgojbpaa.Mp Go.Proofs.Ytmkcooamgojbpaa.Msgs Go.Proofs.Ytmkcooamgojbpaa.Own
attribute [local go_sem ↓] Go.wp_at_zero Go.wp_at_succ
set_option linter.unusedVariables false

def rowZ : Array Value := #[.int .i64 0, .int .i64 0, .int .i64 0, .int .i64 0, .int .i64 0, .int .i64 0, .bool false]
theorem infoRow : (Try.prog.info? 57).map (fun i => (i.zero, i.size, i.bytes)) = some (some (.agg rowZ), 7, 56) := by kernel_rfl
theorem row_parts : ∃ i, Try.prog.info? 57 = some i ∧ i.zero = some (.agg rowZ) ∧ i.size = 7 ∧ i.bytes = 56 := by
  have := infoRow
  cases h : Try.prog.info? 57 with
  | none => rw [h] at this; simp at this
  | some i => rw [h] at this; simp at this; exact ⟨i, rfl, this.1, this.2.1, this.2.2⟩
theorem one_row (r : DRow) : ∀ u ∈ r.cells.toList, u.oneCell' = true := fun u hu => by
  simp [DRow.cells] at hu
  rcases hu with rfl | rfl | rfl | rfl | rfl | rfl | rfl <;> rfl
theorem one_rows (l : List DRow) : ∀ u ∈ rowsD l, u.oneCell' = true := fun u hu => by
  obtain ⟨r, _, hr⟩ := List.mem_flatMap.1 hu
  exact one_row r u hr
theorem rows_len (l : List DRow) : (rowsD l).length = l.length * 7 := flat_len DRow.cells 7 cells_size l
theorem rows_snoc (l : List DRow) (r : DRow) : rowsD l ++ r.cells.toList = rowsD (l ++ [r]) := by simp
theorem owns_mono {w : World} {base base' : Nat} {e : TypeId} {size : Nat} {v : Value} {n : Nat} {xs : List Value} (h : w.ownsRow base e size v n xs) (hb : base' ≤ base) : w.ownsRow base' e size v n xs := by
  refine ⟨h.1, ?_⟩
  rcases h.2 with h | ⟨g, cap, cur, h1, h2, h3⟩
  · exact .inl h
  · exact .inr ⟨g, cap, cur, h1, Nat.le_trans hb h2, h3⟩
section
variable {N R : Nat} {l es : List DRow} {v u u' : Value} {W W' w : World}
theorem grown_below {row : Value} {n : Nat} {xs : List Value} (hg : W.grownBy W' row.ownBlock) (h : W.ownsRow N 57 7 row n xs) (hN : N ≤ W.heap.size) : Below N W W' :=
  (Below.refl N W).grown hg hN (fun k e => (h.lt k e).1)
/-- The early rows are new. -/
theorem RS.push2 {n' : Nat} {xs' : List Value} {es' : List DRow} {nb : Option (Nat × Array Value)} {w0 : World} (h : RS N w0 R l es v u) (hN : N ≤ w0.heap.size) (hg : GA w0.heap.size 57 7 w0 W (some (u', n', xs')) nb) (hn : n' = es'.length) (hx : xs' = rowsD es') :
    RS N (W.setCell ⟨R, 1, none⟩ u') R l es' v u' := by
  subst hn hx
  have hR := h.lt
  have hb := h.below hg.bel
  have hown := hg.own _ _ _ rfl
  refine ⟨hb.box.set 1 u', hR, hb.row.kept (cell_grown W R 1 u') ?_, (owns_mono hown hN).kept (cell_grown W R 1 u') ?_, fun g hv e => ?_⟩
  · cases e : v.ownBlock with
    | none => exact .inl rfl
    | some g => exact .inr (fun e' => by injection e' with e'; have := (h.row.lt g e).1; omega)
  · cases e : u'.ownBlock with
    | none => exact .inl rfl
    | some g => exact .inr (fun e' => by injection e' with e'; have := (hown.lt g e).1; have := h.box.lt; omega)
  · have h1 := (h.row.lt g hv).2
    have h2 := (hown.lt g e).1
    omega
/-- The rows are new. -/
theorem RS.push1 {n' : Nat} {xs' : List Value} {l' : List DRow} {nb : Option (Nat × Array Value)} {w0 : World} {v' : Value} (h : RS N w0 R l es v u) (hN : N ≤ w0.heap.size) (hg : GA w0.heap.size 57 7 w0 W (some (v', n', xs')) nb) (hn : n' = l'.length) (hx : xs' = rowsD l') :
    RS N (W.setCell ⟨R, 0, none⟩ v') R l' es v' u := by
  subst hn hx
  have hR := h.lt
  have hb := h.below hg.bel
  have hown := hg.own _ _ _ rfl
  refine ⟨hb.box.set 0 v', hR, (owns_mono hown hN).kept (cell_grown W R 0 v') ?_, hb.ear.kept (cell_grown W R 0 v') ?_, fun g hv e => ?_⟩
  · cases e : v'.ownBlock with
    | none => exact .inl rfl
    | some g => exact .inr (fun e' => by injection e' with e'; have := (hown.lt g e).1; have := h.box.lt; omega)
  · cases e : u.ownBlock with
    | none => exact .inl rfl
    | some g => exact .inr (fun e' => by injection e' with e'; have := (h.ear.lt g e).1; omega)
  · have h1 := (h.ear.lt g e).2
    have h2 := (hown.lt g hv).1
    omega
theorem chg_push {n' : Nat} {xs' : List Value} {nb : Option (Nat × Array Value)} {w0 : World} {x : Value} (hc : Below N w w0) (hN : N ≤ w0.heap.size) (hg : GA w0.heap.size 57 7 w0 W (some (u', n', xs')) nb) (j : Nat) (hR : R < N) : Chg N R w (W.setCell ⟨R, j, none⟩ x) := by
  have hb := hc.trans (hg.bel.mono hN)
  exact ⟨hb.os, hb.tape, hb.output, by simpa [World.setCell] using hb.size, fun k hk hd => (Below.heap_setCell _ _ _ k (fun e => hd e)).trans (hb.block k hk)⟩
end
set_option maxRecDepth 20000 in
set_option maxHeartbeats 4000000 in
theorem rtrade_any (N R : Nat) (l es : List DRow) (v u : Value) (m : Msg) (w : World) (h : RS N w R l es v u) (hN : N ≤ w.heap.size) (hq : 0 ≤ m.qty ∧ m.qty ≤ 4294967296) (hl : FineL 562949953421312 l) (hes : es.length ≤ 1000) :
    Calls Try.prog 19 #[.pointer (some ⟨R, 0, none⟩), .agg m.cells] w (RPutIs N R (tradeD l es m) w) := by
  have HMB := Lib.hid (Blk.new w m.cells 33 w.heap.size rfl)
  have HS0 := Lib.hid (h.below ((Below.refl w.heap.size w).alloc (Nat.le_refl _) (.cells m.cells 33)))
  have HB0 := Lib.hid ((Below.refl w.heap.size w).alloc (Nat.le_refl _) (.cells m.cells 33))
  have HVB := Lib.hid (show v.ownBlock ≠ some w.heap.size from fun e => by have := (h.row.lt _ e).2; omega)
  have HFL := Lib.hid (show FineL 1125899906842624 l from fun r hr => (hl r hr).mono (by omega))
  have HRE := Lib.hid (fun W (hW : RS N W R l es v u) => rests_any N R l es v u m.sym m.id m.qty W hW)
  have HD := Lib.hid (show tradeD l es m = _ from rfl)
  have HNN := Lib.hid hN
  have HHL := Lib.hid hl
  have HHQ := Lib.hid hq
  have hBR : R < w.heap.size := h.box.lt
  clear h hq hl
  unfold Msg.cells at *
  have c1 : (w.alloc (.cells #[.int .i64 m.kind, .int .i64 m.sym, .int .i64 m.seq, .int .i64 m.tick, .int .i64 m.id, .int .i64 m.wth, .int .i64 m.price, .int .i64 m.qty, .int .i64 m.code] 33)).cell? ⟨w.heap.size, 1, none⟩ = some (.int .i64 m.sym) := HMB.out.cell 1 rfl
  have c4 : (w.alloc (.cells #[.int .i64 m.kind, .int .i64 m.sym, .int .i64 m.seq, .int .i64 m.tick, .int .i64 m.id, .int .i64 m.wth, .int .i64 m.price, .int .i64 m.qty, .int .i64 m.code] 33)).cell? ⟨w.heap.size, 4, none⟩ = some (.int .i64 m.id) := HMB.out.cell 4 rfl
  have c5 : (w.alloc (.cells #[.int .i64 m.kind, .int .i64 m.sym, .int .i64 m.seq, .int .i64 m.tick, .int .i64 m.id, .int .i64 m.wth, .int .i64 m.price, .int .i64 m.qty, .int .i64 m.code] 33)).cell? ⟨w.heap.size, 5, none⟩ = some (.int .i64 m.wth) := HMB.out.cell 5 rfl
  have c7 : (w.alloc (.cells #[.int .i64 m.kind, .int .i64 m.sym, .int .i64 m.seq, .int .i64 m.tick, .int .i64 m.id, .int .i64 m.wth, .int .i64 m.price, .int .i64 m.qty, .int .i64 m.code] 33)).cell? ⟨w.heap.size, 7, none⟩ = some (.int .i64 m.qty) := HMB.out.cell 7 rfl
  have c8 : (w.alloc (.cells #[.int .i64 m.kind, .int .i64 m.sym, .int .i64 m.seq, .int .i64 m.tick, .int .i64 m.id, .int .i64 m.wth, .int .i64 m.price, .int .i64 m.qty, .int .i64 m.code] 33)).cell? ⟨w.heap.size, 8, none⟩ = some (.int .i64 m.code) := HMB.out.cell 8 rfl
  go_enter Try.func19, Try.ntmps19
  go_wp2_with fail
  generalize w.alloc (.cells #[.int .i64 m.kind, .int .i64 m.sym, .int .i64 m.seq, .int .i64 m.tick, .int .i64 m.id, .int .i64 m.wth, .int .i64 m.price, .int .i64 m.qty, .int .i64 m.code] 33) = W0 at HMB HS0 HB0 c1 c4 c5 c7 c8 ⊢
  refine (HRE.out _ HS0.out).mono ?_
  rintro e w1 ⟨rfl, rfl⟩
  cases hr : restsD (m.sym, m.id) l m.qty with
  | false =>
    have HT := Lib.hid (show tradeD l es m = (l, es) by unfold tradeD keyM; rw [hr]; rfl)
    clear hr
    go_wp2_with fail
    go_ret
    exact ⟨⟨_, rfl⟩, ⟨_, _, by rw [HT.out]; exact HS0.out⟩, Chg.of (HB0.out.mono HNN.out)⟩
  | true =>
    obtain ⟨a1, ha1, hqa⟩ := rests_some hr
    have HF1 := Lib.hid (fill_k N R l es v u (m.sym, m.id) m.qty W0 HS0.out (by rw [ha1]; rfl) HHQ.out HFL.out)
    clear ha1 hqa
    by_cases hc : m.code = 1
    · have HT := Lib.hid (show tradeD l es m = (fillD (keyM m) m.qty l, es ++ [earlyR m]) by unfold tradeD; rw [if_pos (show restsD (keyM m) l m.qty = true from hr), if_pos hc])
      have b1 : (m.code == 1) = true := by simpa using hc
      clear hr hc
      go_wp2_with fail
      refine HF1.out.mono ?_
      rintro e w2 ⟨rfl, hs2, hg2⟩
      have HS2 := Lib.hid hs2
      have HM2 := Lib.hid (show Blk w2 w.heap.size _ 33 from (hg2.block _ HMB.out.lt (fun e => HVB.out e.symm)).trans HMB.out)
      have HBE2 := Lib.hid (show Below N w w2 from (HB0.out.mono HNN.out).trans (grown_below hg2 HS0.out.row (Nat.le_trans HNN.out HB0.out.size)))
      clear hs2 hg2 c1 c4 c5 c7 c8
      go_upto_region 5 with fail
      obtain ⟨i0, hi0, hz0, hz1, hz2⟩ := row_parts
      obtain ⟨ua, uc, rfl, hu1, hu2, -⟩ := owned_at DRow.cells 7 cells_size HS2.out.ear
      unfold maxLen at hu2
      refine wp_region_held_drew (S := (fun w' => w'.cell? ⟨w.heap.size, 1, none⟩ = some (.int .i64 m.sym) ∧ w'.cell? ⟨w.heap.size, 5, none⟩ = some (.int .i64 m.wth) ∧ w'.cell? ⟨w.heap.size, 7, none⟩ = some (.int .i64 m.qty))) (by kernel_rfl) ⟨HM2.out.cell 1 rfl, HM2.out.cell 5 rfl, HM2.out.cell 7 rfl⟩ (fun hHeld => ?_)
      have HRS := Lib.hid HS2.out.drew
      have HBE := Lib.hid HBE2.out.drew
      have HMW := Lib.hid HM2.out.drew.lt
      generalize w2.drew = w3 at HRS HBE HMW hHeld ⊢
      obtain ⟨n0, hn0⟩ : ∃ n, n = w3.heap.size := ⟨_, rfl⟩
      have HN0 := Lib.hid hn0
      have HN3 := Lib.hid (show N ≤ w3.heap.size from Nat.le_trans HNN.out HBE.out.size)
      have HLD := Lib.hid (show ∀ W, Below n0 w3 W → W.cell? ⟨R, 1, none⟩ = some (.slice ua es.length uc) from fun W hb => (HRS.out.below (hn0 ▸ hb)).box.cell 1 rfl)
      have HFZ := Lib.hid (show ∀ W, Below n0 w3 W → W.frozen? ⟨R, 1, none⟩ = false from fun W hb => (HRS.out.below (hn0 ▸ hb)).box.free 1)
      have HSS := Lib.hid (show ∀ W, Below n0 w3 W → W.cell? ⟨w.heap.size, 1, none⟩ = some (.int .i64 m.sym) ∧ W.cell? ⟨w.heap.size, 5, none⟩ = some (.int .i64 m.wth) ∧ W.cell? ⟨w.heap.size, 7, none⟩ = some (.int .i64 m.qty) from fun W hb => by
        have hlt : w.heap.size < n0 := by rw [hn0]; exact HMW.out
        rw [hb.cell (p := ⟨w.heap.size, _, none⟩) hlt, hb.cell (p := ⟨w.heap.size, _, none⟩) hlt, hb.cell (p := ⟨w.heap.size, _, none⟩) hlt]; exact hHeld)
      have HST := Lib.hid (show ∀ (W : World) (x : Value), (W.cell? ⟨w.heap.size, 1, none⟩ = some (.int .i64 m.sym) ∧ W.cell? ⟨w.heap.size, 5, none⟩ = some (.int .i64 m.wth) ∧ W.cell? ⟨w.heap.size, 7, none⟩ = some (.int .i64 m.qty)) → (W.setCell ⟨R, 1, none⟩ x).cell? ⟨w.heap.size, 1, none⟩ = some (.int .i64 m.sym) ∧ (W.setCell ⟨R, 1, none⟩ x).cell? ⟨w.heap.size, 5, none⟩ = some (.int .i64 m.wth) ∧ (W.setCell ⟨R, 1, none⟩ x).cell? ⟨w.heap.size, 7, none⟩ = some (.int .i64 m.qty) from fun W x hh => by
        rw [World.cell?_setCell_far _ _ _ _ (by show R ≠ w.heap.size; omega), World.cell?_setCell_far _ _ _ _ (by show R ≠ w.heap.size; omega), World.cell?_setCell_far _ _ _ _ (by show R ≠ w.heap.size; omega)]; exact hh)
      have HTL := Lib.hid (rows_len es)
      have HT1 := Lib.hid (one_rows es)
      have HTS := Lib.hid (show ∀ W, 0 < es.length → Below n0 w3 W → ∃ ad : Addr, ua = some ad ∧ ∀ j x, (rowsD es)[j]? = some x → W.cell? (ad.add j) = some x from fun W hp hb => by
        obtain ⟨g, c, hv, -, -⟩ := World.ownsRow.form HRS.out.ear hp
        injection hv with hv
        subst hv
        exact ⟨_, rfl, (HRS.out.below (hn0 ▸ hb)).ear.cells rfl⟩)
      have H := Lib.hid (show GA n0 57 7 w3 w3 none none from GA.start (Below.refl _ _) (by rw [hn0]; exact Nat.le_refl _))
      have HSE := Lib.hid hHeld
      clear hn0 HS2 HM2 HBE2 hu1 hu2
      refine wpAnyH_take (i := 0) (oi := ⟨some 25, _, _, _, _, _⟩) (v := ?_) rfl (by kernel_rfl) (by kernel_rfl) (by kernel_rfl) (fun _ _ _ h => h) (Or.inl ⟨by rfl, ?_⟩) (by assumption) ?_
      rotate_left
      · (intro w hSw; (try dsimp only at hSw); go_simp; (try with_reducible rfl))
      simp only [Act.put, List.setIfInBounds_toArray, List.set_cons_zero, List.set_cons_succ]
      refine wpAnyH_take (i := 2) (oi := ⟨some 27, _, _, _, _, _⟩) (v := ?_) rfl (by kernel_rfl) (by kernel_rfl) (by kernel_rfl) (fun _ _ _ h => h) (Or.inl ⟨by rfl, ?_⟩) (by assumption) ?_
      rotate_left
      · (intro w hSw; (try dsimp only at hSw); go_simp; (try with_reducible rfl))
      simp only [Act.put, List.setIfInBounds_toArray, List.set_cons_zero, List.set_cons_succ]
      refine wpAnyH_take (i := 3) (oi := ⟨some 28, _, _, _, _, _⟩) (v := ?_) rfl (by kernel_rfl) (by kernel_rfl) (by kernel_rfl) (fun _ _ _ h => h) (Or.inl ⟨by rfl, ?_⟩) (by assumption) ?_
      rotate_left
      · (intro w hSw; (try dsimp only at hSw); go_simp; (try with_reducible rfl))
      simp only [Act.put, List.setIfInBounds_toArray, List.set_cons_zero, List.set_cons_succ]
      refine wpAnyH_take (i := 4) (oi := ⟨some 29, _, _, _, _, _⟩) (v := ?_) rfl (by kernel_rfl) (by kernel_rfl) (by kernel_rfl) (fun _ _ _ h => h) (Or.inl ⟨by rfl, ?_⟩) (by assumption) ?_
      rotate_left
      · (intro w hSw; (try dsimp only at hSw); go_simp; (try with_reducible rfl))
      simp only [Act.put, List.setIfInBounds_toArray, List.set_cons_zero, List.set_cons_succ]
      refine wpAnyH_take (i := 7) (oi := ⟨some 32, _, _, _, _, _⟩) (v := ?_) rfl (by kernel_rfl) (by kernel_rfl) (by kernel_rfl) (fun _ _ _ h => h) (Or.inl ⟨by rfl, ?_⟩) (by assumption) ?_
      rotate_left
      · (intro w hSw; (try dsimp only at hSw); go_simp; (try with_reducible rfl))
      simp only [Act.put, List.setIfInBounds_toArray, List.set_cons_zero, List.set_cons_succ]
      refine wpAnyH_take (i := 8) (oi := ⟨some 33, _, _, _, _, _⟩) (v := ?_) rfl (by kernel_rfl) (by kernel_rfl) (by kernel_rfl) (fun _ _ _ h => h) (Or.inl ⟨by rfl, ?_⟩) (by assumption) ?_
      rotate_left
      · (intro w hSw; (try dsimp only at hSw); go_simp; (try with_reducible rfl))
      simp only [Act.put, List.setIfInBounds_toArray, List.set_cons_zero, List.set_cons_succ]
      refine wpAnyH_take (i := 9) (oi := ⟨some 34, _, _, _, _, _⟩) (v := ?_) rfl (by kernel_rfl) (by kernel_rfl) (by kernel_rfl) (fun _ _ _ h => h) (Or.inl ⟨by rfl, ?_⟩) (by assumption) ?_
      rotate_left
      · (intro w hSw; (try dsimp only at hSw); go_simp; (try with_reducible rfl))
      simp only [Act.put, List.setIfInBounds_toArray, List.set_cons_zero, List.set_cons_succ]
      refine wpAnyH_take (i := 10) (oi := ⟨some 35, _, _, _, _, _⟩) (v := ?_) rfl (by kernel_rfl) (by kernel_rfl) (by kernel_rfl) (fun _ _ _ h => h) (Or.inl ⟨by rfl, ?_⟩) (by assumption) ?_
      rotate_left
      · (intro w hSw; (try dsimp only at hSw); go_simp; (try with_reducible rfl))
      simp only [Act.put, List.setIfInBounds_toArray, List.set_cons_zero, List.set_cons_succ]
      refine wpAnyH_take (i := 11) (oi := ⟨some 36, _, _, _, _, _⟩) (v := ?_) rfl (by kernel_rfl) (by kernel_rfl) (by kernel_rfl) (fun _ _ _ h => h) (Or.inl ⟨by rfl, ?_⟩) (by assumption) ?_
      rotate_left
      · (intro w hSw; (try dsimp only at hSw); go_simp; (try with_reducible rfl))
      simp only [Act.put, List.setIfInBounds_toArray, List.set_cons_zero, List.set_cons_succ]
      refine wpAnyH_take (i := 12) (oi := ⟨some 37, _, _, _, _, _⟩) (v := ?_) rfl (by kernel_rfl) (by kernel_rfl) (by kernel_rfl) (fun _ _ _ h => h) (Or.inl ⟨by rfl, ?_⟩) (by assumption) ?_
      rotate_left
      · (intro w hSw; (try dsimp only at hSw); go_simp; (try with_reducible rfl))
      simp only [Act.put, List.setIfInBounds_toArray, List.set_cons_zero, List.set_cons_succ]
      refine wpAnyH_take (i := 13) (oi := ⟨some 38, _, _, _, _, _⟩) (v := ?_) rfl (by kernel_rfl) (by kernel_rfl) (by kernel_rfl) (fun _ _ _ h => h) (Or.inl ⟨by rfl, ?_⟩) (by assumption) ?_
      rotate_left
      · (intro w hSw; (try dsimp only at hSw); go_simp; (try with_reducible rfl))
      simp only [Act.put, List.setIfInBounds_toArray, List.set_cons_zero, List.set_cons_succ]
      refine wpAnyH_take (i := 14) (oi := ⟨some 39, _, _, _, _, _⟩) (v := ?_) rfl (by kernel_rfl) (by kernel_rfl) (by kernel_rfl) (fun _ _ _ h => h) (Or.inl ⟨by rfl, ?_⟩) (by assumption) ?_
      rotate_left
      · (intro w hSw; (try dsimp only at hSw); go_simp; (try with_reducible rfl))
      simp only [Act.put, List.setIfInBounds_toArray, List.set_cons_zero, List.set_cons_succ]
      refine wpAnyH_ready (rs := [1, 5, 15]) (by kernel_rfl) (by simp) ?_
      refine AllReadyH.cons (o := ⟨some 26, _, _, _, _, _⟩) rfl (fun KK hK => ?_) (AllReadyH.cons (o := ⟨some 30, _, _, _, _, _⟩) rfl (fun KK hK => ?_) (AllReadyH.cons (o := ⟨some 40, _, _, _, _, _⟩) rfl (fun KK hK => ?_) (AllReadyH.nil)))
      · go_simp
        change KK _ (w3.alloc (.cells #[] 57))
        replace H := Lib.hid H.out.empty
        generalize w3.alloc (.cells #[] 57) = WX1 at H ⊢
        generalize w3.heap.size = e1 at H ⊢
        replace HSE := Lib.hid (HSS.out _ H.out.bel)
        refine hK.out _ _ HSE.out (fun hHeld => ?_)
        clear hK; try clear KK
        try simp only [Act.put, List.setIfInBounds_toArray, List.set_cons_zero, List.set_cons_succ]
        refine wpAnyH_ready (rs := [5, 15]) (by kernel_rfl) (by simp) ?_
        refine AllReadyH.cons (o := ⟨some 30, _, _, _, _, _⟩) rfl (fun KK hK => ?_) (AllReadyH.cons (o := ⟨some 40, _, _, _, _, _⟩) rfl (fun KK hK => ?_) (AllReadyH.nil))
        · have cL := HLD.out _ H.out.bel
          go_simp
          clear cL
          refine hK.out _ _ HSE.out (fun hHeld => ?_)
          clear hK; try clear KK
          try simp only [Act.put, List.setIfInBounds_toArray, List.set_cons_zero, List.set_cons_succ]
          refine wpAnyH_ready (rs := [6, 15]) (by kernel_rfl) (by simp) ?_
          refine AllReadyH.cons (o := ⟨some 31, _, _, _, _, _⟩) rfl (fun KK hK => ?_) (AllReadyH.cons (o := ⟨some 40, _, _, _, _, _⟩) rfl (fun KK hK => ?_) (AllReadyH.nil))
          · refine GA.src H.out (by rfl) _ _ _ (by rfl) i0 (.agg rowZ) 56 Try.underlying27 hi0 hz0 hz1 hz2 (by rfl) (by decide) (by rfl) _ _ _ _ (by rfl) HTL.out (fun hm => HTS.out _ hm H.out.bel) HT1.out (by unfold maxLen; omega) (by omega) ?_
            intro g1 cap1 WX2 H'
            rw [Nat.zero_add, List.nil_append] at H'
            rw [Nat.zero_add]
            replace H := Lib.hid H'
            clear H'
            replace HSE := Lib.hid (HSS.out _ H.out.bel)
            refine hK.out _ _ HSE.out (fun hHeld => ?_)
            clear hK; try clear KK
            try simp only [Act.put, List.setIfInBounds_toArray, List.set_cons_zero, List.set_cons_succ]
            refine wpAnyH_ready (rs := [15]) (by kernel_rfl) (by simp) ?_
            refine AllReadyH.cons (o := ⟨some 40, _, _, _, _, _⟩) rfl (fun KK hK => ?_) AllReadyH.nil
            go_simp
            change KK _ (WX2.alloc (.cells (DRow.cells (earlyR m)) 57))
            replace H := Lib.hid (H.out.new (DRow.cells (earlyR m)))
            generalize WX2.alloc (.cells (DRow.cells (earlyR m)) 57) = WX3 at H ⊢
            generalize WX2.heap.size = nb1 at H ⊢
            replace HSE := Lib.hid (HSS.out _ H.out.bel)
            refine hK.out _ _ HSE.out (fun hHeld => ?_)
            clear hK; try clear KK
            try simp only [Act.put, List.setIfInBounds_toArray, List.set_cons_zero, List.set_cons_succ]
            refine wpAnyH_ready (rs := [16]) (by kernel_rfl) (by simp) ?_
            refine AllReadyH.cons (o := ⟨some 41, _, _, _, _, _⟩) rfl (fun KK hK => ?_) AllReadyH.nil
            refine GA.app H.out (by rfl) _ _ _ (by rfl) i0 (.agg rowZ) 56 Try.underlying27 hi0 hz0 hz1 hz2 (by rfl) (by decide) (by rfl) (by rfl) (cells_size _) (one_row _) (by unfold maxLen; omega) (by omega) ?_
            intro g2 cap2 WX4 H'
            replace H := Lib.hid H'
            clear H'
            replace HSE := Lib.hid (HSS.out _ H.out.bel)
            refine hK.out _ _ HSE.out (fun hHeld => ?_)
            clear hK; try clear KK
            try simp only [Act.put, List.setIfInBounds_toArray, List.set_cons_zero, List.set_cons_succ]
            refine wpAnyH_take (i := 17) (oi := ⟨some 42, _, _, _, _, _⟩) (v := ?_) rfl (by kernel_rfl) (by kernel_rfl) (by kernel_rfl) (fun _ _ _ h => h) (Or.inl ⟨by rfl, ?_⟩) (by assumption) ?_
            rotate_left
            · (intro w hSw; (try dsimp only at hSw); go_simp; (try with_reducible rfl))
            simp only [Act.put, List.setIfInBounds_toArray, List.set_cons_zero, List.set_cons_succ]
            refine wpAnyH_take (i := 18) (oi := ⟨some 43, _, _, _, _, _⟩) (v := ?_) rfl (by kernel_rfl) (by kernel_rfl) (by kernel_rfl) (fun _ _ _ h => h) (Or.inl ⟨by rfl, ?_⟩) (by assumption) ?_
            rotate_left
            · (intro w hSw; (try dsimp only at hSw); go_simp; (try with_reducible rfl))
            simp only [Act.put, List.setIfInBounds_toArray, List.set_cons_zero, List.set_cons_succ]
            refine wpAnyH_ready (rs := [19]) (by kernel_rfl) (by simp) ?_
            refine AllReadyH.cons (o := ⟨none, _, _, _, _, _⟩) rfl (fun KK hK => ?_) AllReadyH.nil
            have cL := HLD.out _ H.out.bel
            have fL := HFZ.out _ H.out.bel
            go_simp
            clear cL fL
            have HFIN := Lib.hid (HRS.out.push2 (es' := es ++ [(earlyR m)]) HN3.out (HN0.out ▸ H.out) (by simp) (rows_snoc es (earlyR m)))
            have HCH := Lib.hid (chg_push (x := .slice (some ⟨g2, 0, none⟩) (es.length + 1) cap2) HBE.out HN3.out (HN0.out ▸ H.out) 1 HRS.out.lt)
            change KK _ (WX4.setCell ⟨R, 1, none⟩ (.slice (some ⟨g2, 0, none⟩) (es.length + 1) cap2))
            replace HSE := Lib.hid (HST.out _ (.slice (some ⟨g2, 0, none⟩) (es.length + 1) cap2) (HSS.out _ H.out.bel))
            generalize WX4.setCell ⟨R, 1, none⟩ (.slice (some ⟨g2, 0, none⟩) (es.length + 1) cap2) = WX5 at HFIN HCH HSE ⊢
            refine hK.out _ _ HSE.out (fun hHeld => ?_)
            clear hK; try clear KK
            refine wpAnyH_done (by kernel_rfl) ?_ _
            go_wp2_with fail
            go_ret
            exact ⟨⟨_, rfl⟩, ⟨_, _, by rw [HT.out]; exact HFIN.out⟩, HCH.out⟩
          · go_simp
            change KK _ (WX1.alloc (.cells (DRow.cells (earlyR m)) 57))
            replace H := Lib.hid (H.out.new (DRow.cells (earlyR m)))
            generalize WX1.alloc (.cells (DRow.cells (earlyR m)) 57) = WX6 at H ⊢
            generalize WX1.heap.size = nb1 at H ⊢
            replace HSE := Lib.hid (HSS.out _ H.out.bel)
            refine hK.out _ _ HSE.out (fun hHeld => ?_)
            clear hK; try clear KK
            try simp only [Act.put, List.setIfInBounds_toArray, List.set_cons_zero, List.set_cons_succ]
            refine wpAnyH_ready (rs := [6]) (by kernel_rfl) (by simp) ?_
            refine AllReadyH.cons (o := ⟨some 31, _, _, _, _, _⟩) rfl (fun KK hK => ?_) AllReadyH.nil
            refine GA.src H.out (by rfl) _ _ _ (by rfl) i0 (.agg rowZ) 56 Try.underlying27 hi0 hz0 hz1 hz2 (by rfl) (by decide) (by rfl) _ _ _ _ (by rfl) HTL.out (fun hm => HTS.out _ hm H.out.bel) HT1.out (by unfold maxLen; omega) (by omega) ?_
            intro g1 cap1 WX7 H'
            rw [Nat.zero_add, List.nil_append] at H'
            rw [Nat.zero_add]
            replace H := Lib.hid H'
            clear H'
            replace HSE := Lib.hid (HSS.out _ H.out.bel)
            refine hK.out _ _ HSE.out (fun hHeld => ?_)
            clear hK; try clear KK
            try simp only [Act.put, List.setIfInBounds_toArray, List.set_cons_zero, List.set_cons_succ]
            refine wpAnyH_ready (rs := [16]) (by kernel_rfl) (by simp) ?_
            refine AllReadyH.cons (o := ⟨some 41, _, _, _, _, _⟩) rfl (fun KK hK => ?_) AllReadyH.nil
            refine GA.app H.out (by rfl) _ _ _ (by rfl) i0 (.agg rowZ) 56 Try.underlying27 hi0 hz0 hz1 hz2 (by rfl) (by decide) (by rfl) (by rfl) (cells_size _) (one_row _) (by unfold maxLen; omega) (by omega) ?_
            intro g2 cap2 WX8 H'
            replace H := Lib.hid H'
            clear H'
            replace HSE := Lib.hid (HSS.out _ H.out.bel)
            refine hK.out _ _ HSE.out (fun hHeld => ?_)
            clear hK; try clear KK
            try simp only [Act.put, List.setIfInBounds_toArray, List.set_cons_zero, List.set_cons_succ]
            refine wpAnyH_take (i := 17) (oi := ⟨some 42, _, _, _, _, _⟩) (v := ?_) rfl (by kernel_rfl) (by kernel_rfl) (by kernel_rfl) (fun _ _ _ h => h) (Or.inl ⟨by rfl, ?_⟩) (by assumption) ?_
            rotate_left
            · (intro w hSw; (try dsimp only at hSw); go_simp; (try with_reducible rfl))
            simp only [Act.put, List.setIfInBounds_toArray, List.set_cons_zero, List.set_cons_succ]
            refine wpAnyH_take (i := 18) (oi := ⟨some 43, _, _, _, _, _⟩) (v := ?_) rfl (by kernel_rfl) (by kernel_rfl) (by kernel_rfl) (fun _ _ _ h => h) (Or.inl ⟨by rfl, ?_⟩) (by assumption) ?_
            rotate_left
            · (intro w hSw; (try dsimp only at hSw); go_simp; (try with_reducible rfl))
            simp only [Act.put, List.setIfInBounds_toArray, List.set_cons_zero, List.set_cons_succ]
            refine wpAnyH_ready (rs := [19]) (by kernel_rfl) (by simp) ?_
            refine AllReadyH.cons (o := ⟨none, _, _, _, _, _⟩) rfl (fun KK hK => ?_) AllReadyH.nil
            have cL := HLD.out _ H.out.bel
            have fL := HFZ.out _ H.out.bel
            go_simp
            clear cL fL
            have HFIN := Lib.hid (HRS.out.push2 (es' := es ++ [(earlyR m)]) HN3.out (HN0.out ▸ H.out) (by simp) (rows_snoc es (earlyR m)))
            have HCH := Lib.hid (chg_push (x := .slice (some ⟨g2, 0, none⟩) (es.length + 1) cap2) HBE.out HN3.out (HN0.out ▸ H.out) 1 HRS.out.lt)
            change KK _ (WX8.setCell ⟨R, 1, none⟩ (.slice (some ⟨g2, 0, none⟩) (es.length + 1) cap2))
            replace HSE := Lib.hid (HST.out _ (.slice (some ⟨g2, 0, none⟩) (es.length + 1) cap2) (HSS.out _ H.out.bel))
            generalize WX8.setCell ⟨R, 1, none⟩ (.slice (some ⟨g2, 0, none⟩) (es.length + 1) cap2) = WX9 at HFIN HCH HSE ⊢
            refine hK.out _ _ HSE.out (fun hHeld => ?_)
            clear hK; try clear KK
            refine wpAnyH_done (by kernel_rfl) ?_ _
            go_wp2_with fail
            go_ret
            exact ⟨⟨_, rfl⟩, ⟨_, _, by rw [HT.out]; exact HFIN.out⟩, HCH.out⟩
        · go_simp
          change KK _ (WX1.alloc (.cells (DRow.cells (earlyR m)) 57))
          replace H := Lib.hid (H.out.new (DRow.cells (earlyR m)))
          generalize WX1.alloc (.cells (DRow.cells (earlyR m)) 57) = WX10 at H ⊢
          generalize WX1.heap.size = nb1 at H ⊢
          replace HSE := Lib.hid (HSS.out _ H.out.bel)
          refine hK.out _ _ HSE.out (fun hHeld => ?_)
          clear hK; try clear KK
          try simp only [Act.put, List.setIfInBounds_toArray, List.set_cons_zero, List.set_cons_succ]
          refine wpAnyH_ready (rs := [5]) (by kernel_rfl) (by simp) ?_
          refine AllReadyH.cons (o := ⟨some 30, _, _, _, _, _⟩) rfl (fun KK hK => ?_) AllReadyH.nil
          have cL := HLD.out _ H.out.bel
          go_simp
          clear cL
          refine hK.out _ _ HSE.out (fun hHeld => ?_)
          clear hK; try clear KK
          try simp only [Act.put, List.setIfInBounds_toArray, List.set_cons_zero, List.set_cons_succ]
          refine wpAnyH_ready (rs := [6]) (by kernel_rfl) (by simp) ?_
          refine AllReadyH.cons (o := ⟨some 31, _, _, _, _, _⟩) rfl (fun KK hK => ?_) AllReadyH.nil
          refine GA.src H.out (by rfl) _ _ _ (by rfl) i0 (.agg rowZ) 56 Try.underlying27 hi0 hz0 hz1 hz2 (by rfl) (by decide) (by rfl) _ _ _ _ (by rfl) HTL.out (fun hm => HTS.out _ hm H.out.bel) HT1.out (by unfold maxLen; omega) (by omega) ?_
          intro g1 cap1 WX11 H'
          rw [Nat.zero_add, List.nil_append] at H'
          rw [Nat.zero_add]
          replace H := Lib.hid H'
          clear H'
          replace HSE := Lib.hid (HSS.out _ H.out.bel)
          refine hK.out _ _ HSE.out (fun hHeld => ?_)
          clear hK; try clear KK
          try simp only [Act.put, List.setIfInBounds_toArray, List.set_cons_zero, List.set_cons_succ]
          refine wpAnyH_ready (rs := [16]) (by kernel_rfl) (by simp) ?_
          refine AllReadyH.cons (o := ⟨some 41, _, _, _, _, _⟩) rfl (fun KK hK => ?_) AllReadyH.nil
          refine GA.app H.out (by rfl) _ _ _ (by rfl) i0 (.agg rowZ) 56 Try.underlying27 hi0 hz0 hz1 hz2 (by rfl) (by decide) (by rfl) (by rfl) (cells_size _) (one_row _) (by unfold maxLen; omega) (by omega) ?_
          intro g2 cap2 WX12 H'
          replace H := Lib.hid H'
          clear H'
          replace HSE := Lib.hid (HSS.out _ H.out.bel)
          refine hK.out _ _ HSE.out (fun hHeld => ?_)
          clear hK; try clear KK
          try simp only [Act.put, List.setIfInBounds_toArray, List.set_cons_zero, List.set_cons_succ]
          refine wpAnyH_take (i := 17) (oi := ⟨some 42, _, _, _, _, _⟩) (v := ?_) rfl (by kernel_rfl) (by kernel_rfl) (by kernel_rfl) (fun _ _ _ h => h) (Or.inl ⟨by rfl, ?_⟩) (by assumption) ?_
          rotate_left
          · (intro w hSw; (try dsimp only at hSw); go_simp; (try with_reducible rfl))
          simp only [Act.put, List.setIfInBounds_toArray, List.set_cons_zero, List.set_cons_succ]
          refine wpAnyH_take (i := 18) (oi := ⟨some 43, _, _, _, _, _⟩) (v := ?_) rfl (by kernel_rfl) (by kernel_rfl) (by kernel_rfl) (fun _ _ _ h => h) (Or.inl ⟨by rfl, ?_⟩) (by assumption) ?_
          rotate_left
          · (intro w hSw; (try dsimp only at hSw); go_simp; (try with_reducible rfl))
          simp only [Act.put, List.setIfInBounds_toArray, List.set_cons_zero, List.set_cons_succ]
          refine wpAnyH_ready (rs := [19]) (by kernel_rfl) (by simp) ?_
          refine AllReadyH.cons (o := ⟨none, _, _, _, _, _⟩) rfl (fun KK hK => ?_) AllReadyH.nil
          have cL := HLD.out _ H.out.bel
          have fL := HFZ.out _ H.out.bel
          go_simp
          clear cL fL
          have HFIN := Lib.hid (HRS.out.push2 (es' := es ++ [(earlyR m)]) HN3.out (HN0.out ▸ H.out) (by simp) (rows_snoc es (earlyR m)))
          have HCH := Lib.hid (chg_push (x := .slice (some ⟨g2, 0, none⟩) (es.length + 1) cap2) HBE.out HN3.out (HN0.out ▸ H.out) 1 HRS.out.lt)
          change KK _ (WX12.setCell ⟨R, 1, none⟩ (.slice (some ⟨g2, 0, none⟩) (es.length + 1) cap2))
          replace HSE := Lib.hid (HST.out _ (.slice (some ⟨g2, 0, none⟩) (es.length + 1) cap2) (HSS.out _ H.out.bel))
          generalize WX12.setCell ⟨R, 1, none⟩ (.slice (some ⟨g2, 0, none⟩) (es.length + 1) cap2) = WX13 at HFIN HCH HSE ⊢
          refine hK.out _ _ HSE.out (fun hHeld => ?_)
          clear hK; try clear KK
          refine wpAnyH_done (by kernel_rfl) ?_ _
          go_wp2_with fail
          go_ret
          exact ⟨⟨_, rfl⟩, ⟨_, _, by rw [HT.out]; exact HFIN.out⟩, HCH.out⟩
      · have cL := HLD.out _ H.out.bel
        go_simp
        clear cL
        refine hK.out _ _ HSE.out (fun hHeld => ?_)
        clear hK; try clear KK
        try simp only [Act.put, List.setIfInBounds_toArray, List.set_cons_zero, List.set_cons_succ]
        refine wpAnyH_ready (rs := [1, 15]) (by kernel_rfl) (by simp) ?_
        refine AllReadyH.cons (o := ⟨some 26, _, _, _, _, _⟩) rfl (fun KK hK => ?_) (AllReadyH.cons (o := ⟨some 40, _, _, _, _, _⟩) rfl (fun KK hK => ?_) (AllReadyH.nil))
        · go_simp
          change KK _ (w3.alloc (.cells #[] 57))
          replace H := Lib.hid H.out.empty
          generalize w3.alloc (.cells #[] 57) = WX14 at H ⊢
          generalize w3.heap.size = e1 at H ⊢
          replace HSE := Lib.hid (HSS.out _ H.out.bel)
          refine hK.out _ _ HSE.out (fun hHeld => ?_)
          clear hK; try clear KK
          try simp only [Act.put, List.setIfInBounds_toArray, List.set_cons_zero, List.set_cons_succ]
          refine wpAnyH_ready (rs := [6, 15]) (by kernel_rfl) (by simp) ?_
          refine AllReadyH.cons (o := ⟨some 31, _, _, _, _, _⟩) rfl (fun KK hK => ?_) (AllReadyH.cons (o := ⟨some 40, _, _, _, _, _⟩) rfl (fun KK hK => ?_) (AllReadyH.nil))
          · refine GA.src H.out (by rfl) _ _ _ (by rfl) i0 (.agg rowZ) 56 Try.underlying27 hi0 hz0 hz1 hz2 (by rfl) (by decide) (by rfl) _ _ _ _ (by rfl) HTL.out (fun hm => HTS.out _ hm H.out.bel) HT1.out (by unfold maxLen; omega) (by omega) ?_
            intro g1 cap1 WX15 H'
            rw [Nat.zero_add, List.nil_append] at H'
            rw [Nat.zero_add]
            replace H := Lib.hid H'
            clear H'
            replace HSE := Lib.hid (HSS.out _ H.out.bel)
            refine hK.out _ _ HSE.out (fun hHeld => ?_)
            clear hK; try clear KK
            try simp only [Act.put, List.setIfInBounds_toArray, List.set_cons_zero, List.set_cons_succ]
            refine wpAnyH_ready (rs := [15]) (by kernel_rfl) (by simp) ?_
            refine AllReadyH.cons (o := ⟨some 40, _, _, _, _, _⟩) rfl (fun KK hK => ?_) AllReadyH.nil
            go_simp
            change KK _ (WX15.alloc (.cells (DRow.cells (earlyR m)) 57))
            replace H := Lib.hid (H.out.new (DRow.cells (earlyR m)))
            generalize WX15.alloc (.cells (DRow.cells (earlyR m)) 57) = WX16 at H ⊢
            generalize WX15.heap.size = nb1 at H ⊢
            replace HSE := Lib.hid (HSS.out _ H.out.bel)
            refine hK.out _ _ HSE.out (fun hHeld => ?_)
            clear hK; try clear KK
            try simp only [Act.put, List.setIfInBounds_toArray, List.set_cons_zero, List.set_cons_succ]
            refine wpAnyH_ready (rs := [16]) (by kernel_rfl) (by simp) ?_
            refine AllReadyH.cons (o := ⟨some 41, _, _, _, _, _⟩) rfl (fun KK hK => ?_) AllReadyH.nil
            refine GA.app H.out (by rfl) _ _ _ (by rfl) i0 (.agg rowZ) 56 Try.underlying27 hi0 hz0 hz1 hz2 (by rfl) (by decide) (by rfl) (by rfl) (cells_size _) (one_row _) (by unfold maxLen; omega) (by omega) ?_
            intro g2 cap2 WX17 H'
            replace H := Lib.hid H'
            clear H'
            replace HSE := Lib.hid (HSS.out _ H.out.bel)
            refine hK.out _ _ HSE.out (fun hHeld => ?_)
            clear hK; try clear KK
            try simp only [Act.put, List.setIfInBounds_toArray, List.set_cons_zero, List.set_cons_succ]
            refine wpAnyH_take (i := 17) (oi := ⟨some 42, _, _, _, _, _⟩) (v := ?_) rfl (by kernel_rfl) (by kernel_rfl) (by kernel_rfl) (fun _ _ _ h => h) (Or.inl ⟨by rfl, ?_⟩) (by assumption) ?_
            rotate_left
            · (intro w hSw; (try dsimp only at hSw); go_simp; (try with_reducible rfl))
            simp only [Act.put, List.setIfInBounds_toArray, List.set_cons_zero, List.set_cons_succ]
            refine wpAnyH_take (i := 18) (oi := ⟨some 43, _, _, _, _, _⟩) (v := ?_) rfl (by kernel_rfl) (by kernel_rfl) (by kernel_rfl) (fun _ _ _ h => h) (Or.inl ⟨by rfl, ?_⟩) (by assumption) ?_
            rotate_left
            · (intro w hSw; (try dsimp only at hSw); go_simp; (try with_reducible rfl))
            simp only [Act.put, List.setIfInBounds_toArray, List.set_cons_zero, List.set_cons_succ]
            refine wpAnyH_ready (rs := [19]) (by kernel_rfl) (by simp) ?_
            refine AllReadyH.cons (o := ⟨none, _, _, _, _, _⟩) rfl (fun KK hK => ?_) AllReadyH.nil
            have cL := HLD.out _ H.out.bel
            have fL := HFZ.out _ H.out.bel
            go_simp
            clear cL fL
            have HFIN := Lib.hid (HRS.out.push2 (es' := es ++ [(earlyR m)]) HN3.out (HN0.out ▸ H.out) (by simp) (rows_snoc es (earlyR m)))
            have HCH := Lib.hid (chg_push (x := .slice (some ⟨g2, 0, none⟩) (es.length + 1) cap2) HBE.out HN3.out (HN0.out ▸ H.out) 1 HRS.out.lt)
            change KK _ (WX17.setCell ⟨R, 1, none⟩ (.slice (some ⟨g2, 0, none⟩) (es.length + 1) cap2))
            replace HSE := Lib.hid (HST.out _ (.slice (some ⟨g2, 0, none⟩) (es.length + 1) cap2) (HSS.out _ H.out.bel))
            generalize WX17.setCell ⟨R, 1, none⟩ (.slice (some ⟨g2, 0, none⟩) (es.length + 1) cap2) = WX18 at HFIN HCH HSE ⊢
            refine hK.out _ _ HSE.out (fun hHeld => ?_)
            clear hK; try clear KK
            refine wpAnyH_done (by kernel_rfl) ?_ _
            go_wp2_with fail
            go_ret
            exact ⟨⟨_, rfl⟩, ⟨_, _, by rw [HT.out]; exact HFIN.out⟩, HCH.out⟩
          · go_simp
            change KK _ (WX14.alloc (.cells (DRow.cells (earlyR m)) 57))
            replace H := Lib.hid (H.out.new (DRow.cells (earlyR m)))
            generalize WX14.alloc (.cells (DRow.cells (earlyR m)) 57) = WX19 at H ⊢
            generalize WX14.heap.size = nb1 at H ⊢
            replace HSE := Lib.hid (HSS.out _ H.out.bel)
            refine hK.out _ _ HSE.out (fun hHeld => ?_)
            clear hK; try clear KK
            try simp only [Act.put, List.setIfInBounds_toArray, List.set_cons_zero, List.set_cons_succ]
            refine wpAnyH_ready (rs := [6]) (by kernel_rfl) (by simp) ?_
            refine AllReadyH.cons (o := ⟨some 31, _, _, _, _, _⟩) rfl (fun KK hK => ?_) AllReadyH.nil
            refine GA.src H.out (by rfl) _ _ _ (by rfl) i0 (.agg rowZ) 56 Try.underlying27 hi0 hz0 hz1 hz2 (by rfl) (by decide) (by rfl) _ _ _ _ (by rfl) HTL.out (fun hm => HTS.out _ hm H.out.bel) HT1.out (by unfold maxLen; omega) (by omega) ?_
            intro g1 cap1 WX20 H'
            rw [Nat.zero_add, List.nil_append] at H'
            rw [Nat.zero_add]
            replace H := Lib.hid H'
            clear H'
            replace HSE := Lib.hid (HSS.out _ H.out.bel)
            refine hK.out _ _ HSE.out (fun hHeld => ?_)
            clear hK; try clear KK
            try simp only [Act.put, List.setIfInBounds_toArray, List.set_cons_zero, List.set_cons_succ]
            refine wpAnyH_ready (rs := [16]) (by kernel_rfl) (by simp) ?_
            refine AllReadyH.cons (o := ⟨some 41, _, _, _, _, _⟩) rfl (fun KK hK => ?_) AllReadyH.nil
            refine GA.app H.out (by rfl) _ _ _ (by rfl) i0 (.agg rowZ) 56 Try.underlying27 hi0 hz0 hz1 hz2 (by rfl) (by decide) (by rfl) (by rfl) (cells_size _) (one_row _) (by unfold maxLen; omega) (by omega) ?_
            intro g2 cap2 WX21 H'
            replace H := Lib.hid H'
            clear H'
            replace HSE := Lib.hid (HSS.out _ H.out.bel)
            refine hK.out _ _ HSE.out (fun hHeld => ?_)
            clear hK; try clear KK
            try simp only [Act.put, List.setIfInBounds_toArray, List.set_cons_zero, List.set_cons_succ]
            refine wpAnyH_take (i := 17) (oi := ⟨some 42, _, _, _, _, _⟩) (v := ?_) rfl (by kernel_rfl) (by kernel_rfl) (by kernel_rfl) (fun _ _ _ h => h) (Or.inl ⟨by rfl, ?_⟩) (by assumption) ?_
            rotate_left
            · (intro w hSw; (try dsimp only at hSw); go_simp; (try with_reducible rfl))
            simp only [Act.put, List.setIfInBounds_toArray, List.set_cons_zero, List.set_cons_succ]
            refine wpAnyH_take (i := 18) (oi := ⟨some 43, _, _, _, _, _⟩) (v := ?_) rfl (by kernel_rfl) (by kernel_rfl) (by kernel_rfl) (fun _ _ _ h => h) (Or.inl ⟨by rfl, ?_⟩) (by assumption) ?_
            rotate_left
            · (intro w hSw; (try dsimp only at hSw); go_simp; (try with_reducible rfl))
            simp only [Act.put, List.setIfInBounds_toArray, List.set_cons_zero, List.set_cons_succ]
            refine wpAnyH_ready (rs := [19]) (by kernel_rfl) (by simp) ?_
            refine AllReadyH.cons (o := ⟨none, _, _, _, _, _⟩) rfl (fun KK hK => ?_) AllReadyH.nil
            have cL := HLD.out _ H.out.bel
            have fL := HFZ.out _ H.out.bel
            go_simp
            clear cL fL
            have HFIN := Lib.hid (HRS.out.push2 (es' := es ++ [(earlyR m)]) HN3.out (HN0.out ▸ H.out) (by simp) (rows_snoc es (earlyR m)))
            have HCH := Lib.hid (chg_push (x := .slice (some ⟨g2, 0, none⟩) (es.length + 1) cap2) HBE.out HN3.out (HN0.out ▸ H.out) 1 HRS.out.lt)
            change KK _ (WX21.setCell ⟨R, 1, none⟩ (.slice (some ⟨g2, 0, none⟩) (es.length + 1) cap2))
            replace HSE := Lib.hid (HST.out _ (.slice (some ⟨g2, 0, none⟩) (es.length + 1) cap2) (HSS.out _ H.out.bel))
            generalize WX21.setCell ⟨R, 1, none⟩ (.slice (some ⟨g2, 0, none⟩) (es.length + 1) cap2) = WX22 at HFIN HCH HSE ⊢
            refine hK.out _ _ HSE.out (fun hHeld => ?_)
            clear hK; try clear KK
            refine wpAnyH_done (by kernel_rfl) ?_ _
            go_wp2_with fail
            go_ret
            exact ⟨⟨_, rfl⟩, ⟨_, _, by rw [HT.out]; exact HFIN.out⟩, HCH.out⟩
        · go_simp
          change KK _ (w3.alloc (.cells (DRow.cells (earlyR m)) 57))
          replace H := Lib.hid (H.out.new (DRow.cells (earlyR m)))
          generalize w3.alloc (.cells (DRow.cells (earlyR m)) 57) = WX23 at H ⊢
          generalize w3.heap.size = nb1 at H ⊢
          replace HSE := Lib.hid (HSS.out _ H.out.bel)
          refine hK.out _ _ HSE.out (fun hHeld => ?_)
          clear hK; try clear KK
          try simp only [Act.put, List.setIfInBounds_toArray, List.set_cons_zero, List.set_cons_succ]
          refine wpAnyH_ready (rs := [1]) (by kernel_rfl) (by simp) ?_
          refine AllReadyH.cons (o := ⟨some 26, _, _, _, _, _⟩) rfl (fun KK hK => ?_) AllReadyH.nil
          go_simp
          change KK _ (WX23.alloc (.cells #[] 57))
          replace H := Lib.hid H.out.empty
          generalize WX23.alloc (.cells #[] 57) = WX24 at H ⊢
          generalize WX23.heap.size = e1 at H ⊢
          replace HSE := Lib.hid (HSS.out _ H.out.bel)
          refine hK.out _ _ HSE.out (fun hHeld => ?_)
          clear hK; try clear KK
          try simp only [Act.put, List.setIfInBounds_toArray, List.set_cons_zero, List.set_cons_succ]
          refine wpAnyH_ready (rs := [6]) (by kernel_rfl) (by simp) ?_
          refine AllReadyH.cons (o := ⟨some 31, _, _, _, _, _⟩) rfl (fun KK hK => ?_) AllReadyH.nil
          refine GA.src H.out (by rfl) _ _ _ (by rfl) i0 (.agg rowZ) 56 Try.underlying27 hi0 hz0 hz1 hz2 (by rfl) (by decide) (by rfl) _ _ _ _ (by rfl) HTL.out (fun hm => HTS.out _ hm H.out.bel) HT1.out (by unfold maxLen; omega) (by omega) ?_
          intro g1 cap1 WX25 H'
          rw [Nat.zero_add, List.nil_append] at H'
          rw [Nat.zero_add]
          replace H := Lib.hid H'
          clear H'
          replace HSE := Lib.hid (HSS.out _ H.out.bel)
          refine hK.out _ _ HSE.out (fun hHeld => ?_)
          clear hK; try clear KK
          try simp only [Act.put, List.setIfInBounds_toArray, List.set_cons_zero, List.set_cons_succ]
          refine wpAnyH_ready (rs := [16]) (by kernel_rfl) (by simp) ?_
          refine AllReadyH.cons (o := ⟨some 41, _, _, _, _, _⟩) rfl (fun KK hK => ?_) AllReadyH.nil
          refine GA.app H.out (by rfl) _ _ _ (by rfl) i0 (.agg rowZ) 56 Try.underlying27 hi0 hz0 hz1 hz2 (by rfl) (by decide) (by rfl) (by rfl) (cells_size _) (one_row _) (by unfold maxLen; omega) (by omega) ?_
          intro g2 cap2 WX26 H'
          replace H := Lib.hid H'
          clear H'
          replace HSE := Lib.hid (HSS.out _ H.out.bel)
          refine hK.out _ _ HSE.out (fun hHeld => ?_)
          clear hK; try clear KK
          try simp only [Act.put, List.setIfInBounds_toArray, List.set_cons_zero, List.set_cons_succ]
          refine wpAnyH_take (i := 17) (oi := ⟨some 42, _, _, _, _, _⟩) (v := ?_) rfl (by kernel_rfl) (by kernel_rfl) (by kernel_rfl) (fun _ _ _ h => h) (Or.inl ⟨by rfl, ?_⟩) (by assumption) ?_
          rotate_left
          · (intro w hSw; (try dsimp only at hSw); go_simp; (try with_reducible rfl))
          simp only [Act.put, List.setIfInBounds_toArray, List.set_cons_zero, List.set_cons_succ]
          refine wpAnyH_take (i := 18) (oi := ⟨some 43, _, _, _, _, _⟩) (v := ?_) rfl (by kernel_rfl) (by kernel_rfl) (by kernel_rfl) (fun _ _ _ h => h) (Or.inl ⟨by rfl, ?_⟩) (by assumption) ?_
          rotate_left
          · (intro w hSw; (try dsimp only at hSw); go_simp; (try with_reducible rfl))
          simp only [Act.put, List.setIfInBounds_toArray, List.set_cons_zero, List.set_cons_succ]
          refine wpAnyH_ready (rs := [19]) (by kernel_rfl) (by simp) ?_
          refine AllReadyH.cons (o := ⟨none, _, _, _, _, _⟩) rfl (fun KK hK => ?_) AllReadyH.nil
          have cL := HLD.out _ H.out.bel
          have fL := HFZ.out _ H.out.bel
          go_simp
          clear cL fL
          have HFIN := Lib.hid (HRS.out.push2 (es' := es ++ [(earlyR m)]) HN3.out (HN0.out ▸ H.out) (by simp) (rows_snoc es (earlyR m)))
          have HCH := Lib.hid (chg_push (x := .slice (some ⟨g2, 0, none⟩) (es.length + 1) cap2) HBE.out HN3.out (HN0.out ▸ H.out) 1 HRS.out.lt)
          change KK _ (WX26.setCell ⟨R, 1, none⟩ (.slice (some ⟨g2, 0, none⟩) (es.length + 1) cap2))
          replace HSE := Lib.hid (HST.out _ (.slice (some ⟨g2, 0, none⟩) (es.length + 1) cap2) (HSS.out _ H.out.bel))
          generalize WX26.setCell ⟨R, 1, none⟩ (.slice (some ⟨g2, 0, none⟩) (es.length + 1) cap2) = WX27 at HFIN HCH HSE ⊢
          refine hK.out _ _ HSE.out (fun hHeld => ?_)
          clear hK; try clear KK
          refine wpAnyH_done (by kernel_rfl) ?_ _
          go_wp2_with fail
          go_ret
          exact ⟨⟨_, rfl⟩, ⟨_, _, by rw [HT.out]; exact HFIN.out⟩, HCH.out⟩
      · go_simp
        change KK _ (w3.alloc (.cells (DRow.cells (earlyR m)) 57))
        replace H := Lib.hid (H.out.new (DRow.cells (earlyR m)))
        generalize w3.alloc (.cells (DRow.cells (earlyR m)) 57) = WX28 at H ⊢
        generalize w3.heap.size = nb1 at H ⊢
        replace HSE := Lib.hid (HSS.out _ H.out.bel)
        refine hK.out _ _ HSE.out (fun hHeld => ?_)
        clear hK; try clear KK
        try simp only [Act.put, List.setIfInBounds_toArray, List.set_cons_zero, List.set_cons_succ]
        refine wpAnyH_ready (rs := [1, 5]) (by kernel_rfl) (by simp) ?_
        refine AllReadyH.cons (o := ⟨some 26, _, _, _, _, _⟩) rfl (fun KK hK => ?_) (AllReadyH.cons (o := ⟨some 30, _, _, _, _, _⟩) rfl (fun KK hK => ?_) (AllReadyH.nil))
        · go_simp
          change KK _ (WX28.alloc (.cells #[] 57))
          replace H := Lib.hid H.out.empty
          generalize WX28.alloc (.cells #[] 57) = WX29 at H ⊢
          generalize WX28.heap.size = e1 at H ⊢
          replace HSE := Lib.hid (HSS.out _ H.out.bel)
          refine hK.out _ _ HSE.out (fun hHeld => ?_)
          clear hK; try clear KK
          try simp only [Act.put, List.setIfInBounds_toArray, List.set_cons_zero, List.set_cons_succ]
          refine wpAnyH_ready (rs := [5]) (by kernel_rfl) (by simp) ?_
          refine AllReadyH.cons (o := ⟨some 30, _, _, _, _, _⟩) rfl (fun KK hK => ?_) AllReadyH.nil
          have cL := HLD.out _ H.out.bel
          go_simp
          clear cL
          refine hK.out _ _ HSE.out (fun hHeld => ?_)
          clear hK; try clear KK
          try simp only [Act.put, List.setIfInBounds_toArray, List.set_cons_zero, List.set_cons_succ]
          refine wpAnyH_ready (rs := [6]) (by kernel_rfl) (by simp) ?_
          refine AllReadyH.cons (o := ⟨some 31, _, _, _, _, _⟩) rfl (fun KK hK => ?_) AllReadyH.nil
          refine GA.src H.out (by rfl) _ _ _ (by rfl) i0 (.agg rowZ) 56 Try.underlying27 hi0 hz0 hz1 hz2 (by rfl) (by decide) (by rfl) _ _ _ _ (by rfl) HTL.out (fun hm => HTS.out _ hm H.out.bel) HT1.out (by unfold maxLen; omega) (by omega) ?_
          intro g1 cap1 WX30 H'
          rw [Nat.zero_add, List.nil_append] at H'
          rw [Nat.zero_add]
          replace H := Lib.hid H'
          clear H'
          replace HSE := Lib.hid (HSS.out _ H.out.bel)
          refine hK.out _ _ HSE.out (fun hHeld => ?_)
          clear hK; try clear KK
          try simp only [Act.put, List.setIfInBounds_toArray, List.set_cons_zero, List.set_cons_succ]
          refine wpAnyH_ready (rs := [16]) (by kernel_rfl) (by simp) ?_
          refine AllReadyH.cons (o := ⟨some 41, _, _, _, _, _⟩) rfl (fun KK hK => ?_) AllReadyH.nil
          refine GA.app H.out (by rfl) _ _ _ (by rfl) i0 (.agg rowZ) 56 Try.underlying27 hi0 hz0 hz1 hz2 (by rfl) (by decide) (by rfl) (by rfl) (cells_size _) (one_row _) (by unfold maxLen; omega) (by omega) ?_
          intro g2 cap2 WX31 H'
          replace H := Lib.hid H'
          clear H'
          replace HSE := Lib.hid (HSS.out _ H.out.bel)
          refine hK.out _ _ HSE.out (fun hHeld => ?_)
          clear hK; try clear KK
          try simp only [Act.put, List.setIfInBounds_toArray, List.set_cons_zero, List.set_cons_succ]
          refine wpAnyH_take (i := 17) (oi := ⟨some 42, _, _, _, _, _⟩) (v := ?_) rfl (by kernel_rfl) (by kernel_rfl) (by kernel_rfl) (fun _ _ _ h => h) (Or.inl ⟨by rfl, ?_⟩) (by assumption) ?_
          rotate_left
          · (intro w hSw; (try dsimp only at hSw); go_simp; (try with_reducible rfl))
          simp only [Act.put, List.setIfInBounds_toArray, List.set_cons_zero, List.set_cons_succ]
          refine wpAnyH_take (i := 18) (oi := ⟨some 43, _, _, _, _, _⟩) (v := ?_) rfl (by kernel_rfl) (by kernel_rfl) (by kernel_rfl) (fun _ _ _ h => h) (Or.inl ⟨by rfl, ?_⟩) (by assumption) ?_
          rotate_left
          · (intro w hSw; (try dsimp only at hSw); go_simp; (try with_reducible rfl))
          simp only [Act.put, List.setIfInBounds_toArray, List.set_cons_zero, List.set_cons_succ]
          refine wpAnyH_ready (rs := [19]) (by kernel_rfl) (by simp) ?_
          refine AllReadyH.cons (o := ⟨none, _, _, _, _, _⟩) rfl (fun KK hK => ?_) AllReadyH.nil
          have cL := HLD.out _ H.out.bel
          have fL := HFZ.out _ H.out.bel
          go_simp
          clear cL fL
          have HFIN := Lib.hid (HRS.out.push2 (es' := es ++ [(earlyR m)]) HN3.out (HN0.out ▸ H.out) (by simp) (rows_snoc es (earlyR m)))
          have HCH := Lib.hid (chg_push (x := .slice (some ⟨g2, 0, none⟩) (es.length + 1) cap2) HBE.out HN3.out (HN0.out ▸ H.out) 1 HRS.out.lt)
          change KK _ (WX31.setCell ⟨R, 1, none⟩ (.slice (some ⟨g2, 0, none⟩) (es.length + 1) cap2))
          replace HSE := Lib.hid (HST.out _ (.slice (some ⟨g2, 0, none⟩) (es.length + 1) cap2) (HSS.out _ H.out.bel))
          generalize WX31.setCell ⟨R, 1, none⟩ (.slice (some ⟨g2, 0, none⟩) (es.length + 1) cap2) = WX32 at HFIN HCH HSE ⊢
          refine hK.out _ _ HSE.out (fun hHeld => ?_)
          clear hK; try clear KK
          refine wpAnyH_done (by kernel_rfl) ?_ _
          go_wp2_with fail
          go_ret
          exact ⟨⟨_, rfl⟩, ⟨_, _, by rw [HT.out]; exact HFIN.out⟩, HCH.out⟩
        · have cL := HLD.out _ H.out.bel
          go_simp
          clear cL
          refine hK.out _ _ HSE.out (fun hHeld => ?_)
          clear hK; try clear KK
          try simp only [Act.put, List.setIfInBounds_toArray, List.set_cons_zero, List.set_cons_succ]
          refine wpAnyH_ready (rs := [1]) (by kernel_rfl) (by simp) ?_
          refine AllReadyH.cons (o := ⟨some 26, _, _, _, _, _⟩) rfl (fun KK hK => ?_) AllReadyH.nil
          go_simp
          change KK _ (WX28.alloc (.cells #[] 57))
          replace H := Lib.hid H.out.empty
          generalize WX28.alloc (.cells #[] 57) = WX33 at H ⊢
          generalize WX28.heap.size = e1 at H ⊢
          replace HSE := Lib.hid (HSS.out _ H.out.bel)
          refine hK.out _ _ HSE.out (fun hHeld => ?_)
          clear hK; try clear KK
          try simp only [Act.put, List.setIfInBounds_toArray, List.set_cons_zero, List.set_cons_succ]
          refine wpAnyH_ready (rs := [6]) (by kernel_rfl) (by simp) ?_
          refine AllReadyH.cons (o := ⟨some 31, _, _, _, _, _⟩) rfl (fun KK hK => ?_) AllReadyH.nil
          refine GA.src H.out (by rfl) _ _ _ (by rfl) i0 (.agg rowZ) 56 Try.underlying27 hi0 hz0 hz1 hz2 (by rfl) (by decide) (by rfl) _ _ _ _ (by rfl) HTL.out (fun hm => HTS.out _ hm H.out.bel) HT1.out (by unfold maxLen; omega) (by omega) ?_
          intro g1 cap1 WX34 H'
          rw [Nat.zero_add, List.nil_append] at H'
          rw [Nat.zero_add]
          replace H := Lib.hid H'
          clear H'
          replace HSE := Lib.hid (HSS.out _ H.out.bel)
          refine hK.out _ _ HSE.out (fun hHeld => ?_)
          clear hK; try clear KK
          try simp only [Act.put, List.setIfInBounds_toArray, List.set_cons_zero, List.set_cons_succ]
          refine wpAnyH_ready (rs := [16]) (by kernel_rfl) (by simp) ?_
          refine AllReadyH.cons (o := ⟨some 41, _, _, _, _, _⟩) rfl (fun KK hK => ?_) AllReadyH.nil
          refine GA.app H.out (by rfl) _ _ _ (by rfl) i0 (.agg rowZ) 56 Try.underlying27 hi0 hz0 hz1 hz2 (by rfl) (by decide) (by rfl) (by rfl) (cells_size _) (one_row _) (by unfold maxLen; omega) (by omega) ?_
          intro g2 cap2 WX35 H'
          replace H := Lib.hid H'
          clear H'
          replace HSE := Lib.hid (HSS.out _ H.out.bel)
          refine hK.out _ _ HSE.out (fun hHeld => ?_)
          clear hK; try clear KK
          try simp only [Act.put, List.setIfInBounds_toArray, List.set_cons_zero, List.set_cons_succ]
          refine wpAnyH_take (i := 17) (oi := ⟨some 42, _, _, _, _, _⟩) (v := ?_) rfl (by kernel_rfl) (by kernel_rfl) (by kernel_rfl) (fun _ _ _ h => h) (Or.inl ⟨by rfl, ?_⟩) (by assumption) ?_
          rotate_left
          · (intro w hSw; (try dsimp only at hSw); go_simp; (try with_reducible rfl))
          simp only [Act.put, List.setIfInBounds_toArray, List.set_cons_zero, List.set_cons_succ]
          refine wpAnyH_take (i := 18) (oi := ⟨some 43, _, _, _, _, _⟩) (v := ?_) rfl (by kernel_rfl) (by kernel_rfl) (by kernel_rfl) (fun _ _ _ h => h) (Or.inl ⟨by rfl, ?_⟩) (by assumption) ?_
          rotate_left
          · (intro w hSw; (try dsimp only at hSw); go_simp; (try with_reducible rfl))
          simp only [Act.put, List.setIfInBounds_toArray, List.set_cons_zero, List.set_cons_succ]
          refine wpAnyH_ready (rs := [19]) (by kernel_rfl) (by simp) ?_
          refine AllReadyH.cons (o := ⟨none, _, _, _, _, _⟩) rfl (fun KK hK => ?_) AllReadyH.nil
          have cL := HLD.out _ H.out.bel
          have fL := HFZ.out _ H.out.bel
          go_simp
          clear cL fL
          have HFIN := Lib.hid (HRS.out.push2 (es' := es ++ [(earlyR m)]) HN3.out (HN0.out ▸ H.out) (by simp) (rows_snoc es (earlyR m)))
          have HCH := Lib.hid (chg_push (x := .slice (some ⟨g2, 0, none⟩) (es.length + 1) cap2) HBE.out HN3.out (HN0.out ▸ H.out) 1 HRS.out.lt)
          change KK _ (WX35.setCell ⟨R, 1, none⟩ (.slice (some ⟨g2, 0, none⟩) (es.length + 1) cap2))
          replace HSE := Lib.hid (HST.out _ (.slice (some ⟨g2, 0, none⟩) (es.length + 1) cap2) (HSS.out _ H.out.bel))
          generalize WX35.setCell ⟨R, 1, none⟩ (.slice (some ⟨g2, 0, none⟩) (es.length + 1) cap2) = WX36 at HFIN HCH HSE ⊢
          refine hK.out _ _ HSE.out (fun hHeld => ?_)
          clear hK; try clear KK
          refine wpAnyH_done (by kernel_rfl) ?_ _
          go_wp2_with fail
          go_ret
          exact ⟨⟨_, rfl⟩, ⟨_, _, by rw [HT.out]; exact HFIN.out⟩, HCH.out⟩
    · have b1 : (m.code == 1) = false := by simpa using hc
      have HRW := Lib.hid (fun W (hW : RS N W R l es v u) => rests_any N R l es v u m.sym m.wth m.qty W hW)
      by_cases hk : m.id = m.wth
      · have HT := Lib.hid (show tradeD l es m = (l, es) by unfold tradeD; rw [if_pos (show restsD (keyM m) l m.qty = true from hr), if_neg hc, if_pos hk])
        have b2 : (m.id == m.wth) = true := by simpa using hk
        clear hr hc hk
        go_wp2_with fail
        go_ret
        exact ⟨⟨_, rfl⟩, ⟨_, _, by rw [HT.out]; exact HS0.out⟩, Chg.of (HB0.out.mono HNN.out)⟩
      · have b2 : (m.id == m.wth) = false := by simpa using hk
        cases hr2 : restsD (m.sym, m.wth) l m.qty with
        | false =>
          have HT := Lib.hid (show tradeD l es m = (l, es) by unfold tradeD; rw [if_pos (show restsD (keyM m) l m.qty = true from hr), if_neg hc, if_neg hk, if_neg (show ¬ restsD (keyW m) l m.qty = true by unfold keyW; rw [hr2]; decide)])
          rw [hr2] at HRW
          clear hr hc hk hr2
          go_wp2_with fail
          refine (HRW.out _ HS0.out).mono ?_
          rintro e w2 ⟨rfl, rfl⟩
          go_wp2_with fail
          go_ret
          exact ⟨⟨_, rfl⟩, ⟨_, _, by rw [HT.out]; exact HS0.out⟩, Chg.of (HB0.out.mono HNN.out)⟩
        | true =>
          have HT := Lib.hid (show tradeD l es m = (fillD (keyW m) m.qty (fillD (keyM m) m.qty l), es) by unfold tradeD; rw [if_pos (show restsD (keyM m) l m.qty = true from hr), if_neg hc, if_neg hk, if_pos (show restsD (keyW m) l m.qty = true from hr2)])
          obtain ⟨a2, ha2, -⟩ := rests_some hr2
          have HF2 := Lib.hid (fun W (hW : RS N W R (fillD (m.sym, m.id) m.qty l) es v u) => fill_k N R (fillD (m.sym, m.id) m.qty l) es v u (m.sym, m.wth) m.qty W hW (fill_some (by rw [ha2]; rfl)) HHQ.out (fun r hr' => (fine_fill HHL.out HHQ.out hr r hr').mono (by omega)))
          rw [hr2] at HRW
          clear hr hc hk hr2 ha2
          go_wp2_with fail
          refine (HRW.out _ HS0.out).mono ?_
          rintro e w2 ⟨rfl, rfl⟩
          go_wp2_with fail
          refine HF1.out.mono ?_
          rintro e w2 ⟨rfl, hs2, hg2⟩
          have HS2 := Lib.hid hs2
          have HM2 := Lib.hid (show Blk w2 w.heap.size _ 33 from (hg2.block _ HMB.out.lt (fun e => HVB.out e.symm)).trans HMB.out)
          have HBE2 := Lib.hid (show Below N w w2 from (HB0.out.mono HNN.out).trans (grown_below hg2 HS0.out.row (Nat.le_trans HNN.out HB0.out.size)))
          clear hs2 hg2 c1 c4 c5 c7 c8
          have c1 : w2.cell? ⟨w.heap.size, 1, none⟩ = some (.int .i64 m.sym) := HM2.out.cell 1 rfl
          have c5 : w2.cell? ⟨w.heap.size, 5, none⟩ = some (.int .i64 m.wth) := HM2.out.cell 5 rfl
          have c7 : w2.cell? ⟨w.heap.size, 7, none⟩ = some (.int .i64 m.qty) := HM2.out.cell 7 rfl
          go_wp2_with fail
          refine (HF2.out _ HS2.out).mono ?_
          rintro e w3 ⟨rfl, hs3, hg3⟩
          have HS3 := Lib.hid hs3
          have HBE3 := Lib.hid (show Below N w w3 from HBE2.out.trans (grown_below hg3 HS2.out.row (Nat.le_trans HNN.out HBE2.out.size)))
          clear hs3 hg3 c1 c5 c7
          go_wp2_with fail
          go_ret
          exact ⟨⟨_, rfl⟩, ⟨_, _, by rw [HT.out]; exact HS3.out⟩, Chg.of HBE3.out⟩
end Go.Proofs.Ytmkcooamgojbpaa.Ledger
