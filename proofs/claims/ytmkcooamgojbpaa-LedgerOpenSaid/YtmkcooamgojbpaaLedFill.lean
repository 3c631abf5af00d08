/- (*ledger.Ledger).fill: of accounts that rest. -/
import Derived.Test.YtmkcooamgojbpaaLedTaken
namespace Go.Proofs.Ytmkcooamgojbpaa.Ledger
open Go.RowKit Go.Proofs.Ytmkcooamgojbpaa.Kit Go.Proofs.Ytmkcooamgojbpaa.Blk Go.Proofs.Ytmkcooamgojbpaa.Mp Go.Proofs.Ytmkcooamgojbpaa.Qty
attribute [local go_sem ↓] Go.wp_at_zero Go.wp_at_succ
set_option linter.unusedVariables false

def keyC (k : Key) : Array Value := #[.int .i64 k.1, .int .i64 k.2]
def restsF (now : List (Key × Acc)) (k : Key) (q : Int) : Bool := match mget k now with
  | none => false
  | some a => decide (q ≤ a.rest)
def fillA (q : Int) (a : Acc) : Acc := ⟨a.asked, a.filled + q, a.gone, a.rest - q⟩
def fillK (now : List (Key × Acc)) (q : Int) (k : Key) : List (Key × Acc) := mput k (fillA q ((mget k now).getD acc0)) now
def fillOK (now : List (Key × Acc)) (q : Int) (ks : List Key) : Bool := ks.all fun k => restsF now k q
def fillF (now : List (Key × Acc)) (q : Int) (ks : List Key) : List (Key × Acc) := ks.foldl (fun n k => fillK n q k) now
/-- A row of keys. -/
def KeyRow (w : World) (g : Nat) (ks : List Key) : Prop := g < w.heap.size ∧ ∀ k, (h : k < ks.length) → w.rangeAt g (k * 2) (keyC ks[k]).toList
theorem acc_one (a : Acc) : a.cells.all (·.oneCell') = true := by simp [Acc.cells, Value.oneCell']
def FillIs (L : Led) (q : Int) (ks : List Key) (D b1 b2 b3 : Nat) (w : World) (e : Ending) (w' : World) : Prop :=
  e = .returned (.bool (fillOK L.now q ks)) ∧ LS w' D b1 b2 b3 (if fillOK L.now q ks = true then ⟨fillF L.now q ks, L.early, L.aside⟩ else L) ∧ Chg w.heap.size b1 w w'
theorem ok_no {now : List (Key × Acc)} {q : Int} {ks : List Key} (k : Nat) (hk : k < ks.length) (h : restsF now ks[k] q = false) : fillOK now q ks = false := by
  unfold fillOK
  rw [Bool.eq_false_iff]
  intro ha
  rw [List.all_eq_true] at ha
  rw [ha _ (List.getElem_mem hk)] at h
  cases h
theorem ok_yes {now : List (Key × Acc)} {q : Int} {ks : List Key} (h : ∀ k, (hk : k < ks.length) → restsF now ks[k] q = true) : fillOK now q ks = true := by
  unfold fillOK
  rw [List.all_eq_true]
  intro x hx
  obtain ⟨k, hk, rfl⟩ := List.mem_iff_getElem.1 hx
  exact h k hk
theorem fill_next {now : List (Key × Acc)} {q : Int} {ks : List Key} (k : Nat) (hk : k < ks.length) : fillF now q (ks.take (k + 1)) = fillK (fillF now q (ks.take k)) q ks[k] := by
  unfold fillF
  rw [List.take_succ_eq_append_getElem hk, List.foldl_append]
  rfl
set_option maxRecDepth 20000 in
set_option maxHeartbeats 4000000 in
theorem fill_any (L : Led) (q : Int) (ks : List Key) (hks : ks.length ≤ 2) (D b1 b2 b3 g c : Nat) (w : World) (h : LS w D b1 b2 b3 L) (hr : KeyRow w g ks)
    (hq : 0 ≤ q ∧ q ≤ 4294967296) (hb : ∀ k, k < ks.length → AccIn 1125899906842624 ((mget (ks.getD k (0, 0)) (fillF L.now q (ks.take k))).getD acc0)) :
    Calls Try.prog 30 #[.pointer (some ⟨D, 0, none⟩), .int .i64 q, .slice (some ⟨g, 0, none⟩) ks.length c] w (FillIs L q ks D b1 b2 b3 w) := by
  have H := Lib.hid h
  have HR := Lib.hid hr
  have HBD := Lib.hid hb
  have HQ := Lib.hid hq
  clear h hr hb hq
  go_enter Try.func30, Try.ntmps30
  go_wp2_with fail
  go_loopw [16] (fun i wr => ∃ k : Nat, k ≤ ks.length ∧ i = .int .i64 (k : Int) ∧ (∀ j, (hj : j < ks.length) → j < k → restsF L.now ks[j] q = true) ∧ Below w.heap.size w wr) (fun i _ => ks.length - (intOf i).toNat)
  case atStart => exact ⟨0, by omega, rfl, fun _ _ h => absurd h (by omega), Below.refl _ _⟩
  case round =>
    obtain ⟨k, hk, rfl, hp, hbr⟩ := hrel
    have HP := Lib.hid hp
    have HB := Lib.hid hbr
    clear hp hbr
    by_cases hlt : k < ks.length
    · have hkl : (k : Int) < (ks.length : Int) := by omega
      have HL := Lib.hid (H.out.below HB.out)
      have HK := Lib.hid (show wr.rangeAt g (k * 2) (keyC ks[k]).toList from fun j v hv => by
        rw [HB.out.cell (p := ⟨g, k * 2 + j, none⟩) HR.out.1]
        exact HR.out.2 k hlt j v hv)
      have HNO := Lib.hid (fun h => ok_no (now := L.now) (q := q) k hlt h)
      have HS := Lib.hid (fun (h : restsF L.now ks[k] q = true) j (hj : j < ks.length) (hjk : j < k + 1) => show restsF L.now ks[j] q = true from if e : j = k then (by subst e; exact h) else HP.out j hj (by omega))
      generalize ks[k] = kk at HK HNO HS
      obtain ⟨k1, k2⟩ := kk
      have HX := Lib.hid (Blk.new wr (keyC (k1, k2)) 60 wr.heap.size rfl)
      have HL2 := Lib.hid (HL.out.alloc (.cells (keyC (k1, k2)) 60))
      have HB2 := Lib.hid (HB.out.alloc HB.out.size (.cells (keyC (k1, k2)) 60))
      have HLK := Lib.hid (fun W (hm : MapIs W b1 ke va L.now) => look1 hm k1 k2)
      unfold keyC at HK
      go_upto_region 4 with (refine wpList_load_mid rfl 60 _ rfl _ _ rfl _ _ HK.out Try.underlying60 rfl (by kernel_rfl) ?_)
      change Code.wp _ _ _ _ (wr.alloc (.cells (keyC (k1, k2)) 60))
      clear HL HK
      have hb2 : b1 < wr.heap.size := Nat.lt_of_lt_of_le H.out.m1.lt HB.out.size
      have hDw : D < wr.heap.size := Nat.lt_of_lt_of_le H.out.box.lt HB.out.size
      refine wp_region_held_drew (S := (fun w' => w'.cell? ⟨D, 0, none⟩ = some (.map (some b1)) ∧ w'.cell? ⟨wr.heap.size, 0, none⟩ = some (.int .i64 k1) ∧ w'.cell? ⟨wr.heap.size, 1, none⟩ = some (.int .i64 k2) ∧ (Instr.lookup 47 (.map (some b1)) (.agg #[.int .i64 k1, .int .i64 k2]) true).run Try.prog w' = .ok (.tuple #[.agg ((mget (k1, k2) L.now).getD acc0).cells, .bool (mget (k1, k2) L.now).isSome]) w')) (by kernel_rfl) ⟨HL2.out.box.cell 0 rfl, HX.out.cell 0 rfl, HX.out.cell 1 rfl, HLK.out _ HL2.out.m1.drew⟩ (fun hHeld => ?_)
      replace HL2 := Lib.hid HL2.out.drew
      replace HX := Lib.hid HX.out.drew
      replace HB2 := Lib.hid HB2.out.drew
      have hsz : wr.heap.size < (wr.alloc (.cells (keyC (k1, k2)) 60)).drew.heap.size := HX.out.lt
      generalize (wr.alloc (.cells (keyC (k1, k2)) 60)).drew = W1 at HL2 HX HB2 hHeld hsz ⊢
      have HRF := Lib.hid (show restsF L.now (k1, k2) q = ((mget (k1, k2) L.now).isSome && decide (q ≤ ((mget (k1, k2) L.now).getD acc0).rest)) by unfold restsF; cases mget (k1, k2) L.now <;> simp)
      generalize (mget (k1, k2) L.now).getD acc0 = a at hHeld HLK HRF
      generalize (mget (k1, k2) L.now).isSome = is at hHeld HLK HRF
      refine wpAnyH_take (i := 0) (oi := ⟨some 21, _, _, _, _, _⟩) (v := (.pointer (some ⟨D, 0, none⟩))) rfl (by kernel_rfl) (by kernel_rfl) (by kernel_rfl) (fun _ _ _ h => h) (Or.inl ⟨by rfl, fun w hSw => by (try dsimp only at hSw); go_simp⟩) (by assumption) ?_
      simp only [Act.put, List.setIfInBounds_toArray, List.set_cons_zero, List.set_cons_succ]
      refine wpAnyH_take (i := 1) (oi := ⟨some 22, _, _, _, _, _⟩) (v := (.pointer (some ⟨D, 0, none⟩))) rfl (by kernel_rfl) (by kernel_rfl) (by kernel_rfl) (fun _ _ _ h => h) (Or.inl ⟨by rfl, fun w hSw => by (try dsimp only at hSw); go_simp⟩) (by assumption) ?_
      simp only [Act.put, List.setIfInBounds_toArray, List.set_cons_zero, List.set_cons_succ]
      refine wpAnyH_take (i := 2) (oi := ⟨some 23, _, _, _, _, _⟩) (v := (.pointer (some ⟨D, 0, none⟩))) rfl (by kernel_rfl) (by kernel_rfl) (by kernel_rfl) (fun _ _ _ h => h) (Or.inl ⟨by rfl, fun w hSw => by (try dsimp only at hSw); go_simp⟩) (by assumption) ?_
      simp only [Act.put, List.setIfInBounds_toArray, List.set_cons_zero, List.set_cons_succ]
      refine wpAnyH_take (i := 3) (oi := ⟨some 24, _, _, _, _, _⟩) (v := (.map (some b1))) rfl (by kernel_rfl) (by kernel_rfl) (by kernel_rfl) (fun _ _ _ h => h) (Or.inl ⟨by rfl, fun w hSw => by (try dsimp only at hSw); go_simp⟩) (by assumption) ?_
      simp only [Act.put, List.setIfInBounds_toArray, List.set_cons_zero, List.set_cons_succ]
      refine wpAnyH_take (i := 4) (oi := ⟨some 25, _, _, _, _, _⟩) (v := (.agg #[.int .i64 k1, .int .i64 k2])) rfl (by kernel_rfl) (by kernel_rfl) (by kernel_rfl) (fun _ _ _ h => h) (Or.inl ⟨by rfl, fun w hSw => by (try dsimp only at hSw); go_simp⟩) (by assumption) ?_
      simp only [Act.put, List.setIfInBounds_toArray, List.set_cons_zero, List.set_cons_succ]
      refine wpAnyH_take (i := 5) (oi := ⟨some 26, _, _, _, _, _⟩) (v := (.tuple #[.agg a.cells, .bool is])) rfl (by kernel_rfl) (by kernel_rfl) (by kernel_rfl) (fun _ _ _ h => h) (Or.inl ⟨by rfl, fun w hSw => by (try dsimp only at hSw); go_simp⟩) (by assumption) ?_
      simp only [Act.put, List.setIfInBounds_toArray, List.set_cons_zero, List.set_cons_succ]
      refine wpAnyH_take (i := 6) (oi := ⟨some 20, _, _, _, _, _⟩) (v := (.tuple #[.agg a.cells, .bool is])) rfl (by kernel_rfl) (by kernel_rfl) (by kernel_rfl) (fun _ _ _ h => h) (Or.inl ⟨by rfl, fun w hSw => by (try dsimp only at hSw); go_simp⟩) (by assumption) ?_
      simp only [Act.put, List.setIfInBounds_toArray, List.set_cons_zero, List.set_cons_succ]
      refine wpAnyH_take (i := 7) (oi := ⟨some 27, _, _, _, _, _⟩) (v := (.agg a.cells)) rfl (by kernel_rfl) (by kernel_rfl) (by kernel_rfl) (fun _ _ _ h => h) (Or.inl ⟨by rfl, fun w hSw => by (try dsimp only at hSw); go_simp⟩) (by assumption) ?_
      simp only [Act.put, List.setIfInBounds_toArray, List.set_cons_zero, List.set_cons_succ]
      refine wpAnyH_take (i := 8) (oi := ⟨some 28, _, _, _, _, _⟩) (v := (.bool is)) rfl (by kernel_rfl) (by kernel_rfl) (by kernel_rfl) (fun _ _ _ h => h) (Or.inl ⟨by rfl, fun w hSw => by (try dsimp only at hSw); go_simp⟩) (by assumption) ?_
      simp only [Act.put, List.setIfInBounds_toArray, List.set_cons_zero, List.set_cons_succ]
      refine wpAnyH_ready (rs := [9]) (by kernel_rfl) (by simp) ?_
      refine AllReadyH.cons (o := ⟨some 9, _, _, _, _, _⟩) rfl (fun KK hK => ?_) AllReadyH.nil
      go_simp
      change KK _ (W1.alloc (.cells acc0.cells 41))
      have HL3 := Lib.hid (HL2.out.alloc (.cells acc0.cells 41))
      have HX3 := Lib.hid (HX.out.old (.cells acc0.cells 41))
      have HA3 := Lib.hid (Blk.new W1 acc0.cells 41 W1.heap.size rfl)
      have HB3 := Lib.hid (HB2.out.alloc HB2.out.size (.cells acc0.cells 41))
      clear HL2 HX HB2
      refine hK.out _ _ ⟨HL3.out.box.cell 0 rfl, HX3.out.cell 0 rfl, HX3.out.cell 1 rfl, HLK.out _ HL3.out.m1⟩ (fun hHeld => ?_)
      clear hK; try clear KK
      try simp only [Act.put, List.setIfInBounds_toArray, List.set_cons_zero, List.set_cons_succ]
      refine wpAnyH_ready (rs := [10]) (by kernel_rfl) (by simp) ?_
      refine AllReadyH.cons (o := ⟨none, _, _, _, _, _⟩) rfl (fun KK hK => ?_) AllReadyH.nil
      refine step_store_blk (by rfl) 41 _ _ (by rfl) W1.heap.size (by rfl) acc0.cells a.cells 41 HA3.out (by rfl) rfl (by kernel_rfl) (acc_one a) ?_
      have HL4 := Lib.hid (HL3.out.cells HA3.out (by omega) a.cells.toList 0)
      have HX4 := Lib.hid (show Blk ((W1.alloc (.cells acc0.cells 41)).setCells W1.heap.size 0 a.cells.toList) wr.heap.size (keyC (k1, k2)) 60 from Blk.Blk.apartAll _ 0 _ HX3.out (by omega))
      have HA4 := Lib.hid (HA3.out.setCells a.cells rfl)
      have HB4 := Lib.hid (Blk.Below.setCells (B := W1.heap.size) a.cells.toList 0 _ HB3.out (by have := HB.out.size; omega))
      clear HL3 HX3 HA3 HB3
      refine hK.out _ _ ⟨HL4.out.box.cell 0 rfl, HX4.out.cell 0 rfl, HX4.out.cell 1 rfl, HLK.out _ HL4.out.m1⟩ (fun hHeld => ?_)
      clear hK; try clear KK
      refine wpAnyH_take (i := 11) (oi := ⟨some 10, _, _, _, _, _⟩) (v := (.bool is)) rfl (by kernel_rfl) (by kernel_rfl) (by kernel_rfl) (fun _ _ _ h => h) (Or.inl ⟨by rfl, fun w hSw => by (try dsimp only at hSw); go_simp⟩) (by assumption) ?_
      simp only [Act.put, List.setIfInBounds_toArray, List.set_cons_zero, List.set_cons_succ]
      refine wpAnyH_done (by kernel_rfl) ?_ _
      generalize (W1.alloc (.cells acc0.cells 41)).setCells W1.heap.size 0 a.cells.toList = W2 at HL4 HX4 HA4 HB4 ⊢
      clear hHeld
      have c3 : W2.cell? ⟨W1.heap.size, 3, none⟩ = some (.int .i64 a.rest) := HA4.out.cell 3 rfl
      cases is with
      | false =>
        have HOK := Lib.hid (HNO.out (by rw [HRF.out]; rfl))
        go_wp2_with fail
        go_ret
        exact ⟨by rw [HOK.out]; rfl, by rw [HOK.out]; exact H.out.below HB4.out, Chg.of HB4.out⟩
      | true =>
        by_cases hq : q ≤ a.rest
        · have HR2 := Lib.hid (show restsF L.now (k1, k2) q = true by rw [HRF.out]; simp [hq])
          have g1 : ¬ a.rest < q := by omega
          go_wp2_with fail
          go_roundw
          case rel => exact ⟨k + 1, by omega, by go_num, HS.out HR2.out, HB4.out⟩
          case measure => simp [intOf]; omega
        · have HOK := Lib.hid (HNO.out (by rw [HRF.out]; simp [hq]))
          have g1 : a.rest < q := by omega
          clear hq
          go_wp2_with fail
          go_ret
          exact ⟨by rw [HOK.out]; rfl, by rw [HOK.out]; exact H.out.below HB4.out, Chg.of HB4.out⟩
    · obtain rfl : k = ks.length := by omega
      have HOK := Lib.hid (ok_yes (now := L.now) (q := q) (fun k hk => HP.out k hk hk))
      go_wp2_with fail
      go_loopw [40] (fun i wx => ∃ k : Nat, k ≤ ks.length ∧ i = .int .i64 (k : Int) ∧ LS wx D b1 b2 b3 ⟨fillF L.now q (ks.take k), L.early, L.aside⟩ ∧ Chg w.heap.size b1 w wx) (fun i _ => ks.length - (intOf i).toNat)
      case atStart => exact ⟨0, by omega, rfl, H.out.below HB.out, Chg.of HB.out⟩
      case round =>
        obtain ⟨k, hk, rfl, hls, hch⟩ := hrel
        have HL := Lib.hid hls
        have HC := Lib.hid hch
        clear hls hch HB HP hlt
        by_cases hlt : k < ks.length
        · have hkl : (k : Int) < (ks.length : Int) := by omega
          have hgb : g ≠ b1 := by
            rintro rfl
            have h1 := HR.out.2 0 (by omega) 0 (.int .i64 ks[0].1) rfl
            have h2 := H.out.m1
            obtain ⟨es, clock, h3, _⟩ := h2
            simp [World.cell?, h3] at h1
          have HK := Lib.hid (show wr.rangeAt g (k * 2) (keyC ks[k]).toList from fun j v hv => by
            rw [HC.out.cell (p := ⟨g, k * 2 + j, none⟩) HR.out.1 hgb]
            exact HR.out.2 k hlt j v hv)
          have hbd := HBD.out k hlt
          rw [List.getD_eq_getElem?_getD, List.getElem?_eq_getElem hlt, Option.getD_some] at hbd
          have HNX := Lib.hid (fill_next (now := L.now) (q := q) k hlt)
          generalize fillF L.now q (ks.take k) = nw at HL HNX hbd
          generalize ks[k] = kk at HK HNX hbd
          obtain ⟨k1, k2⟩ := kk
          have HX := Lib.hid (Blk.new wr (keyC (k1, k2)) 60 wr.heap.size rfl)
          have HL2 := Lib.hid (HL.out.alloc (.cells (keyC (k1, k2)) 60))
          have HC2 := Lib.hid (HC.out.alloc HC.out.size (.cells (keyC (k1, k2)) 60))
          have HLK := Lib.hid (fun W (hm : MapIs W b1 ke va nw) => look1' hm k1 k2)
          have HFK := Lib.hid (show fillK nw q (k1, k2) = mput (k1, k2) (fillA q ((mget (k1, k2) nw).getD acc0)) nw from rfl)
          have hDw : D < wr.heap.size := HL.out.box.lt
          have hw0 : w.heap.size ≤ wr.heap.size := HC.out.size
          clear hgb HL HC
          unfold keyC at HK
          go_upto_region 11 with (refine wpList_load_mid rfl 60 _ rfl _ _ rfl _ _ HK.out Try.underlying60 rfl (by kernel_rfl) ?_)
          change Code.wp _ _ _ _ (wr.alloc (.cells (keyC (k1, k2)) 60))
          clear HK
          refine wp_region_held_drew (S := (fun w' => w'.cell? ⟨D, 0, none⟩ = some (.map (some b1)) ∧ w'.cell? ⟨wr.heap.size, 0, none⟩ = some (.int .i64 k1) ∧ w'.cell? ⟨wr.heap.size, 1, none⟩ = some (.int .i64 k2) ∧ (Instr.lookup 47 (.map (some b1)) (.agg #[.int .i64 k1, .int .i64 k2]) false).run Try.prog w' = .ok (.agg ((mget (k1, k2) nw).getD acc0).cells) w')) (by kernel_rfl) ⟨HL2.out.box.cell 0 rfl, HX.out.cell 0 rfl, HX.out.cell 1 rfl, HLK.out _ HL2.out.m1.drew⟩ (fun hHeld => ?_)
          replace HL2 := Lib.hid HL2.out.drew
          replace HX := Lib.hid HX.out.drew
          replace HC2 := Lib.hid HC2.out.drew
          have hsz : wr.heap.size < (wr.alloc (.cells (keyC (k1, k2)) 60)).drew.heap.size := HX.out.lt
          generalize (wr.alloc (.cells (keyC (k1, k2)) 60)).drew = W1 at HL2 HX HC2 hHeld hsz ⊢
          generalize (mget (k1, k2) nw).getD acc0 = a at hHeld HLK HFK hbd
          refine wpAnyH_take (i := 0) (oi := ⟨some 44, _, _, _, _, _⟩) (v := (.pointer (some ⟨D, 0, none⟩))) rfl (by kernel_rfl) (by kernel_rfl) (by kernel_rfl) (fun _ _ _ h => h) (Or.inl ⟨by rfl, fun w hSw => by (try dsimp only at hSw); go_simp⟩) (by assumption) ?_
          simp only [Act.put, List.setIfInBounds_toArray, List.set_cons_zero, List.set_cons_succ]
          refine wpAnyH_take (i := 1) (oi := ⟨some 45, _, _, _, _, _⟩) (v := (.pointer (some ⟨D, 0, none⟩))) rfl (by kernel_rfl) (by kernel_rfl) (by kernel_rfl) (fun _ _ _ h => h) (Or.inl ⟨by rfl, fun w hSw => by (try dsimp only at hSw); go_simp⟩) (by assumption) ?_
          simp only [Act.put, List.setIfInBounds_toArray, List.set_cons_zero, List.set_cons_succ]
          refine wpAnyH_take (i := 2) (oi := ⟨some 46, _, _, _, _, _⟩) (v := (.pointer (some ⟨D, 0, none⟩))) rfl (by kernel_rfl) (by kernel_rfl) (by kernel_rfl) (fun _ _ _ h => h) (Or.inl ⟨by rfl, fun w hSw => by (try dsimp only at hSw); go_simp⟩) (by assumption) ?_
          simp only [Act.put, List.setIfInBounds_toArray, List.set_cons_zero, List.set_cons_succ]
          refine wpAnyH_take (i := 3) (oi := ⟨some 47, _, _, _, _, _⟩) (v := (.map (some b1))) rfl (by kernel_rfl) (by kernel_rfl) (by kernel_rfl) (fun _ _ _ h => h) (Or.inl ⟨by rfl, fun w hSw => by (try dsimp only at hSw); go_simp⟩) (by assumption) ?_
          simp only [Act.put, List.setIfInBounds_toArray, List.set_cons_zero, List.set_cons_succ]
          refine wpAnyH_take (i := 4) (oi := ⟨some 48, _, _, _, _, _⟩) (v := (.agg #[.int .i64 k1, .int .i64 k2])) rfl (by kernel_rfl) (by kernel_rfl) (by kernel_rfl) (fun _ _ _ h => h) (Or.inl ⟨by rfl, fun w hSw => by (try dsimp only at hSw); go_simp⟩) (by assumption) ?_
          simp only [Act.put, List.setIfInBounds_toArray, List.set_cons_zero, List.set_cons_succ]
          refine wpAnyH_take (i := 5) (oi := ⟨some 49, _, _, _, _, _⟩) (v := (.agg a.cells)) rfl (by kernel_rfl) (by kernel_rfl) (by kernel_rfl) (fun _ _ _ h => h) (Or.inl ⟨by rfl, fun w hSw => by (try dsimp only at hSw); go_simp⟩) (by assumption) ?_
          simp only [Act.put, List.setIfInBounds_toArray, List.set_cons_zero, List.set_cons_succ]
          refine wpAnyH_ready (rs := [6]) (by kernel_rfl) (by simp) ?_
          refine AllReadyH.cons (o := ⟨some 13, _, _, _, _, _⟩) rfl (fun KK hK => ?_) AllReadyH.nil
          go_simp
          change KK _ (W1.alloc (.cells acc0.cells 41))
          have HL3 := Lib.hid (HL2.out.alloc (.cells acc0.cells 41))
          have HX3 := Lib.hid (HX.out.old (.cells acc0.cells 41))
          have HA3 := Lib.hid (Blk.new W1 acc0.cells 41 W1.heap.size rfl)
          have HC3 := Lib.hid (HC2.out.alloc HC2.out.size (.cells acc0.cells 41))
          clear HL2 HX HC2
          refine hK.out _ _ ⟨HL3.out.box.cell 0 rfl, HX3.out.cell 0 rfl, HX3.out.cell 1 rfl, HLK.out _ HL3.out.m1⟩ (fun hHeld => ?_)
          clear hK; try clear KK
          try simp only [Act.put, List.setIfInBounds_toArray, List.set_cons_zero, List.set_cons_succ]
          refine wpAnyH_ready (rs := [7]) (by kernel_rfl) (by simp) ?_
          refine AllReadyH.cons (o := ⟨none, _, _, _, _, _⟩) rfl (fun KK hK => ?_) AllReadyH.nil
          refine step_store_blk (by rfl) 41 _ _ (by rfl) W1.heap.size (by rfl) acc0.cells a.cells 41 HA3.out (by rfl) rfl (by kernel_rfl) (acc_one a) ?_
          have HL4 := Lib.hid (HL3.out.cells HA3.out (by omega) a.cells.toList 0)
          have HX4 := Lib.hid (show Blk ((W1.alloc (.cells acc0.cells 41)).setCells W1.heap.size 0 a.cells.toList) wr.heap.size (keyC (k1, k2)) 60 from Blk.Blk.apartAll _ 0 _ HX3.out (by omega))
          have HA4 := Lib.hid (HA3.out.setCells a.cells rfl)
          have HC4 := Lib.hid (Chg.setCells (B := W1.heap.size) a.cells.toList 0 _ HC3.out (.inr (by omega)))
          clear HL3 HX3 HA3 HC3
          refine hK.out _ _ ⟨HL4.out.box.cell 0 rfl, HX4.out.cell 0 rfl, HX4.out.cell 1 rfl, HLK.out _ HL4.out.m1⟩ (fun hHeld => ?_)
          clear hK; try clear KK
          refine wpAnyH_done (by kernel_rfl) ?_ _
          generalize hW2 : (W1.alloc (.cells acc0.cells 41)).setCells W1.heap.size 0 a.cells.toList = W2 at HL4 HX4 HA4 HC4 ⊢
          generalize hA1 : W1.heap.size = A1 at HA4 hsz ⊢
          clear hHeld hW2 hA1
          have c3 : W2.cell? ⟨A1, 3, none⟩ = some (.int .i64 a.rest) := HA4.out.cell 3 rfl
          have c1 : W2.cell? ⟨A1, 1, none⟩ = some (.int .i64 a.filled) := HA4.out.cell 1 rfl
          have f3 := HA4.out.free 3
          have f1 := HA4.out.free 1
          obtain ⟨⟨x1, x2⟩, ⟨x3, x4⟩, ⟨x5, x6⟩, x7, x8⟩ := hbd
          obtain ⟨q1, q2⟩ := HQ.out
          go_upto_region 14 with fail
          have HL5 := Lib.hid (show LS ((W2.setCell ⟨A1, 3, none⟩ (.int .i64 (a.rest - q))).setCell ⟨A1, 1, none⟩ (.int .i64 (a.filled + q))) D b1 b2 b3 ⟨nw, L.early, L.aside⟩ from (HL4.out.cells HA4.out (by omega) [.int .i64 (a.rest - q)] 3).cells (HA4.out.set 3 _) (by omega) [.int .i64 (a.filled + q)] 1)
          have HX5 := Lib.hid (show Blk ((W2.setCell ⟨A1, 3, none⟩ (.int .i64 (a.rest - q))).setCell ⟨A1, 1, none⟩ (.int .i64 (a.filled + q))) wr.heap.size (keyC (k1, k2)) 60 from (HX4.out.apart _ _ (by show A1 ≠ _; omega)).apart _ _ (by show A1 ≠ _; omega))
          have HA5 := Lib.hid (show Blk ((W2.setCell ⟨A1, 3, none⟩ (.int .i64 (a.rest - q))).setCell ⟨A1, 1, none⟩ (.int .i64 (a.filled + q))) A1 (fillA q a).cells 41 from (HA4.out.set 3 _).set 1 _)
          have HC5 := Lib.hid (show Chg w.heap.size b1 w ((W2.setCell ⟨A1, 3, none⟩ (.int .i64 (a.rest - q))).setCell ⟨A1, 1, none⟩ (.int .i64 (a.filled + q))) from (HC4.out.setCell _ _ (.inr (by show _ ≤ A1; omega))).setCell _ _ (.inr (by show _ ≤ A1; omega)))
          change Code.wp _ _ _ _ ((W2.setCell ⟨A1, 3, none⟩ (.int .i64 (a.rest - q))).setCell ⟨A1, 1, none⟩ (.int .i64 (a.filled + q)))
          clear HL4 HX4 HA4 HC4 c3 c1 f3 f1
          generalize (W2.setCell ⟨A1, 3, none⟩ (.int .i64 (a.rest - q))).setCell ⟨A1, 1, none⟩ (.int .i64 (a.filled + q)) = W4 at HL5 HX5 HA5 HC5 ⊢
          have cD : W4.cell? ⟨D, 0, none⟩ = some (.map (some b1)) := HL5.out.box.cell 0 rfl
          have ck1 : W4.cell? ⟨wr.heap.size, 0, none⟩ = some (.int .i64 k1) := HX5.out.cell 0 rfl
          have ck2 : W4.cell? ⟨wr.heap.size, 1, none⟩ = some (.int .i64 k2) := HX5.out.cell 1 rfl
          have ca0 : W4.cell? ⟨A1, 0, none⟩ = some (.int .i64 a.asked) := HA5.out.cell 0 rfl
          have ca1 : W4.cell? ⟨A1, 1, none⟩ = some (.int .i64 (a.filled + q)) := HA5.out.cell 1 rfl
          have ca2 : W4.cell? ⟨A1, 2, none⟩ = some (.int .i64 a.gone) := HA5.out.cell 2 rfl
          have ca3 : W4.cell? ⟨A1, 3, none⟩ = some (.int .i64 (a.rest - q)) := HA5.out.cell 3 rfl
          obtain ⟨W5, hrun, hm5, hc5, hs5⟩ := put1 (show MapIs W4.drew b1 ke va nw from HL5.out.m1.drew) k1 k2 (fillA q a)
          have HL6 := Lib.hid (HL5.out.drew.set1 hm5 hc5)
          have HC6 := Lib.hid (HC5.out.drew.trans (hc5.mono HC5.out.size))
          unfold fillA Acc.cells at hrun
          clear hm5 hc5 hs5
          refine Go.Proofs.Ytmkcooamgojbpaa.Veil.start 6 (by kernel_rfl) (by kernel_rfl) ?_
          simp only [List.take_succ_cons, List.take_zero, List.drop_succ_cons, List.drop_zero]
          (refine Go.Proofs.Ytmkcooamgojbpaa.Veil.step (fun K hK => ?_); go_simp; refine hK _ ?_; clear hK K)
          (refine Go.Proofs.Ytmkcooamgojbpaa.Veil.step (fun K hK => ?_); go_simp; refine hK _ ?_; clear hK K)
          (refine Go.Proofs.Ytmkcooamgojbpaa.Veil.step (fun K hK => ?_); go_simp; refine hK _ ?_; clear hK K)
          (refine Go.Proofs.Ytmkcooamgojbpaa.Veil.step (fun K hK => ?_); go_simp; refine hK _ ?_; clear hK K)
          (refine Go.Proofs.Ytmkcooamgojbpaa.Veil.step (fun K hK => ?_); go_simp; refine hK _ ?_; clear hK K)
          (refine Go.Proofs.Ytmkcooamgojbpaa.Veil.step (fun K hK => ?_); go_simp; refine hK _ ?_; clear hK K)
          refine Go.Proofs.Ytmkcooamgojbpaa.Veil.nil ?_
          change wpList _ _ _ _ _ W4.drew
          clear cD ck1 ck2 ca0 ca1 ca2 ca3
          go_wp2_with fail
          go_roundw
          case rel => exact ⟨k + 1, by omega, by go_num, by rw [HNX.out, HFK.out]; exact HL6.out, HC6.out⟩
          case measure => simp [intOf]; omega
        · obtain rfl : k = ks.length := by omega
          rw [List.take_length] at HL
          go_wp2_with fail
          go_ret
          exact ⟨by rw [HOK.out]; rfl, by rw [HOK.out, if_pos rfl]; exact HL.out, HC.out⟩
end Go.Proofs.Ytmkcooamgojbpaa.Ledger
