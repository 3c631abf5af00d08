/- Parts of the proof: DepthL, Walk, LvlM. -/
import Derived.Test.YtogjgpiddjmpiaaPart2
import Derived.Test.YtogjgpiddjmpiaaPart3
import Derived.Deep.RegionHeld3
import Derived.Deep.DrawnRows
import Derived.Deep.DeepCutAuto
import Derived.Deep.CutBlock
import Derived.Test.YtogjgpiddjmpiaaPart1

/- (*depth.Depth).less. -/
namespace Go.Proofs.Ytogjgpiddjmpiaa.Depth
open Go.RowKit Go.Proofs.Ytogjgpiddjmpiaa.Kit Go.Proofs.Ytogjgpiddjmpiaa.Blk Go.Proofs.Ytogjgpiddjmpiaa.Mp
attribute [local go_sem ↓] Go.wp_at_zero Go.wp_at_succ
set_option linter.unusedVariables false

/-- Where 'less' stands: the depth, the boxed key, the row's variable; only the map's block has changed. -/
structure LS (w : World) (D b : Nat) (k1 k2 : Int) (xb : Nat) (W : World) (L : List (Key × Rest)) (xc : Array Value) : Prop where
  ds : DS W D b L
  kb : Blk W w.heap.size #[.int .i64 k1, .int .i64 k2] 164
  x : Blk W xb xc 166
  chg : Chg w.heap.size b w W
  ltD : D < w.heap.size
  ltb : b < w.heap.size
  gex : w.heap.size < xb
section
variable {w W W' : World} {D b xb : Nat} {k1 k2 : Int} {L L' : List (Key × Rest)} {xc : Array Value}
theorem LS.drew (h : LS w D b k1 k2 xb W L xc) : LS w D b k1 k2 xb W.drew L xc := ⟨h.ds.drew, h.kb, h.x, h.chg.drew, h.ltD, h.ltb, h.gex⟩
theorem LS.mput (h : LS w D b k1 k2 xb W L xc) (vs : Array Value) (hs : vs.size = xc.size) : LS w D b k1 k2 xb (W.setCells xb 0 vs.toList) L vs :=
  have h1 := h.ltD; have h2 := h.gex
  ⟨h.ds.cells h.x (by omega) _ _, h.kb.apartAll _ _ _ (by omega), h.x.setCells vs hs, h.chg.setCells _ _ _ (.inr (by omega)), h.ltD, h.ltb, h.gex⟩
theorem LS.set (h : LS w D b k1 k2 xb W L xc) (j : Nat) (v : Value) : LS w D b k1 k2 xb (W.setCell ⟨xb, j, none⟩ v) L (xc.setIfInBounds j v) :=
  have h1 := h.ltD; have h2 := h.gex
  ⟨h.ds.cells h.x (by omega) [v] j, h.kb.apart _ _ (by show xb ≠ _; omega), h.x.set j v, h.chg.setCell _ _ (.inr (by show _ ≤ xb; omega)), h.ltD, h.ltb, h.gex⟩
theorem LS.turn (h : LS w D b k1 k2 xb W L xc) (hm : MapIs W' b ke ve L') (hc : Chg W.heap.size b W W') : LS w D b k1 k2 xb W' L' xc :=
  have h1 := h.ltb; have h2 := h.gex
  ⟨h.ds.turn hm hc, hc.blk h.kb.lt (by omega) h.kb, hc.blk h.x.lt (by omega) h.x, h.chg.trans (hc.mono h.chg.size), h.ltD, h.ltb, h.gex⟩
end
theorem one_rest (r : Rest) : r.cells.all (·.oneCell') = true := by simp [Rest.cells, Value.oneCell']
def restZ : Array Value := #[.int .i64 0, .int .i64 0, .int .i64 0]

/-- What less answers. -/
def LessIs (L : List (Key × Rest)) (k : Key) (q : Int) (D b : Nat) (w : World) (e : Ending) (w' : World) : Prop :=
  e = .returned (.bool (lessF L k q).2) ∧ DS w' D b (lessF L k q).1 ∧ Chg w.heap.size b w w'

set_option maxRecDepth 20000 in
set_option maxHeartbeats 2000000 in
theorem less_none (D b : Nat) (L : List (Key × Rest)) (k1 k2 q : Int) (w : World) (h : DS w D b L) (hk : mget (k1, k2) L = none) :
    Calls Try.prog 81 #[.pointer (some ⟨D, 0, none⟩), .agg #[.int .i64 k1, .int .i64 k2], .int .i64 q] w (LessIs L (k1, k2) q D b w) := by
  have HD0 := Lib.hid (h.alloc (.cells #[.int .i64 k1, .int .i64 k2] 164))
  have HK0 := Lib.hid (Blk.new w #[.int .i64 k1, .int .i64 k2] 164 w.heap.size rfl)
  have HC0 := Lib.hid (show Chg w.heap.size b w (w.alloc (.cells #[.int .i64 k1, .int .i64 k2] 164)) from (Chg.refl _ _ _).alloc (Nat.le_refl _) _)
  have hD := h.box.lt
  have hb := h.map.lt
  have HL := Lib.hid (fun W (hm : MapIs W b ke ve L) => show (Instr.lookup 160 (.map (some b)) (.agg #[.int .i64 k1, .int .i64 k2]) true).run Try.prog W = .ok (.tuple #[.agg #[.int .i64 (0), .int .i64 (0), .int .i64 (0)], .bool false]) W by have := look_at hm k1 k2; rw [hk] at this; exact this)
  have HK := Lib.hid hk
  clear h hk
  go_enter Try.func81, Try.ntmps81
  go_upto_region 1 with fail
  refine wp_region_held_drew (S := (fun w' => w'.cell? ⟨D, 0, none⟩ = some (.map (some b)) ∧ w'.cell? ⟨w.heap.size, 0, none⟩ = some (.int .i64 k1) ∧ w'.cell? ⟨w.heap.size, 1, none⟩ = some (.int .i64 k2) ∧ (Instr.lookup 160 (.map (some b)) (.agg #[.int .i64 k1, .int .i64 k2]) true).run Try.prog w' = .ok (.tuple #[.agg #[.int .i64 (0), .int .i64 (0), .int .i64 (0)], .bool false]) w')) (by kernel_rfl) ⟨HD0.out.box.cell 0 rfl, HK0.out.cell 0 rfl, HK0.out.cell 1 rfl, HL.out _ HD0.out.map.drew⟩ (fun hHeld => ?_)
  replace HD0 := Lib.hid HD0.out.drew
  replace HK0 := Lib.hid HK0.out.drew
  replace HC0 := Lib.hid HC0.out.drew
  have hsz : w.heap.size < (w.alloc (.cells #[.int .i64 k1, .int .i64 k2] 164)).drew.heap.size := HK0.out.lt
  generalize (w.alloc (.cells #[.int .i64 k1, .int .i64 k2] 164)).drew = W1 at HD0 HK0 HC0 hHeld hsz ⊢
  refine wpAnyH_take (i := 0) (oi := ⟨some 10, _, _, _, _, _⟩) (v := (.pointer (some ⟨D, 0, none⟩))) rfl (by kernel_rfl) (by kernel_rfl) (by kernel_rfl) (fun _ _ _ h => h) (Or.inl ⟨by rfl, fun w hSw => by (try dsimp only at hSw); go_simp⟩) (by assumption) ?_
  simp only [Act.put, List.setIfInBounds_toArray, List.set_cons_zero, List.set_cons_succ]
  refine wpAnyH_take (i := 1) (oi := ⟨some 11, _, _, _, _, _⟩) (v := (.pointer (some ⟨D, 0, none⟩))) rfl (by kernel_rfl) (by kernel_rfl) (by kernel_rfl) (fun _ _ _ h => h) (Or.inl ⟨by rfl, fun w hSw => by (try dsimp only at hSw); go_simp⟩) (by assumption) ?_
  simp only [Act.put, List.setIfInBounds_toArray, List.set_cons_zero, List.set_cons_succ]
  refine wpAnyH_take (i := 2) (oi := ⟨some 12, _, _, _, _, _⟩) (v := (.pointer (some ⟨D, 0, none⟩))) rfl (by kernel_rfl) (by kernel_rfl) (by kernel_rfl) (fun _ _ _ h => h) (Or.inl ⟨by rfl, fun w hSw => by (try dsimp only at hSw); go_simp⟩) (by assumption) ?_
  simp only [Act.put, List.setIfInBounds_toArray, List.set_cons_zero, List.set_cons_succ]
  refine wpAnyH_take (i := 3) (oi := ⟨some 13, _, _, _, _, _⟩) (v := (.map (some b))) rfl (by kernel_rfl) (by kernel_rfl) (by kernel_rfl) (fun _ _ _ h => h) (Or.inl ⟨by rfl, fun w hSw => by (try dsimp only at hSw); go_simp⟩) (by assumption) ?_
  simp only [Act.put, List.setIfInBounds_toArray, List.set_cons_zero, List.set_cons_succ]
  refine wpAnyH_take (i := 4) (oi := ⟨some 14, _, _, _, _, _⟩) (v := (.agg #[.int .i64 k1, .int .i64 k2])) rfl (by kernel_rfl) (by kernel_rfl) (by kernel_rfl) (fun _ _ _ h => h) (Or.inl ⟨by rfl, fun w hSw => by (try dsimp only at hSw); go_simp⟩) (by assumption) ?_
  simp only [Act.put, List.setIfInBounds_toArray, List.set_cons_zero, List.set_cons_succ]
  refine wpAnyH_take (i := 5) (oi := ⟨some 15, _, _, _, _, _⟩) (v := (.tuple #[.agg #[.int .i64 (0), .int .i64 (0), .int .i64 (0)], .bool false])) rfl (by kernel_rfl) (by kernel_rfl) (by kernel_rfl) (fun _ _ _ h => h) (Or.inl ⟨by rfl, fun w hSw => by (try dsimp only at hSw); go_simp⟩) (by assumption) ?_
  simp only [Act.put, List.setIfInBounds_toArray, List.set_cons_zero, List.set_cons_succ]
  refine wpAnyH_take (i := 6) (oi := ⟨some 9, _, _, _, _, _⟩) (v := (.tuple #[.agg #[.int .i64 (0), .int .i64 (0), .int .i64 (0)], .bool false])) rfl (by kernel_rfl) (by kernel_rfl) (by kernel_rfl) (fun _ _ _ h => h) (Or.inl ⟨by rfl, fun w hSw => by (try dsimp only at hSw); go_simp⟩) (by assumption) ?_
  simp only [Act.put, List.setIfInBounds_toArray, List.set_cons_zero, List.set_cons_succ]
  refine wpAnyH_take (i := 7) (oi := ⟨some 16, _, _, _, _, _⟩) (v := (.agg #[.int .i64 (0), .int .i64 (0), .int .i64 (0)])) rfl (by kernel_rfl) (by kernel_rfl) (by kernel_rfl) (fun _ _ _ h => h) (Or.inl ⟨by rfl, fun w hSw => by (try dsimp only at hSw); go_simp⟩) (by assumption) ?_
  simp only [Act.put, List.setIfInBounds_toArray, List.set_cons_zero, List.set_cons_succ]
  refine wpAnyH_take (i := 8) (oi := ⟨some 17, _, _, _, _, _⟩) (v := (.bool false)) rfl (by kernel_rfl) (by kernel_rfl) (by kernel_rfl) (fun _ _ _ h => h) (Or.inl ⟨by rfl, fun w hSw => by (try dsimp only at hSw); go_simp⟩) (by assumption) ?_
  simp only [Act.put, List.setIfInBounds_toArray, List.set_cons_zero, List.set_cons_succ]
  refine wpAnyH_ready (rs := [9]) (by kernel_rfl) (by simp) ?_
  refine AllReadyH.cons (o := ⟨some 7, _, _, _, _, _⟩) rfl (fun KK hK => ?_) AllReadyH.nil
  go_simp
  change KK _ (W1.alloc (.cells restZ 166))
  have HS : Hid (LS w D b k1 k2 W1.heap.size (W1.alloc (.cells restZ 166)) L restZ) := Lib.hid ⟨HD0.out.alloc _, HK0.out.old _, Blk.new _ _ _ _ rfl, HC0.out.alloc HC0.out.size _, hD, hb, hsz⟩
  refine hK.out _ _ ⟨HS.out.ds.box.cell 0 rfl, HS.out.kb.cell 0 rfl, HS.out.kb.cell 1 rfl, HL.out _ HS.out.ds.map⟩ (fun hHeld => ?_)
  clear hK; try clear KK
  try simp only [Act.put, List.setIfInBounds_toArray, List.set_cons_zero, List.set_cons_succ]
  refine wpAnyH_ready (rs := [10]) (by kernel_rfl) (by simp) ?_
  refine AllReadyH.cons (o := ⟨none, _, _, _, _, _⟩) rfl (fun KK hK => ?_) AllReadyH.nil
  refine step_store_blk (by rfl) 166 _ _ (by rfl) W1.heap.size (by rfl) restZ #[.int .i64 (0), .int .i64 (0), .int .i64 (0)] 166 HS.out.x (by rfl) rfl (by kernel_rfl) (one_rest ⟨0, 0, 0⟩) ?_
  replace HS := Lib.hid (HS.out.mput #[.int .i64 (0), .int .i64 (0), .int .i64 (0)] rfl)
  refine hK.out _ _ ⟨HS.out.ds.box.cell 0 rfl, HS.out.kb.cell 0 rfl, HS.out.kb.cell 1 rfl, HL.out _ HS.out.ds.map⟩ (fun hHeld => ?_)
  clear hK; try clear KK
  refine wpAnyH_take (i := 11) (oi := ⟨some 8, _, _, _, _, _⟩) (v := (.bool false)) rfl (by kernel_rfl) (by kernel_rfl) (by kernel_rfl) (fun _ _ _ h => h) (Or.inl ⟨by rfl, fun w hSw => by (try dsimp only at hSw); go_simp⟩) (by assumption) ?_
  simp only [Act.put, List.setIfInBounds_toArray, List.set_cons_zero, List.set_cons_succ]
  refine wpAnyH_done (by kernel_rfl) ?_ _
  generalize hW2 : World.setCells (W1.alloc (.cells restZ 166)) W1.heap.size 0 #[.int .i64 (0), .int .i64 (0), .int .i64 (0)].toList = W2 at HS hHeld ⊢
  clear hW2 hHeld HD0 HK0 HC0
  generalize W1.heap.size = xb at HS hsz ⊢
  go_wp2_with fail
  go_ret
  have e : lessF L (k1, k2) q = (L, false) := by unfold lessF; rw [HK.out]
  exact ⟨by (show Ending.returned (.bool false) = _; rw [e]), by rw [e]; exact HS.out.ds, HS.out.chg⟩

set_option maxRecDepth 20000 in
set_option maxHeartbeats 4000000 in
theorem less_some (D b : Nat) (L : List (Key × Rest)) (k1 k2 q : Int) (x : Rest) (w : World) (h : DS w D b L) (hk : mget (k1, k2) L = some x) (hq0 : -9223372036854775808 ≤ x.qty - q) (hq1 : x.qty - q ≤ 9223372036854775807) :
    Calls Try.prog 81 #[.pointer (some ⟨D, 0, none⟩), .agg #[.int .i64 k1, .int .i64 k2], .int .i64 q] w (LessIs L (k1, k2) q D b w) := by
  have HD0 := Lib.hid (h.alloc (.cells #[.int .i64 k1, .int .i64 k2] 164))
  have HK0 := Lib.hid (Blk.new w #[.int .i64 k1, .int .i64 k2] 164 w.heap.size rfl)
  have HC0 := Lib.hid (show Chg w.heap.size b w (w.alloc (.cells #[.int .i64 k1, .int .i64 k2] 164)) from (Chg.refl _ _ _).alloc (Nat.le_refl _) _)
  have hD := h.box.lt
  have hb := h.map.lt
  have HL := Lib.hid (fun W (hm : MapIs W b ke ve L) => show (Instr.lookup 160 (.map (some b)) (.agg #[.int .i64 k1, .int .i64 k2]) true).run Try.prog W = .ok (.tuple #[.agg #[.int .i64 (x.side), .int .i64 (x.price), .int .i64 (x.qty)], .bool true]) W by have := look_at hm k1 k2; rw [hk] at this; exact this)
  have HK := Lib.hid hk
  clear h hk
  go_enter Try.func81, Try.ntmps81
  go_upto_region 1 with fail
  refine wp_region_held_drew (S := (fun w' => w'.cell? ⟨D, 0, none⟩ = some (.map (some b)) ∧ w'.cell? ⟨w.heap.size, 0, none⟩ = some (.int .i64 k1) ∧ w'.cell? ⟨w.heap.size, 1, none⟩ = some (.int .i64 k2) ∧ (Instr.lookup 160 (.map (some b)) (.agg #[.int .i64 k1, .int .i64 k2]) true).run Try.prog w' = .ok (.tuple #[.agg #[.int .i64 (x.side), .int .i64 (x.price), .int .i64 (x.qty)], .bool true]) w')) (by kernel_rfl) ⟨HD0.out.box.cell 0 rfl, HK0.out.cell 0 rfl, HK0.out.cell 1 rfl, HL.out _ HD0.out.map.drew⟩ (fun hHeld => ?_)
  replace HD0 := Lib.hid HD0.out.drew
  replace HK0 := Lib.hid HK0.out.drew
  replace HC0 := Lib.hid HC0.out.drew
  have hsz : w.heap.size < (w.alloc (.cells #[.int .i64 k1, .int .i64 k2] 164)).drew.heap.size := HK0.out.lt
  generalize (w.alloc (.cells #[.int .i64 k1, .int .i64 k2] 164)).drew = W1 at HD0 HK0 HC0 hHeld hsz ⊢
  refine wpAnyH_take (i := 0) (oi := ⟨some 10, _, _, _, _, _⟩) (v := (.pointer (some ⟨D, 0, none⟩))) rfl (by kernel_rfl) (by kernel_rfl) (by kernel_rfl) (fun _ _ _ h => h) (Or.inl ⟨by rfl, fun w hSw => by (try dsimp only at hSw); go_simp⟩) (by assumption) ?_
  simp only [Act.put, List.setIfInBounds_toArray, List.set_cons_zero, List.set_cons_succ]
  refine wpAnyH_take (i := 1) (oi := ⟨some 11, _, _, _, _, _⟩) (v := (.pointer (some ⟨D, 0, none⟩))) rfl (by kernel_rfl) (by kernel_rfl) (by kernel_rfl) (fun _ _ _ h => h) (Or.inl ⟨by rfl, fun w hSw => by (try dsimp only at hSw); go_simp⟩) (by assumption) ?_
  simp only [Act.put, List.setIfInBounds_toArray, List.set_cons_zero, List.set_cons_succ]
  refine wpAnyH_take (i := 2) (oi := ⟨some 12, _, _, _, _, _⟩) (v := (.pointer (some ⟨D, 0, none⟩))) rfl (by kernel_rfl) (by kernel_rfl) (by kernel_rfl) (fun _ _ _ h => h) (Or.inl ⟨by rfl, fun w hSw => by (try dsimp only at hSw); go_simp⟩) (by assumption) ?_
  simp only [Act.put, List.setIfInBounds_toArray, List.set_cons_zero, List.set_cons_succ]
  refine wpAnyH_take (i := 3) (oi := ⟨some 13, _, _, _, _, _⟩) (v := (.map (some b))) rfl (by kernel_rfl) (by kernel_rfl) (by kernel_rfl) (fun _ _ _ h => h) (Or.inl ⟨by rfl, fun w hSw => by (try dsimp only at hSw); go_simp⟩) (by assumption) ?_
  simp only [Act.put, List.setIfInBounds_toArray, List.set_cons_zero, List.set_cons_succ]
  refine wpAnyH_take (i := 4) (oi := ⟨some 14, _, _, _, _, _⟩) (v := (.agg #[.int .i64 k1, .int .i64 k2])) rfl (by kernel_rfl) (by kernel_rfl) (by kernel_rfl) (fun _ _ _ h => h) (Or.inl ⟨by rfl, fun w hSw => by (try dsimp only at hSw); go_simp⟩) (by assumption) ?_
  simp only [Act.put, List.setIfInBounds_toArray, List.set_cons_zero, List.set_cons_succ]
  refine wpAnyH_take (i := 5) (oi := ⟨some 15, _, _, _, _, _⟩) (v := (.tuple #[.agg #[.int .i64 (x.side), .int .i64 (x.price), .int .i64 (x.qty)], .bool true])) rfl (by kernel_rfl) (by kernel_rfl) (by kernel_rfl) (fun _ _ _ h => h) (Or.inl ⟨by rfl, fun w hSw => by (try dsimp only at hSw); go_simp⟩) (by assumption) ?_
  simp only [Act.put, List.setIfInBounds_toArray, List.set_cons_zero, List.set_cons_succ]
  refine wpAnyH_take (i := 6) (oi := ⟨some 9, _, _, _, _, _⟩) (v := (.tuple #[.agg #[.int .i64 (x.side), .int .i64 (x.price), .int .i64 (x.qty)], .bool true])) rfl (by kernel_rfl) (by kernel_rfl) (by kernel_rfl) (fun _ _ _ h => h) (Or.inl ⟨by rfl, fun w hSw => by (try dsimp only at hSw); go_simp⟩) (by assumption) ?_
  simp only [Act.put, List.setIfInBounds_toArray, List.set_cons_zero, List.set_cons_succ]
  refine wpAnyH_take (i := 7) (oi := ⟨some 16, _, _, _, _, _⟩) (v := (.agg #[.int .i64 (x.side), .int .i64 (x.price), .int .i64 (x.qty)])) rfl (by kernel_rfl) (by kernel_rfl) (by kernel_rfl) (fun _ _ _ h => h) (Or.inl ⟨by rfl, fun w hSw => by (try dsimp only at hSw); go_simp⟩) (by assumption) ?_
  simp only [Act.put, List.setIfInBounds_toArray, List.set_cons_zero, List.set_cons_succ]
  refine wpAnyH_take (i := 8) (oi := ⟨some 17, _, _, _, _, _⟩) (v := (.bool true)) rfl (by kernel_rfl) (by kernel_rfl) (by kernel_rfl) (fun _ _ _ h => h) (Or.inl ⟨by rfl, fun w hSw => by (try dsimp only at hSw); go_simp⟩) (by assumption) ?_
  simp only [Act.put, List.setIfInBounds_toArray, List.set_cons_zero, List.set_cons_succ]
  refine wpAnyH_ready (rs := [9]) (by kernel_rfl) (by simp) ?_
  refine AllReadyH.cons (o := ⟨some 7, _, _, _, _, _⟩) rfl (fun KK hK => ?_) AllReadyH.nil
  go_simp
  change KK _ (W1.alloc (.cells restZ 166))
  have HS : Hid (LS w D b k1 k2 W1.heap.size (W1.alloc (.cells restZ 166)) L restZ) := Lib.hid ⟨HD0.out.alloc _, HK0.out.old _, Blk.new _ _ _ _ rfl, HC0.out.alloc HC0.out.size _, hD, hb, hsz⟩
  refine hK.out _ _ ⟨HS.out.ds.box.cell 0 rfl, HS.out.kb.cell 0 rfl, HS.out.kb.cell 1 rfl, HL.out _ HS.out.ds.map⟩ (fun hHeld => ?_)
  clear hK; try clear KK
  try simp only [Act.put, List.setIfInBounds_toArray, List.set_cons_zero, List.set_cons_succ]
  refine wpAnyH_ready (rs := [10]) (by kernel_rfl) (by simp) ?_
  refine AllReadyH.cons (o := ⟨none, _, _, _, _, _⟩) rfl (fun KK hK => ?_) AllReadyH.nil
  refine step_store_blk (by rfl) 166 _ _ (by rfl) W1.heap.size (by rfl) restZ #[.int .i64 (x.side), .int .i64 (x.price), .int .i64 (x.qty)] 166 HS.out.x (by rfl) rfl (by kernel_rfl) (one_rest ⟨x.side, x.price, x.qty⟩) ?_
  replace HS := Lib.hid (HS.out.mput #[.int .i64 (x.side), .int .i64 (x.price), .int .i64 (x.qty)] rfl)
  refine hK.out _ _ ⟨HS.out.ds.box.cell 0 rfl, HS.out.kb.cell 0 rfl, HS.out.kb.cell 1 rfl, HL.out _ HS.out.ds.map⟩ (fun hHeld => ?_)
  clear hK; try clear KK
  refine wpAnyH_take (i := 11) (oi := ⟨some 8, _, _, _, _, _⟩) (v := (.bool true)) rfl (by kernel_rfl) (by kernel_rfl) (by kernel_rfl) (fun _ _ _ h => h) (Or.inl ⟨by rfl, fun w hSw => by (try dsimp only at hSw); go_simp⟩) (by assumption) ?_
  simp only [Act.put, List.setIfInBounds_toArray, List.set_cons_zero, List.set_cons_succ]
  refine wpAnyH_done (by kernel_rfl) ?_ _
  generalize hW2 : World.setCells (W1.alloc (.cells restZ 166)) W1.heap.size 0 #[.int .i64 (x.side), .int .i64 (x.price), .int .i64 (x.qty)].toList = W2 at HS hHeld ⊢
  clear hW2 hHeld HD0 HK0 HC0
  generalize W1.heap.size = xb at HS hsz ⊢
  by_cases hpos : 0 < x.qty - q
  · have x2 : W2.cell? ⟨xb, 2, none⟩ = some (.int .i64 x.qty) := HS.out.x.cell 2 rfl
    have f2 : W2.frozen? ⟨xb, 2, none⟩ = false := HS.out.x.free 2
    have HS3 := Lib.hid (HS.out.set 2 (.int .i64 (x.qty - q)))
    go_upto_region 5 with fail
    generalize hW3 : W2.setCell ⟨xb, 2, none⟩ (.int .i64 (x.qty - q)) = W3 at HS3 ⊢
    clear hW3 x2 f2 HS
    have x2 : W3.cell? ⟨xb, 2, none⟩ = some (.int .i64 (x.qty - q)) := HS3.out.x.cell 2 rfl
    go_upto_region 6 with fail
    refine wp_region_held_drew (S := (fun w' => w'.cell? ⟨D, 0, none⟩ = some (.map (some b)) ∧ w'.cell? ⟨w.heap.size, 0, none⟩ = some (.int .i64 k1) ∧ w'.cell? ⟨w.heap.size, 1, none⟩ = some (.int .i64 k2) ∧ w'.cell? ⟨xb, 0, none⟩ = some (.int .i64 x.side) ∧ w'.cell? ⟨xb, 1, none⟩ = some (.int .i64 x.price) ∧ w'.cell? ⟨xb, 2, none⟩ = some (.int .i64 (x.qty - q)))) (by kernel_rfl) ⟨HS3.out.ds.box.cell 0 rfl, HS3.out.kb.cell 0 rfl, HS3.out.kb.cell 1 rfl, HS3.out.x.cell 0 rfl, HS3.out.x.cell 1 rfl, HS3.out.x.cell 2 rfl⟩ (fun hHeld => ?_)
    replace HS3 := Lib.hid HS3.out.drew
    generalize W3.drew = W4 at HS3 hHeld ⊢
    refine wpAnyH_take (i := 0) (oi := ⟨some 28, _, _, _, _, _⟩) (v := (.pointer (some ⟨D, 0, none⟩))) rfl (by kernel_rfl) (by kernel_rfl) (by kernel_rfl) (fun _ _ _ h => h) (Or.inl ⟨by rfl, fun w hSw => by (try dsimp only at hSw); go_simp⟩) (by assumption) ?_
    simp only [Act.put, List.setIfInBounds_toArray, List.set_cons_zero, List.set_cons_succ]
    refine wpAnyH_take (i := 1) (oi := ⟨some 29, _, _, _, _, _⟩) (v := (.pointer (some ⟨D, 0, none⟩))) rfl (by kernel_rfl) (by kernel_rfl) (by kernel_rfl) (fun _ _ _ h => h) (Or.inl ⟨by rfl, fun w hSw => by (try dsimp only at hSw); go_simp⟩) (by assumption) ?_
    simp only [Act.put, List.setIfInBounds_toArray, List.set_cons_zero, List.set_cons_succ]
    refine wpAnyH_take (i := 2) (oi := ⟨some 30, _, _, _, _, _⟩) (v := (.pointer (some ⟨D, 0, none⟩))) rfl (by kernel_rfl) (by kernel_rfl) (by kernel_rfl) (fun _ _ _ h => h) (Or.inl ⟨by rfl, fun w hSw => by (try dsimp only at hSw); go_simp⟩) (by assumption) ?_
    simp only [Act.put, List.setIfInBounds_toArray, List.set_cons_zero, List.set_cons_succ]
    refine wpAnyH_take (i := 3) (oi := ⟨some 31, _, _, _, _, _⟩) (v := (.map (some b))) rfl (by kernel_rfl) (by kernel_rfl) (by kernel_rfl) (fun _ _ _ h => h) (Or.inl ⟨by rfl, fun w hSw => by (try dsimp only at hSw); go_simp⟩) (by assumption) ?_
    simp only [Act.put, List.setIfInBounds_toArray, List.set_cons_zero, List.set_cons_succ]
    refine wpAnyH_take (i := 4) (oi := ⟨some 32, _, _, _, _, _⟩) (v := (.agg #[.int .i64 k1, .int .i64 k2])) rfl (by kernel_rfl) (by kernel_rfl) (by kernel_rfl) (fun _ _ _ h => h) (Or.inl ⟨by rfl, fun w hSw => by (try dsimp only at hSw); go_simp⟩) (by assumption) ?_
    simp only [Act.put, List.setIfInBounds_toArray, List.set_cons_zero, List.set_cons_succ]
    refine wpAnyH_take (i := 5) (oi := ⟨some 33, _, _, _, _, _⟩) (v := (.agg #[.int .i64 x.side, .int .i64 x.price, .int .i64 (x.qty - q)])) rfl (by kernel_rfl) (by kernel_rfl) (by kernel_rfl) (fun _ _ _ h => h) (Or.inl ⟨by rfl, fun w hSw => by (try dsimp only at hSw); go_simp⟩) (by assumption) ?_
    simp only [Act.put, List.setIfInBounds_toArray, List.set_cons_zero, List.set_cons_succ]
    obtain ⟨W5, hrun, hm5, hc5, -⟩ := put_at HS3.out.ds.map k1 k2 x.side x.price (x.qty - q)
    have HS5 := Lib.hid (HS3.out.turn hm5 hc5)
    clear hm5 hc5
    refine wpAnyH_ready (rs := [6]) (by kernel_rfl) (by simp) ?_
    refine AllReadyH.cons (o := ⟨none, _, _, _, _, _⟩) rfl (fun KK hK => ?_) AllReadyH.nil
    go_simp
    clear hrun
    refine hK.out _ _ ⟨HS5.out.ds.box.cell 0 rfl, HS5.out.kb.cell 0 rfl, HS5.out.kb.cell 1 rfl, HS5.out.x.cell 0 rfl, HS5.out.x.cell 1 rfl, HS5.out.x.cell 2 rfl⟩ (fun hHeld => ?_)
    clear hK; try clear KK
    refine wpAnyH_done (by kernel_rfl) ?_ _
    go_wp2_with fail
    go_ret
    have e : lessF L (k1, k2) q = (mput (k1, k2) ⟨x.side, x.price, x.qty - q⟩ L, true) := by unfold lessF; rw [HK.out]; exact if_pos (by omega)
    exact ⟨by (show Ending.returned (.bool true) = _; rw [e]), by rw [e]; exact HS5.out.ds, HS5.out.chg⟩
  · have x2 : W2.cell? ⟨xb, 2, none⟩ = some (.int .i64 x.qty) := HS.out.x.cell 2 rfl
    have f2 : W2.frozen? ⟨xb, 2, none⟩ = false := HS.out.x.free 2
    have HS3 := Lib.hid (HS.out.set 2 (.int .i64 (x.qty - q)))
    go_upto_region 5 with fail
    generalize hW3 : W2.setCell ⟨xb, 2, none⟩ (.int .i64 (x.qty - q)) = W3 at HS3 ⊢
    clear hW3 x2 f2 HS
    have x2 : W3.cell? ⟨xb, 2, none⟩ = some (.int .i64 (x.qty - q)) := HS3.out.x.cell 2 rfl
    go_upto_region 7 with fail
    refine wp_region_held_drew (S := (fun w' => w'.cell? ⟨D, 0, none⟩ = some (.map (some b)) ∧ w'.cell? ⟨w.heap.size, 0, none⟩ = some (.int .i64 k1) ∧ w'.cell? ⟨w.heap.size, 1, none⟩ = some (.int .i64 k2))) (by kernel_rfl) ⟨HS3.out.ds.box.cell 0 rfl, HS3.out.kb.cell 0 rfl, HS3.out.kb.cell 1 rfl⟩ (fun hHeld => ?_)
    replace HS3 := Lib.hid HS3.out.drew
    generalize W3.drew = W4 at HS3 hHeld ⊢
    refine wpAnyH_take (i := 0) (oi := ⟨some 34, _, _, _, _, _⟩) (v := (.pointer (some ⟨D, 0, none⟩))) rfl (by kernel_rfl) (by kernel_rfl) (by kernel_rfl) (fun _ _ _ h => h) (Or.inl ⟨by rfl, fun w hSw => by (try dsimp only at hSw); go_simp⟩) (by assumption) ?_
    simp only [Act.put, List.setIfInBounds_toArray, List.set_cons_zero, List.set_cons_succ]
    refine wpAnyH_take (i := 1) (oi := ⟨some 35, _, _, _, _, _⟩) (v := (.pointer (some ⟨D, 0, none⟩))) rfl (by kernel_rfl) (by kernel_rfl) (by kernel_rfl) (fun _ _ _ h => h) (Or.inl ⟨by rfl, fun w hSw => by (try dsimp only at hSw); go_simp⟩) (by assumption) ?_
    simp only [Act.put, List.setIfInBounds_toArray, List.set_cons_zero, List.set_cons_succ]
    refine wpAnyH_take (i := 2) (oi := ⟨some 36, _, _, _, _, _⟩) (v := (.pointer (some ⟨D, 0, none⟩))) rfl (by kernel_rfl) (by kernel_rfl) (by kernel_rfl) (fun _ _ _ h => h) (Or.inl ⟨by rfl, fun w hSw => by (try dsimp only at hSw); go_simp⟩) (by assumption) ?_
    simp only [Act.put, List.setIfInBounds_toArray, List.set_cons_zero, List.set_cons_succ]
    refine wpAnyH_take (i := 3) (oi := ⟨some 37, _, _, _, _, _⟩) (v := (.map (some b))) rfl (by kernel_rfl) (by kernel_rfl) (by kernel_rfl) (fun _ _ _ h => h) (Or.inl ⟨by rfl, fun w hSw => by (try dsimp only at hSw); go_simp⟩) (by assumption) ?_
    simp only [Act.put, List.setIfInBounds_toArray, List.set_cons_zero, List.set_cons_succ]
    refine wpAnyH_take (i := 4) (oi := ⟨some 38, _, _, _, _, _⟩) (v := (.agg #[.int .i64 k1, .int .i64 k2])) rfl (by kernel_rfl) (by kernel_rfl) (by kernel_rfl) (fun _ _ _ h => h) (Or.inl ⟨by rfl, fun w hSw => by (try dsimp only at hSw); go_simp⟩) (by assumption) ?_
    simp only [Act.put, List.setIfInBounds_toArray, List.set_cons_zero, List.set_cons_succ]
    obtain ⟨W5, hrun, hm5, hc5, -⟩ := del_at HS3.out.ds.map k1 k2 0
    have HS5 := Lib.hid (HS3.out.turn hm5 hc5)
    clear hm5 hc5
    refine wpAnyH_ready (rs := [5]) (by kernel_rfl) (by simp) ?_
    refine AllReadyH.cons (o := ⟨none, _, _, _, _, _⟩) rfl (fun KK hK => ?_) AllReadyH.nil
    go_simp
    clear hrun
    refine hK.out _ _ ⟨HS5.out.ds.box.cell 0 rfl, HS5.out.kb.cell 0 rfl, HS5.out.kb.cell 1 rfl⟩ (fun hHeld => ?_)
    clear hK; try clear KK
    refine wpAnyH_done (by kernel_rfl) ?_ _
    go_wp2_with fail
    go_ret
    have e : lessF L (k1, k2) q = (mdel (k1, k2) L, true) := by unfold lessF; rw [HK.out]; exact if_neg (by omega)
    exact ⟨by (show Ending.returned (.bool true) = _; rw [e]), by rw [e]; exact HS5.out.ds, HS5.out.chg⟩
theorem less_any (D b : Nat) (L : List (Key × Rest)) (k1 k2 q : Int) (w : World) (h : DS w D b L) (hq : ∀ x, mget (k1, k2) L = some x → -9223372036854775808 ≤ x.qty - q ∧ x.qty - q ≤ 9223372036854775807) :
    Calls Try.prog 81 #[.pointer (some ⟨D, 0, none⟩), .agg #[.int .i64 k1, .int .i64 k2], .int .i64 q] w (LessIs L (k1, k2) q D b w) := by
  cases hk : mget (k1, k2) L with
  | none => exact less_none D b L k1 k2 q w h hk
  | some x => exact less_some D b L k1 k2 q x w h hk (hq x hk).1 (hq x hk).2
end Go.Proofs.Ytogjgpiddjmpiaa.Depth

/- What walks with drawn regions and whole structs import. -/
namespace Go.Proofs.Ytogjgpiddjmpiaa.Blk
theorem walk_laid : True := trivial
end Go.Proofs.Ytogjgpiddjmpiaa.Blk

/- depth.put: one order more in a map of levels. -/
namespace Go.Proofs.Ytogjgpiddjmpiaa.Depth
set_option linter.unusedVariables false
open Go.RowKit Go.Proofs.Ytogjgpiddjmpiaa.Kit Go.Proofs.Ytogjgpiddjmpiaa.Blk Go.Proofs.Ytogjgpiddjmpiaa.Mp
attribute [local go_sem ↓] Go.wp_at_zero Go.wp_at_succ

theorem now64 (a b : Int) : Instr.sameNow (.int .i64) (k64 a) (k64 b) = some (decide (a = b)) := by
  simp only [Instr.sameNow, k64, if_true]
  rfl
theorem check64 (w : World) (em : Bool) (k : Int) : (Instr.checkKey em 10000 2 (k64 k)).run Try.prog w = .ok () w := by kernel_rfl
theorem stays64 (w : World) (k : Int) : (Instr.keyThatStays (k64 k) (k64 k)).run Try.prog w = .ok (k64 k) w := by
  have h : Instr.sameBits 10000 (k64 k) (k64 k) = true := by unfold k64; simp [Instr.sameBits]
  simp [Instr.keyThatStays, h]
theorem key64_ok : KeyOK Try.prog 2 k64 := keyOK_now k64 Try.underlying2 now64 check64 stays64
theorem zero_lvl (w : World) : (zeroValue 90).run Try.prog w = .ok (.agg #[.int .i64 0, .int .i64 0, .int .i64 0]) w := by kernel_rfl
theorem lget_at {W : World} {b : Nat} {V : List PQ} {A : List (Int × Lvl)} (h : MapIs W b k64 lv A) (hA : LvA V A) (p : Int) :
    ∃ c, (Instr.lookup 174 (.map (some b)) (.int .i64 p) false).run Try.prog W = .ok (.agg #[.int .i64 c, .int .i64 (sumF V p), .int .i64 (numF V p)]) W := by
  have := run_look h key64_ok Try.underlying174 (zero_lvl W) p false
  by_cases hp : p ∈ V.map (·.1)
  · rw [hA.get p hp] at this
    exact ⟨p, this⟩
  · rw [mget_none (fun hc => hp ((hA.keys p).1 hc))] at this
    have hn : ∀ y ∈ V, y.1 ≠ p := fun y hy e => hp (e ▸ List.mem_map_of_mem (f := (·.1)) hy)
    rw [sum_none hn, num_none hn]
    exact ⟨0, this⟩
theorem lput_at {W : World} {b : Nat} {A : List (Int × Lvl)} (h : MapIs W b k64 lv A) (p a q o : Int) :
    ∃ W', (Instr.mapUpdate 174 (.map (some b)) (.int .i64 p) (.agg #[.int .i64 a, .int .i64 q, .int .i64 o])).run Try.prog W = .ok () W' ∧ MapIs W' b k64 lv (mput p ⟨a, q, o⟩ A) ∧ Chg W.heap.size b W W' ∧ W'.heap.size = W.heap.size :=
  run_put h key64_ok Try.underlying174 p ⟨a, q, o⟩
theorem one_lvl (x : Lvl) : x.cells.all (·.oneCell') = true := by simp [Lvl.cells, Value.oneCell']
def lvlZ : Array Value := #[.int .i64 0, .int .i64 0, .int .i64 0]

set_option maxRecDepth 20000 in
set_option maxHeartbeats 2000000 in
theorem lput_any (b : Nat) (V : List PQ) (A : List (Int × Lvl)) (x : PQ) (w : World) (hM : MapIs w b k64 lv A) (hA : LvA V A) (hq0 : 0 ≤ sumF V x.1 + x.2) (hq1 : sumF V x.1 + x.2 ≤ 9223372036854775807) (hn : (V.length : Int) ≤ 100000) :
    Calls Try.prog 86 #[.map (some b), .int .i64 x.1, .int .i64 x.2] w fun e w' => e = .returned (.tuple #[]) ∧ MapIs w' b k64 lv (putL A x) ∧ Chg w.heap.size b w w' := by
  obtain ⟨c, hlk⟩ := lget_at hM hA x.1
  have HE := Lib.hid (lvA_put hA x).2
  have hnum := num_in V x.1
  have HZ := Lib.hid (Blk.new w lvlZ 90 w.heap.size rfl)
  have HX := Lib.hid (Blk.new w #[.int .i64 c, .int .i64 (sumF V x.1), .int .i64 (numF V x.1)] 90 w.heap.size rfl)
  have HM := Lib.hid (hM.old (.cells #[.int .i64 c, .int .i64 (sumF V x.1), .int .i64 (numF V x.1)] 90))
  have HC := Lib.hid (show Chg w.heap.size b w (w.alloc (.cells #[.int .i64 c, .int .i64 (sumF V x.1), .int .i64 (numF V x.1)] 90)) from (Chg.refl _ _ _).alloc (Nat.le_refl _) _)
  clear hM hA
  obtain ⟨p, q⟩ := x
  dsimp only at *
  generalize sumF V p = s at *
  generalize numF V p = n at *
  obtain ⟨W5, hrun, hm5, hc5, -⟩ := lput_at HM.out p p (s + q) (n + 1)
  have HM5 := Lib.hid hm5
  have HC5 := Lib.hid (HC.out.trans (hc5.mono HC.out.size))
  clear hm5 hc5 HM HC HX HZ
  go_enter Try.func86, Try.ntmps86
  go_wp2_with fail
  go_end0
  exact ⟨rfl, by rw [HE.out]; exact HM5.out, HC5.out⟩
end Go.Proofs.Ytogjgpiddjmpiaa.Depth
