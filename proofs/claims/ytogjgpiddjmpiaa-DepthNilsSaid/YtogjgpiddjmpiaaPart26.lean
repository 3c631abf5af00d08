/- Parts of the proof: DepthP2, DepthP3. -/
import Derived.Test.YtogjgpiddjmpiaaPart24
import Derived.Test.YtogjgpiddjmpiaaPart16

/- (*depth.Depth).Put: acknowledgements, trades, ends. -/
namespace Go.Proofs.Ytogjgpiddjmpiaa.Depth
open Go.RowKit Go.Proofs.Ytogjgpiddjmpiaa.Kit Go.Proofs.Ytogjgpiddjmpiaa.Blk Go.Proofs.Ytogjgpiddjmpiaa.Mp Go.Proofs.Ytogjgpiddjmpiaa.Msgs
attribute [local go_sem ↓] Go.wp_at_zero Go.wp_at_succ
set_option linter.unusedVariables false
theorem less_yes {L : List (Key × Rest)} {k : Key} {x : Rest} (h : mget k L = some x) (q : Int) : (lessF L k q).2 = true := by
  unfold lessF; rw [h]; dsimp only; split <;> rfl
theorem less_no {L : List (Key × Rest)} {k : Key} (h : mget k L = none) (q : Int) : lessF L k q = (L, false) := by
  unfold lessF; rw [h]
theorem sided_any (s : Int) (w : World) : Calls Try.prog 82 #[.int .i64 s] w fun e w' => e = .returned (.bool (decide (s = 0) || decide (s = 1))) ∧ w = w' := by
  by_cases h0 : s = 0
  · subst h0
    go_enter Try.func82, Try.ntmps82
    go_wp2_with fail
    go_ret
    exact ⟨rfl, rfl⟩
  · have g0 : (s == 0) = false := by simpa using h0
    have HE := Lib.hid (show (decide (s = 0) || decide (s = 1)) = (s == 1) by simp [h0]; rfl)
    clear h0
    go_enter Try.func82, Try.ntmps82
    go_wp2_with fail
    go_ret
    exact ⟨ret_bool HE.out.symm, rfl⟩
/-- No number leaves its range. -/
theorem fits {L : List (Key × Rest)} (h : OkL L) (k : Key) (q : Int) (q0 : 0 ≤ q) (q1 : q ≤ 1125899906842624) : ∀ x, mget k L = some x → -9223372036854775808 ≤ x.qty - q ∧ x.qty - q ≤ 9223372036854775807 := fun x hx => by
  have := h _ (mget_mem hx); dsimp only at this; omega

set_option maxRecDepth 20000 in
set_option maxHeartbeats 2000000 in
theorem put_done (D b : Nat) (L : List (Key × Rest)) (m : Msg) (w : World) (h : DS w D b L) (hok : OkL L) (h4 : m.kind = 4) :
    Calls Try.prog 37 #[.pointer (some ⟨D, 0, none⟩), .agg m.cells] w (PutIs L m D b w) := by
  have g1 : (m.kind == 1) = false := by simp [h4]
  have g3 : (m.kind == 3) = false := by simp [h4]
  have g4 : (m.kind == 4) = true := by simp [h4]
  cases hk : mget (m.sym, m.id) L with
  | none =>
    have HE := Lib.hid (show putF L m = (L, false) by simp [putF, h4, hk])
    clear h4
    have HD0 := Lib.hid ((h.alloc (.cells m.cells 66)).alloc (.cells #[.int .i64 m.sym, .int .i64 m.id] 164))
    have HM0 := Lib.hid ((Blk.new w m.cells 66 w.heap.size rfl).old (.cells #[.int .i64 m.sym, .int .i64 m.id] 164))
    have HK0 := Lib.hid (Blk.new (w.alloc (.cells m.cells 66)) #[.int .i64 m.sym, .int .i64 m.id] 164 (w.heap.size + 1) (by simp))
    have HC0 := Lib.hid (show Chg w.heap.size b w ((w.alloc (.cells m.cells 66)).alloc (.cells #[.int .i64 m.sym, .int .i64 m.id] 164)) from ((Chg.refl _ _ _).alloc (Nat.le_refl _) _).alloc (by simp) _)
    have hD := h.box.lt
    have hb := h.map.lt
    have m1 : (w.alloc (.cells m.cells 66)).cell? ⟨w.heap.size, 1, none⟩ = some (.int .i64 m.sym) := (Blk.new w m.cells 66 w.heap.size rfl).cell 1 rfl
    have m4 : (w.alloc (.cells m.cells 66)).cell? ⟨w.heap.size, 4, none⟩ = some (.int .i64 m.id) := (Blk.new w m.cells 66 w.heap.size rfl).cell 4 rfl
    have HL := Lib.hid (fun W (hm : MapIs W b ke ve L) => show (Instr.lookup 160 (.map (some b)) (.agg #[.int .i64 m.sym, .int .i64 m.id]) true).run Try.prog W = .ok (.tuple #[.agg #[.int .i64 (0), .int .i64 (0), .int .i64 (0)], .bool false]) W by have := look_at hm m.sym m.id; rw [hk] at this; exact this)
    have HK := Lib.hid hk
    clear h hk
    go_enter Try.func37, Try.ntmps37
    go_upto_region 4 with fail
    clear m1 m4
    change Code.wp _ _ _ _ ((w.alloc (.cells m.cells 66)).alloc (.cells #[.int .i64 m.sym, .int .i64 m.id] 164))
    refine wp_region_held_drew (S := (fun w' => w'.cell? ⟨D, 0, none⟩ = some (.map (some b)) ∧ w'.cell? ⟨w.heap.size + 1, 0, none⟩ = some (.int .i64 m.sym) ∧ w'.cell? ⟨w.heap.size + 1, 1, none⟩ = some (.int .i64 m.id) ∧ (Instr.lookup 160 (.map (some b)) (.agg #[.int .i64 m.sym, .int .i64 m.id]) true).run Try.prog w' = .ok (.tuple #[.agg #[.int .i64 (0), .int .i64 (0), .int .i64 (0)], .bool false]) w')) (by kernel_rfl) ⟨HD0.out.box.cell 0 rfl, HK0.out.cell 0 rfl, HK0.out.cell 1 rfl, HL.out _ HD0.out.map.drew⟩ (fun hHeld => ?_)
    replace HD0 := Lib.hid HD0.out.drew
    replace HM0 := Lib.hid HM0.out.drew
    replace HK0 := Lib.hid HK0.out.drew
    replace HC0 := Lib.hid HC0.out.drew
    have hsz : w.heap.size + 1 < ((w.alloc (.cells m.cells 66)).alloc (.cells #[.int .i64 m.sym, .int .i64 m.id] 164)).drew.heap.size := HK0.out.lt
    generalize ((w.alloc (.cells m.cells 66)).alloc (.cells #[.int .i64 m.sym, .int .i64 m.id] 164)).drew = W1 at HD0 HM0 HK0 HC0 hHeld hsz ⊢
    refine wpAnyH_take (i := 0) (oi := ⟨some 18, _, _, _, _, _⟩) (v := (.pointer (some ⟨D, 0, none⟩))) rfl (by kernel_rfl) (by kernel_rfl) (by kernel_rfl) (fun _ _ _ h => h) (Or.inl ⟨by rfl, fun w hSw => by (try dsimp only at hSw); go_simp⟩) (by assumption) ?_
    simp only [Act.put, List.setIfInBounds_toArray, List.set_cons_zero, List.set_cons_succ]
    refine wpAnyH_take (i := 1) (oi := ⟨some 19, _, _, _, _, _⟩) (v := (.pointer (some ⟨D, 0, none⟩))) rfl (by kernel_rfl) (by kernel_rfl) (by kernel_rfl) (fun _ _ _ h => h) (Or.inl ⟨by rfl, fun w hSw => by (try dsimp only at hSw); go_simp⟩) (by assumption) ?_
    simp only [Act.put, List.setIfInBounds_toArray, List.set_cons_zero, List.set_cons_succ]
    refine wpAnyH_take (i := 2) (oi := ⟨some 20, _, _, _, _, _⟩) (v := (.pointer (some ⟨D, 0, none⟩))) rfl (by kernel_rfl) (by kernel_rfl) (by kernel_rfl) (fun _ _ _ h => h) (Or.inl ⟨by rfl, fun w hSw => by (try dsimp only at hSw); go_simp⟩) (by assumption) ?_
    simp only [Act.put, List.setIfInBounds_toArray, List.set_cons_zero, List.set_cons_succ]
    refine wpAnyH_take (i := 3) (oi := ⟨some 21, _, _, _, _, _⟩) (v := (.map (some b))) rfl (by kernel_rfl) (by kernel_rfl) (by kernel_rfl) (fun _ _ _ h => h) (Or.inl ⟨by rfl, fun w hSw => by (try dsimp only at hSw); go_simp⟩) (by assumption) ?_
    simp only [Act.put, List.setIfInBounds_toArray, List.set_cons_zero, List.set_cons_succ]
    refine wpAnyH_take (i := 4) (oi := ⟨some 22, _, _, _, _, _⟩) (v := (.agg #[.int .i64 m.sym, .int .i64 m.id])) rfl (by kernel_rfl) (by kernel_rfl) (by kernel_rfl) (fun _ _ _ h => h) (Or.inl ⟨by rfl, fun w hSw => by (try dsimp only at hSw); go_simp⟩) (by assumption) ?_
    simp only [Act.put, List.setIfInBounds_toArray, List.set_cons_zero, List.set_cons_succ]
    refine wpAnyH_take (i := 5) (oi := ⟨some 23, _, _, _, _, _⟩) (v := (.tuple #[.agg #[.int .i64 (0), .int .i64 (0), .int .i64 (0)], .bool false])) rfl (by kernel_rfl) (by kernel_rfl) (by kernel_rfl) (fun _ _ _ h => h) (Or.inl ⟨by rfl, fun w hSw => by (try dsimp only at hSw); go_simp⟩) (by assumption) ?_
    simp only [Act.put, List.setIfInBounds_toArray, List.set_cons_zero, List.set_cons_succ]
    refine wpAnyH_take (i := 6) (oi := ⟨some 17, _, _, _, _, _⟩) (v := (.tuple #[.agg #[.int .i64 (0), .int .i64 (0), .int .i64 (0)], .bool false])) rfl (by kernel_rfl) (by kernel_rfl) (by kernel_rfl) (fun _ _ _ h => h) (Or.inl ⟨by rfl, fun w hSw => by (try dsimp only at hSw); go_simp⟩) (by assumption) ?_
    simp only [Act.put, List.setIfInBounds_toArray, List.set_cons_zero, List.set_cons_succ]
    refine wpAnyH_take (i := 7) (oi := ⟨some 24, _, _, _, _, _⟩) (v := (.agg #[.int .i64 (0), .int .i64 (0), .int .i64 (0)])) rfl (by kernel_rfl) (by kernel_rfl) (by kernel_rfl) (fun _ _ _ h => h) (Or.inl ⟨by rfl, fun w hSw => by (try dsimp only at hSw); go_simp⟩) (by assumption) ?_
    simp only [Act.put, List.setIfInBounds_toArray, List.set_cons_zero, List.set_cons_succ]
    refine wpAnyH_take (i := 8) (oi := ⟨some 25, _, _, _, _, _⟩) (v := (.bool false)) rfl (by kernel_rfl) (by kernel_rfl) (by kernel_rfl) (fun _ _ _ h => h) (Or.inl ⟨by rfl, fun w hSw => by (try dsimp only at hSw); go_simp⟩) (by assumption) ?_
    simp only [Act.put, List.setIfInBounds_toArray, List.set_cons_zero, List.set_cons_succ]
    refine wpAnyH_ready (rs := [9]) (by kernel_rfl) (by simp) ?_
    refine AllReadyH.cons (o := ⟨some 6, _, _, _, _, _⟩) rfl (fun KK hK => ?_) AllReadyH.nil
    go_simp
    change KK _ (W1.alloc (.cells restZ 166))
    have HS : Hid (QS w D b m W1.heap.size (W1.alloc (.cells restZ 166)) L restZ) := Lib.hid ⟨HD0.out.alloc _, HM0.out.old _, HK0.out.old _, Blk.new _ _ _ _ rfl, HC0.out.alloc HC0.out.size _, hD, hb, hsz⟩
    refine hK.out _ _ ⟨HS.out.ds.box.cell 0 rfl, HS.out.kb.cell 0 rfl, HS.out.kb.cell 1 rfl, HL.out _ HS.out.ds.map⟩ (fun hHeld => ?_)
    clear hK; try clear KK
    try simp only [Act.put, List.setIfInBounds_toArray, List.set_cons_zero, List.set_cons_succ]
    refine wpAnyH_ready (rs := [10]) (by kernel_rfl) (by simp) ?_
    refine AllReadyH.cons (o := ⟨none, _, _, _, _, _⟩) rfl (fun KK hK => ?_) AllReadyH.nil
    refine step_store_blk (by rfl) 166 _ _ (by rfl) W1.heap.size (by rfl) restZ #[.int .i64 (0), .int .i64 (0), .int .i64 (0)] 166 HS.out.x (by rfl) rfl (by kernel_rfl) (one_rest ⟨0, 0, 0⟩) ?_
    replace HS := Lib.hid (HS.out.mput #[.int .i64 (0), .int .i64 (0), .int .i64 (0)] rfl)
    refine hK.out _ _ ⟨HS.out.ds.box.cell 0 rfl, HS.out.kb.cell 0 rfl, HS.out.kb.cell 1 rfl, HL.out _ HS.out.ds.map⟩ (fun hHeld => ?_)
    clear hK; try clear KK
    refine wpAnyH_take (i := 11) (oi := ⟨some 7, _, _, _, _, _⟩) (v := (.bool false)) rfl (by kernel_rfl) (by kernel_rfl) (by kernel_rfl) (fun _ _ _ h => h) (Or.inl ⟨by rfl, fun w hSw => by (try dsimp only at hSw); go_simp⟩) (by assumption) ?_
    simp only [Act.put, List.setIfInBounds_toArray, List.set_cons_zero, List.set_cons_succ]
    refine wpAnyH_done (by kernel_rfl) ?_ _
    generalize hW2 : World.setCells (W1.alloc (.cells restZ 166)) W1.heap.size 0 #[.int .i64 (0), .int .i64 (0), .int .i64 (0)].toList = W2 at HS hHeld ⊢
    clear hW2 hHeld HD0 HM0 HK0 HC0
    generalize W1.heap.size = xb at HS hsz ⊢
    have m0 : W2.cell? ⟨w.heap.size, 0, none⟩ = some (.int .i64 m.kind) := HS.out.mb.cell 0 rfl
    have m1 : W2.cell? ⟨w.heap.size, 1, none⟩ = some (.int .i64 m.sym) := HS.out.mb.cell 1 rfl
    have m5 : W2.cell? ⟨w.heap.size, 5, none⟩ = some (.int .i64 m.wth) := HS.out.mb.cell 5 rfl
    have m6 : W2.cell? ⟨w.heap.size, 6, none⟩ = some (.int .i64 m.price) := HS.out.mb.cell 6 rfl
    have m7 : W2.cell? ⟨w.heap.size, 7, none⟩ = some (.int .i64 m.qty) := HS.out.mb.cell 7 rfl
    have m8 : W2.cell? ⟨w.heap.size, 8, none⟩ = some (.int .i64 m.code) := HS.out.mb.cell 8 rfl
    have k0 : W2.cell? ⟨w.heap.size + 1, 0, none⟩ = some (.int .i64 m.sym) := HS.out.kb.cell 0 rfl
    have k1 : W2.cell? ⟨w.heap.size + 1, 1, none⟩ = some (.int .i64 m.id) := HS.out.kb.cell 1 rfl
    go_wp2_with fail
    go_ret
    exact ⟨by (show Ending.returned (.bool false) = _; rw [HE.out]), by rw [HE.out]; exact HS.out.ds, HS.out.chg⟩
  | some x =>
    have HE := Lib.hid (show putF L m = ((lessF L (m.sym, m.id) x.qty).1, true) by simp [putF, h4, hk])
    have hx := hok _ (mget_mem hk)
    dsimp only at hx
    have HFI := Lib.hid (fits hok (m.sym, m.id) x.qty (by omega) (by omega))
    have HY := Lib.hid (less_yes hk x.qty)
    clear h4 hx
    have HD0 := Lib.hid ((h.alloc (.cells m.cells 66)).alloc (.cells #[.int .i64 m.sym, .int .i64 m.id] 164))
    have HM0 := Lib.hid ((Blk.new w m.cells 66 w.heap.size rfl).old (.cells #[.int .i64 m.sym, .int .i64 m.id] 164))
    have HK0 := Lib.hid (Blk.new (w.alloc (.cells m.cells 66)) #[.int .i64 m.sym, .int .i64 m.id] 164 (w.heap.size + 1) (by simp))
    have HC0 := Lib.hid (show Chg w.heap.size b w ((w.alloc (.cells m.cells 66)).alloc (.cells #[.int .i64 m.sym, .int .i64 m.id] 164)) from ((Chg.refl _ _ _).alloc (Nat.le_refl _) _).alloc (by simp) _)
    have hD := h.box.lt
    have hb := h.map.lt
    have m1 : (w.alloc (.cells m.cells 66)).cell? ⟨w.heap.size, 1, none⟩ = some (.int .i64 m.sym) := (Blk.new w m.cells 66 w.heap.size rfl).cell 1 rfl
    have m4 : (w.alloc (.cells m.cells 66)).cell? ⟨w.heap.size, 4, none⟩ = some (.int .i64 m.id) := (Blk.new w m.cells 66 w.heap.size rfl).cell 4 rfl
    have HL := Lib.hid (fun W (hm : MapIs W b ke ve L) => show (Instr.lookup 160 (.map (some b)) (.agg #[.int .i64 m.sym, .int .i64 m.id]) true).run Try.prog W = .ok (.tuple #[.agg #[.int .i64 (x.side), .int .i64 (x.price), .int .i64 (x.qty)], .bool true]) W by have := look_at hm m.sym m.id; rw [hk] at this; exact this)
    have HK := Lib.hid hk
    clear h hk
    go_enter Try.func37, Try.ntmps37
    go_upto_region 4 with fail
    clear m1 m4
    change Code.wp _ _ _ _ ((w.alloc (.cells m.cells 66)).alloc (.cells #[.int .i64 m.sym, .int .i64 m.id] 164))
    refine wp_region_held_drew (S := (fun w' => w'.cell? ⟨D, 0, none⟩ = some (.map (some b)) ∧ w'.cell? ⟨w.heap.size + 1, 0, none⟩ = some (.int .i64 m.sym) ∧ w'.cell? ⟨w.heap.size + 1, 1, none⟩ = some (.int .i64 m.id) ∧ (Instr.lookup 160 (.map (some b)) (.agg #[.int .i64 m.sym, .int .i64 m.id]) true).run Try.prog w' = .ok (.tuple #[.agg #[.int .i64 (x.side), .int .i64 (x.price), .int .i64 (x.qty)], .bool true]) w')) (by kernel_rfl) ⟨HD0.out.box.cell 0 rfl, HK0.out.cell 0 rfl, HK0.out.cell 1 rfl, HL.out _ HD0.out.map.drew⟩ (fun hHeld => ?_)
    replace HD0 := Lib.hid HD0.out.drew
    replace HM0 := Lib.hid HM0.out.drew
    replace HK0 := Lib.hid HK0.out.drew
    replace HC0 := Lib.hid HC0.out.drew
    have hsz : w.heap.size + 1 < ((w.alloc (.cells m.cells 66)).alloc (.cells #[.int .i64 m.sym, .int .i64 m.id] 164)).drew.heap.size := HK0.out.lt
    generalize ((w.alloc (.cells m.cells 66)).alloc (.cells #[.int .i64 m.sym, .int .i64 m.id] 164)).drew = W1 at HD0 HM0 HK0 HC0 hHeld hsz ⊢
    refine wpAnyH_take (i := 0) (oi := ⟨some 18, _, _, _, _, _⟩) (v := (.pointer (some ⟨D, 0, none⟩))) rfl (by kernel_rfl) (by kernel_rfl) (by kernel_rfl) (fun _ _ _ h => h) (Or.inl ⟨by rfl, fun w hSw => by (try dsimp only at hSw); go_simp⟩) (by assumption) ?_
    simp only [Act.put, List.setIfInBounds_toArray, List.set_cons_zero, List.set_cons_succ]
    refine wpAnyH_take (i := 1) (oi := ⟨some 19, _, _, _, _, _⟩) (v := (.pointer (some ⟨D, 0, none⟩))) rfl (by kernel_rfl) (by kernel_rfl) (by kernel_rfl) (fun _ _ _ h => h) (Or.inl ⟨by rfl, fun w hSw => by (try dsimp only at hSw); go_simp⟩) (by assumption) ?_
    simp only [Act.put, List.setIfInBounds_toArray, List.set_cons_zero, List.set_cons_succ]
    refine wpAnyH_take (i := 2) (oi := ⟨some 20, _, _, _, _, _⟩) (v := (.pointer (some ⟨D, 0, none⟩))) rfl (by kernel_rfl) (by kernel_rfl) (by kernel_rfl) (fun _ _ _ h => h) (Or.inl ⟨by rfl, fun w hSw => by (try dsimp only at hSw); go_simp⟩) (by assumption) ?_
    simp only [Act.put, List.setIfInBounds_toArray, List.set_cons_zero, List.set_cons_succ]
    refine wpAnyH_take (i := 3) (oi := ⟨some 21, _, _, _, _, _⟩) (v := (.map (some b))) rfl (by kernel_rfl) (by kernel_rfl) (by kernel_rfl) (fun _ _ _ h => h) (Or.inl ⟨by rfl, fun w hSw => by (try dsimp only at hSw); go_simp⟩) (by assumption) ?_
    simp only [Act.put, List.setIfInBounds_toArray, List.set_cons_zero, List.set_cons_succ]
    refine wpAnyH_take (i := 4) (oi := ⟨some 22, _, _, _, _, _⟩) (v := (.agg #[.int .i64 m.sym, .int .i64 m.id])) rfl (by kernel_rfl) (by kernel_rfl) (by kernel_rfl) (fun _ _ _ h => h) (Or.inl ⟨by rfl, fun w hSw => by (try dsimp only at hSw); go_simp⟩) (by assumption) ?_
    simp only [Act.put, List.setIfInBounds_toArray, List.set_cons_zero, List.set_cons_succ]
    refine wpAnyH_take (i := 5) (oi := ⟨some 23, _, _, _, _, _⟩) (v := (.tuple #[.agg #[.int .i64 (x.side), .int .i64 (x.price), .int .i64 (x.qty)], .bool true])) rfl (by kernel_rfl) (by kernel_rfl) (by kernel_rfl) (fun _ _ _ h => h) (Or.inl ⟨by rfl, fun w hSw => by (try dsimp only at hSw); go_simp⟩) (by assumption) ?_
    simp only [Act.put, List.setIfInBounds_toArray, List.set_cons_zero, List.set_cons_succ]
    refine wpAnyH_take (i := 6) (oi := ⟨some 17, _, _, _, _, _⟩) (v := (.tuple #[.agg #[.int .i64 (x.side), .int .i64 (x.price), .int .i64 (x.qty)], .bool true])) rfl (by kernel_rfl) (by kernel_rfl) (by kernel_rfl) (fun _ _ _ h => h) (Or.inl ⟨by rfl, fun w hSw => by (try dsimp only at hSw); go_simp⟩) (by assumption) ?_
    simp only [Act.put, List.setIfInBounds_toArray, List.set_cons_zero, List.set_cons_succ]
    refine wpAnyH_take (i := 7) (oi := ⟨some 24, _, _, _, _, _⟩) (v := (.agg #[.int .i64 (x.side), .int .i64 (x.price), .int .i64 (x.qty)])) rfl (by kernel_rfl) (by kernel_rfl) (by kernel_rfl) (fun _ _ _ h => h) (Or.inl ⟨by rfl, fun w hSw => by (try dsimp only at hSw); go_simp⟩) (by assumption) ?_
    simp only [Act.put, List.setIfInBounds_toArray, List.set_cons_zero, List.set_cons_succ]
    refine wpAnyH_take (i := 8) (oi := ⟨some 25, _, _, _, _, _⟩) (v := (.bool true)) rfl (by kernel_rfl) (by kernel_rfl) (by kernel_rfl) (fun _ _ _ h => h) (Or.inl ⟨by rfl, fun w hSw => by (try dsimp only at hSw); go_simp⟩) (by assumption) ?_
    simp only [Act.put, List.setIfInBounds_toArray, List.set_cons_zero, List.set_cons_succ]
    refine wpAnyH_ready (rs := [9]) (by kernel_rfl) (by simp) ?_
    refine AllReadyH.cons (o := ⟨some 6, _, _, _, _, _⟩) rfl (fun KK hK => ?_) AllReadyH.nil
    go_simp
    change KK _ (W1.alloc (.cells restZ 166))
    have HS : Hid (QS w D b m W1.heap.size (W1.alloc (.cells restZ 166)) L restZ) := Lib.hid ⟨HD0.out.alloc _, HM0.out.old _, HK0.out.old _, Blk.new _ _ _ _ rfl, HC0.out.alloc HC0.out.size _, hD, hb, hsz⟩
    refine hK.out _ _ ⟨HS.out.ds.box.cell 0 rfl, HS.out.kb.cell 0 rfl, HS.out.kb.cell 1 rfl, HL.out _ HS.out.ds.map⟩ (fun hHeld => ?_)
    clear hK; try clear KK
    try simp only [Act.put, List.setIfInBounds_toArray, List.set_cons_zero, List.set_cons_succ]
    refine wpAnyH_ready (rs := [10]) (by kernel_rfl) (by simp) ?_
    refine AllReadyH.cons (o := ⟨none, _, _, _, _, _⟩) rfl (fun KK hK => ?_) AllReadyH.nil
    refine step_store_blk (by rfl) 166 _ _ (by rfl) W1.heap.size (by rfl) restZ #[.int .i64 (x.side), .int .i64 (x.price), .int .i64 (x.qty)] 166 HS.out.x (by rfl) rfl (by kernel_rfl) (one_rest ⟨x.side, x.price, x.qty⟩) ?_
    replace HS := Lib.hid (HS.out.mput #[.int .i64 (x.side), .int .i64 (x.price), .int .i64 (x.qty)] rfl)
    refine hK.out _ _ ⟨HS.out.ds.box.cell 0 rfl, HS.out.kb.cell 0 rfl, HS.out.kb.cell 1 rfl, HL.out _ HS.out.ds.map⟩ (fun hHeld => ?_)
    clear hK; try clear KK
    refine wpAnyH_take (i := 11) (oi := ⟨some 7, _, _, _, _, _⟩) (v := (.bool true)) rfl (by kernel_rfl) (by kernel_rfl) (by kernel_rfl) (fun _ _ _ h => h) (Or.inl ⟨by rfl, fun w hSw => by (try dsimp only at hSw); go_simp⟩) (by assumption) ?_
    simp only [Act.put, List.setIfInBounds_toArray, List.set_cons_zero, List.set_cons_succ]
    refine wpAnyH_done (by kernel_rfl) ?_ _
    generalize hW2 : World.setCells (W1.alloc (.cells restZ 166)) W1.heap.size 0 #[.int .i64 (x.side), .int .i64 (x.price), .int .i64 (x.qty)].toList = W2 at HS hHeld ⊢
    clear hW2 hHeld HD0 HM0 HK0 HC0
    generalize W1.heap.size = xb at HS hsz ⊢
    have m0 : W2.cell? ⟨w.heap.size, 0, none⟩ = some (.int .i64 m.kind) := HS.out.mb.cell 0 rfl
    have m1 : W2.cell? ⟨w.heap.size, 1, none⟩ = some (.int .i64 m.sym) := HS.out.mb.cell 1 rfl
    have m5 : W2.cell? ⟨w.heap.size, 5, none⟩ = some (.int .i64 m.wth) := HS.out.mb.cell 5 rfl
    have m6 : W2.cell? ⟨w.heap.size, 6, none⟩ = some (.int .i64 m.price) := HS.out.mb.cell 6 rfl
    have m7 : W2.cell? ⟨w.heap.size, 7, none⟩ = some (.int .i64 m.qty) := HS.out.mb.cell 7 rfl
    have m8 : W2.cell? ⟨w.heap.size, 8, none⟩ = some (.int .i64 m.code) := HS.out.mb.cell 8 rfl
    have k0 : W2.cell? ⟨w.heap.size + 1, 0, none⟩ = some (.int .i64 m.sym) := HS.out.kb.cell 0 rfl
    have k1 : W2.cell? ⟨w.heap.size + 1, 1, none⟩ = some (.int .i64 m.id) := HS.out.kb.cell 1 rfl
    have x2 : W2.cell? ⟨xb, 2, none⟩ = some (.int .i64 x.qty) := HS.out.x.cell 2 rfl
    go_wp2_with fail
    refine (less_any D b L m.sym m.id x.qty _ HS.out.ds HFI.out).mono ?_
    rintro e w3 ⟨rfl, hd3, hc3⟩
    rw [HY.out]
    replace HS := Lib.hid (HS.out.turnD hd3 hc3)
    clear hd3 hc3 x2
    go_wp2_with fail
    go_ret
    exact ⟨by (show Ending.returned (.bool true) = _; rw [HE.out]), by rw [HE.out]; exact HS.out.ds, HS.out.chg⟩

set_option maxRecDepth 20000 in
set_option maxHeartbeats 4000000 in
theorem put_trade (D b : Nat) (L : List (Key × Rest)) (m : Msg) (w : World) (h : DS w D b L) (hok : OkL L) (h3 : m.kind = 3) (hq1 : m.qty ≤ 1125899906842624) :
    Calls Try.prog 37 #[.pointer (some ⟨D, 0, none⟩), .agg m.cells] w (PutIs L m D b w) := by
  have g1 : (m.kind == 1) = false := by simp [h3]
  have g3 : (m.kind == 3) = true := by simp [h3]
  by_cases hq : m.qty < 1
  · have HE := Lib.hid (show putF L m = (L, false) by simp [putF, h3, hq])
    clear h3
    cases hk : mget (m.sym, m.id) L with
    | none =>
      have HD0 := Lib.hid ((h.alloc (.cells m.cells 66)).alloc (.cells #[.int .i64 m.sym, .int .i64 m.id] 164))
      have HM0 := Lib.hid ((Blk.new w m.cells 66 w.heap.size rfl).old (.cells #[.int .i64 m.sym, .int .i64 m.id] 164))
      have HK0 := Lib.hid (Blk.new (w.alloc (.cells m.cells 66)) #[.int .i64 m.sym, .int .i64 m.id] 164 (w.heap.size + 1) (by simp))
      have HC0 := Lib.hid (show Chg w.heap.size b w ((w.alloc (.cells m.cells 66)).alloc (.cells #[.int .i64 m.sym, .int .i64 m.id] 164)) from ((Chg.refl _ _ _).alloc (Nat.le_refl _) _).alloc (by simp) _)
      have hD := h.box.lt
      have hb := h.map.lt
      have m1 : (w.alloc (.cells m.cells 66)).cell? ⟨w.heap.size, 1, none⟩ = some (.int .i64 m.sym) := (Blk.new w m.cells 66 w.heap.size rfl).cell 1 rfl
      have m4 : (w.alloc (.cells m.cells 66)).cell? ⟨w.heap.size, 4, none⟩ = some (.int .i64 m.id) := (Blk.new w m.cells 66 w.heap.size rfl).cell 4 rfl
      have HL := Lib.hid (fun W (hm : MapIs W b ke ve L) => show (Instr.lookup 160 (.map (some b)) (.agg #[.int .i64 m.sym, .int .i64 m.id]) true).run Try.prog W = .ok (.tuple #[.agg #[.int .i64 (0), .int .i64 (0), .int .i64 (0)], .bool false]) W by have := look_at hm m.sym m.id; rw [hk] at this; exact this)
      have HK := Lib.hid hk
      clear h hk
      go_enter Try.func37, Try.ntmps37
      go_upto_region 4 with fail
      clear m1 m4
      change Code.wp _ _ _ _ ((w.alloc (.cells m.cells 66)).alloc (.cells #[.int .i64 m.sym, .int .i64 m.id] 164))
      refine wp_region_held_drew (S := (fun w' => w'.cell? ⟨D, 0, none⟩ = some (.map (some b)) ∧ w'.cell? ⟨w.heap.size + 1, 0, none⟩ = some (.int .i64 m.sym) ∧ w'.cell? ⟨w.heap.size + 1, 1, none⟩ = some (.int .i64 m.id) ∧ (Instr.lookup 160 (.map (some b)) (.agg #[.int .i64 m.sym, .int .i64 m.id]) true).run Try.prog w' = .ok (.tuple #[.agg #[.int .i64 (0), .int .i64 (0), .int .i64 (0)], .bool false]) w')) (by kernel_rfl) ⟨HD0.out.box.cell 0 rfl, HK0.out.cell 0 rfl, HK0.out.cell 1 rfl, HL.out _ HD0.out.map.drew⟩ (fun hHeld => ?_)
      replace HD0 := Lib.hid HD0.out.drew
      replace HM0 := Lib.hid HM0.out.drew
      replace HK0 := Lib.hid HK0.out.drew
      replace HC0 := Lib.hid HC0.out.drew
      have hsz : w.heap.size + 1 < ((w.alloc (.cells m.cells 66)).alloc (.cells #[.int .i64 m.sym, .int .i64 m.id] 164)).drew.heap.size := HK0.out.lt
      generalize ((w.alloc (.cells m.cells 66)).alloc (.cells #[.int .i64 m.sym, .int .i64 m.id] 164)).drew = W1 at HD0 HM0 HK0 HC0 hHeld hsz ⊢
      refine wpAnyH_take (i := 0) (oi := ⟨some 18, _, _, _, _, _⟩) (v := (.pointer (some ⟨D, 0, none⟩))) rfl (by kernel_rfl) (by kernel_rfl) (by kernel_rfl) (fun _ _ _ h => h) (Or.inl ⟨by rfl, fun w hSw => by (try dsimp only at hSw); go_simp⟩) (by assumption) ?_
      simp only [Act.put, List.setIfInBounds_toArray, List.set_cons_zero, List.set_cons_succ]
      refine wpAnyH_take (i := 1) (oi := ⟨some 19, _, _, _, _, _⟩) (v := (.pointer (some ⟨D, 0, none⟩))) rfl (by kernel_rfl) (by kernel_rfl) (by kernel_rfl) (fun _ _ _ h => h) (Or.inl ⟨by rfl, fun w hSw => by (try dsimp only at hSw); go_simp⟩) (by assumption) ?_
      simp only [Act.put, List.setIfInBounds_toArray, List.set_cons_zero, List.set_cons_succ]
      refine wpAnyH_take (i := 2) (oi := ⟨some 20, _, _, _, _, _⟩) (v := (.pointer (some ⟨D, 0, none⟩))) rfl (by kernel_rfl) (by kernel_rfl) (by kernel_rfl) (fun _ _ _ h => h) (Or.inl ⟨by rfl, fun w hSw => by (try dsimp only at hSw); go_simp⟩) (by assumption) ?_
      simp only [Act.put, List.setIfInBounds_toArray, List.set_cons_zero, List.set_cons_succ]
      refine wpAnyH_take (i := 3) (oi := ⟨some 21, _, _, _, _, _⟩) (v := (.map (some b))) rfl (by kernel_rfl) (by kernel_rfl) (by kernel_rfl) (fun _ _ _ h => h) (Or.inl ⟨by rfl, fun w hSw => by (try dsimp only at hSw); go_simp⟩) (by assumption) ?_
      simp only [Act.put, List.setIfInBounds_toArray, List.set_cons_zero, List.set_cons_succ]
      refine wpAnyH_take (i := 4) (oi := ⟨some 22, _, _, _, _, _⟩) (v := (.agg #[.int .i64 m.sym, .int .i64 m.id])) rfl (by kernel_rfl) (by kernel_rfl) (by kernel_rfl) (fun _ _ _ h => h) (Or.inl ⟨by rfl, fun w hSw => by (try dsimp only at hSw); go_simp⟩) (by assumption) ?_
      simp only [Act.put, List.setIfInBounds_toArray, List.set_cons_zero, List.set_cons_succ]
      refine wpAnyH_take (i := 5) (oi := ⟨some 23, _, _, _, _, _⟩) (v := (.tuple #[.agg #[.int .i64 (0), .int .i64 (0), .int .i64 (0)], .bool false])) rfl (by kernel_rfl) (by kernel_rfl) (by kernel_rfl) (fun _ _ _ h => h) (Or.inl ⟨by rfl, fun w hSw => by (try dsimp only at hSw); go_simp⟩) (by assumption) ?_
      simp only [Act.put, List.setIfInBounds_toArray, List.set_cons_zero, List.set_cons_succ]
      refine wpAnyH_take (i := 6) (oi := ⟨some 17, _, _, _, _, _⟩) (v := (.tuple #[.agg #[.int .i64 (0), .int .i64 (0), .int .i64 (0)], .bool false])) rfl (by kernel_rfl) (by kernel_rfl) (by kernel_rfl) (fun _ _ _ h => h) (Or.inl ⟨by rfl, fun w hSw => by (try dsimp only at hSw); go_simp⟩) (by assumption) ?_
      simp only [Act.put, List.setIfInBounds_toArray, List.set_cons_zero, List.set_cons_succ]
      refine wpAnyH_take (i := 7) (oi := ⟨some 24, _, _, _, _, _⟩) (v := (.agg #[.int .i64 (0), .int .i64 (0), .int .i64 (0)])) rfl (by kernel_rfl) (by kernel_rfl) (by kernel_rfl) (fun _ _ _ h => h) (Or.inl ⟨by rfl, fun w hSw => by (try dsimp only at hSw); go_simp⟩) (by assumption) ?_
      simp only [Act.put, List.setIfInBounds_toArray, List.set_cons_zero, List.set_cons_succ]
      refine wpAnyH_take (i := 8) (oi := ⟨some 25, _, _, _, _, _⟩) (v := (.bool false)) rfl (by kernel_rfl) (by kernel_rfl) (by kernel_rfl) (fun _ _ _ h => h) (Or.inl ⟨by rfl, fun w hSw => by (try dsimp only at hSw); go_simp⟩) (by assumption) ?_
      simp only [Act.put, List.setIfInBounds_toArray, List.set_cons_zero, List.set_cons_succ]
      refine wpAnyH_ready (rs := [9]) (by kernel_rfl) (by simp) ?_
      refine AllReadyH.cons (o := ⟨some 6, _, _, _, _, _⟩) rfl (fun KK hK => ?_) AllReadyH.nil
      go_simp
      change KK _ (W1.alloc (.cells restZ 166))
      have HS : Hid (QS w D b m W1.heap.size (W1.alloc (.cells restZ 166)) L restZ) := Lib.hid ⟨HD0.out.alloc _, HM0.out.old _, HK0.out.old _, Blk.new _ _ _ _ rfl, HC0.out.alloc HC0.out.size _, hD, hb, hsz⟩
      refine hK.out _ _ ⟨HS.out.ds.box.cell 0 rfl, HS.out.kb.cell 0 rfl, HS.out.kb.cell 1 rfl, HL.out _ HS.out.ds.map⟩ (fun hHeld => ?_)
      clear hK; try clear KK
      try simp only [Act.put, List.setIfInBounds_toArray, List.set_cons_zero, List.set_cons_succ]
      refine wpAnyH_ready (rs := [10]) (by kernel_rfl) (by simp) ?_
      refine AllReadyH.cons (o := ⟨none, _, _, _, _, _⟩) rfl (fun KK hK => ?_) AllReadyH.nil
      refine step_store_blk (by rfl) 166 _ _ (by rfl) W1.heap.size (by rfl) restZ #[.int .i64 (0), .int .i64 (0), .int .i64 (0)] 166 HS.out.x (by rfl) rfl (by kernel_rfl) (one_rest ⟨0, 0, 0⟩) ?_
      replace HS := Lib.hid (HS.out.mput #[.int .i64 (0), .int .i64 (0), .int .i64 (0)] rfl)
      refine hK.out _ _ ⟨HS.out.ds.box.cell 0 rfl, HS.out.kb.cell 0 rfl, HS.out.kb.cell 1 rfl, HL.out _ HS.out.ds.map⟩ (fun hHeld => ?_)
      clear hK; try clear KK
      refine wpAnyH_take (i := 11) (oi := ⟨some 7, _, _, _, _, _⟩) (v := (.bool false)) rfl (by kernel_rfl) (by kernel_rfl) (by kernel_rfl) (fun _ _ _ h => h) (Or.inl ⟨by rfl, fun w hSw => by (try dsimp only at hSw); go_simp⟩) (by assumption) ?_
      simp only [Act.put, List.setIfInBounds_toArray, List.set_cons_zero, List.set_cons_succ]
      refine wpAnyH_done (by kernel_rfl) ?_ _
      generalize hW2 : World.setCells (W1.alloc (.cells restZ 166)) W1.heap.size 0 #[.int .i64 (0), .int .i64 (0), .int .i64 (0)].toList = W2 at HS hHeld ⊢
      clear hW2 hHeld HD0 HM0 HK0 HC0
      generalize W1.heap.size = xb at HS hsz ⊢
      have m0 : W2.cell? ⟨w.heap.size, 0, none⟩ = some (.int .i64 m.kind) := HS.out.mb.cell 0 rfl
      have m1 : W2.cell? ⟨w.heap.size, 1, none⟩ = some (.int .i64 m.sym) := HS.out.mb.cell 1 rfl
      have m5 : W2.cell? ⟨w.heap.size, 5, none⟩ = some (.int .i64 m.wth) := HS.out.mb.cell 5 rfl
      have m6 : W2.cell? ⟨w.heap.size, 6, none⟩ = some (.int .i64 m.price) := HS.out.mb.cell 6 rfl
      have m7 : W2.cell? ⟨w.heap.size, 7, none⟩ = some (.int .i64 m.qty) := HS.out.mb.cell 7 rfl
      have m8 : W2.cell? ⟨w.heap.size, 8, none⟩ = some (.int .i64 m.code) := HS.out.mb.cell 8 rfl
      have k0 : W2.cell? ⟨w.heap.size + 1, 0, none⟩ = some (.int .i64 m.sym) := HS.out.kb.cell 0 rfl
      have k1 : W2.cell? ⟨w.heap.size + 1, 1, none⟩ = some (.int .i64 m.id) := HS.out.kb.cell 1 rfl
      go_wp2_with fail
      go_ret
      exact ⟨by (show Ending.returned (.bool false) = _; rw [HE.out]), by rw [HE.out]; exact HS.out.ds, HS.out.chg⟩
    | some x =>
      have HD0 := Lib.hid ((h.alloc (.cells m.cells 66)).alloc (.cells #[.int .i64 m.sym, .int .i64 m.id] 164))
      have HM0 := Lib.hid ((Blk.new w m.cells 66 w.heap.size rfl).old (.cells #[.int .i64 m.sym, .int .i64 m.id] 164))
      have HK0 := Lib.hid (Blk.new (w.alloc (.cells m.cells 66)) #[.int .i64 m.sym, .int .i64 m.id] 164 (w.heap.size + 1) (by simp))
      have HC0 := Lib.hid (show Chg w.heap.size b w ((w.alloc (.cells m.cells 66)).alloc (.cells #[.int .i64 m.sym, .int .i64 m.id] 164)) from ((Chg.refl _ _ _).alloc (Nat.le_refl _) _).alloc (by simp) _)
      have hD := h.box.lt
      have hb := h.map.lt
      have m1 : (w.alloc (.cells m.cells 66)).cell? ⟨w.heap.size, 1, none⟩ = some (.int .i64 m.sym) := (Blk.new w m.cells 66 w.heap.size rfl).cell 1 rfl
      have m4 : (w.alloc (.cells m.cells 66)).cell? ⟨w.heap.size, 4, none⟩ = some (.int .i64 m.id) := (Blk.new w m.cells 66 w.heap.size rfl).cell 4 rfl
      have HL := Lib.hid (fun W (hm : MapIs W b ke ve L) => show (Instr.lookup 160 (.map (some b)) (.agg #[.int .i64 m.sym, .int .i64 m.id]) true).run Try.prog W = .ok (.tuple #[.agg #[.int .i64 (x.side), .int .i64 (x.price), .int .i64 (x.qty)], .bool true]) W by have := look_at hm m.sym m.id; rw [hk] at this; exact this)
      have HK := Lib.hid hk
      clear h hk
      go_enter Try.func37, Try.ntmps37
      go_upto_region 4 with fail
      clear m1 m4
      change Code.wp _ _ _ _ ((w.alloc (.cells m.cells 66)).alloc (.cells #[.int .i64 m.sym, .int .i64 m.id] 164))
      refine wp_region_held_drew (S := (fun w' => w'.cell? ⟨D, 0, none⟩ = some (.map (some b)) ∧ w'.cell? ⟨w.heap.size + 1, 0, none⟩ = some (.int .i64 m.sym) ∧ w'.cell? ⟨w.heap.size + 1, 1, none⟩ = some (.int .i64 m.id) ∧ (Instr.lookup 160 (.map (some b)) (.agg #[.int .i64 m.sym, .int .i64 m.id]) true).run Try.prog w' = .ok (.tuple #[.agg #[.int .i64 (x.side), .int .i64 (x.price), .int .i64 (x.qty)], .bool true]) w')) (by kernel_rfl) ⟨HD0.out.box.cell 0 rfl, HK0.out.cell 0 rfl, HK0.out.cell 1 rfl, HL.out _ HD0.out.map.drew⟩ (fun hHeld => ?_)
      replace HD0 := Lib.hid HD0.out.drew
      replace HM0 := Lib.hid HM0.out.drew
      replace HK0 := Lib.hid HK0.out.drew
      replace HC0 := Lib.hid HC0.out.drew
      have hsz : w.heap.size + 1 < ((w.alloc (.cells m.cells 66)).alloc (.cells #[.int .i64 m.sym, .int .i64 m.id] 164)).drew.heap.size := HK0.out.lt
      generalize ((w.alloc (.cells m.cells 66)).alloc (.cells #[.int .i64 m.sym, .int .i64 m.id] 164)).drew = W1 at HD0 HM0 HK0 HC0 hHeld hsz ⊢
      refine wpAnyH_take (i := 0) (oi := ⟨some 18, _, _, _, _, _⟩) (v := (.pointer (some ⟨D, 0, none⟩))) rfl (by kernel_rfl) (by kernel_rfl) (by kernel_rfl) (fun _ _ _ h => h) (Or.inl ⟨by rfl, fun w hSw => by (try dsimp only at hSw); go_simp⟩) (by assumption) ?_
      simp only [Act.put, List.setIfInBounds_toArray, List.set_cons_zero, List.set_cons_succ]
      refine wpAnyH_take (i := 1) (oi := ⟨some 19, _, _, _, _, _⟩) (v := (.pointer (some ⟨D, 0, none⟩))) rfl (by kernel_rfl) (by kernel_rfl) (by kernel_rfl) (fun _ _ _ h => h) (Or.inl ⟨by rfl, fun w hSw => by (try dsimp only at hSw); go_simp⟩) (by assumption) ?_
      simp only [Act.put, List.setIfInBounds_toArray, List.set_cons_zero, List.set_cons_succ]
      refine wpAnyH_take (i := 2) (oi := ⟨some 20, _, _, _, _, _⟩) (v := (.pointer (some ⟨D, 0, none⟩))) rfl (by kernel_rfl) (by kernel_rfl) (by kernel_rfl) (fun _ _ _ h => h) (Or.inl ⟨by rfl, fun w hSw => by (try dsimp only at hSw); go_simp⟩) (by assumption) ?_
      simp only [Act.put, List.setIfInBounds_toArray, List.set_cons_zero, List.set_cons_succ]
      refine wpAnyH_take (i := 3) (oi := ⟨some 21, _, _, _, _, _⟩) (v := (.map (some b))) rfl (by kernel_rfl) (by kernel_rfl) (by kernel_rfl) (fun _ _ _ h => h) (Or.inl ⟨by rfl, fun w hSw => by (try dsimp only at hSw); go_simp⟩) (by assumption) ?_
      simp only [Act.put, List.setIfInBounds_toArray, List.set_cons_zero, List.set_cons_succ]
      refine wpAnyH_take (i := 4) (oi := ⟨some 22, _, _, _, _, _⟩) (v := (.agg #[.int .i64 m.sym, .int .i64 m.id])) rfl (by kernel_rfl) (by kernel_rfl) (by kernel_rfl) (fun _ _ _ h => h) (Or.inl ⟨by rfl, fun w hSw => by (try dsimp only at hSw); go_simp⟩) (by assumption) ?_
      simp only [Act.put, List.setIfInBounds_toArray, List.set_cons_zero, List.set_cons_succ]
      refine wpAnyH_take (i := 5) (oi := ⟨some 23, _, _, _, _, _⟩) (v := (.tuple #[.agg #[.int .i64 (x.side), .int .i64 (x.price), .int .i64 (x.qty)], .bool true])) rfl (by kernel_rfl) (by kernel_rfl) (by kernel_rfl) (fun _ _ _ h => h) (Or.inl ⟨by rfl, fun w hSw => by (try dsimp only at hSw); go_simp⟩) (by assumption) ?_
      simp only [Act.put, List.setIfInBounds_toArray, List.set_cons_zero, List.set_cons_succ]
      refine wpAnyH_take (i := 6) (oi := ⟨some 17, _, _, _, _, _⟩) (v := (.tuple #[.agg #[.int .i64 (x.side), .int .i64 (x.price), .int .i64 (x.qty)], .bool true])) rfl (by kernel_rfl) (by kernel_rfl) (by kernel_rfl) (fun _ _ _ h => h) (Or.inl ⟨by rfl, fun w hSw => by (try dsimp only at hSw); go_simp⟩) (by assumption) ?_
      simp only [Act.put, List.setIfInBounds_toArray, List.set_cons_zero, List.set_cons_succ]
      refine wpAnyH_take (i := 7) (oi := ⟨some 24, _, _, _, _, _⟩) (v := (.agg #[.int .i64 (x.side), .int .i64 (x.price), .int .i64 (x.qty)])) rfl (by kernel_rfl) (by kernel_rfl) (by kernel_rfl) (fun _ _ _ h => h) (Or.inl ⟨by rfl, fun w hSw => by (try dsimp only at hSw); go_simp⟩) (by assumption) ?_
      simp only [Act.put, List.setIfInBounds_toArray, List.set_cons_zero, List.set_cons_succ]
      refine wpAnyH_take (i := 8) (oi := ⟨some 25, _, _, _, _, _⟩) (v := (.bool true)) rfl (by kernel_rfl) (by kernel_rfl) (by kernel_rfl) (fun _ _ _ h => h) (Or.inl ⟨by rfl, fun w hSw => by (try dsimp only at hSw); go_simp⟩) (by assumption) ?_
      simp only [Act.put, List.setIfInBounds_toArray, List.set_cons_zero, List.set_cons_succ]
      refine wpAnyH_ready (rs := [9]) (by kernel_rfl) (by simp) ?_
      refine AllReadyH.cons (o := ⟨some 6, _, _, _, _, _⟩) rfl (fun KK hK => ?_) AllReadyH.nil
      go_simp
      change KK _ (W1.alloc (.cells restZ 166))
      have HS : Hid (QS w D b m W1.heap.size (W1.alloc (.cells restZ 166)) L restZ) := Lib.hid ⟨HD0.out.alloc _, HM0.out.old _, HK0.out.old _, Blk.new _ _ _ _ rfl, HC0.out.alloc HC0.out.size _, hD, hb, hsz⟩
      refine hK.out _ _ ⟨HS.out.ds.box.cell 0 rfl, HS.out.kb.cell 0 rfl, HS.out.kb.cell 1 rfl, HL.out _ HS.out.ds.map⟩ (fun hHeld => ?_)
      clear hK; try clear KK
      try simp only [Act.put, List.setIfInBounds_toArray, List.set_cons_zero, List.set_cons_succ]
      refine wpAnyH_ready (rs := [10]) (by kernel_rfl) (by simp) ?_
      refine AllReadyH.cons (o := ⟨none, _, _, _, _, _⟩) rfl (fun KK hK => ?_) AllReadyH.nil
      refine step_store_blk (by rfl) 166 _ _ (by rfl) W1.heap.size (by rfl) restZ #[.int .i64 (x.side), .int .i64 (x.price), .int .i64 (x.qty)] 166 HS.out.x (by rfl) rfl (by kernel_rfl) (one_rest ⟨x.side, x.price, x.qty⟩) ?_
      replace HS := Lib.hid (HS.out.mput #[.int .i64 (x.side), .int .i64 (x.price), .int .i64 (x.qty)] rfl)
      refine hK.out _ _ ⟨HS.out.ds.box.cell 0 rfl, HS.out.kb.cell 0 rfl, HS.out.kb.cell 1 rfl, HL.out _ HS.out.ds.map⟩ (fun hHeld => ?_)
      clear hK; try clear KK
      refine wpAnyH_take (i := 11) (oi := ⟨some 7, _, _, _, _, _⟩) (v := (.bool true)) rfl (by kernel_rfl) (by kernel_rfl) (by kernel_rfl) (fun _ _ _ h => h) (Or.inl ⟨by rfl, fun w hSw => by (try dsimp only at hSw); go_simp⟩) (by assumption) ?_
      simp only [Act.put, List.setIfInBounds_toArray, List.set_cons_zero, List.set_cons_succ]
      refine wpAnyH_done (by kernel_rfl) ?_ _
      generalize hW2 : World.setCells (W1.alloc (.cells restZ 166)) W1.heap.size 0 #[.int .i64 (x.side), .int .i64 (x.price), .int .i64 (x.qty)].toList = W2 at HS hHeld ⊢
      clear hW2 hHeld HD0 HM0 HK0 HC0
      generalize W1.heap.size = xb at HS hsz ⊢
      have m0 : W2.cell? ⟨w.heap.size, 0, none⟩ = some (.int .i64 m.kind) := HS.out.mb.cell 0 rfl
      have m1 : W2.cell? ⟨w.heap.size, 1, none⟩ = some (.int .i64 m.sym) := HS.out.mb.cell 1 rfl
      have m5 : W2.cell? ⟨w.heap.size, 5, none⟩ = some (.int .i64 m.wth) := HS.out.mb.cell 5 rfl
      have m6 : W2.cell? ⟨w.heap.size, 6, none⟩ = some (.int .i64 m.price) := HS.out.mb.cell 6 rfl
      have m7 : W2.cell? ⟨w.heap.size, 7, none⟩ = some (.int .i64 m.qty) := HS.out.mb.cell 7 rfl
      have m8 : W2.cell? ⟨w.heap.size, 8, none⟩ = some (.int .i64 m.code) := HS.out.mb.cell 8 rfl
      have k0 : W2.cell? ⟨w.heap.size + 1, 0, none⟩ = some (.int .i64 m.sym) := HS.out.kb.cell 0 rfl
      have k1 : W2.cell? ⟨w.heap.size + 1, 1, none⟩ = some (.int .i64 m.id) := HS.out.kb.cell 1 rfl
      go_wp2_with fail
      go_ret
      exact ⟨by (show Ending.returned (.bool false) = _; rw [HE.out]), by rw [HE.out]; exact HS.out.ds, HS.out.chg⟩
  · have HFI := Lib.hid (fits hok (m.sym, m.id) m.qty (by omega) hq1)
    have HF2 := Lib.hid (fits (ok_less hok (m.sym, m.id) m.qty (by omega)) (m.sym, m.wth) m.qty (by omega) hq1)
    by_cases hc : m.code = 1
    · have HE := Lib.hid (show putF L m = lessF L (m.sym, m.id) m.qty by simp [putF, h3, hq, hc])
      have g8 : (m.code != 1) = false := by simp [hc]
      clear h3 hc HF2
      cases hk : mget (m.sym, m.id) L with
      | none =>
        have HD0 := Lib.hid ((h.alloc (.cells m.cells 66)).alloc (.cells #[.int .i64 m.sym, .int .i64 m.id] 164))
        have HM0 := Lib.hid ((Blk.new w m.cells 66 w.heap.size rfl).old (.cells #[.int .i64 m.sym, .int .i64 m.id] 164))
        have HK0 := Lib.hid (Blk.new (w.alloc (.cells m.cells 66)) #[.int .i64 m.sym, .int .i64 m.id] 164 (w.heap.size + 1) (by simp))
        have HC0 := Lib.hid (show Chg w.heap.size b w ((w.alloc (.cells m.cells 66)).alloc (.cells #[.int .i64 m.sym, .int .i64 m.id] 164)) from ((Chg.refl _ _ _).alloc (Nat.le_refl _) _).alloc (by simp) _)
        have hD := h.box.lt
        have hb := h.map.lt
        have m1 : (w.alloc (.cells m.cells 66)).cell? ⟨w.heap.size, 1, none⟩ = some (.int .i64 m.sym) := (Blk.new w m.cells 66 w.heap.size rfl).cell 1 rfl
        have m4 : (w.alloc (.cells m.cells 66)).cell? ⟨w.heap.size, 4, none⟩ = some (.int .i64 m.id) := (Blk.new w m.cells 66 w.heap.size rfl).cell 4 rfl
        have HL := Lib.hid (fun W (hm : MapIs W b ke ve L) => show (Instr.lookup 160 (.map (some b)) (.agg #[.int .i64 m.sym, .int .i64 m.id]) true).run Try.prog W = .ok (.tuple #[.agg #[.int .i64 (0), .int .i64 (0), .int .i64 (0)], .bool false]) W by have := look_at hm m.sym m.id; rw [hk] at this; exact this)
        have HK := Lib.hid hk
        clear h hk
        go_enter Try.func37, Try.ntmps37
        go_upto_region 4 with fail
        clear m1 m4
        change Code.wp _ _ _ _ ((w.alloc (.cells m.cells 66)).alloc (.cells #[.int .i64 m.sym, .int .i64 m.id] 164))
        refine wp_region_held_drew (S := (fun w' => w'.cell? ⟨D, 0, none⟩ = some (.map (some b)) ∧ w'.cell? ⟨w.heap.size + 1, 0, none⟩ = some (.int .i64 m.sym) ∧ w'.cell? ⟨w.heap.size + 1, 1, none⟩ = some (.int .i64 m.id) ∧ (Instr.lookup 160 (.map (some b)) (.agg #[.int .i64 m.sym, .int .i64 m.id]) true).run Try.prog w' = .ok (.tuple #[.agg #[.int .i64 (0), .int .i64 (0), .int .i64 (0)], .bool false]) w')) (by kernel_rfl) ⟨HD0.out.box.cell 0 rfl, HK0.out.cell 0 rfl, HK0.out.cell 1 rfl, HL.out _ HD0.out.map.drew⟩ (fun hHeld => ?_)
        replace HD0 := Lib.hid HD0.out.drew
        replace HM0 := Lib.hid HM0.out.drew
        replace HK0 := Lib.hid HK0.out.drew
        replace HC0 := Lib.hid HC0.out.drew
        have hsz : w.heap.size + 1 < ((w.alloc (.cells m.cells 66)).alloc (.cells #[.int .i64 m.sym, .int .i64 m.id] 164)).drew.heap.size := HK0.out.lt
        generalize ((w.alloc (.cells m.cells 66)).alloc (.cells #[.int .i64 m.sym, .int .i64 m.id] 164)).drew = W1 at HD0 HM0 HK0 HC0 hHeld hsz ⊢
        refine wpAnyH_take (i := 0) (oi := ⟨some 18, _, _, _, _, _⟩) (v := (.pointer (some ⟨D, 0, none⟩))) rfl (by kernel_rfl) (by kernel_rfl) (by kernel_rfl) (fun _ _ _ h => h) (Or.inl ⟨by rfl, fun w hSw => by (try dsimp only at hSw); go_simp⟩) (by assumption) ?_
        simp only [Act.put, List.setIfInBounds_toArray, List.set_cons_zero, List.set_cons_succ]
        refine wpAnyH_take (i := 1) (oi := ⟨some 19, _, _, _, _, _⟩) (v := (.pointer (some ⟨D, 0, none⟩))) rfl (by kernel_rfl) (by kernel_rfl) (by kernel_rfl) (fun _ _ _ h => h) (Or.inl ⟨by rfl, fun w hSw => by (try dsimp only at hSw); go_simp⟩) (by assumption) ?_
        simp only [Act.put, List.setIfInBounds_toArray, List.set_cons_zero, List.set_cons_succ]
        refine wpAnyH_take (i := 2) (oi := ⟨some 20, _, _, _, _, _⟩) (v := (.pointer (some ⟨D, 0, none⟩))) rfl (by kernel_rfl) (by kernel_rfl) (by kernel_rfl) (fun _ _ _ h => h) (Or.inl ⟨by rfl, fun w hSw => by (try dsimp only at hSw); go_simp⟩) (by assumption) ?_
        simp only [Act.put, List.setIfInBounds_toArray, List.set_cons_zero, List.set_cons_succ]
        refine wpAnyH_take (i := 3) (oi := ⟨some 21, _, _, _, _, _⟩) (v := (.map (some b))) rfl (by kernel_rfl) (by kernel_rfl) (by kernel_rfl) (fun _ _ _ h => h) (Or.inl ⟨by rfl, fun w hSw => by (try dsimp only at hSw); go_simp⟩) (by assumption) ?_
        simp only [Act.put, List.setIfInBounds_toArray, List.set_cons_zero, List.set_cons_succ]
        refine wpAnyH_take (i := 4) (oi := ⟨some 22, _, _, _, _, _⟩) (v := (.agg #[.int .i64 m.sym, .int .i64 m.id])) rfl (by kernel_rfl) (by kernel_rfl) (by kernel_rfl) (fun _ _ _ h => h) (Or.inl ⟨by rfl, fun w hSw => by (try dsimp only at hSw); go_simp⟩) (by assumption) ?_
        simp only [Act.put, List.setIfInBounds_toArray, List.set_cons_zero, List.set_cons_succ]
        refine wpAnyH_take (i := 5) (oi := ⟨some 23, _, _, _, _, _⟩) (v := (.tuple #[.agg #[.int .i64 (0), .int .i64 (0), .int .i64 (0)], .bool false])) rfl (by kernel_rfl) (by kernel_rfl) (by kernel_rfl) (fun _ _ _ h => h) (Or.inl ⟨by rfl, fun w hSw => by (try dsimp only at hSw); go_simp⟩) (by assumption) ?_
        simp only [Act.put, List.setIfInBounds_toArray, List.set_cons_zero, List.set_cons_succ]
        refine wpAnyH_take (i := 6) (oi := ⟨some 17, _, _, _, _, _⟩) (v := (.tuple #[.agg #[.int .i64 (0), .int .i64 (0), .int .i64 (0)], .bool false])) rfl (by kernel_rfl) (by kernel_rfl) (by kernel_rfl) (fun _ _ _ h => h) (Or.inl ⟨by rfl, fun w hSw => by (try dsimp only at hSw); go_simp⟩) (by assumption) ?_
        simp only [Act.put, List.setIfInBounds_toArray, List.set_cons_zero, List.set_cons_succ]
        refine wpAnyH_take (i := 7) (oi := ⟨some 24, _, _, _, _, _⟩) (v := (.agg #[.int .i64 (0), .int .i64 (0), .int .i64 (0)])) rfl (by kernel_rfl) (by kernel_rfl) (by kernel_rfl) (fun _ _ _ h => h) (Or.inl ⟨by rfl, fun w hSw => by (try dsimp only at hSw); go_simp⟩) (by assumption) ?_
        simp only [Act.put, List.setIfInBounds_toArray, List.set_cons_zero, List.set_cons_succ]
        refine wpAnyH_take (i := 8) (oi := ⟨some 25, _, _, _, _, _⟩) (v := (.bool false)) rfl (by kernel_rfl) (by kernel_rfl) (by kernel_rfl) (fun _ _ _ h => h) (Or.inl ⟨by rfl, fun w hSw => by (try dsimp only at hSw); go_simp⟩) (by assumption) ?_
        simp only [Act.put, List.setIfInBounds_toArray, List.set_cons_zero, List.set_cons_succ]
        refine wpAnyH_ready (rs := [9]) (by kernel_rfl) (by simp) ?_
        refine AllReadyH.cons (o := ⟨some 6, _, _, _, _, _⟩) rfl (fun KK hK => ?_) AllReadyH.nil
        go_simp
        change KK _ (W1.alloc (.cells restZ 166))
        have HS : Hid (QS w D b m W1.heap.size (W1.alloc (.cells restZ 166)) L restZ) := Lib.hid ⟨HD0.out.alloc _, HM0.out.old _, HK0.out.old _, Blk.new _ _ _ _ rfl, HC0.out.alloc HC0.out.size _, hD, hb, hsz⟩
        refine hK.out _ _ ⟨HS.out.ds.box.cell 0 rfl, HS.out.kb.cell 0 rfl, HS.out.kb.cell 1 rfl, HL.out _ HS.out.ds.map⟩ (fun hHeld => ?_)
        clear hK; try clear KK
        try simp only [Act.put, List.setIfInBounds_toArray, List.set_cons_zero, List.set_cons_succ]
        refine wpAnyH_ready (rs := [10]) (by kernel_rfl) (by simp) ?_
        refine AllReadyH.cons (o := ⟨none, _, _, _, _, _⟩) rfl (fun KK hK => ?_) AllReadyH.nil
        refine step_store_blk (by rfl) 166 _ _ (by rfl) W1.heap.size (by rfl) restZ #[.int .i64 (0), .int .i64 (0), .int .i64 (0)] 166 HS.out.x (by rfl) rfl (by kernel_rfl) (one_rest ⟨0, 0, 0⟩) ?_
        replace HS := Lib.hid (HS.out.mput #[.int .i64 (0), .int .i64 (0), .int .i64 (0)] rfl)
        refine hK.out _ _ ⟨HS.out.ds.box.cell 0 rfl, HS.out.kb.cell 0 rfl, HS.out.kb.cell 1 rfl, HL.out _ HS.out.ds.map⟩ (fun hHeld => ?_)
        clear hK; try clear KK
        refine wpAnyH_take (i := 11) (oi := ⟨some 7, _, _, _, _, _⟩) (v := (.bool false)) rfl (by kernel_rfl) (by kernel_rfl) (by kernel_rfl) (fun _ _ _ h => h) (Or.inl ⟨by rfl, fun w hSw => by (try dsimp only at hSw); go_simp⟩) (by assumption) ?_
        simp only [Act.put, List.setIfInBounds_toArray, List.set_cons_zero, List.set_cons_succ]
        refine wpAnyH_done (by kernel_rfl) ?_ _
        generalize hW2 : World.setCells (W1.alloc (.cells restZ 166)) W1.heap.size 0 #[.int .i64 (0), .int .i64 (0), .int .i64 (0)].toList = W2 at HS hHeld ⊢
        clear hW2 hHeld HD0 HM0 HK0 HC0
        generalize W1.heap.size = xb at HS hsz ⊢
        have m0 : W2.cell? ⟨w.heap.size, 0, none⟩ = some (.int .i64 m.kind) := HS.out.mb.cell 0 rfl
        have m1 : W2.cell? ⟨w.heap.size, 1, none⟩ = some (.int .i64 m.sym) := HS.out.mb.cell 1 rfl
        have m5 : W2.cell? ⟨w.heap.size, 5, none⟩ = some (.int .i64 m.wth) := HS.out.mb.cell 5 rfl
        have m6 : W2.cell? ⟨w.heap.size, 6, none⟩ = some (.int .i64 m.price) := HS.out.mb.cell 6 rfl
        have m7 : W2.cell? ⟨w.heap.size, 7, none⟩ = some (.int .i64 m.qty) := HS.out.mb.cell 7 rfl
        have m8 : W2.cell? ⟨w.heap.size, 8, none⟩ = some (.int .i64 m.code) := HS.out.mb.cell 8 rfl
        have k0 : W2.cell? ⟨w.heap.size + 1, 0, none⟩ = some (.int .i64 m.sym) := HS.out.kb.cell 0 rfl
        have k1 : W2.cell? ⟨w.heap.size + 1, 1, none⟩ = some (.int .i64 m.id) := HS.out.kb.cell 1 rfl
        have c1 : W2.cell? ⟨w.heap.size, 7, none⟩ = some (.int .i64 m.qty) := m7
        go_wp2_with fail
        refine (less_any D b L m.sym m.id m.qty _ HS.out.ds HFI.out).mono ?_
        rintro e w3 ⟨rfl, hd3, hc3⟩
        replace HS := Lib.hid (HS.out.turnD hd3 hc3)
        clear hd3 hc3 c1 m0 m1 m5 m6 m7 m8 k0 k1
        have m1 : w3.cell? ⟨w.heap.size, 1, none⟩ = some (.int .i64 m.sym) := HS.out.mb.cell 1 rfl
        have m5 : w3.cell? ⟨w.heap.size, 5, none⟩ = some (.int .i64 m.wth) := HS.out.mb.cell 5 rfl
        have m7 : w3.cell? ⟨w.heap.size, 7, none⟩ = some (.int .i64 m.qty) := HS.out.mb.cell 7 rfl
        have m8 : w3.cell? ⟨w.heap.size, 8, none⟩ = some (.int .i64 m.code) := HS.out.mb.cell 8 rfl
        generalize hA : lessF L (m.sym, m.id) m.qty = A at HS HE ⊢
        clear hA
        obtain ⟨L1, c1⟩ := A
        dsimp only at HS HE ⊢
        go_wp2_with fail
        go_ret
        exact ⟨by (show Ending.returned (.bool c1) = _; rw [HE.out]), by rw [HE.out]; exact HS.out.ds, HS.out.chg⟩
      | some x =>
        have HD0 := Lib.hid ((h.alloc (.cells m.cells 66)).alloc (.cells #[.int .i64 m.sym, .int .i64 m.id] 164))
        have HM0 := Lib.hid ((Blk.new w m.cells 66 w.heap.size rfl).old (.cells #[.int .i64 m.sym, .int .i64 m.id] 164))
        have HK0 := Lib.hid (Blk.new (w.alloc (.cells m.cells 66)) #[.int .i64 m.sym, .int .i64 m.id] 164 (w.heap.size + 1) (by simp))
        have HC0 := Lib.hid (show Chg w.heap.size b w ((w.alloc (.cells m.cells 66)).alloc (.cells #[.int .i64 m.sym, .int .i64 m.id] 164)) from ((Chg.refl _ _ _).alloc (Nat.le_refl _) _).alloc (by simp) _)
        have hD := h.box.lt
        have hb := h.map.lt
        have m1 : (w.alloc (.cells m.cells 66)).cell? ⟨w.heap.size, 1, none⟩ = some (.int .i64 m.sym) := (Blk.new w m.cells 66 w.heap.size rfl).cell 1 rfl
        have m4 : (w.alloc (.cells m.cells 66)).cell? ⟨w.heap.size, 4, none⟩ = some (.int .i64 m.id) := (Blk.new w m.cells 66 w.heap.size rfl).cell 4 rfl
        have HL := Lib.hid (fun W (hm : MapIs W b ke ve L) => show (Instr.lookup 160 (.map (some b)) (.agg #[.int .i64 m.sym, .int .i64 m.id]) true).run Try.prog W = .ok (.tuple #[.agg #[.int .i64 (x.side), .int .i64 (x.price), .int .i64 (x.qty)], .bool true]) W by have := look_at hm m.sym m.id; rw [hk] at this; exact this)
        have HK := Lib.hid hk
        clear h hk
        go_enter Try.func37, Try.ntmps37
        go_upto_region 4 with fail
        clear m1 m4
        change Code.wp _ _ _ _ ((w.alloc (.cells m.cells 66)).alloc (.cells #[.int .i64 m.sym, .int .i64 m.id] 164))
        refine wp_region_held_drew (S := (fun w' => w'.cell? ⟨D, 0, none⟩ = some (.map (some b)) ∧ w'.cell? ⟨w.heap.size + 1, 0, none⟩ = some (.int .i64 m.sym) ∧ w'.cell? ⟨w.heap.size + 1, 1, none⟩ = some (.int .i64 m.id) ∧ (Instr.lookup 160 (.map (some b)) (.agg #[.int .i64 m.sym, .int .i64 m.id]) true).run Try.prog w' = .ok (.tuple #[.agg #[.int .i64 (x.side), .int .i64 (x.price), .int .i64 (x.qty)], .bool true]) w')) (by kernel_rfl) ⟨HD0.out.box.cell 0 rfl, HK0.out.cell 0 rfl, HK0.out.cell 1 rfl, HL.out _ HD0.out.map.drew⟩ (fun hHeld => ?_)
        replace HD0 := Lib.hid HD0.out.drew
        replace HM0 := Lib.hid HM0.out.drew
        replace HK0 := Lib.hid HK0.out.drew
        replace HC0 := Lib.hid HC0.out.drew
        have hsz : w.heap.size + 1 < ((w.alloc (.cells m.cells 66)).alloc (.cells #[.int .i64 m.sym, .int .i64 m.id] 164)).drew.heap.size := HK0.out.lt
        generalize ((w.alloc (.cells m.cells 66)).alloc (.cells #[.int .i64 m.sym, .int .i64 m.id] 164)).drew = W1 at HD0 HM0 HK0 HC0 hHeld hsz ⊢
        refine wpAnyH_take (i := 0) (oi := ⟨some 18, _, _, _, _, _⟩) (v := (.pointer (some ⟨D, 0, none⟩))) rfl (by kernel_rfl) (by kernel_rfl) (by kernel_rfl) (fun _ _ _ h => h) (Or.inl ⟨by rfl, fun w hSw => by (try dsimp only at hSw); go_simp⟩) (by assumption) ?_
        simp only [Act.put, List.setIfInBounds_toArray, List.set_cons_zero, List.set_cons_succ]
        refine wpAnyH_take (i := 1) (oi := ⟨some 19, _, _, _, _, _⟩) (v := (.pointer (some ⟨D, 0, none⟩))) rfl (by kernel_rfl) (by kernel_rfl) (by kernel_rfl) (fun _ _ _ h => h) (Or.inl ⟨by rfl, fun w hSw => by (try dsimp only at hSw); go_simp⟩) (by assumption) ?_
        simp only [Act.put, List.setIfInBounds_toArray, List.set_cons_zero, List.set_cons_succ]
        refine wpAnyH_take (i := 2) (oi := ⟨some 20, _, _, _, _, _⟩) (v := (.pointer (some ⟨D, 0, none⟩))) rfl (by kernel_rfl) (by kernel_rfl) (by kernel_rfl) (fun _ _ _ h => h) (Or.inl ⟨by rfl, fun w hSw => by (try dsimp only at hSw); go_simp⟩) (by assumption) ?_
        simp only [Act.put, List.setIfInBounds_toArray, List.set_cons_zero, List.set_cons_succ]
        refine wpAnyH_take (i := 3) (oi := ⟨some 21, _, _, _, _, _⟩) (v := (.map (some b))) rfl (by kernel_rfl) (by kernel_rfl) (by kernel_rfl) (fun _ _ _ h => h) (Or.inl ⟨by rfl, fun w hSw => by (try dsimp only at hSw); go_simp⟩) (by assumption) ?_
        simp only [Act.put, List.setIfInBounds_toArray, List.set_cons_zero, List.set_cons_succ]
        refine wpAnyH_take (i := 4) (oi := ⟨some 22, _, _, _, _, _⟩) (v := (.agg #[.int .i64 m.sym, .int .i64 m.id])) rfl (by kernel_rfl) (by kernel_rfl) (by kernel_rfl) (fun _ _ _ h => h) (Or.inl ⟨by rfl, fun w hSw => by (try dsimp only at hSw); go_simp⟩) (by assumption) ?_
        simp only [Act.put, List.setIfInBounds_toArray, List.set_cons_zero, List.set_cons_succ]
        refine wpAnyH_take (i := 5) (oi := ⟨some 23, _, _, _, _, _⟩) (v := (.tuple #[.agg #[.int .i64 (x.side), .int .i64 (x.price), .int .i64 (x.qty)], .bool true])) rfl (by kernel_rfl) (by kernel_rfl) (by kernel_rfl) (fun _ _ _ h => h) (Or.inl ⟨by rfl, fun w hSw => by (try dsimp only at hSw); go_simp⟩) (by assumption) ?_
        simp only [Act.put, List.setIfInBounds_toArray, List.set_cons_zero, List.set_cons_succ]
        refine wpAnyH_take (i := 6) (oi := ⟨some 17, _, _, _, _, _⟩) (v := (.tuple #[.agg #[.int .i64 (x.side), .int .i64 (x.price), .int .i64 (x.qty)], .bool true])) rfl (by kernel_rfl) (by kernel_rfl) (by kernel_rfl) (fun _ _ _ h => h) (Or.inl ⟨by rfl, fun w hSw => by (try dsimp only at hSw); go_simp⟩) (by assumption) ?_
        simp only [Act.put, List.setIfInBounds_toArray, List.set_cons_zero, List.set_cons_succ]
        refine wpAnyH_take (i := 7) (oi := ⟨some 24, _, _, _, _, _⟩) (v := (.agg #[.int .i64 (x.side), .int .i64 (x.price), .int .i64 (x.qty)])) rfl (by kernel_rfl) (by kernel_rfl) (by kernel_rfl) (fun _ _ _ h => h) (Or.inl ⟨by rfl, fun w hSw => by (try dsimp only at hSw); go_simp⟩) (by assumption) ?_
        simp only [Act.put, List.setIfInBounds_toArray, List.set_cons_zero, List.set_cons_succ]
        refine wpAnyH_take (i := 8) (oi := ⟨some 25, _, _, _, _, _⟩) (v := (.bool true)) rfl (by kernel_rfl) (by kernel_rfl) (by kernel_rfl) (fun _ _ _ h => h) (Or.inl ⟨by rfl, fun w hSw => by (try dsimp only at hSw); go_simp⟩) (by assumption) ?_
        simp only [Act.put, List.setIfInBounds_toArray, List.set_cons_zero, List.set_cons_succ]
        refine wpAnyH_ready (rs := [9]) (by kernel_rfl) (by simp) ?_
        refine AllReadyH.cons (o := ⟨some 6, _, _, _, _, _⟩) rfl (fun KK hK => ?_) AllReadyH.nil
        go_simp
        change KK _ (W1.alloc (.cells restZ 166))
        have HS : Hid (QS w D b m W1.heap.size (W1.alloc (.cells restZ 166)) L restZ) := Lib.hid ⟨HD0.out.alloc _, HM0.out.old _, HK0.out.old _, Blk.new _ _ _ _ rfl, HC0.out.alloc HC0.out.size _, hD, hb, hsz⟩
        refine hK.out _ _ ⟨HS.out.ds.box.cell 0 rfl, HS.out.kb.cell 0 rfl, HS.out.kb.cell 1 rfl, HL.out _ HS.out.ds.map⟩ (fun hHeld => ?_)
        clear hK; try clear KK
        try simp only [Act.put, List.setIfInBounds_toArray, List.set_cons_zero, List.set_cons_succ]
        refine wpAnyH_ready (rs := [10]) (by kernel_rfl) (by simp) ?_
        refine AllReadyH.cons (o := ⟨none, _, _, _, _, _⟩) rfl (fun KK hK => ?_) AllReadyH.nil
        refine step_store_blk (by rfl) 166 _ _ (by rfl) W1.heap.size (by rfl) restZ #[.int .i64 (x.side), .int .i64 (x.price), .int .i64 (x.qty)] 166 HS.out.x (by rfl) rfl (by kernel_rfl) (one_rest ⟨x.side, x.price, x.qty⟩) ?_
        replace HS := Lib.hid (HS.out.mput #[.int .i64 (x.side), .int .i64 (x.price), .int .i64 (x.qty)] rfl)
        refine hK.out _ _ ⟨HS.out.ds.box.cell 0 rfl, HS.out.kb.cell 0 rfl, HS.out.kb.cell 1 rfl, HL.out _ HS.out.ds.map⟩ (fun hHeld => ?_)
        clear hK; try clear KK
        refine wpAnyH_take (i := 11) (oi := ⟨some 7, _, _, _, _, _⟩) (v := (.bool true)) rfl (by kernel_rfl) (by kernel_rfl) (by kernel_rfl) (fun _ _ _ h => h) (Or.inl ⟨by rfl, fun w hSw => by (try dsimp only at hSw); go_simp⟩) (by assumption) ?_
        simp only [Act.put, List.setIfInBounds_toArray, List.set_cons_zero, List.set_cons_succ]
        refine wpAnyH_done (by kernel_rfl) ?_ _
        generalize hW2 : World.setCells (W1.alloc (.cells restZ 166)) W1.heap.size 0 #[.int .i64 (x.side), .int .i64 (x.price), .int .i64 (x.qty)].toList = W2 at HS hHeld ⊢
        clear hW2 hHeld HD0 HM0 HK0 HC0
        generalize W1.heap.size = xb at HS hsz ⊢
        have m0 : W2.cell? ⟨w.heap.size, 0, none⟩ = some (.int .i64 m.kind) := HS.out.mb.cell 0 rfl
        have m1 : W2.cell? ⟨w.heap.size, 1, none⟩ = some (.int .i64 m.sym) := HS.out.mb.cell 1 rfl
        have m5 : W2.cell? ⟨w.heap.size, 5, none⟩ = some (.int .i64 m.wth) := HS.out.mb.cell 5 rfl
        have m6 : W2.cell? ⟨w.heap.size, 6, none⟩ = some (.int .i64 m.price) := HS.out.mb.cell 6 rfl
        have m7 : W2.cell? ⟨w.heap.size, 7, none⟩ = some (.int .i64 m.qty) := HS.out.mb.cell 7 rfl
        have m8 : W2.cell? ⟨w.heap.size, 8, none⟩ = some (.int .i64 m.code) := HS.out.mb.cell 8 rfl
        have k0 : W2.cell? ⟨w.heap.size + 1, 0, none⟩ = some (.int .i64 m.sym) := HS.out.kb.cell 0 rfl
        have k1 : W2.cell? ⟨w.heap.size + 1, 1, none⟩ = some (.int .i64 m.id) := HS.out.kb.cell 1 rfl
        have c1 : W2.cell? ⟨w.heap.size, 7, none⟩ = some (.int .i64 m.qty) := m7
        go_wp2_with fail
        refine (less_any D b L m.sym m.id m.qty _ HS.out.ds HFI.out).mono ?_
        rintro e w3 ⟨rfl, hd3, hc3⟩
        replace HS := Lib.hid (HS.out.turnD hd3 hc3)
        clear hd3 hc3 c1 m0 m1 m5 m6 m7 m8 k0 k1
        have m1 : w3.cell? ⟨w.heap.size, 1, none⟩ = some (.int .i64 m.sym) := HS.out.mb.cell 1 rfl
        have m5 : w3.cell? ⟨w.heap.size, 5, none⟩ = some (.int .i64 m.wth) := HS.out.mb.cell 5 rfl
        have m7 : w3.cell? ⟨w.heap.size, 7, none⟩ = some (.int .i64 m.qty) := HS.out.mb.cell 7 rfl
        have m8 : w3.cell? ⟨w.heap.size, 8, none⟩ = some (.int .i64 m.code) := HS.out.mb.cell 8 rfl
        generalize hA : lessF L (m.sym, m.id) m.qty = A at HS HE ⊢
        clear hA
        obtain ⟨L1, c1⟩ := A
        dsimp only at HS HE ⊢
        go_wp2_with fail
        go_ret
        exact ⟨by (show Ending.returned (.bool c1) = _; rw [HE.out]), by rw [HE.out]; exact HS.out.ds, HS.out.chg⟩
    · have HE := Lib.hid (show putF L m = ((lessF (lessF L (m.sym, m.id) m.qty).1 (m.sym, m.wth) m.qty).1, (lessF L (m.sym, m.id) m.qty).2 || (lessF (lessF L (m.sym, m.id) m.qty).1 (m.sym, m.wth) m.qty).2) by simp [putF, h3, hq, hc])
      have g8 : (m.code != 1) = true := by simp [hc]
      clear h3 hc
      cases hk : mget (m.sym, m.id) L with
      | none =>
        have HD0 := Lib.hid ((h.alloc (.cells m.cells 66)).alloc (.cells #[.int .i64 m.sym, .int .i64 m.id] 164))
        have HM0 := Lib.hid ((Blk.new w m.cells 66 w.heap.size rfl).old (.cells #[.int .i64 m.sym, .int .i64 m.id] 164))
        have HK0 := Lib.hid (Blk.new (w.alloc (.cells m.cells 66)) #[.int .i64 m.sym, .int .i64 m.id] 164 (w.heap.size + 1) (by simp))
        have HC0 := Lib.hid (show Chg w.heap.size b w ((w.alloc (.cells m.cells 66)).alloc (.cells #[.int .i64 m.sym, .int .i64 m.id] 164)) from ((Chg.refl _ _ _).alloc (Nat.le_refl _) _).alloc (by simp) _)
        have hD := h.box.lt
        have hb := h.map.lt
        have m1 : (w.alloc (.cells m.cells 66)).cell? ⟨w.heap.size, 1, none⟩ = some (.int .i64 m.sym) := (Blk.new w m.cells 66 w.heap.size rfl).cell 1 rfl
        have m4 : (w.alloc (.cells m.cells 66)).cell? ⟨w.heap.size, 4, none⟩ = some (.int .i64 m.id) := (Blk.new w m.cells 66 w.heap.size rfl).cell 4 rfl
        have HL := Lib.hid (fun W (hm : MapIs W b ke ve L) => show (Instr.lookup 160 (.map (some b)) (.agg #[.int .i64 m.sym, .int .i64 m.id]) true).run Try.prog W = .ok (.tuple #[.agg #[.int .i64 (0), .int .i64 (0), .int .i64 (0)], .bool false]) W by have := look_at hm m.sym m.id; rw [hk] at this; exact this)
        have HK := Lib.hid hk
        clear h hk
        go_enter Try.func37, Try.ntmps37
        go_upto_region 4 with fail
        clear m1 m4
        change Code.wp _ _ _ _ ((w.alloc (.cells m.cells 66)).alloc (.cells #[.int .i64 m.sym, .int .i64 m.id] 164))
        refine wp_region_held_drew (S := (fun w' => w'.cell? ⟨D, 0, none⟩ = some (.map (some b)) ∧ w'.cell? ⟨w.heap.size + 1, 0, none⟩ = some (.int .i64 m.sym) ∧ w'.cell? ⟨w.heap.size + 1, 1, none⟩ = some (.int .i64 m.id) ∧ (Instr.lookup 160 (.map (some b)) (.agg #[.int .i64 m.sym, .int .i64 m.id]) true).run Try.prog w' = .ok (.tuple #[.agg #[.int .i64 (0), .int .i64 (0), .int .i64 (0)], .bool false]) w')) (by kernel_rfl) ⟨HD0.out.box.cell 0 rfl, HK0.out.cell 0 rfl, HK0.out.cell 1 rfl, HL.out _ HD0.out.map.drew⟩ (fun hHeld => ?_)
        replace HD0 := Lib.hid HD0.out.drew
        replace HM0 := Lib.hid HM0.out.drew
        replace HK0 := Lib.hid HK0.out.drew
        replace HC0 := Lib.hid HC0.out.drew
        have hsz : w.heap.size + 1 < ((w.alloc (.cells m.cells 66)).alloc (.cells #[.int .i64 m.sym, .int .i64 m.id] 164)).drew.heap.size := HK0.out.lt
        generalize ((w.alloc (.cells m.cells 66)).alloc (.cells #[.int .i64 m.sym, .int .i64 m.id] 164)).drew = W1 at HD0 HM0 HK0 HC0 hHeld hsz ⊢
        refine wpAnyH_take (i := 0) (oi := ⟨some 18, _, _, _, _, _⟩) (v := (.pointer (some ⟨D, 0, none⟩))) rfl (by kernel_rfl) (by kernel_rfl) (by kernel_rfl) (fun _ _ _ h => h) (Or.inl ⟨by rfl, fun w hSw => by (try dsimp only at hSw); go_simp⟩) (by assumption) ?_
        simp only [Act.put, List.setIfInBounds_toArray, List.set_cons_zero, List.set_cons_succ]
        refine wpAnyH_take (i := 1) (oi := ⟨some 19, _, _, _, _, _⟩) (v := (.pointer (some ⟨D, 0, none⟩))) rfl (by kernel_rfl) (by kernel_rfl) (by kernel_rfl) (fun _ _ _ h => h) (Or.inl ⟨by rfl, fun w hSw => by (try dsimp only at hSw); go_simp⟩) (by assumption) ?_
        simp only [Act.put, List.setIfInBounds_toArray, List.set_cons_zero, List.set_cons_succ]
        refine wpAnyH_take (i := 2) (oi := ⟨some 20, _, _, _, _, _⟩) (v := (.pointer (some ⟨D, 0, none⟩))) rfl (by kernel_rfl) (by kernel_rfl) (by kernel_rfl) (fun _ _ _ h => h) (Or.inl ⟨by rfl, fun w hSw => by (try dsimp only at hSw); go_simp⟩) (by assumption) ?_
        simp only [Act.put, List.setIfInBounds_toArray, List.set_cons_zero, List.set_cons_succ]
        refine wpAnyH_take (i := 3) (oi := ⟨some 21, _, _, _, _, _⟩) (v := (.map (some b))) rfl (by kernel_rfl) (by kernel_rfl) (by kernel_rfl) (fun _ _ _ h => h) (Or.inl ⟨by rfl, fun w hSw => by (try dsimp only at hSw); go_simp⟩) (by assumption) ?_
        simp only [Act.put, List.setIfInBounds_toArray, List.set_cons_zero, List.set_cons_succ]
        refine wpAnyH_take (i := 4) (oi := ⟨some 22, _, _, _, _, _⟩) (v := (.agg #[.int .i64 m.sym, .int .i64 m.id])) rfl (by kernel_rfl) (by kernel_rfl) (by kernel_rfl) (fun _ _ _ h => h) (Or.inl ⟨by rfl, fun w hSw => by (try dsimp only at hSw); go_simp⟩) (by assumption) ?_
        simp only [Act.put, List.setIfInBounds_toArray, List.set_cons_zero, List.set_cons_succ]
        refine wpAnyH_take (i := 5) (oi := ⟨some 23, _, _, _, _, _⟩) (v := (.tuple #[.agg #[.int .i64 (0), .int .i64 (0), .int .i64 (0)], .bool false])) rfl (by kernel_rfl) (by kernel_rfl) (by kernel_rfl) (fun _ _ _ h => h) (Or.inl ⟨by rfl, fun w hSw => by (try dsimp only at hSw); go_simp⟩) (by assumption) ?_
        simp only [Act.put, List.setIfInBounds_toArray, List.set_cons_zero, List.set_cons_succ]
        refine wpAnyH_take (i := 6) (oi := ⟨some 17, _, _, _, _, _⟩) (v := (.tuple #[.agg #[.int .i64 (0), .int .i64 (0), .int .i64 (0)], .bool false])) rfl (by kernel_rfl) (by kernel_rfl) (by kernel_rfl) (fun _ _ _ h => h) (Or.inl ⟨by rfl, fun w hSw => by (try dsimp only at hSw); go_simp⟩) (by assumption) ?_
        simp only [Act.put, List.setIfInBounds_toArray, List.set_cons_zero, List.set_cons_succ]
        refine wpAnyH_take (i := 7) (oi := ⟨some 24, _, _, _, _, _⟩) (v := (.agg #[.int .i64 (0), .int .i64 (0), .int .i64 (0)])) rfl (by kernel_rfl) (by kernel_rfl) (by kernel_rfl) (fun _ _ _ h => h) (Or.inl ⟨by rfl, fun w hSw => by (try dsimp only at hSw); go_simp⟩) (by assumption) ?_
        simp only [Act.put, List.setIfInBounds_toArray, List.set_cons_zero, List.set_cons_succ]
        refine wpAnyH_take (i := 8) (oi := ⟨some 25, _, _, _, _, _⟩) (v := (.bool false)) rfl (by kernel_rfl) (by kernel_rfl) (by kernel_rfl) (fun _ _ _ h => h) (Or.inl ⟨by rfl, fun w hSw => by (try dsimp only at hSw); go_simp⟩) (by assumption) ?_
        simp only [Act.put, List.setIfInBounds_toArray, List.set_cons_zero, List.set_cons_succ]
        refine wpAnyH_ready (rs := [9]) (by kernel_rfl) (by simp) ?_
        refine AllReadyH.cons (o := ⟨some 6, _, _, _, _, _⟩) rfl (fun KK hK => ?_) AllReadyH.nil
        go_simp
        change KK _ (W1.alloc (.cells restZ 166))
        have HS : Hid (QS w D b m W1.heap.size (W1.alloc (.cells restZ 166)) L restZ) := Lib.hid ⟨HD0.out.alloc _, HM0.out.old _, HK0.out.old _, Blk.new _ _ _ _ rfl, HC0.out.alloc HC0.out.size _, hD, hb, hsz⟩
        refine hK.out _ _ ⟨HS.out.ds.box.cell 0 rfl, HS.out.kb.cell 0 rfl, HS.out.kb.cell 1 rfl, HL.out _ HS.out.ds.map⟩ (fun hHeld => ?_)
        clear hK; try clear KK
        try simp only [Act.put, List.setIfInBounds_toArray, List.set_cons_zero, List.set_cons_succ]
        refine wpAnyH_ready (rs := [10]) (by kernel_rfl) (by simp) ?_
        refine AllReadyH.cons (o := ⟨none, _, _, _, _, _⟩) rfl (fun KK hK => ?_) AllReadyH.nil
        refine step_store_blk (by rfl) 166 _ _ (by rfl) W1.heap.size (by rfl) restZ #[.int .i64 (0), .int .i64 (0), .int .i64 (0)] 166 HS.out.x (by rfl) rfl (by kernel_rfl) (one_rest ⟨0, 0, 0⟩) ?_
        replace HS := Lib.hid (HS.out.mput #[.int .i64 (0), .int .i64 (0), .int .i64 (0)] rfl)
        refine hK.out _ _ ⟨HS.out.ds.box.cell 0 rfl, HS.out.kb.cell 0 rfl, HS.out.kb.cell 1 rfl, HL.out _ HS.out.ds.map⟩ (fun hHeld => ?_)
        clear hK; try clear KK
        refine wpAnyH_take (i := 11) (oi := ⟨some 7, _, _, _, _, _⟩) (v := (.bool false)) rfl (by kernel_rfl) (by kernel_rfl) (by kernel_rfl) (fun _ _ _ h => h) (Or.inl ⟨by rfl, fun w hSw => by (try dsimp only at hSw); go_simp⟩) (by assumption) ?_
        simp only [Act.put, List.setIfInBounds_toArray, List.set_cons_zero, List.set_cons_succ]
        refine wpAnyH_done (by kernel_rfl) ?_ _
        generalize hW2 : World.setCells (W1.alloc (.cells restZ 166)) W1.heap.size 0 #[.int .i64 (0), .int .i64 (0), .int .i64 (0)].toList = W2 at HS hHeld ⊢
        clear hW2 hHeld HD0 HM0 HK0 HC0
        generalize W1.heap.size = xb at HS hsz ⊢
        have m0 : W2.cell? ⟨w.heap.size, 0, none⟩ = some (.int .i64 m.kind) := HS.out.mb.cell 0 rfl
        have m1 : W2.cell? ⟨w.heap.size, 1, none⟩ = some (.int .i64 m.sym) := HS.out.mb.cell 1 rfl
        have m5 : W2.cell? ⟨w.heap.size, 5, none⟩ = some (.int .i64 m.wth) := HS.out.mb.cell 5 rfl
        have m6 : W2.cell? ⟨w.heap.size, 6, none⟩ = some (.int .i64 m.price) := HS.out.mb.cell 6 rfl
        have m7 : W2.cell? ⟨w.heap.size, 7, none⟩ = some (.int .i64 m.qty) := HS.out.mb.cell 7 rfl
        have m8 : W2.cell? ⟨w.heap.size, 8, none⟩ = some (.int .i64 m.code) := HS.out.mb.cell 8 rfl
        have k0 : W2.cell? ⟨w.heap.size + 1, 0, none⟩ = some (.int .i64 m.sym) := HS.out.kb.cell 0 rfl
        have k1 : W2.cell? ⟨w.heap.size + 1, 1, none⟩ = some (.int .i64 m.id) := HS.out.kb.cell 1 rfl
        have c1 : W2.cell? ⟨w.heap.size, 7, none⟩ = some (.int .i64 m.qty) := m7
        go_wp2_with fail
        refine (less_any D b L m.sym m.id m.qty _ HS.out.ds HFI.out).mono ?_
        rintro e w3 ⟨rfl, hd3, hc3⟩
        replace HS := Lib.hid (HS.out.turnD hd3 hc3)
        clear hd3 hc3 c1 m0 m1 m5 m6 m7 m8 k0 k1
        have m1 : w3.cell? ⟨w.heap.size, 1, none⟩ = some (.int .i64 m.sym) := HS.out.mb.cell 1 rfl
        have m5 : w3.cell? ⟨w.heap.size, 5, none⟩ = some (.int .i64 m.wth) := HS.out.mb.cell 5 rfl
        have m7 : w3.cell? ⟨w.heap.size, 7, none⟩ = some (.int .i64 m.qty) := HS.out.mb.cell 7 rfl
        have m8 : w3.cell? ⟨w.heap.size, 8, none⟩ = some (.int .i64 m.code) := HS.out.mb.cell 8 rfl
        generalize hA : lessF L (m.sym, m.id) m.qty = A at HS HE HF2 ⊢
        clear hA
        obtain ⟨L1, c1⟩ := A
        dsimp only at HS HE HF2 ⊢
        go_wp2_with fail
        refine (less_any D b L1 m.sym m.wth m.qty _ HS.out.ds HF2.out).mono ?_
        rintro e w4 ⟨rfl, hd4, hc4⟩
        replace HS := Lib.hid (HS.out.turnD hd4 hc4)
        clear hd4 hc4 m1 m5 m7 m8
        generalize hB : lessF L1 (m.sym, m.wth) m.qty = B at HS HE ⊢
        clear hB
        obtain ⟨L2, c2⟩ := B
        dsimp only at HS HE ⊢
        cases c2 with
        | true =>
          go_wp2_with fail
          go_ret
          exact ⟨by (show Ending.returned (.bool true) = _; rw [HE.out, Bool.or_true]), by rw [HE.out]; exact HS.out.ds, HS.out.chg⟩
        | false =>
          go_wp2_with fail
          go_ret
          exact ⟨by (show Ending.returned (.bool c1) = _; rw [HE.out, Bool.or_false]), by rw [HE.out]; exact HS.out.ds, HS.out.chg⟩
      | some x =>
        have HD0 := Lib.hid ((h.alloc (.cells m.cells 66)).alloc (.cells #[.int .i64 m.sym, .int .i64 m.id] 164))
        have HM0 := Lib.hid ((Blk.new w m.cells 66 w.heap.size rfl).old (.cells #[.int .i64 m.sym, .int .i64 m.id] 164))
        have HK0 := Lib.hid (Blk.new (w.alloc (.cells m.cells 66)) #[.int .i64 m.sym, .int .i64 m.id] 164 (w.heap.size + 1) (by simp))
        have HC0 := Lib.hid (show Chg w.heap.size b w ((w.alloc (.cells m.cells 66)).alloc (.cells #[.int .i64 m.sym, .int .i64 m.id] 164)) from ((Chg.refl _ _ _).alloc (Nat.le_refl _) _).alloc (by simp) _)
        have hD := h.box.lt
        have hb := h.map.lt
        have m1 : (w.alloc (.cells m.cells 66)).cell? ⟨w.heap.size, 1, none⟩ = some (.int .i64 m.sym) := (Blk.new w m.cells 66 w.heap.size rfl).cell 1 rfl
        have m4 : (w.alloc (.cells m.cells 66)).cell? ⟨w.heap.size, 4, none⟩ = some (.int .i64 m.id) := (Blk.new w m.cells 66 w.heap.size rfl).cell 4 rfl
        have HL := Lib.hid (fun W (hm : MapIs W b ke ve L) => show (Instr.lookup 160 (.map (some b)) (.agg #[.int .i64 m.sym, .int .i64 m.id]) true).run Try.prog W = .ok (.tuple #[.agg #[.int .i64 (x.side), .int .i64 (x.price), .int .i64 (x.qty)], .bool true]) W by have := look_at hm m.sym m.id; rw [hk] at this; exact this)
        have HK := Lib.hid hk
        clear h hk
        go_enter Try.func37, Try.ntmps37
        go_upto_region 4 with fail
        clear m1 m4
        change Code.wp _ _ _ _ ((w.alloc (.cells m.cells 66)).alloc (.cells #[.int .i64 m.sym, .int .i64 m.id] 164))
        refine wp_region_held_drew (S := (fun w' => w'.cell? ⟨D, 0, none⟩ = some (.map (some b)) ∧ w'.cell? ⟨w.heap.size + 1, 0, none⟩ = some (.int .i64 m.sym) ∧ w'.cell? ⟨w.heap.size + 1, 1, none⟩ = some (.int .i64 m.id) ∧ (Instr.lookup 160 (.map (some b)) (.agg #[.int .i64 m.sym, .int .i64 m.id]) true).run Try.prog w' = .ok (.tuple #[.agg #[.int .i64 (x.side), .int .i64 (x.price), .int .i64 (x.qty)], .bool true]) w')) (by kernel_rfl) ⟨HD0.out.box.cell 0 rfl, HK0.out.cell 0 rfl, HK0.out.cell 1 rfl, HL.out _ HD0.out.map.drew⟩ (fun hHeld => ?_)
        replace HD0 := Lib.hid HD0.out.drew
        replace HM0 := Lib.hid HM0.out.drew
        replace HK0 := Lib.hid HK0.out.drew
        replace HC0 := Lib.hid HC0.out.drew
        have hsz : w.heap.size + 1 < ((w.alloc (.cells m.cells 66)).alloc (.cells #[.int .i64 m.sym, .int .i64 m.id] 164)).drew.heap.size := HK0.out.lt
        generalize ((w.alloc (.cells m.cells 66)).alloc (.cells #[.int .i64 m.sym, .int .i64 m.id] 164)).drew = W1 at HD0 HM0 HK0 HC0 hHeld hsz ⊢
        refine wpAnyH_take (i := 0) (oi := ⟨some 18, _, _, _, _, _⟩) (v := (.pointer (some ⟨D, 0, none⟩))) rfl (by kernel_rfl) (by kernel_rfl) (by kernel_rfl) (fun _ _ _ h => h) (Or.inl ⟨by rfl, fun w hSw => by (try dsimp only at hSw); go_simp⟩) (by assumption) ?_
        simp only [Act.put, List.setIfInBounds_toArray, List.set_cons_zero, List.set_cons_succ]
        refine wpAnyH_take (i := 1) (oi := ⟨some 19, _, _, _, _, _⟩) (v := (.pointer (some ⟨D, 0, none⟩))) rfl (by kernel_rfl) (by kernel_rfl) (by kernel_rfl) (fun _ _ _ h => h) (Or.inl ⟨by rfl, fun w hSw => by (try dsimp only at hSw); go_simp⟩) (by assumption) ?_
        simp only [Act.put, List.setIfInBounds_toArray, List.set_cons_zero, List.set_cons_succ]
        refine wpAnyH_take (i := 2) (oi := ⟨some 20, _, _, _, _, _⟩) (v := (.pointer (some ⟨D, 0, none⟩))) rfl (by kernel_rfl) (by kernel_rfl) (by kernel_rfl) (fun _ _ _ h => h) (Or.inl ⟨by rfl, fun w hSw => by (try dsimp only at hSw); go_simp⟩) (by assumption) ?_
        simp only [Act.put, List.setIfInBounds_toArray, List.set_cons_zero, List.set_cons_succ]
        refine wpAnyH_take (i := 3) (oi := ⟨some 21, _, _, _, _, _⟩) (v := (.map (some b))) rfl (by kernel_rfl) (by kernel_rfl) (by kernel_rfl) (fun _ _ _ h => h) (Or.inl ⟨by rfl, fun w hSw => by (try dsimp only at hSw); go_simp⟩) (by assumption) ?_
        simp only [Act.put, List.setIfInBounds_toArray, List.set_cons_zero, List.set_cons_succ]
        refine wpAnyH_take (i := 4) (oi := ⟨some 22, _, _, _, _, _⟩) (v := (.agg #[.int .i64 m.sym, .int .i64 m.id])) rfl (by kernel_rfl) (by kernel_rfl) (by kernel_rfl) (fun _ _ _ h => h) (Or.inl ⟨by rfl, fun w hSw => by (try dsimp only at hSw); go_simp⟩) (by assumption) ?_
        simp only [Act.put, List.setIfInBounds_toArray, List.set_cons_zero, List.set_cons_succ]
        refine wpAnyH_take (i := 5) (oi := ⟨some 23, _, _, _, _, _⟩) (v := (.tuple #[.agg #[.int .i64 (x.side), .int .i64 (x.price), .int .i64 (x.qty)], .bool true])) rfl (by kernel_rfl) (by kernel_rfl) (by kernel_rfl) (fun _ _ _ h => h) (Or.inl ⟨by rfl, fun w hSw => by (try dsimp only at hSw); go_simp⟩) (by assumption) ?_
        simp only [Act.put, List.setIfInBounds_toArray, List.set_cons_zero, List.set_cons_succ]
        refine wpAnyH_take (i := 6) (oi := ⟨some 17, _, _, _, _, _⟩) (v := (.tuple #[.agg #[.int .i64 (x.side), .int .i64 (x.price), .int .i64 (x.qty)], .bool true])) rfl (by kernel_rfl) (by kernel_rfl) (by kernel_rfl) (fun _ _ _ h => h) (Or.inl ⟨by rfl, fun w hSw => by (try dsimp only at hSw); go_simp⟩) (by assumption) ?_
        simp only [Act.put, List.setIfInBounds_toArray, List.set_cons_zero, List.set_cons_succ]
        refine wpAnyH_take (i := 7) (oi := ⟨some 24, _, _, _, _, _⟩) (v := (.agg #[.int .i64 (x.side), .int .i64 (x.price), .int .i64 (x.qty)])) rfl (by kernel_rfl) (by kernel_rfl) (by kernel_rfl) (fun _ _ _ h => h) (Or.inl ⟨by rfl, fun w hSw => by (try dsimp only at hSw); go_simp⟩) (by assumption) ?_
        simp only [Act.put, List.setIfInBounds_toArray, List.set_cons_zero, List.set_cons_succ]
        refine wpAnyH_take (i := 8) (oi := ⟨some 25, _, _, _, _, _⟩) (v := (.bool true)) rfl (by kernel_rfl) (by kernel_rfl) (by kernel_rfl) (fun _ _ _ h => h) (Or.inl ⟨by rfl, fun w hSw => by (try dsimp only at hSw); go_simp⟩) (by assumption) ?_
        simp only [Act.put, List.setIfInBounds_toArray, List.set_cons_zero, List.set_cons_succ]
        refine wpAnyH_ready (rs := [9]) (by kernel_rfl) (by simp) ?_
        refine AllReadyH.cons (o := ⟨some 6, _, _, _, _, _⟩) rfl (fun KK hK => ?_) AllReadyH.nil
        go_simp
        change KK _ (W1.alloc (.cells restZ 166))
        have HS : Hid (QS w D b m W1.heap.size (W1.alloc (.cells restZ 166)) L restZ) := Lib.hid ⟨HD0.out.alloc _, HM0.out.old _, HK0.out.old _, Blk.new _ _ _ _ rfl, HC0.out.alloc HC0.out.size _, hD, hb, hsz⟩
        refine hK.out _ _ ⟨HS.out.ds.box.cell 0 rfl, HS.out.kb.cell 0 rfl, HS.out.kb.cell 1 rfl, HL.out _ HS.out.ds.map⟩ (fun hHeld => ?_)
        clear hK; try clear KK
        try simp only [Act.put, List.setIfInBounds_toArray, List.set_cons_zero, List.set_cons_succ]
        refine wpAnyH_ready (rs := [10]) (by kernel_rfl) (by simp) ?_
        refine AllReadyH.cons (o := ⟨none, _, _, _, _, _⟩) rfl (fun KK hK => ?_) AllReadyH.nil
        refine step_store_blk (by rfl) 166 _ _ (by rfl) W1.heap.size (by rfl) restZ #[.int .i64 (x.side), .int .i64 (x.price), .int .i64 (x.qty)] 166 HS.out.x (by rfl) rfl (by kernel_rfl) (one_rest ⟨x.side, x.price, x.qty⟩) ?_
        replace HS := Lib.hid (HS.out.mput #[.int .i64 (x.side), .int .i64 (x.price), .int .i64 (x.qty)] rfl)
        refine hK.out _ _ ⟨HS.out.ds.box.cell 0 rfl, HS.out.kb.cell 0 rfl, HS.out.kb.cell 1 rfl, HL.out _ HS.out.ds.map⟩ (fun hHeld => ?_)
        clear hK; try clear KK
        refine wpAnyH_take (i := 11) (oi := ⟨some 7, _, _, _, _, _⟩) (v := (.bool true)) rfl (by kernel_rfl) (by kernel_rfl) (by kernel_rfl) (fun _ _ _ h => h) (Or.inl ⟨by rfl, fun w hSw => by (try dsimp only at hSw); go_simp⟩) (by assumption) ?_
        simp only [Act.put, List.setIfInBounds_toArray, List.set_cons_zero, List.set_cons_succ]
        refine wpAnyH_done (by kernel_rfl) ?_ _
        generalize hW2 : World.setCells (W1.alloc (.cells restZ 166)) W1.heap.size 0 #[.int .i64 (x.side), .int .i64 (x.price), .int .i64 (x.qty)].toList = W2 at HS hHeld ⊢
        clear hW2 hHeld HD0 HM0 HK0 HC0
        generalize W1.heap.size = xb at HS hsz ⊢
        have m0 : W2.cell? ⟨w.heap.size, 0, none⟩ = some (.int .i64 m.kind) := HS.out.mb.cell 0 rfl
        have m1 : W2.cell? ⟨w.heap.size, 1, none⟩ = some (.int .i64 m.sym) := HS.out.mb.cell 1 rfl
        have m5 : W2.cell? ⟨w.heap.size, 5, none⟩ = some (.int .i64 m.wth) := HS.out.mb.cell 5 rfl
        have m6 : W2.cell? ⟨w.heap.size, 6, none⟩ = some (.int .i64 m.price) := HS.out.mb.cell 6 rfl
        have m7 : W2.cell? ⟨w.heap.size, 7, none⟩ = some (.int .i64 m.qty) := HS.out.mb.cell 7 rfl
        have m8 : W2.cell? ⟨w.heap.size, 8, none⟩ = some (.int .i64 m.code) := HS.out.mb.cell 8 rfl
        have k0 : W2.cell? ⟨w.heap.size + 1, 0, none⟩ = some (.int .i64 m.sym) := HS.out.kb.cell 0 rfl
        have k1 : W2.cell? ⟨w.heap.size + 1, 1, none⟩ = some (.int .i64 m.id) := HS.out.kb.cell 1 rfl
        have c1 : W2.cell? ⟨w.heap.size, 7, none⟩ = some (.int .i64 m.qty) := m7
        go_wp2_with fail
        refine (less_any D b L m.sym m.id m.qty _ HS.out.ds HFI.out).mono ?_
        rintro e w3 ⟨rfl, hd3, hc3⟩
        replace HS := Lib.hid (HS.out.turnD hd3 hc3)
        clear hd3 hc3 c1 m0 m1 m5 m6 m7 m8 k0 k1
        have m1 : w3.cell? ⟨w.heap.size, 1, none⟩ = some (.int .i64 m.sym) := HS.out.mb.cell 1 rfl
        have m5 : w3.cell? ⟨w.heap.size, 5, none⟩ = some (.int .i64 m.wth) := HS.out.mb.cell 5 rfl
        have m7 : w3.cell? ⟨w.heap.size, 7, none⟩ = some (.int .i64 m.qty) := HS.out.mb.cell 7 rfl
        have m8 : w3.cell? ⟨w.heap.size, 8, none⟩ = some (.int .i64 m.code) := HS.out.mb.cell 8 rfl
        generalize hA : lessF L (m.sym, m.id) m.qty = A at HS HE HF2 ⊢
        clear hA
        obtain ⟨L1, c1⟩ := A
        dsimp only at HS HE HF2 ⊢
        go_wp2_with fail
        refine (less_any D b L1 m.sym m.wth m.qty _ HS.out.ds HF2.out).mono ?_
        rintro e w4 ⟨rfl, hd4, hc4⟩
        replace HS := Lib.hid (HS.out.turnD hd4 hc4)
        clear hd4 hc4 m1 m5 m7 m8
        generalize hB : lessF L1 (m.sym, m.wth) m.qty = B at HS HE ⊢
        clear hB
        obtain ⟨L2, c2⟩ := B
        dsimp only at HS HE ⊢
        cases c2 with
        | true =>
          go_wp2_with fail
          go_ret
          exact ⟨by (show Ending.returned (.bool true) = _; rw [HE.out, Bool.or_true]), by rw [HE.out]; exact HS.out.ds, HS.out.chg⟩
        | false =>
          go_wp2_with fail
          go_ret
          exact ⟨by (show Ending.returned (.bool c1) = _; rw [HE.out, Bool.or_false]), by rw [HE.out]; exact HS.out.ds, HS.out.chg⟩
end Go.Proofs.Ytogjgpiddjmpiaa.Depth

/- (*depth.Depth).Put: acknowledgements; any message. -/
namespace Go.Proofs.Ytogjgpiddjmpiaa.Depth
open Go.RowKit Go.Proofs.Ytogjgpiddjmpiaa.Kit Go.Proofs.Ytogjgpiddjmpiaa.Blk Go.Proofs.Ytogjgpiddjmpiaa.Mp Go.Proofs.Ytogjgpiddjmpiaa.Msgs
attribute [local go_sem ↓] Go.wp_at_zero Go.wp_at_succ
set_option linter.unusedVariables false
set_option maxRecDepth 20000 in
set_option maxHeartbeats 4000000 in
theorem put_ack (D b : Nat) (L : List (Key × Rest)) (m : Msg) (w : World) (h : DS w D b L) (h1 : m.kind = 1) :
    Calls Try.prog 37 #[.pointer (some ⟨D, 0, none⟩), .agg m.cells] w (PutIs L m D b w) := by
  have g1 : (m.kind == 1) = true := by simp [h1]
  cases hk : mget (m.sym, m.id) L with
  | some x =>
    have HE := Lib.hid (show putF L m = (L, false) by simp [putF, h1, hk])
    clear h1
    have HD0 := Lib.hid ((h.alloc (.cells m.cells 66)).alloc (.cells #[.int .i64 m.sym, .int .i64 m.id] 164))
    have HM0 := Lib.hid ((Blk.new w m.cells 66 w.heap.size rfl).old (.cells #[.int .i64 m.sym, .int .i64 m.id] 164))
    have HK0 := Lib.hid (Blk.new (w.alloc (.cells m.cells 66)) #[.int .i64 m.sym, .int .i64 m.id] 164 (w.heap.size + 1) (by simp))
    have HC0 := Lib.hid (show Chg w.heap.size b w ((w.alloc (.cells m.cells 66)).alloc (.cells #[.int .i64 m.sym, .int .i64 m.id] 164)) from ((Chg.refl _ _ _).alloc (Nat.le_refl _) _).alloc (by simp) _)
    have hD := h.box.lt
    have hb := h.map.lt
    have m1 : (w.alloc (.cells m.cells 66)).cell? ⟨w.heap.size, 1, none⟩ = some (.int .i64 m.sym) := (Blk.new w m.cells 66 w.heap.size rfl).cell 1 rfl
    have m4 : (w.alloc (.cells m.cells 66)).cell? ⟨w.heap.size, 4, none⟩ = some (.int .i64 m.id) := (Blk.new w m.cells 66 w.heap.size rfl).cell 4 rfl
    have HL := Lib.hid (fun W (hm : MapIs W b ke ve L) => show (Instr.lookup 160 (.map (some b)) (.agg #[.int .i64 m.sym, .int .i64 m.id]) true).run Try.prog W = .ok (.tuple #[.agg #[.int .i64 (x.side), .int .i64 (x.price), .int .i64 (x.qty)], .bool true]) W by have := look_at hm m.sym m.id; rw [hk] at this; exact this)
    have HK := Lib.hid hk
    clear h hk
    go_enter Try.func37, Try.ntmps37
    go_upto_region 4 with fail
    clear m1 m4
    change Code.wp _ _ _ _ ((w.alloc (.cells m.cells 66)).alloc (.cells #[.int .i64 m.sym, .int .i64 m.id] 164))
    refine wp_region_held_drew (S := (fun w' => w'.cell? ⟨D, 0, none⟩ = some (.map (some b)) ∧ w'.cell? ⟨w.heap.size + 1, 0, none⟩ = some (.int .i64 m.sym) ∧ w'.cell? ⟨w.heap.size + 1, 1, none⟩ = some (.int .i64 m.id) ∧ (Instr.lookup 160 (.map (some b)) (.agg #[.int .i64 m.sym, .int .i64 m.id]) true).run Try.prog w' = .ok (.tuple #[.agg #[.int .i64 (x.side), .int .i64 (x.price), .int .i64 (x.qty)], .bool true]) w')) (by kernel_rfl) ⟨HD0.out.box.cell 0 rfl, HK0.out.cell 0 rfl, HK0.out.cell 1 rfl, HL.out _ HD0.out.map.drew⟩ (fun hHeld => ?_)
    replace HD0 := Lib.hid HD0.out.drew
    replace HM0 := Lib.hid HM0.out.drew
    replace HK0 := Lib.hid HK0.out.drew
    replace HC0 := Lib.hid HC0.out.drew
    have hsz : w.heap.size + 1 < ((w.alloc (.cells m.cells 66)).alloc (.cells #[.int .i64 m.sym, .int .i64 m.id] 164)).drew.heap.size := HK0.out.lt
    generalize ((w.alloc (.cells m.cells 66)).alloc (.cells #[.int .i64 m.sym, .int .i64 m.id] 164)).drew = W1 at HD0 HM0 HK0 HC0 hHeld hsz ⊢
    refine wpAnyH_take (i := 0) (oi := ⟨some 18, _, _, _, _, _⟩) (v := (.pointer (some ⟨D, 0, none⟩))) rfl (by kernel_rfl) (by kernel_rfl) (by kernel_rfl) (fun _ _ _ h => h) (Or.inl ⟨by rfl, fun w hSw => by (try dsimp only at hSw); go_simp⟩) (by assumption) ?_
    simp only [Act.put, List.setIfInBounds_toArray, List.set_cons_zero, List.set_cons_succ]
    refine wpAnyH_take (i := 1) (oi := ⟨some 19, _, _, _, _, _⟩) (v := (.pointer (some ⟨D, 0, none⟩))) rfl (by kernel_rfl) (by kernel_rfl) (by kernel_rfl) (fun _ _ _ h => h) (Or.inl ⟨by rfl, fun w hSw => by (try dsimp only at hSw); go_simp⟩) (by assumption) ?_
    simp only [Act.put, List.setIfInBounds_toArray, List.set_cons_zero, List.set_cons_succ]
    refine wpAnyH_take (i := 2) (oi := ⟨some 20, _, _, _, _, _⟩) (v := (.pointer (some ⟨D, 0, none⟩))) rfl (by kernel_rfl) (by kernel_rfl) (by kernel_rfl) (fun _ _ _ h => h) (Or.inl ⟨by rfl, fun w hSw => by (try dsimp only at hSw); go_simp⟩) (by assumption) ?_
    simp only [Act.put, List.setIfInBounds_toArray, List.set_cons_zero, List.set_cons_succ]
    refine wpAnyH_take (i := 3) (oi := ⟨some 21, _, _, _, _, _⟩) (v := (.map (some b))) rfl (by kernel_rfl) (by kernel_rfl) (by kernel_rfl) (fun _ _ _ h => h) (Or.inl ⟨by rfl, fun w hSw => by (try dsimp only at hSw); go_simp⟩) (by assumption) ?_
    simp only [Act.put, List.setIfInBounds_toArray, List.set_cons_zero, List.set_cons_succ]
    refine wpAnyH_take (i := 4) (oi := ⟨some 22, _, _, _, _, _⟩) (v := (.agg #[.int .i64 m.sym, .int .i64 m.id])) rfl (by kernel_rfl) (by kernel_rfl) (by kernel_rfl) (fun _ _ _ h => h) (Or.inl ⟨by rfl, fun w hSw => by (try dsimp only at hSw); go_simp⟩) (by assumption) ?_
    simp only [Act.put, List.setIfInBounds_toArray, List.set_cons_zero, List.set_cons_succ]
    refine wpAnyH_take (i := 5) (oi := ⟨some 23, _, _, _, _, _⟩) (v := (.tuple #[.agg #[.int .i64 (x.side), .int .i64 (x.price), .int .i64 (x.qty)], .bool true])) rfl (by kernel_rfl) (by kernel_rfl) (by kernel_rfl) (fun _ _ _ h => h) (Or.inl ⟨by rfl, fun w hSw => by (try dsimp only at hSw); go_simp⟩) (by assumption) ?_
    simp only [Act.put, List.setIfInBounds_toArray, List.set_cons_zero, List.set_cons_succ]
    refine wpAnyH_take (i := 6) (oi := ⟨some 17, _, _, _, _, _⟩) (v := (.tuple #[.agg #[.int .i64 (x.side), .int .i64 (x.price), .int .i64 (x.qty)], .bool true])) rfl (by kernel_rfl) (by kernel_rfl) (by kernel_rfl) (fun _ _ _ h => h) (Or.inl ⟨by rfl, fun w hSw => by (try dsimp only at hSw); go_simp⟩) (by assumption) ?_
    simp only [Act.put, List.setIfInBounds_toArray, List.set_cons_zero, List.set_cons_succ]
    refine wpAnyH_take (i := 7) (oi := ⟨some 24, _, _, _, _, _⟩) (v := (.agg #[.int .i64 (x.side), .int .i64 (x.price), .int .i64 (x.qty)])) rfl (by kernel_rfl) (by kernel_rfl) (by kernel_rfl) (fun _ _ _ h => h) (Or.inl ⟨by rfl, fun w hSw => by (try dsimp only at hSw); go_simp⟩) (by assumption) ?_
    simp only [Act.put, List.setIfInBounds_toArray, List.set_cons_zero, List.set_cons_succ]
    refine wpAnyH_take (i := 8) (oi := ⟨some 25, _, _, _, _, _⟩) (v := (.bool true)) rfl (by kernel_rfl) (by kernel_rfl) (by kernel_rfl) (fun _ _ _ h => h) (Or.inl ⟨by rfl, fun w hSw => by (try dsimp only at hSw); go_simp⟩) (by assumption) ?_
    simp only [Act.put, List.setIfInBounds_toArray, List.set_cons_zero, List.set_cons_succ]
    refine wpAnyH_ready (rs := [9]) (by kernel_rfl) (by simp) ?_
    refine AllReadyH.cons (o := ⟨some 6, _, _, _, _, _⟩) rfl (fun KK hK => ?_) AllReadyH.nil
    go_simp
    change KK _ (W1.alloc (.cells restZ 166))
    have HS : Hid (QS w D b m W1.heap.size (W1.alloc (.cells restZ 166)) L restZ) := Lib.hid ⟨HD0.out.alloc _, HM0.out.old _, HK0.out.old _, Blk.new _ _ _ _ rfl, HC0.out.alloc HC0.out.size _, hD, hb, hsz⟩
    refine hK.out _ _ ⟨HS.out.ds.box.cell 0 rfl, HS.out.kb.cell 0 rfl, HS.out.kb.cell 1 rfl, HL.out _ HS.out.ds.map⟩ (fun hHeld => ?_)
    clear hK; try clear KK
    try simp only [Act.put, List.setIfInBounds_toArray, List.set_cons_zero, List.set_cons_succ]
    refine wpAnyH_ready (rs := [10]) (by kernel_rfl) (by simp) ?_
    refine AllReadyH.cons (o := ⟨none, _, _, _, _, _⟩) rfl (fun KK hK => ?_) AllReadyH.nil
    refine step_store_blk (by rfl) 166 _ _ (by rfl) W1.heap.size (by rfl) restZ #[.int .i64 (x.side), .int .i64 (x.price), .int .i64 (x.qty)] 166 HS.out.x (by rfl) rfl (by kernel_rfl) (one_rest ⟨x.side, x.price, x.qty⟩) ?_
    replace HS := Lib.hid (HS.out.mput #[.int .i64 (x.side), .int .i64 (x.price), .int .i64 (x.qty)] rfl)
    refine hK.out _ _ ⟨HS.out.ds.box.cell 0 rfl, HS.out.kb.cell 0 rfl, HS.out.kb.cell 1 rfl, HL.out _ HS.out.ds.map⟩ (fun hHeld => ?_)
    clear hK; try clear KK
    refine wpAnyH_take (i := 11) (oi := ⟨some 7, _, _, _, _, _⟩) (v := (.bool true)) rfl (by kernel_rfl) (by kernel_rfl) (by kernel_rfl) (fun _ _ _ h => h) (Or.inl ⟨by rfl, fun w hSw => by (try dsimp only at hSw); go_simp⟩) (by assumption) ?_
    simp only [Act.put, List.setIfInBounds_toArray, List.set_cons_zero, List.set_cons_succ]
    refine wpAnyH_done (by kernel_rfl) ?_ _
    generalize hW2 : World.setCells (W1.alloc (.cells restZ 166)) W1.heap.size 0 #[.int .i64 (x.side), .int .i64 (x.price), .int .i64 (x.qty)].toList = W2 at HS hHeld ⊢
    clear hW2 hHeld HD0 HM0 HK0 HC0
    generalize W1.heap.size = xb at HS hsz ⊢
    have m0 : W2.cell? ⟨w.heap.size, 0, none⟩ = some (.int .i64 m.kind) := HS.out.mb.cell 0 rfl
    have m1 : W2.cell? ⟨w.heap.size, 1, none⟩ = some (.int .i64 m.sym) := HS.out.mb.cell 1 rfl
    have m5 : W2.cell? ⟨w.heap.size, 5, none⟩ = some (.int .i64 m.wth) := HS.out.mb.cell 5 rfl
    have m6 : W2.cell? ⟨w.heap.size, 6, none⟩ = some (.int .i64 m.price) := HS.out.mb.cell 6 rfl
    have m7 : W2.cell? ⟨w.heap.size, 7, none⟩ = some (.int .i64 m.qty) := HS.out.mb.cell 7 rfl
    have m8 : W2.cell? ⟨w.heap.size, 8, none⟩ = some (.int .i64 m.code) := HS.out.mb.cell 8 rfl
    have k0 : W2.cell? ⟨w.heap.size + 1, 0, none⟩ = some (.int .i64 m.sym) := HS.out.kb.cell 0 rfl
    have k1 : W2.cell? ⟨w.heap.size + 1, 1, none⟩ = some (.int .i64 m.id) := HS.out.kb.cell 1 rfl
    go_wp2_with fail
    go_ret
    exact ⟨by (show Ending.returned (.bool false) = _; rw [HE.out]), by rw [HE.out]; exact HS.out.ds, HS.out.chg⟩
  | none =>
    by_cases hq : m.qty < 1
    · have HE := Lib.hid (show putF L m = (L, false) by simp [putF, h1, hk, hq])
      clear h1
      have HD0 := Lib.hid ((h.alloc (.cells m.cells 66)).alloc (.cells #[.int .i64 m.sym, .int .i64 m.id] 164))
      have HM0 := Lib.hid ((Blk.new w m.cells 66 w.heap.size rfl).old (.cells #[.int .i64 m.sym, .int .i64 m.id] 164))
      have HK0 := Lib.hid (Blk.new (w.alloc (.cells m.cells 66)) #[.int .i64 m.sym, .int .i64 m.id] 164 (w.heap.size + 1) (by simp))
      have HC0 := Lib.hid (show Chg w.heap.size b w ((w.alloc (.cells m.cells 66)).alloc (.cells #[.int .i64 m.sym, .int .i64 m.id] 164)) from ((Chg.refl _ _ _).alloc (Nat.le_refl _) _).alloc (by simp) _)
      have hD := h.box.lt
      have hb := h.map.lt
      have m1 : (w.alloc (.cells m.cells 66)).cell? ⟨w.heap.size, 1, none⟩ = some (.int .i64 m.sym) := (Blk.new w m.cells 66 w.heap.size rfl).cell 1 rfl
      have m4 : (w.alloc (.cells m.cells 66)).cell? ⟨w.heap.size, 4, none⟩ = some (.int .i64 m.id) := (Blk.new w m.cells 66 w.heap.size rfl).cell 4 rfl
      have HL := Lib.hid (fun W (hm : MapIs W b ke ve L) => show (Instr.lookup 160 (.map (some b)) (.agg #[.int .i64 m.sym, .int .i64 m.id]) true).run Try.prog W = .ok (.tuple #[.agg #[.int .i64 (0), .int .i64 (0), .int .i64 (0)], .bool false]) W by have := look_at hm m.sym m.id; rw [hk] at this; exact this)
      have HK := Lib.hid hk
      clear h hk
      go_enter Try.func37, Try.ntmps37
      go_upto_region 4 with fail
      clear m1 m4
      change Code.wp _ _ _ _ ((w.alloc (.cells m.cells 66)).alloc (.cells #[.int .i64 m.sym, .int .i64 m.id] 164))
      refine wp_region_held_drew (S := (fun w' => w'.cell? ⟨D, 0, none⟩ = some (.map (some b)) ∧ w'.cell? ⟨w.heap.size + 1, 0, none⟩ = some (.int .i64 m.sym) ∧ w'.cell? ⟨w.heap.size + 1, 1, none⟩ = some (.int .i64 m.id) ∧ (Instr.lookup 160 (.map (some b)) (.agg #[.int .i64 m.sym, .int .i64 m.id]) true).run Try.prog w' = .ok (.tuple #[.agg #[.int .i64 (0), .int .i64 (0), .int .i64 (0)], .bool false]) w')) (by kernel_rfl) ⟨HD0.out.box.cell 0 rfl, HK0.out.cell 0 rfl, HK0.out.cell 1 rfl, HL.out _ HD0.out.map.drew⟩ (fun hHeld => ?_)
      replace HD0 := Lib.hid HD0.out.drew
      replace HM0 := Lib.hid HM0.out.drew
      replace HK0 := Lib.hid HK0.out.drew
      replace HC0 := Lib.hid HC0.out.drew
      have hsz : w.heap.size + 1 < ((w.alloc (.cells m.cells 66)).alloc (.cells #[.int .i64 m.sym, .int .i64 m.id] 164)).drew.heap.size := HK0.out.lt
      generalize ((w.alloc (.cells m.cells 66)).alloc (.cells #[.int .i64 m.sym, .int .i64 m.id] 164)).drew = W1 at HD0 HM0 HK0 HC0 hHeld hsz ⊢
      refine wpAnyH_take (i := 0) (oi := ⟨some 18, _, _, _, _, _⟩) (v := (.pointer (some ⟨D, 0, none⟩))) rfl (by kernel_rfl) (by kernel_rfl) (by kernel_rfl) (fun _ _ _ h => h) (Or.inl ⟨by rfl, fun w hSw => by (try dsimp only at hSw); go_simp⟩) (by assumption) ?_
      simp only [Act.put, List.setIfInBounds_toArray, List.set_cons_zero, List.set_cons_succ]
      refine wpAnyH_take (i := 1) (oi := ⟨some 19, _, _, _, _, _⟩) (v := (.pointer (some ⟨D, 0, none⟩))) rfl (by kernel_rfl) (by kernel_rfl) (by kernel_rfl) (fun _ _ _ h => h) (Or.inl ⟨by rfl, fun w hSw => by (try dsimp only at hSw); go_simp⟩) (by assumption) ?_
      simp only [Act.put, List.setIfInBounds_toArray, List.set_cons_zero, List.set_cons_succ]
      refine wpAnyH_take (i := 2) (oi := ⟨some 20, _, _, _, _, _⟩) (v := (.pointer (some ⟨D, 0, none⟩))) rfl (by kernel_rfl) (by kernel_rfl) (by kernel_rfl) (fun _ _ _ h => h) (Or.inl ⟨by rfl, fun w hSw => by (try dsimp only at hSw); go_simp⟩) (by assumption) ?_
      simp only [Act.put, List.setIfInBounds_toArray, List.set_cons_zero, List.set_cons_succ]
      refine wpAnyH_take (i := 3) (oi := ⟨some 21, _, _, _, _, _⟩) (v := (.map (some b))) rfl (by kernel_rfl) (by kernel_rfl) (by kernel_rfl) (fun _ _ _ h => h) (Or.inl ⟨by rfl, fun w hSw => by (try dsimp only at hSw); go_simp⟩) (by assumption) ?_
      simp only [Act.put, List.setIfInBounds_toArray, List.set_cons_zero, List.set_cons_succ]
      refine wpAnyH_take (i := 4) (oi := ⟨some 22, _, _, _, _, _⟩) (v := (.agg #[.int .i64 m.sym, .int .i64 m.id])) rfl (by kernel_rfl) (by kernel_rfl) (by kernel_rfl) (fun _ _ _ h => h) (Or.inl ⟨by rfl, fun w hSw => by (try dsimp only at hSw); go_simp⟩) (by assumption) ?_
      simp only [Act.put, List.setIfInBounds_toArray, List.set_cons_zero, List.set_cons_succ]
      refine wpAnyH_take (i := 5) (oi := ⟨some 23, _, _, _, _, _⟩) (v := (.tuple #[.agg #[.int .i64 (0), .int .i64 (0), .int .i64 (0)], .bool false])) rfl (by kernel_rfl) (by kernel_rfl) (by kernel_rfl) (fun _ _ _ h => h) (Or.inl ⟨by rfl, fun w hSw => by (try dsimp only at hSw); go_simp⟩) (by assumption) ?_
      simp only [Act.put, List.setIfInBounds_toArray, List.set_cons_zero, List.set_cons_succ]
      refine wpAnyH_take (i := 6) (oi := ⟨some 17, _, _, _, _, _⟩) (v := (.tuple #[.agg #[.int .i64 (0), .int .i64 (0), .int .i64 (0)], .bool false])) rfl (by kernel_rfl) (by kernel_rfl) (by kernel_rfl) (fun _ _ _ h => h) (Or.inl ⟨by rfl, fun w hSw => by (try dsimp only at hSw); go_simp⟩) (by assumption) ?_
      simp only [Act.put, List.setIfInBounds_toArray, List.set_cons_zero, List.set_cons_succ]
      refine wpAnyH_take (i := 7) (oi := ⟨some 24, _, _, _, _, _⟩) (v := (.agg #[.int .i64 (0), .int .i64 (0), .int .i64 (0)])) rfl (by kernel_rfl) (by kernel_rfl) (by kernel_rfl) (fun _ _ _ h => h) (Or.inl ⟨by rfl, fun w hSw => by (try dsimp only at hSw); go_simp⟩) (by assumption) ?_
      simp only [Act.put, List.setIfInBounds_toArray, List.set_cons_zero, List.set_cons_succ]
      refine wpAnyH_take (i := 8) (oi := ⟨some 25, _, _, _, _, _⟩) (v := (.bool false)) rfl (by kernel_rfl) (by kernel_rfl) (by kernel_rfl) (fun _ _ _ h => h) (Or.inl ⟨by rfl, fun w hSw => by (try dsimp only at hSw); go_simp⟩) (by assumption) ?_
      simp only [Act.put, List.setIfInBounds_toArray, List.set_cons_zero, List.set_cons_succ]
      refine wpAnyH_ready (rs := [9]) (by kernel_rfl) (by simp) ?_
      refine AllReadyH.cons (o := ⟨some 6, _, _, _, _, _⟩) rfl (fun KK hK => ?_) AllReadyH.nil
      go_simp
      change KK _ (W1.alloc (.cells restZ 166))
      have HS : Hid (QS w D b m W1.heap.size (W1.alloc (.cells restZ 166)) L restZ) := Lib.hid ⟨HD0.out.alloc _, HM0.out.old _, HK0.out.old _, Blk.new _ _ _ _ rfl, HC0.out.alloc HC0.out.size _, hD, hb, hsz⟩
      refine hK.out _ _ ⟨HS.out.ds.box.cell 0 rfl, HS.out.kb.cell 0 rfl, HS.out.kb.cell 1 rfl, HL.out _ HS.out.ds.map⟩ (fun hHeld => ?_)
      clear hK; try clear KK
      try simp only [Act.put, List.setIfInBounds_toArray, List.set_cons_zero, List.set_cons_succ]
      refine wpAnyH_ready (rs := [10]) (by kernel_rfl) (by simp) ?_
      refine AllReadyH.cons (o := ⟨none, _, _, _, _, _⟩) rfl (fun KK hK => ?_) AllReadyH.nil
      refine step_store_blk (by rfl) 166 _ _ (by rfl) W1.heap.size (by rfl) restZ #[.int .i64 (0), .int .i64 (0), .int .i64 (0)] 166 HS.out.x (by rfl) rfl (by kernel_rfl) (one_rest ⟨0, 0, 0⟩) ?_
      replace HS := Lib.hid (HS.out.mput #[.int .i64 (0), .int .i64 (0), .int .i64 (0)] rfl)
      refine hK.out _ _ ⟨HS.out.ds.box.cell 0 rfl, HS.out.kb.cell 0 rfl, HS.out.kb.cell 1 rfl, HL.out _ HS.out.ds.map⟩ (fun hHeld => ?_)
      clear hK; try clear KK
      refine wpAnyH_take (i := 11) (oi := ⟨some 7, _, _, _, _, _⟩) (v := (.bool false)) rfl (by kernel_rfl) (by kernel_rfl) (by kernel_rfl) (fun _ _ _ h => h) (Or.inl ⟨by rfl, fun w hSw => by (try dsimp only at hSw); go_simp⟩) (by assumption) ?_
      simp only [Act.put, List.setIfInBounds_toArray, List.set_cons_zero, List.set_cons_succ]
      refine wpAnyH_done (by kernel_rfl) ?_ _
      generalize hW2 : World.setCells (W1.alloc (.cells restZ 166)) W1.heap.size 0 #[.int .i64 (0), .int .i64 (0), .int .i64 (0)].toList = W2 at HS hHeld ⊢
      clear hW2 hHeld HD0 HM0 HK0 HC0
      generalize W1.heap.size = xb at HS hsz ⊢
      have m0 : W2.cell? ⟨w.heap.size, 0, none⟩ = some (.int .i64 m.kind) := HS.out.mb.cell 0 rfl
      have m1 : W2.cell? ⟨w.heap.size, 1, none⟩ = some (.int .i64 m.sym) := HS.out.mb.cell 1 rfl
      have m5 : W2.cell? ⟨w.heap.size, 5, none⟩ = some (.int .i64 m.wth) := HS.out.mb.cell 5 rfl
      have m6 : W2.cell? ⟨w.heap.size, 6, none⟩ = some (.int .i64 m.price) := HS.out.mb.cell 6 rfl
      have m7 : W2.cell? ⟨w.heap.size, 7, none⟩ = some (.int .i64 m.qty) := HS.out.mb.cell 7 rfl
      have m8 : W2.cell? ⟨w.heap.size, 8, none⟩ = some (.int .i64 m.code) := HS.out.mb.cell 8 rfl
      have k0 : W2.cell? ⟨w.heap.size + 1, 0, none⟩ = some (.int .i64 m.sym) := HS.out.kb.cell 0 rfl
      have k1 : W2.cell? ⟨w.heap.size + 1, 1, none⟩ = some (.int .i64 m.id) := HS.out.kb.cell 1 rfl
      go_wp2_with fail
      go_ret
      exact ⟨by (show Ending.returned (.bool false) = _; rw [HE.out]), by rw [HE.out]; exact HS.out.ds, HS.out.chg⟩
    · by_cases hc : m.code = 0 ∨ m.code = 1
      · have HSD := Lib.hid (show (decide (m.code = 0) || decide (m.code = 1)) = true by simpa using hc)
        by_cases hp : 1 ≤ m.price ∧ m.price ≤ 1099511627776
        · have HE := Lib.hid (show putF L m = (mput (m.sym, m.id) ⟨m.code, m.price, m.qty⟩ L, true) by simp [putF, h1, hk, hq, hc, hp])
          have HPR := Lib.hid hp
          clear h1 hc hp
          have HD0 := Lib.hid ((h.alloc (.cells m.cells 66)).alloc (.cells #[.int .i64 m.sym, .int .i64 m.id] 164))
          have HM0 := Lib.hid ((Blk.new w m.cells 66 w.heap.size rfl).old (.cells #[.int .i64 m.sym, .int .i64 m.id] 164))
          have HK0 := Lib.hid (Blk.new (w.alloc (.cells m.cells 66)) #[.int .i64 m.sym, .int .i64 m.id] 164 (w.heap.size + 1) (by simp))
          have HC0 := Lib.hid (show Chg w.heap.size b w ((w.alloc (.cells m.cells 66)).alloc (.cells #[.int .i64 m.sym, .int .i64 m.id] 164)) from ((Chg.refl _ _ _).alloc (Nat.le_refl _) _).alloc (by simp) _)
          have hD := h.box.lt
          have hb := h.map.lt
          have m1 : (w.alloc (.cells m.cells 66)).cell? ⟨w.heap.size, 1, none⟩ = some (.int .i64 m.sym) := (Blk.new w m.cells 66 w.heap.size rfl).cell 1 rfl
          have m4 : (w.alloc (.cells m.cells 66)).cell? ⟨w.heap.size, 4, none⟩ = some (.int .i64 m.id) := (Blk.new w m.cells 66 w.heap.size rfl).cell 4 rfl
          have HL := Lib.hid (fun W (hm : MapIs W b ke ve L) => show (Instr.lookup 160 (.map (some b)) (.agg #[.int .i64 m.sym, .int .i64 m.id]) true).run Try.prog W = .ok (.tuple #[.agg #[.int .i64 (0), .int .i64 (0), .int .i64 (0)], .bool false]) W by have := look_at hm m.sym m.id; rw [hk] at this; exact this)
          have HK := Lib.hid hk
          clear h hk
          go_enter Try.func37, Try.ntmps37
          go_upto_region 4 with fail
          clear m1 m4
          change Code.wp _ _ _ _ ((w.alloc (.cells m.cells 66)).alloc (.cells #[.int .i64 m.sym, .int .i64 m.id] 164))
          refine wp_region_held_drew (S := (fun w' => w'.cell? ⟨D, 0, none⟩ = some (.map (some b)) ∧ w'.cell? ⟨w.heap.size + 1, 0, none⟩ = some (.int .i64 m.sym) ∧ w'.cell? ⟨w.heap.size + 1, 1, none⟩ = some (.int .i64 m.id) ∧ (Instr.lookup 160 (.map (some b)) (.agg #[.int .i64 m.sym, .int .i64 m.id]) true).run Try.prog w' = .ok (.tuple #[.agg #[.int .i64 (0), .int .i64 (0), .int .i64 (0)], .bool false]) w')) (by kernel_rfl) ⟨HD0.out.box.cell 0 rfl, HK0.out.cell 0 rfl, HK0.out.cell 1 rfl, HL.out _ HD0.out.map.drew⟩ (fun hHeld => ?_)
          replace HD0 := Lib.hid HD0.out.drew
          replace HM0 := Lib.hid HM0.out.drew
          replace HK0 := Lib.hid HK0.out.drew
          replace HC0 := Lib.hid HC0.out.drew
          have hsz : w.heap.size + 1 < ((w.alloc (.cells m.cells 66)).alloc (.cells #[.int .i64 m.sym, .int .i64 m.id] 164)).drew.heap.size := HK0.out.lt
          generalize ((w.alloc (.cells m.cells 66)).alloc (.cells #[.int .i64 m.sym, .int .i64 m.id] 164)).drew = W1 at HD0 HM0 HK0 HC0 hHeld hsz ⊢
          refine wpAnyH_take (i := 0) (oi := ⟨some 18, _, _, _, _, _⟩) (v := (.pointer (some ⟨D, 0, none⟩))) rfl (by kernel_rfl) (by kernel_rfl) (by kernel_rfl) (fun _ _ _ h => h) (Or.inl ⟨by rfl, fun w hSw => by (try dsimp only at hSw); go_simp⟩) (by assumption) ?_
          simp only [Act.put, List.setIfInBounds_toArray, List.set_cons_zero, List.set_cons_succ]
          refine wpAnyH_take (i := 1) (oi := ⟨some 19, _, _, _, _, _⟩) (v := (.pointer (some ⟨D, 0, none⟩))) rfl (by kernel_rfl) (by kernel_rfl) (by kernel_rfl) (fun _ _ _ h => h) (Or.inl ⟨by rfl, fun w hSw => by (try dsimp only at hSw); go_simp⟩) (by assumption) ?_
          simp only [Act.put, List.setIfInBounds_toArray, List.set_cons_zero, List.set_cons_succ]
          refine wpAnyH_take (i := 2) (oi := ⟨some 20, _, _, _, _, _⟩) (v := (.pointer (some ⟨D, 0, none⟩))) rfl (by kernel_rfl) (by kernel_rfl) (by kernel_rfl) (fun _ _ _ h => h) (Or.inl ⟨by rfl, fun w hSw => by (try dsimp only at hSw); go_simp⟩) (by assumption) ?_
          simp only [Act.put, List.setIfInBounds_toArray, List.set_cons_zero, List.set_cons_succ]
          refine wpAnyH_take (i := 3) (oi := ⟨some 21, _, _, _, _, _⟩) (v := (.map (some b))) rfl (by kernel_rfl) (by kernel_rfl) (by kernel_rfl) (fun _ _ _ h => h) (Or.inl ⟨by rfl, fun w hSw => by (try dsimp only at hSw); go_simp⟩) (by assumption) ?_
          simp only [Act.put, List.setIfInBounds_toArray, List.set_cons_zero, List.set_cons_succ]
          refine wpAnyH_take (i := 4) (oi := ⟨some 22, _, _, _, _, _⟩) (v := (.agg #[.int .i64 m.sym, .int .i64 m.id])) rfl (by kernel_rfl) (by kernel_rfl) (by kernel_rfl) (fun _ _ _ h => h) (Or.inl ⟨by rfl, fun w hSw => by (try dsimp only at hSw); go_simp⟩) (by assumption) ?_
          simp only [Act.put, List.setIfInBounds_toArray, List.set_cons_zero, List.set_cons_succ]
          refine wpAnyH_take (i := 5) (oi := ⟨some 23, _, _, _, _, _⟩) (v := (.tuple #[.agg #[.int .i64 (0), .int .i64 (0), .int .i64 (0)], .bool false])) rfl (by kernel_rfl) (by kernel_rfl) (by kernel_rfl) (fun _ _ _ h => h) (Or.inl ⟨by rfl, fun w hSw => by (try dsimp only at hSw); go_simp⟩) (by assumption) ?_
          simp only [Act.put, List.setIfInBounds_toArray, List.set_cons_zero, List.set_cons_succ]
          refine wpAnyH_take (i := 6) (oi := ⟨some 17, _, _, _, _, _⟩) (v := (.tuple #[.agg #[.int .i64 (0), .int .i64 (0), .int .i64 (0)], .bool false])) rfl (by kernel_rfl) (by kernel_rfl) (by kernel_rfl) (fun _ _ _ h => h) (Or.inl ⟨by rfl, fun w hSw => by (try dsimp only at hSw); go_simp⟩) (by assumption) ?_
          simp only [Act.put, List.setIfInBounds_toArray, List.set_cons_zero, List.set_cons_succ]
          refine wpAnyH_take (i := 7) (oi := ⟨some 24, _, _, _, _, _⟩) (v := (.agg #[.int .i64 (0), .int .i64 (0), .int .i64 (0)])) rfl (by kernel_rfl) (by kernel_rfl) (by kernel_rfl) (fun _ _ _ h => h) (Or.inl ⟨by rfl, fun w hSw => by (try dsimp only at hSw); go_simp⟩) (by assumption) ?_
          simp only [Act.put, List.setIfInBounds_toArray, List.set_cons_zero, List.set_cons_succ]
          refine wpAnyH_take (i := 8) (oi := ⟨some 25, _, _, _, _, _⟩) (v := (.bool false)) rfl (by kernel_rfl) (by kernel_rfl) (by kernel_rfl) (fun _ _ _ h => h) (Or.inl ⟨by rfl, fun w hSw => by (try dsimp only at hSw); go_simp⟩) (by assumption) ?_
          simp only [Act.put, List.setIfInBounds_toArray, List.set_cons_zero, List.set_cons_succ]
          refine wpAnyH_ready (rs := [9]) (by kernel_rfl) (by simp) ?_
          refine AllReadyH.cons (o := ⟨some 6, _, _, _, _, _⟩) rfl (fun KK hK => ?_) AllReadyH.nil
          go_simp
          change KK _ (W1.alloc (.cells restZ 166))
          have HS : Hid (QS w D b m W1.heap.size (W1.alloc (.cells restZ 166)) L restZ) := Lib.hid ⟨HD0.out.alloc _, HM0.out.old _, HK0.out.old _, Blk.new _ _ _ _ rfl, HC0.out.alloc HC0.out.size _, hD, hb, hsz⟩
          refine hK.out _ _ ⟨HS.out.ds.box.cell 0 rfl, HS.out.kb.cell 0 rfl, HS.out.kb.cell 1 rfl, HL.out _ HS.out.ds.map⟩ (fun hHeld => ?_)
          clear hK; try clear KK
          try simp only [Act.put, List.setIfInBounds_toArray, List.set_cons_zero, List.set_cons_succ]
          refine wpAnyH_ready (rs := [10]) (by kernel_rfl) (by simp) ?_
          refine AllReadyH.cons (o := ⟨none, _, _, _, _, _⟩) rfl (fun KK hK => ?_) AllReadyH.nil
          refine step_store_blk (by rfl) 166 _ _ (by rfl) W1.heap.size (by rfl) restZ #[.int .i64 (0), .int .i64 (0), .int .i64 (0)] 166 HS.out.x (by rfl) rfl (by kernel_rfl) (one_rest ⟨0, 0, 0⟩) ?_
          replace HS := Lib.hid (HS.out.mput #[.int .i64 (0), .int .i64 (0), .int .i64 (0)] rfl)
          refine hK.out _ _ ⟨HS.out.ds.box.cell 0 rfl, HS.out.kb.cell 0 rfl, HS.out.kb.cell 1 rfl, HL.out _ HS.out.ds.map⟩ (fun hHeld => ?_)
          clear hK; try clear KK
          refine wpAnyH_take (i := 11) (oi := ⟨some 7, _, _, _, _, _⟩) (v := (.bool false)) rfl (by kernel_rfl) (by kernel_rfl) (by kernel_rfl) (fun _ _ _ h => h) (Or.inl ⟨by rfl, fun w hSw => by (try dsimp only at hSw); go_simp⟩) (by assumption) ?_
          simp only [Act.put, List.setIfInBounds_toArray, List.set_cons_zero, List.set_cons_succ]
          refine wpAnyH_done (by kernel_rfl) ?_ _
          generalize hW2 : World.setCells (W1.alloc (.cells restZ 166)) W1.heap.size 0 #[.int .i64 (0), .int .i64 (0), .int .i64 (0)].toList = W2 at HS hHeld ⊢
          clear hW2 hHeld HD0 HM0 HK0 HC0
          generalize W1.heap.size = xb at HS hsz ⊢
          have m0 : W2.cell? ⟨w.heap.size, 0, none⟩ = some (.int .i64 m.kind) := HS.out.mb.cell 0 rfl
          have m1 : W2.cell? ⟨w.heap.size, 1, none⟩ = some (.int .i64 m.sym) := HS.out.mb.cell 1 rfl
          have m5 : W2.cell? ⟨w.heap.size, 5, none⟩ = some (.int .i64 m.wth) := HS.out.mb.cell 5 rfl
          have m6 : W2.cell? ⟨w.heap.size, 6, none⟩ = some (.int .i64 m.price) := HS.out.mb.cell 6 rfl
          have m7 : W2.cell? ⟨w.heap.size, 7, none⟩ = some (.int .i64 m.qty) := HS.out.mb.cell 7 rfl
          have m8 : W2.cell? ⟨w.heap.size, 8, none⟩ = some (.int .i64 m.code) := HS.out.mb.cell 8 rfl
          have k0 : W2.cell? ⟨w.heap.size + 1, 0, none⟩ = some (.int .i64 m.sym) := HS.out.kb.cell 0 rfl
          have k1 : W2.cell? ⟨w.heap.size + 1, 1, none⟩ = some (.int .i64 m.id) := HS.out.kb.cell 1 rfl
          go_wp2_with fail
          refine (sided_any m.code _).mono ?_
          rintro e w3 ⟨rfl, rfl⟩
          rw [HSD.out]
          go_wp2_with fail
          refine (Tape.price_good m.price _ HPR.out).mono ?_
          rintro e w3 ⟨rfl, rfl⟩
          clear m0 m1 m5 m6 m7 m8 k0 k1
          go_upto_region 10 with fail
          refine wp_region_held_drew (S := (fun w' => w'.cell? ⟨D, 0, none⟩ = some (.map (some b)) ∧ w'.cell? ⟨w.heap.size + 1, 0, none⟩ = some (.int .i64 m.sym) ∧ w'.cell? ⟨w.heap.size + 1, 1, none⟩ = some (.int .i64 m.id) ∧ w'.cell? ⟨w.heap.size, 6, none⟩ = some (.int .i64 m.price) ∧ w'.cell? ⟨w.heap.size, 7, none⟩ = some (.int .i64 m.qty) ∧ w'.cell? ⟨w.heap.size, 8, none⟩ = some (.int .i64 m.code))) (by kernel_rfl) ⟨HS.out.ds.box.cell 0 rfl, HS.out.kb.cell 0 rfl, HS.out.kb.cell 1 rfl, HS.out.mb.cell 6 rfl, HS.out.mb.cell 7 rfl, HS.out.mb.cell 8 rfl⟩ (fun hHeld => ?_)
          replace HS := Lib.hid HS.out.drew
          generalize W2.drew = W4 at HS hHeld ⊢
          refine wpAnyH_take (i := 0) (oi := ⟨some 50, _, _, _, _, _⟩) (v := (.pointer (some ⟨D, 0, none⟩))) rfl (by kernel_rfl) (by kernel_rfl) (by kernel_rfl) (fun _ _ _ h => h) (Or.inl ⟨by rfl, fun w hSw => by (try dsimp only at hSw); go_simp⟩) (by assumption) ?_
          simp only [Act.put, List.setIfInBounds_toArray, List.set_cons_zero, List.set_cons_succ]
          refine wpAnyH_take (i := 1) (oi := ⟨some 51, _, _, _, _, _⟩) (v := (.pointer (some ⟨D, 0, none⟩))) rfl (by kernel_rfl) (by kernel_rfl) (by kernel_rfl) (fun _ _ _ h => h) (Or.inl ⟨by rfl, fun w hSw => by (try dsimp only at hSw); go_simp⟩) (by assumption) ?_
          simp only [Act.put, List.setIfInBounds_toArray, List.set_cons_zero, List.set_cons_succ]
          refine wpAnyH_take (i := 2) (oi := ⟨some 52, _, _, _, _, _⟩) (v := (.pointer (some ⟨D, 0, none⟩))) rfl (by kernel_rfl) (by kernel_rfl) (by kernel_rfl) (fun _ _ _ h => h) (Or.inl ⟨by rfl, fun w hSw => by (try dsimp only at hSw); go_simp⟩) (by assumption) ?_
          simp only [Act.put, List.setIfInBounds_toArray, List.set_cons_zero, List.set_cons_succ]
          refine wpAnyH_take (i := 3) (oi := ⟨some 53, _, _, _, _, _⟩) (v := (.map (some b))) rfl (by kernel_rfl) (by kernel_rfl) (by kernel_rfl) (fun _ _ _ h => h) (Or.inl ⟨by rfl, fun w hSw => by (try dsimp only at hSw); go_simp⟩) (by assumption) ?_
          simp only [Act.put, List.setIfInBounds_toArray, List.set_cons_zero, List.set_cons_succ]
          refine wpAnyH_take (i := 4) (oi := ⟨some 54, _, _, _, _, _⟩) (v := (.agg #[.int .i64 m.sym, .int .i64 m.id])) rfl (by kernel_rfl) (by kernel_rfl) (by kernel_rfl) (fun _ _ _ h => h) (Or.inl ⟨by rfl, fun w hSw => by (try dsimp only at hSw); go_simp⟩) (by assumption) ?_
          simp only [Act.put, List.setIfInBounds_toArray, List.set_cons_zero, List.set_cons_succ]
          refine wpAnyH_take (i := 5) (oi := ⟨some 55, _, _, _, _, _⟩) (v := (.pointer (some ⟨w.heap.size, 8, none⟩))) rfl (by kernel_rfl) (by kernel_rfl) (by kernel_rfl) (fun _ _ _ h => h) (Or.inl ⟨by rfl, fun w hSw => by (try dsimp only at hSw); go_simp⟩) (by assumption) ?_
          simp only [Act.put, List.setIfInBounds_toArray, List.set_cons_zero, List.set_cons_succ]
          refine wpAnyH_take (i := 6) (oi := ⟨some 56, _, _, _, _, _⟩) (v := (.int .i64 m.code)) rfl (by kernel_rfl) (by kernel_rfl) (by kernel_rfl) (fun _ _ _ h => h) (Or.inl ⟨by rfl, fun w hSw => by (try dsimp only at hSw); go_simp⟩) (by assumption) ?_
          simp only [Act.put, List.setIfInBounds_toArray, List.set_cons_zero, List.set_cons_succ]
          refine wpAnyH_take (i := 7) (oi := ⟨some 57, _, _, _, _, _⟩) (v := (.pointer (some ⟨w.heap.size, 6, none⟩))) rfl (by kernel_rfl) (by kernel_rfl) (by kernel_rfl) (fun _ _ _ h => h) (Or.inl ⟨by rfl, fun w hSw => by (try dsimp only at hSw); go_simp⟩) (by assumption) ?_
          simp only [Act.put, List.setIfInBounds_toArray, List.set_cons_zero, List.set_cons_succ]
          refine wpAnyH_take (i := 8) (oi := ⟨some 58, _, _, _, _, _⟩) (v := (.int .i64 m.price)) rfl (by kernel_rfl) (by kernel_rfl) (by kernel_rfl) (fun _ _ _ h => h) (Or.inl ⟨by rfl, fun w hSw => by (try dsimp only at hSw); go_simp⟩) (by assumption) ?_
          simp only [Act.put, List.setIfInBounds_toArray, List.set_cons_zero, List.set_cons_succ]
          refine wpAnyH_take (i := 9) (oi := ⟨some 59, _, _, _, _, _⟩) (v := (.pointer (some ⟨w.heap.size, 7, none⟩))) rfl (by kernel_rfl) (by kernel_rfl) (by kernel_rfl) (fun _ _ _ h => h) (Or.inl ⟨by rfl, fun w hSw => by (try dsimp only at hSw); go_simp⟩) (by assumption) ?_
          simp only [Act.put, List.setIfInBounds_toArray, List.set_cons_zero, List.set_cons_succ]
          refine wpAnyH_take (i := 10) (oi := ⟨some 60, _, _, _, _, _⟩) (v := (.int .i64 m.qty)) rfl (by kernel_rfl) (by kernel_rfl) (by kernel_rfl) (fun _ _ _ h => h) (Or.inl ⟨by rfl, fun w hSw => by (try dsimp only at hSw); go_simp⟩) (by assumption) ?_
          simp only [Act.put, List.setIfInBounds_toArray, List.set_cons_zero, List.set_cons_succ]
          refine wpAnyH_take (i := 11) (oi := ⟨some 61, _, _, _, _, _⟩) (v := (.agg #[.int .i64 m.code, .int .i64 m.price, .int .i64 m.qty])) rfl (by kernel_rfl) (by kernel_rfl) (by kernel_rfl) (fun _ _ _ h => h) (Or.inl ⟨by rfl, fun w hSw => by (try dsimp only at hSw); go_simp⟩) (by assumption) ?_
          simp only [Act.put, List.setIfInBounds_toArray, List.set_cons_zero, List.set_cons_succ]
          obtain ⟨W5, hrun, hm5, hc5, -⟩ := put_at HS.out.ds.map m.sym m.id m.code m.price m.qty
          have HS5 := Lib.hid (HS.out.turn hm5 hc5)
          clear hm5 hc5
          refine wpAnyH_ready (rs := [12]) (by kernel_rfl) (by simp) ?_
          refine AllReadyH.cons (o := ⟨none, _, _, _, _, _⟩) rfl (fun KK hK => ?_) AllReadyH.nil
          go_simp
          clear hrun HS
          refine hK.out _ _ ⟨HS5.out.ds.box.cell 0 rfl, HS5.out.kb.cell 0 rfl, HS5.out.kb.cell 1 rfl, HS5.out.mb.cell 6 rfl, HS5.out.mb.cell 7 rfl, HS5.out.mb.cell 8 rfl⟩ (fun hHeld => ?_)
          clear hK; try clear KK
          refine wpAnyH_done (by kernel_rfl) ?_ _
          have HS := HS5
          go_wp2_with fail
          go_ret
          exact ⟨by (show Ending.returned (.bool true) = _; rw [HE.out]), by rw [HE.out]; exact HS.out.ds, HS.out.chg⟩
        · have HE := Lib.hid (show putF L m = (L, false) by simp [putF, h1, hk, hq, hc, hp])
          have HPR := Lib.hid hp
          clear h1 hc hp
          have HD0 := Lib.hid ((h.alloc (.cells m.cells 66)).alloc (.cells #[.int .i64 m.sym, .int .i64 m.id] 164))
          have HM0 := Lib.hid ((Blk.new w m.cells 66 w.heap.size rfl).old (.cells #[.int .i64 m.sym, .int .i64 m.id] 164))
          have HK0 := Lib.hid (Blk.new (w.alloc (.cells m.cells 66)) #[.int .i64 m.sym, .int .i64 m.id] 164 (w.heap.size + 1) (by simp))
          have HC0 := Lib.hid (show Chg w.heap.size b w ((w.alloc (.cells m.cells 66)).alloc (.cells #[.int .i64 m.sym, .int .i64 m.id] 164)) from ((Chg.refl _ _ _).alloc (Nat.le_refl _) _).alloc (by simp) _)
          have hD := h.box.lt
          have hb := h.map.lt
          have m1 : (w.alloc (.cells m.cells 66)).cell? ⟨w.heap.size, 1, none⟩ = some (.int .i64 m.sym) := (Blk.new w m.cells 66 w.heap.size rfl).cell 1 rfl
          have m4 : (w.alloc (.cells m.cells 66)).cell? ⟨w.heap.size, 4, none⟩ = some (.int .i64 m.id) := (Blk.new w m.cells 66 w.heap.size rfl).cell 4 rfl
          have HL := Lib.hid (fun W (hm : MapIs W b ke ve L) => show (Instr.lookup 160 (.map (some b)) (.agg #[.int .i64 m.sym, .int .i64 m.id]) true).run Try.prog W = .ok (.tuple #[.agg #[.int .i64 (0), .int .i64 (0), .int .i64 (0)], .bool false]) W by have := look_at hm m.sym m.id; rw [hk] at this; exact this)
          have HK := Lib.hid hk
          clear h hk
          go_enter Try.func37, Try.ntmps37
          go_upto_region 4 with fail
          clear m1 m4
          change Code.wp _ _ _ _ ((w.alloc (.cells m.cells 66)).alloc (.cells #[.int .i64 m.sym, .int .i64 m.id] 164))
          refine wp_region_held_drew (S := (fun w' => w'.cell? ⟨D, 0, none⟩ = some (.map (some b)) ∧ w'.cell? ⟨w.heap.size + 1, 0, none⟩ = some (.int .i64 m.sym) ∧ w'.cell? ⟨w.heap.size + 1, 1, none⟩ = some (.int .i64 m.id) ∧ (Instr.lookup 160 (.map (some b)) (.agg #[.int .i64 m.sym, .int .i64 m.id]) true).run Try.prog w' = .ok (.tuple #[.agg #[.int .i64 (0), .int .i64 (0), .int .i64 (0)], .bool false]) w')) (by kernel_rfl) ⟨HD0.out.box.cell 0 rfl, HK0.out.cell 0 rfl, HK0.out.cell 1 rfl, HL.out _ HD0.out.map.drew⟩ (fun hHeld => ?_)
          replace HD0 := Lib.hid HD0.out.drew
          replace HM0 := Lib.hid HM0.out.drew
          replace HK0 := Lib.hid HK0.out.drew
          replace HC0 := Lib.hid HC0.out.drew
          have hsz : w.heap.size + 1 < ((w.alloc (.cells m.cells 66)).alloc (.cells #[.int .i64 m.sym, .int .i64 m.id] 164)).drew.heap.size := HK0.out.lt
          generalize ((w.alloc (.cells m.cells 66)).alloc (.cells #[.int .i64 m.sym, .int .i64 m.id] 164)).drew = W1 at HD0 HM0 HK0 HC0 hHeld hsz ⊢
          refine wpAnyH_take (i := 0) (oi := ⟨some 18, _, _, _, _, _⟩) (v := (.pointer (some ⟨D, 0, none⟩))) rfl (by kernel_rfl) (by kernel_rfl) (by kernel_rfl) (fun _ _ _ h => h) (Or.inl ⟨by rfl, fun w hSw => by (try dsimp only at hSw); go_simp⟩) (by assumption) ?_
          simp only [Act.put, List.setIfInBounds_toArray, List.set_cons_zero, List.set_cons_succ]
          refine wpAnyH_take (i := 1) (oi := ⟨some 19, _, _, _, _, _⟩) (v := (.pointer (some ⟨D, 0, none⟩))) rfl (by kernel_rfl) (by kernel_rfl) (by kernel_rfl) (fun _ _ _ h => h) (Or.inl ⟨by rfl, fun w hSw => by (try dsimp only at hSw); go_simp⟩) (by assumption) ?_
          simp only [Act.put, List.setIfInBounds_toArray, List.set_cons_zero, List.set_cons_succ]
          refine wpAnyH_take (i := 2) (oi := ⟨some 20, _, _, _, _, _⟩) (v := (.pointer (some ⟨D, 0, none⟩))) rfl (by kernel_rfl) (by kernel_rfl) (by kernel_rfl) (fun _ _ _ h => h) (Or.inl ⟨by rfl, fun w hSw => by (try dsimp only at hSw); go_simp⟩) (by assumption) ?_
          simp only [Act.put, List.setIfInBounds_toArray, List.set_cons_zero, List.set_cons_succ]
          refine wpAnyH_take (i := 3) (oi := ⟨some 21, _, _, _, _, _⟩) (v := (.map (some b))) rfl (by kernel_rfl) (by kernel_rfl) (by kernel_rfl) (fun _ _ _ h => h) (Or.inl ⟨by rfl, fun w hSw => by (try dsimp only at hSw); go_simp⟩) (by assumption) ?_
          simp only [Act.put, List.setIfInBounds_toArray, List.set_cons_zero, List.set_cons_succ]
          refine wpAnyH_take (i := 4) (oi := ⟨some 22, _, _, _, _, _⟩) (v := (.agg #[.int .i64 m.sym, .int .i64 m.id])) rfl (by kernel_rfl) (by kernel_rfl) (by kernel_rfl) (fun _ _ _ h => h) (Or.inl ⟨by rfl, fun w hSw => by (try dsimp only at hSw); go_simp⟩) (by assumption) ?_
          simp only [Act.put, List.setIfInBounds_toArray, List.set_cons_zero, List.set_cons_succ]
          refine wpAnyH_take (i := 5) (oi := ⟨some 23, _, _, _, _, _⟩) (v := (.tuple #[.agg #[.int .i64 (0), .int .i64 (0), .int .i64 (0)], .bool false])) rfl (by kernel_rfl) (by kernel_rfl) (by kernel_rfl) (fun _ _ _ h => h) (Or.inl ⟨by rfl, fun w hSw => by (try dsimp only at hSw); go_simp⟩) (by assumption) ?_
          simp only [Act.put, List.setIfInBounds_toArray, List.set_cons_zero, List.set_cons_succ]
          refine wpAnyH_take (i := 6) (oi := ⟨some 17, _, _, _, _, _⟩) (v := (.tuple #[.agg #[.int .i64 (0), .int .i64 (0), .int .i64 (0)], .bool false])) rfl (by kernel_rfl) (by kernel_rfl) (by kernel_rfl) (fun _ _ _ h => h) (Or.inl ⟨by rfl, fun w hSw => by (try dsimp only at hSw); go_simp⟩) (by assumption) ?_
          simp only [Act.put, List.setIfInBounds_toArray, List.set_cons_zero, List.set_cons_succ]
          refine wpAnyH_take (i := 7) (oi := ⟨some 24, _, _, _, _, _⟩) (v := (.agg #[.int .i64 (0), .int .i64 (0), .int .i64 (0)])) rfl (by kernel_rfl) (by kernel_rfl) (by kernel_rfl) (fun _ _ _ h => h) (Or.inl ⟨by rfl, fun w hSw => by (try dsimp only at hSw); go_simp⟩) (by assumption) ?_
          simp only [Act.put, List.setIfInBounds_toArray, List.set_cons_zero, List.set_cons_succ]
          refine wpAnyH_take (i := 8) (oi := ⟨some 25, _, _, _, _, _⟩) (v := (.bool false)) rfl (by kernel_rfl) (by kernel_rfl) (by kernel_rfl) (fun _ _ _ h => h) (Or.inl ⟨by rfl, fun w hSw => by (try dsimp only at hSw); go_simp⟩) (by assumption) ?_
          simp only [Act.put, List.setIfInBounds_toArray, List.set_cons_zero, List.set_cons_succ]
          refine wpAnyH_ready (rs := [9]) (by kernel_rfl) (by simp) ?_
          refine AllReadyH.cons (o := ⟨some 6, _, _, _, _, _⟩) rfl (fun KK hK => ?_) AllReadyH.nil
          go_simp
          change KK _ (W1.alloc (.cells restZ 166))
          have HS : Hid (QS w D b m W1.heap.size (W1.alloc (.cells restZ 166)) L restZ) := Lib.hid ⟨HD0.out.alloc _, HM0.out.old _, HK0.out.old _, Blk.new _ _ _ _ rfl, HC0.out.alloc HC0.out.size _, hD, hb, hsz⟩
          refine hK.out _ _ ⟨HS.out.ds.box.cell 0 rfl, HS.out.kb.cell 0 rfl, HS.out.kb.cell 1 rfl, HL.out _ HS.out.ds.map⟩ (fun hHeld => ?_)
          clear hK; try clear KK
          try simp only [Act.put, List.setIfInBounds_toArray, List.set_cons_zero, List.set_cons_succ]
          refine wpAnyH_ready (rs := [10]) (by kernel_rfl) (by simp) ?_
          refine AllReadyH.cons (o := ⟨none, _, _, _, _, _⟩) rfl (fun KK hK => ?_) AllReadyH.nil
          refine step_store_blk (by rfl) 166 _ _ (by rfl) W1.heap.size (by rfl) restZ #[.int .i64 (0), .int .i64 (0), .int .i64 (0)] 166 HS.out.x (by rfl) rfl (by kernel_rfl) (one_rest ⟨0, 0, 0⟩) ?_
          replace HS := Lib.hid (HS.out.mput #[.int .i64 (0), .int .i64 (0), .int .i64 (0)] rfl)
          refine hK.out _ _ ⟨HS.out.ds.box.cell 0 rfl, HS.out.kb.cell 0 rfl, HS.out.kb.cell 1 rfl, HL.out _ HS.out.ds.map⟩ (fun hHeld => ?_)
          clear hK; try clear KK
          refine wpAnyH_take (i := 11) (oi := ⟨some 7, _, _, _, _, _⟩) (v := (.bool false)) rfl (by kernel_rfl) (by kernel_rfl) (by kernel_rfl) (fun _ _ _ h => h) (Or.inl ⟨by rfl, fun w hSw => by (try dsimp only at hSw); go_simp⟩) (by assumption) ?_
          simp only [Act.put, List.setIfInBounds_toArray, List.set_cons_zero, List.set_cons_succ]
          refine wpAnyH_done (by kernel_rfl) ?_ _
          generalize hW2 : World.setCells (W1.alloc (.cells restZ 166)) W1.heap.size 0 #[.int .i64 (0), .int .i64 (0), .int .i64 (0)].toList = W2 at HS hHeld ⊢
          clear hW2 hHeld HD0 HM0 HK0 HC0
          generalize W1.heap.size = xb at HS hsz ⊢
          have m0 : W2.cell? ⟨w.heap.size, 0, none⟩ = some (.int .i64 m.kind) := HS.out.mb.cell 0 rfl
          have m1 : W2.cell? ⟨w.heap.size, 1, none⟩ = some (.int .i64 m.sym) := HS.out.mb.cell 1 rfl
          have m5 : W2.cell? ⟨w.heap.size, 5, none⟩ = some (.int .i64 m.wth) := HS.out.mb.cell 5 rfl
          have m6 : W2.cell? ⟨w.heap.size, 6, none⟩ = some (.int .i64 m.price) := HS.out.mb.cell 6 rfl
          have m7 : W2.cell? ⟨w.heap.size, 7, none⟩ = some (.int .i64 m.qty) := HS.out.mb.cell 7 rfl
          have m8 : W2.cell? ⟨w.heap.size, 8, none⟩ = some (.int .i64 m.code) := HS.out.mb.cell 8 rfl
          have k0 : W2.cell? ⟨w.heap.size + 1, 0, none⟩ = some (.int .i64 m.sym) := HS.out.kb.cell 0 rfl
          have k1 : W2.cell? ⟨w.heap.size + 1, 1, none⟩ = some (.int .i64 m.id) := HS.out.kb.cell 1 rfl
          go_wp2_with fail
          refine (sided_any m.code _).mono ?_
          rintro e w3 ⟨rfl, rfl⟩
          rw [HSD.out]
          go_wp2_with fail
          refine (Tape.price_bad m.price _ HPR.out).mono ?_
          rintro e w3 ⟨rfl, rfl⟩
          go_wp2_with fail
          go_ret
          exact ⟨by (show Ending.returned (.bool false) = _; rw [HE.out]), by rw [HE.out]; exact HS.out.ds, HS.out.chg⟩
      · have HE := Lib.hid (show putF L m = (L, false) by simp [putF, h1, hk, hq, hc])
        have HSD := Lib.hid (show (decide (m.code = 0) || decide (m.code = 1)) = false by simpa using hc)
        clear h1 hc
        have HD0 := Lib.hid ((h.alloc (.cells m.cells 66)).alloc (.cells #[.int .i64 m.sym, .int .i64 m.id] 164))
        have HM0 := Lib.hid ((Blk.new w m.cells 66 w.heap.size rfl).old (.cells #[.int .i64 m.sym, .int .i64 m.id] 164))
        have HK0 := Lib.hid (Blk.new (w.alloc (.cells m.cells 66)) #[.int .i64 m.sym, .int .i64 m.id] 164 (w.heap.size + 1) (by simp))
        have HC0 := Lib.hid (show Chg w.heap.size b w ((w.alloc (.cells m.cells 66)).alloc (.cells #[.int .i64 m.sym, .int .i64 m.id] 164)) from ((Chg.refl _ _ _).alloc (Nat.le_refl _) _).alloc (by simp) _)
        have hD := h.box.lt
        have hb := h.map.lt
        have m1 : (w.alloc (.cells m.cells 66)).cell? ⟨w.heap.size, 1, none⟩ = some (.int .i64 m.sym) := (Blk.new w m.cells 66 w.heap.size rfl).cell 1 rfl
        have m4 : (w.alloc (.cells m.cells 66)).cell? ⟨w.heap.size, 4, none⟩ = some (.int .i64 m.id) := (Blk.new w m.cells 66 w.heap.size rfl).cell 4 rfl
        have HL := Lib.hid (fun W (hm : MapIs W b ke ve L) => show (Instr.lookup 160 (.map (some b)) (.agg #[.int .i64 m.sym, .int .i64 m.id]) true).run Try.prog W = .ok (.tuple #[.agg #[.int .i64 (0), .int .i64 (0), .int .i64 (0)], .bool false]) W by have := look_at hm m.sym m.id; rw [hk] at this; exact this)
        have HK := Lib.hid hk
        clear h hk
        go_enter Try.func37, Try.ntmps37
        go_upto_region 4 with fail
        clear m1 m4
        change Code.wp _ _ _ _ ((w.alloc (.cells m.cells 66)).alloc (.cells #[.int .i64 m.sym, .int .i64 m.id] 164))
        refine wp_region_held_drew (S := (fun w' => w'.cell? ⟨D, 0, none⟩ = some (.map (some b)) ∧ w'.cell? ⟨w.heap.size + 1, 0, none⟩ = some (.int .i64 m.sym) ∧ w'.cell? ⟨w.heap.size + 1, 1, none⟩ = some (.int .i64 m.id) ∧ (Instr.lookup 160 (.map (some b)) (.agg #[.int .i64 m.sym, .int .i64 m.id]) true).run Try.prog w' = .ok (.tuple #[.agg #[.int .i64 (0), .int .i64 (0), .int .i64 (0)], .bool false]) w')) (by kernel_rfl) ⟨HD0.out.box.cell 0 rfl, HK0.out.cell 0 rfl, HK0.out.cell 1 rfl, HL.out _ HD0.out.map.drew⟩ (fun hHeld => ?_)
        replace HD0 := Lib.hid HD0.out.drew
        replace HM0 := Lib.hid HM0.out.drew
        replace HK0 := Lib.hid HK0.out.drew
        replace HC0 := Lib.hid HC0.out.drew
        have hsz : w.heap.size + 1 < ((w.alloc (.cells m.cells 66)).alloc (.cells #[.int .i64 m.sym, .int .i64 m.id] 164)).drew.heap.size := HK0.out.lt
        generalize ((w.alloc (.cells m.cells 66)).alloc (.cells #[.int .i64 m.sym, .int .i64 m.id] 164)).drew = W1 at HD0 HM0 HK0 HC0 hHeld hsz ⊢
        refine wpAnyH_take (i := 0) (oi := ⟨some 18, _, _, _, _, _⟩) (v := (.pointer (some ⟨D, 0, none⟩))) rfl (by kernel_rfl) (by kernel_rfl) (by kernel_rfl) (fun _ _ _ h => h) (Or.inl ⟨by rfl, fun w hSw => by (try dsimp only at hSw); go_simp⟩) (by assumption) ?_
        simp only [Act.put, List.setIfInBounds_toArray, List.set_cons_zero, List.set_cons_succ]
        refine wpAnyH_take (i := 1) (oi := ⟨some 19, _, _, _, _, _⟩) (v := (.pointer (some ⟨D, 0, none⟩))) rfl (by kernel_rfl) (by kernel_rfl) (by kernel_rfl) (fun _ _ _ h => h) (Or.inl ⟨by rfl, fun w hSw => by (try dsimp only at hSw); go_simp⟩) (by assumption) ?_
        simp only [Act.put, List.setIfInBounds_toArray, List.set_cons_zero, List.set_cons_succ]
        refine wpAnyH_take (i := 2) (oi := ⟨some 20, _, _, _, _, _⟩) (v := (.pointer (some ⟨D, 0, none⟩))) rfl (by kernel_rfl) (by kernel_rfl) (by kernel_rfl) (fun _ _ _ h => h) (Or.inl ⟨by rfl, fun w hSw => by (try dsimp only at hSw); go_simp⟩) (by assumption) ?_
        simp only [Act.put, List.setIfInBounds_toArray, List.set_cons_zero, List.set_cons_succ]
        refine wpAnyH_take (i := 3) (oi := ⟨some 21, _, _, _, _, _⟩) (v := (.map (some b))) rfl (by kernel_rfl) (by kernel_rfl) (by kernel_rfl) (fun _ _ _ h => h) (Or.inl ⟨by rfl, fun w hSw => by (try dsimp only at hSw); go_simp⟩) (by assumption) ?_
        simp only [Act.put, List.setIfInBounds_toArray, List.set_cons_zero, List.set_cons_succ]
        refine wpAnyH_take (i := 4) (oi := ⟨some 22, _, _, _, _, _⟩) (v := (.agg #[.int .i64 m.sym, .int .i64 m.id])) rfl (by kernel_rfl) (by kernel_rfl) (by kernel_rfl) (fun _ _ _ h => h) (Or.inl ⟨by rfl, fun w hSw => by (try dsimp only at hSw); go_simp⟩) (by assumption) ?_
        simp only [Act.put, List.setIfInBounds_toArray, List.set_cons_zero, List.set_cons_succ]
        refine wpAnyH_take (i := 5) (oi := ⟨some 23, _, _, _, _, _⟩) (v := (.tuple #[.agg #[.int .i64 (0), .int .i64 (0), .int .i64 (0)], .bool false])) rfl (by kernel_rfl) (by kernel_rfl) (by kernel_rfl) (fun _ _ _ h => h) (Or.inl ⟨by rfl, fun w hSw => by (try dsimp only at hSw); go_simp⟩) (by assumption) ?_
        simp only [Act.put, List.setIfInBounds_toArray, List.set_cons_zero, List.set_cons_succ]
        refine wpAnyH_take (i := 6) (oi := ⟨some 17, _, _, _, _, _⟩) (v := (.tuple #[.agg #[.int .i64 (0), .int .i64 (0), .int .i64 (0)], .bool false])) rfl (by kernel_rfl) (by kernel_rfl) (by kernel_rfl) (fun _ _ _ h => h) (Or.inl ⟨by rfl, fun w hSw => by (try dsimp only at hSw); go_simp⟩) (by assumption) ?_
        simp only [Act.put, List.setIfInBounds_toArray, List.set_cons_zero, List.set_cons_succ]
        refine wpAnyH_take (i := 7) (oi := ⟨some 24, _, _, _, _, _⟩) (v := (.agg #[.int .i64 (0), .int .i64 (0), .int .i64 (0)])) rfl (by kernel_rfl) (by kernel_rfl) (by kernel_rfl) (fun _ _ _ h => h) (Or.inl ⟨by rfl, fun w hSw => by (try dsimp only at hSw); go_simp⟩) (by assumption) ?_
        simp only [Act.put, List.setIfInBounds_toArray, List.set_cons_zero, List.set_cons_succ]
        refine wpAnyH_take (i := 8) (oi := ⟨some 25, _, _, _, _, _⟩) (v := (.bool false)) rfl (by kernel_rfl) (by kernel_rfl) (by kernel_rfl) (fun _ _ _ h => h) (Or.inl ⟨by rfl, fun w hSw => by (try dsimp only at hSw); go_simp⟩) (by assumption) ?_
        simp only [Act.put, List.setIfInBounds_toArray, List.set_cons_zero, List.set_cons_succ]
        refine wpAnyH_ready (rs := [9]) (by kernel_rfl) (by simp) ?_
        refine AllReadyH.cons (o := ⟨some 6, _, _, _, _, _⟩) rfl (fun KK hK => ?_) AllReadyH.nil
        go_simp
        change KK _ (W1.alloc (.cells restZ 166))
        have HS : Hid (QS w D b m W1.heap.size (W1.alloc (.cells restZ 166)) L restZ) := Lib.hid ⟨HD0.out.alloc _, HM0.out.old _, HK0.out.old _, Blk.new _ _ _ _ rfl, HC0.out.alloc HC0.out.size _, hD, hb, hsz⟩
        refine hK.out _ _ ⟨HS.out.ds.box.cell 0 rfl, HS.out.kb.cell 0 rfl, HS.out.kb.cell 1 rfl, HL.out _ HS.out.ds.map⟩ (fun hHeld => ?_)
        clear hK; try clear KK
        try simp only [Act.put, List.setIfInBounds_toArray, List.set_cons_zero, List.set_cons_succ]
        refine wpAnyH_ready (rs := [10]) (by kernel_rfl) (by simp) ?_
        refine AllReadyH.cons (o := ⟨none, _, _, _, _, _⟩) rfl (fun KK hK => ?_) AllReadyH.nil
        refine step_store_blk (by rfl) 166 _ _ (by rfl) W1.heap.size (by rfl) restZ #[.int .i64 (0), .int .i64 (0), .int .i64 (0)] 166 HS.out.x (by rfl) rfl (by kernel_rfl) (one_rest ⟨0, 0, 0⟩) ?_
        replace HS := Lib.hid (HS.out.mput #[.int .i64 (0), .int .i64 (0), .int .i64 (0)] rfl)
        refine hK.out _ _ ⟨HS.out.ds.box.cell 0 rfl, HS.out.kb.cell 0 rfl, HS.out.kb.cell 1 rfl, HL.out _ HS.out.ds.map⟩ (fun hHeld => ?_)
        clear hK; try clear KK
        refine wpAnyH_take (i := 11) (oi := ⟨some 7, _, _, _, _, _⟩) (v := (.bool false)) rfl (by kernel_rfl) (by kernel_rfl) (by kernel_rfl) (fun _ _ _ h => h) (Or.inl ⟨by rfl, fun w hSw => by (try dsimp only at hSw); go_simp⟩) (by assumption) ?_
        simp only [Act.put, List.setIfInBounds_toArray, List.set_cons_zero, List.set_cons_succ]
        refine wpAnyH_done (by kernel_rfl) ?_ _
        generalize hW2 : World.setCells (W1.alloc (.cells restZ 166)) W1.heap.size 0 #[.int .i64 (0), .int .i64 (0), .int .i64 (0)].toList = W2 at HS hHeld ⊢
        clear hW2 hHeld HD0 HM0 HK0 HC0
        generalize W1.heap.size = xb at HS hsz ⊢
        have m0 : W2.cell? ⟨w.heap.size, 0, none⟩ = some (.int .i64 m.kind) := HS.out.mb.cell 0 rfl
        have m1 : W2.cell? ⟨w.heap.size, 1, none⟩ = some (.int .i64 m.sym) := HS.out.mb.cell 1 rfl
        have m5 : W2.cell? ⟨w.heap.size, 5, none⟩ = some (.int .i64 m.wth) := HS.out.mb.cell 5 rfl
        have m6 : W2.cell? ⟨w.heap.size, 6, none⟩ = some (.int .i64 m.price) := HS.out.mb.cell 6 rfl
        have m7 : W2.cell? ⟨w.heap.size, 7, none⟩ = some (.int .i64 m.qty) := HS.out.mb.cell 7 rfl
        have m8 : W2.cell? ⟨w.heap.size, 8, none⟩ = some (.int .i64 m.code) := HS.out.mb.cell 8 rfl
        have k0 : W2.cell? ⟨w.heap.size + 1, 0, none⟩ = some (.int .i64 m.sym) := HS.out.kb.cell 0 rfl
        have k1 : W2.cell? ⟨w.heap.size + 1, 1, none⟩ = some (.int .i64 m.id) := HS.out.kb.cell 1 rfl
        go_wp2_with fail
        refine (sided_any m.code _).mono ?_
        rintro e w3 ⟨rfl, rfl⟩
        rw [HSD.out]
        go_wp2_with fail
        go_ret
        exact ⟨by (show Ending.returned (.bool false) = _; rw [HE.out]), by rw [HE.out]; exact HS.out.ds, HS.out.chg⟩

theorem put_any (D b : Nat) (L : List (Key × Rest)) (m : Msg) (w : World) (h : DS w D b L) (hok : OkL L) (hq1 : m.qty ≤ 1125899906842624) :
    Calls Try.prog 37 #[.pointer (some ⟨D, 0, none⟩), .agg m.cells] w (PutIs L m D b w) := by
  by_cases h1 : m.kind = 1
  · exact put_ack D b L m w h h1
  · by_cases h3 : m.kind = 3
    · exact put_trade D b L m w h hok h3 hq1
    · by_cases h4 : m.kind = 4
      · exact put_done D b L m w h hok h4
      · exact put_other D b L m w h h1 h3 h4
theorem new_any (w : World) : Calls Try.prog 36 #[] w fun e w' => e = .returned (.pointer (some ⟨w.heap.size + 1, 0, none⟩)) ∧ DS w' (w.heap.size + 1) w.heap.size [] ∧ Below w.heap.size w w' := by
  have hmm := @run_makeMap Try.prog
  have HD := Lib.hid (show DS ((w.alloc (.map #[] 0)).alloc (.cells #[.map (some w.heap.size)] 162)) (w.heap.size + 1) w.heap.size [] from ⟨Blk.new _ _ _ _ (by simp), (mapIs_new w w.heap.size rfl ke ve).old _⟩)
  have HB := Lib.hid (((Below.refl w.heap.size w).alloc (Nat.le_refl _) (.map #[] 0)).alloc (by simp) (.cells #[.map (some w.heap.size)] 162))
  go_enter Try.func36, Try.ntmps36
  go_wp2_with fail
  go_ret
  exact ⟨rfl, HD.out, HB.out⟩
end Go.Proofs.Ytogjgpiddjmpiaa.Depth
