/- (*ledger.Ledger).ack: an account anew. -/
import Derived.Test.YtmkcooamgojbpaaLedAckF
namespace Go.Proofs.Ytmkcooamgojbpaa.Ledger
open Go.RowKit Go.Proofs.Ytmkcooamgojbpaa.Kit Go.Proofs.Ytmkcooamgojbpaa.Blk Go.Proofs.Ytmkcooamgojbpaa.Mp Go.Proofs.Ytmkcooamgojbpaa.Qty Go.Proofs.Ytmkcooamgojbpaa.Msgs
attribute [local go_sem ↓] Go.wp_at_zero Go.wp_at_succ
set_option linter.unusedVariables false

set_option maxRecDepth 20000 in
set_option maxHeartbeats 1000000 in
theorem ack_any (L : Led) (m : Msg) (D b1 b2 b3 : Nat) (w : World) (h : LS w D b1 b2 b3 L) (hq : (0 ≤ m.qty ∧ m.qty ≤ 4294967296) ∧ 0 ≤ m.wth ∧ m.wth ≤ 4294967296) (he : 0 ≤ earlyF L (keyM m) ∧ earlyF L (keyM m) ≤ 1125899906842624) (hs : AccIn 1152921504606846976 ((mget m.sym L.aside).getD acc0)) (hb : AccIn 1125899906842624 ((mget (keyM m) L.now).getD acc0)) :
    Calls Try.prog 17 #[.pointer (some ⟨D, 0, none⟩), .agg m.cells] w (PutIs (ackF L m).1 (ackF L m).2 D b1 b2 b3 w) := by
  have HS := Lib.hid (St.start h m (keyM m))
  have HLK := Lib.hid (fun W (hm : MapIs W b1 ke va L.now) => look1 hm m.sym m.id)
  have HQ := Lib.hid hq
  have HE := Lib.hid he
  have HSD := Lib.hid hs
  have HLE := Lib.hid (fun W (hm : MapIs W b2 ke vi L.early) => show (Instr.lookup 48 (.map (some b2)) (.agg #[.int .i64 m.sym, .int .i64 m.id]) false).run Try.prog W = .ok (.int .i64 (earlyF L (keyM m))) W from look2 hm m.sym m.id)
  have HF := Lib.hid (show ackF L m = if (mget (keyM m) L.now).isSome = true ∧ (((mget (keyM m) L.now).getD acc0).rest ≠ 0 ∨ owesA ((mget (keyM m) L.now).getD acc0) ≠ 0) then (6, L) else if m.wth < earlyF L (keyM m) + m.qty then (9, L)
    else (0, ⟨mput (keyM m) ⟨m.wth, earlyF L (keyM m), 0, m.qty⟩ L.now, mdel (keyM m) L.early, mput m.sym (plusA ((mget m.sym L.aside).getD acc0) ((mget (keyM m) L.now).getD acc0)) L.aside⟩) from rfl)
  clear h hq he hs
  unfold Msg.cells
  go_enter Try.func17, Try.ntmps17
  go_upto_region 2 with fail
  change Code.wp _ _ _ _ ((w.alloc (.cells m.cells 33)).alloc (.cells (keyC (keyM m)) 60))
  generalize hW : (w.alloc (.cells m.cells 33)).alloc (.cells (keyC (keyM m)) 60) = W0 at HS ⊢
  clear hW
  refine wp_region_held_drew (S := (fun w' => w'.cell? ⟨D, 0, none⟩ = some (.map (some b1)) ∧ w'.cell? ⟨w.heap.size + 1, 0, none⟩ = some (.int .i64 m.sym) ∧ w'.cell? ⟨w.heap.size + 1, 1, none⟩ = some (.int .i64 m.id) ∧ (Instr.lookup 47 (.map (some b1)) (.agg #[.int .i64 m.sym, .int .i64 m.id]) true).run Try.prog w' = .ok (.tuple #[.agg ((mget (keyM m) L.now).getD acc0).cells, .bool (mget (keyM m) L.now).isSome]) w')) (by kernel_rfl) ⟨HS.out.ls.box.cell 0 rfl, HS.out.kb.cell 0 rfl, HS.out.kb.cell 1 rfl, HLK.out _ HS.out.ls.m1.drew⟩ (fun hHeld => ?_)
  replace HS := Lib.hid HS.out.drew
  have hsz : w.heap.size + 1 < W0.drew.heap.size := HS.out.kb.lt
  generalize W0.drew = W1 at HS hHeld hsz ⊢
  have HM := Lib.hid (show mget (keyM m) L.now = if (mget (keyM m) L.now).isSome = true then some ((mget (keyM m) L.now).getD acc0) else none by cases mget (keyM m) L.now <;> rfl)
  change Hid (∀ W, MapIs W b1 ke va L.now → (Instr.lookup 47 (.map (some b1)) (.agg #[.int .i64 m.sym, .int .i64 m.id]) true).run Try.prog W = .ok (.tuple #[.agg ((mget (keyM m) L.now).getD acc0).cells, .bool (mget (keyM m) L.now).isSome]) W) at HLK
  generalize (mget (keyM m) L.now).getD acc0 = a at hHeld HLK HM HF hb
  generalize (mget (keyM m) L.now).isSome = is at hHeld HLK HM HF
  refine wpAnyH_take (i := 0) (oi := ⟨some 15, _, _, _, _, _⟩) (v := (.pointer (some ⟨D, 0, none⟩))) rfl (by kernel_rfl) (by kernel_rfl) (by kernel_rfl) (fun _ _ _ h => h) (Or.inl ⟨by rfl, fun w hSw => by (try dsimp only at hSw); go_simp⟩) (by assumption) ?_
  simp only [Act.put, List.setIfInBounds_toArray, List.set_cons_zero, List.set_cons_succ]
  refine wpAnyH_take (i := 1) (oi := ⟨some 16, _, _, _, _, _⟩) (v := (.pointer (some ⟨D, 0, none⟩))) rfl (by kernel_rfl) (by kernel_rfl) (by kernel_rfl) (fun _ _ _ h => h) (Or.inl ⟨by rfl, fun w hSw => by (try dsimp only at hSw); go_simp⟩) (by assumption) ?_
  simp only [Act.put, List.setIfInBounds_toArray, List.set_cons_zero, List.set_cons_succ]
  refine wpAnyH_take (i := 2) (oi := ⟨some 17, _, _, _, _, _⟩) (v := (.pointer (some ⟨D, 0, none⟩))) rfl (by kernel_rfl) (by kernel_rfl) (by kernel_rfl) (fun _ _ _ h => h) (Or.inl ⟨by rfl, fun w hSw => by (try dsimp only at hSw); go_simp⟩) (by assumption) ?_
  simp only [Act.put, List.setIfInBounds_toArray, List.set_cons_zero, List.set_cons_succ]
  refine wpAnyH_take (i := 3) (oi := ⟨some 18, _, _, _, _, _⟩) (v := (.map (some b1))) rfl (by kernel_rfl) (by kernel_rfl) (by kernel_rfl) (fun _ _ _ h => h) (Or.inl ⟨by rfl, fun w hSw => by (try dsimp only at hSw); go_simp⟩) (by assumption) ?_
  simp only [Act.put, List.setIfInBounds_toArray, List.set_cons_zero, List.set_cons_succ]
  refine wpAnyH_take (i := 4) (oi := ⟨some 19, _, _, _, _, _⟩) (v := (.agg #[.int .i64 m.sym, .int .i64 m.id])) rfl (by kernel_rfl) (by kernel_rfl) (by kernel_rfl) (fun _ _ _ h => h) (Or.inl ⟨by rfl, fun w hSw => by (try dsimp only at hSw); go_simp⟩) (by assumption) ?_
  simp only [Act.put, List.setIfInBounds_toArray, List.set_cons_zero, List.set_cons_succ]
  refine wpAnyH_take (i := 5) (oi := ⟨some 20, _, _, _, _, _⟩) (v := (.tuple #[.agg a.cells, .bool is])) rfl (by kernel_rfl) (by kernel_rfl) (by kernel_rfl) (fun _ _ _ h => h) (Or.inl ⟨by rfl, fun w hSw => by (try dsimp only at hSw); go_simp⟩) (by assumption) ?_
  simp only [Act.put, List.setIfInBounds_toArray, List.set_cons_zero, List.set_cons_succ]
  refine wpAnyH_take (i := 6) (oi := ⟨some 14, _, _, _, _, _⟩) (v := (.tuple #[.agg a.cells, .bool is])) rfl (by kernel_rfl) (by kernel_rfl) (by kernel_rfl) (fun _ _ _ h => h) (Or.inl ⟨by rfl, fun w hSw => by (try dsimp only at hSw); go_simp⟩) (by assumption) ?_
  simp only [Act.put, List.setIfInBounds_toArray, List.set_cons_zero, List.set_cons_succ]
  refine wpAnyH_take (i := 7) (oi := ⟨some 21, _, _, _, _, _⟩) (v := (.agg a.cells)) rfl (by kernel_rfl) (by kernel_rfl) (by kernel_rfl) (fun _ _ _ h => h) (Or.inl ⟨by rfl, fun w hSw => by (try dsimp only at hSw); go_simp⟩) (by assumption) ?_
  simp only [Act.put, List.setIfInBounds_toArray, List.set_cons_zero, List.set_cons_succ]
  refine wpAnyH_take (i := 8) (oi := ⟨some 22, _, _, _, _, _⟩) (v := (.bool is)) rfl (by kernel_rfl) (by kernel_rfl) (by kernel_rfl) (fun _ _ _ h => h) (Or.inl ⟨by rfl, fun w hSw => by (try dsimp only at hSw); go_simp⟩) (by assumption) ?_
  simp only [Act.put, List.setIfInBounds_toArray, List.set_cons_zero, List.set_cons_succ]
  refine wpAnyH_ready (rs := [9]) (by kernel_rfl) (by simp) ?_
  refine AllReadyH.cons (o := ⟨some 6, _, _, _, _, _⟩) rfl (fun KK hK => ?_) AllReadyH.nil
  go_simp
  change KK _ (W1.alloc (.cells acc0.cells 41))
  have HS3 := Lib.hid (HS.out.alloc (.cells acc0.cells 41))
  have HA3 := Lib.hid (Blk.new W1 acc0.cells 41 W1.heap.size rfl)
  clear HS
  refine hK.out _ _ ⟨HS3.out.ls.box.cell 0 rfl, HS3.out.kb.cell 0 rfl, HS3.out.kb.cell 1 rfl, HLK.out _ HS3.out.ls.m1⟩ (fun hHeld => ?_)
  clear hK; try clear KK
  try simp only [Act.put, List.setIfInBounds_toArray, List.set_cons_zero, List.set_cons_succ]
  refine wpAnyH_ready (rs := [10]) (by kernel_rfl) (by simp) ?_
  refine AllReadyH.cons (o := ⟨none, _, _, _, _, _⟩) rfl (fun KK hK => ?_) AllReadyH.nil
  refine step_store_blk (by rfl) 41 _ _ (by rfl) W1.heap.size (by rfl) acc0.cells a.cells 41 HA3.out (by rfl) rfl (by kernel_rfl) (acc_one a) ?_
  have HS4 := Lib.hid (HS3.out.cells HA3.out hsz a.cells.toList 0)
  have HA4 := Lib.hid (HA3.out.setCells a.cells rfl)
  clear HS3 HA3
  refine hK.out _ _ ⟨HS4.out.ls.box.cell 0 rfl, HS4.out.kb.cell 0 rfl, HS4.out.kb.cell 1 rfl, HLK.out _ HS4.out.ls.m1⟩ (fun hHeld => ?_)
  clear hK; try clear KK
  refine wpAnyH_take (i := 11) (oi := ⟨some 7, _, _, _, _, _⟩) (v := (.bool is)) rfl (by kernel_rfl) (by kernel_rfl) (by kernel_rfl) (fun _ _ _ h => h) (Or.inl ⟨by rfl, fun w hSw => by (try dsimp only at hSw); go_simp⟩) (by assumption) ?_
  simp only [Act.put, List.setIfInBounds_toArray, List.set_cons_zero, List.set_cons_succ]
  refine wpAnyH_done (by kernel_rfl) ?_ _
  generalize hW2 : (W1.alloc (.cells acc0.cells 41)).setCells W1.heap.size 0 a.cells.toList = W2 at HS4 HA4 ⊢
  generalize hA1 : W1.heap.size = A1 at HA4 hsz ⊢
  clear hHeld hW2 hA1
  go_upto_region 3 with fail
  refine wp_region_held_drew (S := (fun w' => w'.cell? ⟨D, 1, none⟩ = some (.map (some b2)) ∧ w'.cell? ⟨w.heap.size + 1, 0, none⟩ = some (.int .i64 m.sym) ∧ w'.cell? ⟨w.heap.size + 1, 1, none⟩ = some (.int .i64 m.id) ∧ (Instr.lookup 48 (.map (some b2)) (.agg #[.int .i64 m.sym, .int .i64 m.id]) false).run Try.prog w' = .ok (.int .i64 (earlyF L (keyM m))) w')) (by kernel_rfl) ⟨HS4.out.ls.box.cell 1 rfl, HS4.out.kb.cell 0 rfl, HS4.out.kb.cell 1 rfl, HLE.out _ HS4.out.ls.m2.drew⟩ (fun hHeld => ?_)
  replace HS4 := Lib.hid HS4.out.drew
  replace HA4 := Lib.hid HA4.out.drew
  generalize W2.drew = W3 at HS4 HA4 hHeld ⊢
  generalize earlyF L (keyM m) = ea at hHeld HE HLE HF
  refine wpAnyH_take (i := 0) (oi := ⟨some 23, _, _, _, _, _⟩) (v := (.pointer (some ⟨D, 0, none⟩))) rfl (by kernel_rfl) (by kernel_rfl) (by kernel_rfl) (fun _ _ _ h => h) (Or.inl ⟨by rfl, fun w hSw => by (try dsimp only at hSw); go_simp⟩) (by assumption) ?_
  simp only [Act.put, List.setIfInBounds_toArray, List.set_cons_zero, List.set_cons_succ]
  refine wpAnyH_take (i := 1) (oi := ⟨some 24, _, _, _, _, _⟩) (v := (.pointer (some ⟨D, 0, none⟩))) rfl (by kernel_rfl) (by kernel_rfl) (by kernel_rfl) (fun _ _ _ h => h) (Or.inl ⟨by rfl, fun w hSw => by (try dsimp only at hSw); go_simp⟩) (by assumption) ?_
  simp only [Act.put, List.setIfInBounds_toArray, List.set_cons_zero, List.set_cons_succ]
  refine wpAnyH_take (i := 2) (oi := ⟨some 25, _, _, _, _, _⟩) (v := (.pointer (some ⟨D, 1, none⟩))) rfl (by kernel_rfl) (by kernel_rfl) (by kernel_rfl) (fun _ _ _ h => h) (Or.inl ⟨by rfl, fun w hSw => by (try dsimp only at hSw); go_simp⟩) (by assumption) ?_
  simp only [Act.put, List.setIfInBounds_toArray, List.set_cons_zero, List.set_cons_succ]
  refine wpAnyH_take (i := 3) (oi := ⟨some 26, _, _, _, _, _⟩) (v := (.map (some b2))) rfl (by kernel_rfl) (by kernel_rfl) (by kernel_rfl) (fun _ _ _ h => h) (Or.inl ⟨by rfl, fun w hSw => by (try dsimp only at hSw); go_simp⟩) (by assumption) ?_
  simp only [Act.put, List.setIfInBounds_toArray, List.set_cons_zero, List.set_cons_succ]
  refine wpAnyH_take (i := 4) (oi := ⟨some 27, _, _, _, _, _⟩) (v := (.agg #[.int .i64 m.sym, .int .i64 m.id])) rfl (by kernel_rfl) (by kernel_rfl) (by kernel_rfl) (fun _ _ _ h => h) (Or.inl ⟨by rfl, fun w hSw => by (try dsimp only at hSw); go_simp⟩) (by assumption) ?_
  simp only [Act.put, List.setIfInBounds_toArray, List.set_cons_zero, List.set_cons_succ]
  refine wpAnyH_take (i := 5) (oi := ⟨some 28, _, _, _, _, _⟩) (v := (.int .i64 ea)) rfl (by kernel_rfl) (by kernel_rfl) (by kernel_rfl) (fun _ _ _ h => h) (Or.inl ⟨by rfl, fun w hSw => by (try dsimp only at hSw); go_simp⟩) (by assumption) ?_
  simp only [Act.put, List.setIfInBounds_toArray, List.set_cons_zero, List.set_cons_succ]
  refine wpAnyH_take (i := 6) (oi := ⟨some 8, _, _, _, _, _⟩) (v := (.int .i64 ea)) rfl (by kernel_rfl) (by kernel_rfl) (by kernel_rfl) (fun _ _ _ h => h) (Or.inl ⟨by rfl, fun w hSw => by (try dsimp only at hSw); go_simp⟩) (by assumption) ?_
  simp only [Act.put, List.setIfInBounds_toArray, List.set_cons_zero, List.set_cons_succ]
  refine wpAnyH_done (by kernel_rfl) ?_ _
  clear hHeld
  have ca0 : W3.cell? ⟨A1, 0, none⟩ = some (.int .i64 a.asked) := HA4.out.cell 0 rfl
  have ca1 : W3.cell? ⟨A1, 1, none⟩ = some (.int .i64 a.filled) := HA4.out.cell 1 rfl
  have ca2 : W3.cell? ⟨A1, 2, none⟩ = some (.int .i64 a.gone) := HA4.out.cell 2 rfl
  have ca3 : W3.cell? ⟨A1, 3, none⟩ = some (.int .i64 a.rest) := HA4.out.cell 3 rfl
  have HOW := Lib.hid (fun W => owes_any a hb W)
  unfold Acc.cells at HOW
  have HBA := Lib.hid hb
  cases is with
  | true =>
    by_cases hre : a.rest = 0
    · have g1 : (a.rest != 0) = false := by simpa using hre
      by_cases how : owesA a = 0
      · have g2 : (owesA a != 0) = false := by simpa using how
        rw [if_neg (by rintro ⟨-, h | h⟩ <;> contradiction)] at HF
        clear how hre
        go_wp2_with fail
        refine (HOW.out W3).mono ?_
        rintro e W5 ⟨rfl, hb5⟩
        have HS5 := Lib.hid (HS4.out.below hb5)
        have HA5 := Lib.hid (HA4.out.below hb5 HA4.out.lt)
        clear hb5 HS4 HA4 ca0 ca1 ca2 ca3
        have cq : W5.cell? ⟨w.heap.size, 7, none⟩ = some (.int .i64 m.qty) := HS5.out.mb.cell 7 rfl
        have cw : W5.cell? ⟨w.heap.size, 5, none⟩ = some (.int .i64 m.wth) := HS5.out.mb.cell 5 rfl
        obtain ⟨⟨q1, q2⟩, q3, q4⟩ := HQ.out
        obtain ⟨e1, e2⟩ := HE.out
        by_cases hgt : m.wth < ea + m.qty
        · rw [if_pos hgt] at HF
          go_wp2_with fail
          go_ret
          exact ⟨by rw [HF.out]; rfl, by rw [HF.out]; exact HS5.out.ls, HS5.out.chg⟩
        · rw [if_neg hgt] at HF
          go_upto_region 8 with fail
          have cD : W5.cell? ⟨D, 2, none⟩ = some (.map (some b3)) := HS5.out.ls.box.cell 2 rfl
          have ck1 : W5.cell? ⟨w.heap.size + 1, 0, none⟩ = some (.int .i64 m.sym) := HS5.out.kb.cell 0 rfl
          refine wp_region_held_drew (S := (fun w' => w'.cell? ⟨D, 2, none⟩ = some (.map (some b3)) ∧ w'.cell? ⟨w.heap.size + 1, 0, none⟩ = some (.int .i64 m.sym) ∧ w'.rangeAt A1 0 a.cells.toList)) (by kernel_rfl) (⟨cD, ck1, HA5.out.drew.range⟩) (fun hHeld => ?_)
          have HA6 := Lib.hid HA5.out.drew
          have HS6 := Lib.hid HS5.out.drew
          clear cD ck1 HS5 HA5 cq cw
          generalize W5.drew = W6 at HS6 HA6 hHeld ⊢
          refine wpAnyH_take (i := 0) (oi := ⟨some 49, _, _, _, _, _⟩) (v := (.pointer (some ⟨D, 0, none⟩))) rfl (by kernel_rfl) (by kernel_rfl) (by kernel_rfl) (fun _ _ _ h => h) (Or.inl ⟨by rfl, fun w hSw => by (try dsimp only at hSw); go_simp⟩) (by assumption) ?_
          simp only [Act.put, List.setIfInBounds_toArray, List.set_cons_zero, List.set_cons_succ]
          refine wpAnyH_take (i := 1) (oi := ⟨some 50, _, _, _, _, _⟩) (v := (.pointer (some ⟨D, 0, none⟩))) rfl (by kernel_rfl) (by kernel_rfl) (by kernel_rfl) (fun _ _ _ h => h) (Or.inl ⟨by rfl, fun w hSw => by (try dsimp only at hSw); go_simp⟩) (by assumption) ?_
          simp only [Act.put, List.setIfInBounds_toArray, List.set_cons_zero, List.set_cons_succ]
          refine wpAnyH_take (i := 2) (oi := ⟨some 51, _, _, _, _, _⟩) (v := (.pointer (some ⟨D, 2, none⟩))) rfl (by kernel_rfl) (by kernel_rfl) (by kernel_rfl) (fun _ _ _ h => h) (Or.inl ⟨by rfl, fun w hSw => by (try dsimp only at hSw); go_simp⟩) (by assumption) ?_
          simp only [Act.put, List.setIfInBounds_toArray, List.set_cons_zero, List.set_cons_succ]
          refine wpAnyH_take (i := 3) (oi := ⟨some 52, _, _, _, _, _⟩) (v := (.map (some b3))) rfl (by kernel_rfl) (by kernel_rfl) (by kernel_rfl) (fun _ _ _ h => h) (Or.inl ⟨by rfl, fun w hSw => by (try dsimp only at hSw); go_simp⟩) (by assumption) ?_
          simp only [Act.put, List.setIfInBounds_toArray, List.set_cons_zero, List.set_cons_succ]
          refine wpAnyH_take (i := 4) (oi := ⟨some 53, _, _, _, _, _⟩) (v := (.pointer (some ⟨w.heap.size + 1, 0, none⟩))) rfl (by kernel_rfl) (by kernel_rfl) (by kernel_rfl) (fun _ _ _ h => h) (Or.inl ⟨by rfl, fun w hSw => by (try dsimp only at hSw); go_simp⟩) (by assumption) ?_
          simp only [Act.put, List.setIfInBounds_toArray, List.set_cons_zero, List.set_cons_succ]
          refine wpAnyH_take (i := 5) (oi := ⟨some 54, _, _, _, _, _⟩) (v := (.int .i64 m.sym)) rfl (by kernel_rfl) (by kernel_rfl) (by kernel_rfl) (fun _ _ _ h => h) (Or.inl ⟨by rfl, fun w hSw => by (try dsimp only at hSw); go_simp⟩) (by assumption) ?_
          simp only [Act.put, List.setIfInBounds_toArray, List.set_cons_zero, List.set_cons_succ]
          refine wpAnyH_take (i := 6) (oi := ⟨some 55, _, _, _, _, _⟩) (v := (.pointer (some ⟨D, 0, none⟩))) rfl (by kernel_rfl) (by kernel_rfl) (by kernel_rfl) (fun _ _ _ h => h) (Or.inl ⟨by rfl, fun w hSw => by (try dsimp only at hSw); go_simp⟩) (by assumption) ?_
          simp only [Act.put, List.setIfInBounds_toArray, List.set_cons_zero, List.set_cons_succ]
          refine wpAnyH_take (i := 7) (oi := ⟨some 56, _, _, _, _, _⟩) (v := (.pointer (some ⟨D, 0, none⟩))) rfl (by kernel_rfl) (by kernel_rfl) (by kernel_rfl) (fun _ _ _ h => h) (Or.inl ⟨by rfl, fun w hSw => by (try dsimp only at hSw); go_simp⟩) (by assumption) ?_
          simp only [Act.put, List.setIfInBounds_toArray, List.set_cons_zero, List.set_cons_succ]
          refine wpAnyH_take (i := 8) (oi := ⟨some 57, _, _, _, _, _⟩) (v := (.pointer (some ⟨D, 2, none⟩))) rfl (by kernel_rfl) (by kernel_rfl) (by kernel_rfl) (fun _ _ _ h => h) (Or.inl ⟨by rfl, fun w hSw => by (try dsimp only at hSw); go_simp⟩) (by assumption) ?_
          simp only [Act.put, List.setIfInBounds_toArray, List.set_cons_zero, List.set_cons_succ]
          refine wpAnyH_take (i := 9) (oi := ⟨some 58, _, _, _, _, _⟩) (v := (.map (some b3))) rfl (by kernel_rfl) (by kernel_rfl) (by kernel_rfl) (fun _ _ _ h => h) (Or.inl ⟨by rfl, fun w hSw => by (try dsimp only at hSw); go_simp⟩) (by assumption) ?_
          simp only [Act.put, List.setIfInBounds_toArray, List.set_cons_zero, List.set_cons_succ]
          refine wpAnyH_take (i := 10) (oi := ⟨some 59, _, _, _, _, _⟩) (v := (.pointer (some ⟨w.heap.size + 1, 0, none⟩))) rfl (by kernel_rfl) (by kernel_rfl) (by kernel_rfl) (fun _ _ _ h => h) (Or.inl ⟨by rfl, fun w hSw => by (try dsimp only at hSw); go_simp⟩) (by assumption) ?_
          simp only [Act.put, List.setIfInBounds_toArray, List.set_cons_zero, List.set_cons_succ]
          refine wpAnyH_take (i := 11) (oi := ⟨some 60, _, _, _, _, _⟩) (v := (.int .i64 m.sym)) rfl (by kernel_rfl) (by kernel_rfl) (by kernel_rfl) (fun _ _ _ h => h) (Or.inl ⟨by rfl, fun w hSw => by (try dsimp only at hSw); go_simp⟩) (by assumption) ?_
          simp only [Act.put, List.setIfInBounds_toArray, List.set_cons_zero, List.set_cons_succ]
          refine wpAnyH_take (i := 13) (oi := ⟨some 62, .load 41 (.tmp 6), _, _, _, _⟩) (v := _) rfl (by kernel_rfl) (by kernel_rfl) (by kernel_rfl) (fun _ _ _ h => h) (yieldsIf_load_mid (by rfl) _ _ rfl _ _ rfl _ _ (fun w h => h.2.2) Try.underlying41 rfl (by kernel_rfl)) (by assumption) ?_
          simp only [Act.put, List.setIfInBounds_toArray, List.set_cons_zero, List.set_cons_succ]
          have hlk := look3 (show MapIs W6 b3 vi va L.aside from HS6.out.ls.m3) m.sym
          refine wpAnyH_ready (rs := [12]) (by kernel_rfl) (by simp) ?_
          refine AllReadyH.cons (o := ⟨some 61, _, _, _, _, _⟩) rfl (fun KK hK => ?_) AllReadyH.nil
          go_simp
          clear hlk
          generalize (mget m.sym L.aside).getD acc0 = sd at HSD HF ⊢
          have HPL := Lib.hid (plus_any sd a HSD.out ⟨⟨HBA.out.1.1, by have := HBA.out.1.2; omega⟩, ⟨HBA.out.2.1.1, by have := HBA.out.2.1.2; omega⟩, ⟨HBA.out.2.2.1.1, by have := HBA.out.2.2.1.2; omega⟩, HBA.out.2.2.2.1, by have := HBA.out.2.2.2.2; omega⟩ W6)
          refine hK.out _ _ ⟨HS6.out.ls.box.cell 2 rfl, HS6.out.kb.cell 0 rfl, HA6.out.range⟩ (fun hHeld => ?_)
          clear hK; try clear KK
          try simp only [Act.put, List.setIfInBounds_toArray, List.set_cons_zero, List.set_cons_succ]
          refine wpAnyH_ready (rs := [14]) (by kernel_rfl) (by simp) ?_
          refine AllReadyH.cons (o := ⟨some 63, _, _, _, _, _⟩) rfl (fun KK hK => ?_) AllReadyH.nil
          go_simp
          refine HPL.out.mono ?_
          clear HPL
          rintro e W7 ⟨rfl, hb7⟩
          have HS7 := Lib.hid (HS6.out.below hb7)
          have HA7 := Lib.hid (HA6.out.below hb7 HA6.out.lt)
          clear hb7 HS6 HA6 hHeld
          dsimp only
          refine hK.out _ _ ⟨HS7.out.ls.box.cell 2 rfl, HS7.out.kb.cell 0 rfl, HA7.out.range⟩ (fun hHeld => ?_)
          clear hK; try clear KK
          try simp only [Act.put, List.setIfInBounds_toArray, List.set_cons_zero, List.set_cons_succ]
          obtain ⟨W8, hrun, hm8, hc8, hs8⟩ := put3 HS7.out.ls.m3 m.sym (plusA sd a)
          have HS8 := Lib.hid (HS7.out.ls' (.inr (.inr rfl)) (HS7.out.ls.set3 hm8 hc8) hc8)
          have HA8 := Lib.hid (hc8.blk HA7.out.lt (by intro e; exact (HS7.out.ls.m3.not_blk HA7.out) e.symm) HA7.out)
          refine wpAnyH_ready (rs := [15]) (by kernel_rfl) (by simp) ?_
          refine AllReadyH.cons (o := ⟨none, _, _, _, _, _⟩) rfl (fun KK hK => ?_) AllReadyH.nil
          go_simp
          clear hm8 hc8 hs8 hrun HS7 HA7
          refine hK.out _ _ ⟨HS8.out.ls.box.cell 2 rfl, HS8.out.kb.cell 0 rfl, HA8.out.range⟩ (fun hHeld => ?_)
          clear hK; try clear KK
          refine wpAnyH_done (by kernel_rfl) ?_ _
          clear hHeld HA8
          go_upto_region 9 with fail
          have cD : W8.cell? ⟨D, 1, none⟩ = some (.map (some b2)) := HS8.out.ls.box.cell 1 rfl
          have ck1 : W8.cell? ⟨w.heap.size + 1, 0, none⟩ = some (.int .i64 m.sym) := HS8.out.kb.cell 0 rfl
          have ck2 : W8.cell? ⟨w.heap.size + 1, 1, none⟩ = some (.int .i64 m.id) := HS8.out.kb.cell 1 rfl
          obtain ⟨W9, hrun, hm9, hc9, hs9⟩ := del2 (show MapIs W8.drew b2 ke vi L.early from HS8.out.ls.m2.drew) m.sym m.id 0
          have HS9 := Lib.hid (HS8.out.drew.ls' (.inr (.inl rfl)) (HS8.out.drew.ls.set2 hm9 hc9) hc9)
          clear hm9 hc9 hs9
          refine Go.Proofs.Ytmkcooamgojbpaa.Veil.start 5 (by kernel_rfl) (by kernel_rfl) ?_
          simp only [List.take_succ_cons, List.take_zero, List.drop_succ_cons, List.drop_zero]
          (refine Go.Proofs.Ytmkcooamgojbpaa.Veil.step (fun K hK => ?_); go_simp; refine hK _ ?_; clear hK K)
          (refine Go.Proofs.Ytmkcooamgojbpaa.Veil.step (fun K hK => ?_); go_simp; refine hK _ ?_; clear hK K)
          (refine Go.Proofs.Ytmkcooamgojbpaa.Veil.step (fun K hK => ?_); go_simp; refine hK _ ?_; clear hK K)
          (refine Go.Proofs.Ytmkcooamgojbpaa.Veil.step (fun K hK => ?_); go_simp; refine hK _ ?_; clear hK K)
          (refine Go.Proofs.Ytmkcooamgojbpaa.Veil.step (fun K hK => ?_); go_simp; refine hK _ ?_; clear hK K)
          refine Go.Proofs.Ytmkcooamgojbpaa.Veil.nil ?_
          change wpList _ _ _ _ _ W8.drew
          clear cD ck1 ck2 HS8
          go_upto_region 10 with fail
          clear hrun
          have cD : W9.cell? ⟨D, 0, none⟩ = some (.map (some b1)) := HS9.out.ls.box.cell 0 rfl
          have ck1 : W9.cell? ⟨w.heap.size + 1, 0, none⟩ = some (.int .i64 m.sym) := HS9.out.kb.cell 0 rfl
          have ck2 : W9.cell? ⟨w.heap.size + 1, 1, none⟩ = some (.int .i64 m.id) := HS9.out.kb.cell 1 rfl
          have cq : W9.cell? ⟨w.heap.size, 7, none⟩ = some (.int .i64 m.qty) := HS9.out.mb.cell 7 rfl
          have cw : W9.cell? ⟨w.heap.size, 5, none⟩ = some (.int .i64 m.wth) := HS9.out.mb.cell 5 rfl
          obtain ⟨W10, hrun, hm10, hc10, hs10⟩ := put1 (show MapIs W9.drew b1 ke va L.now from HS9.out.ls.m1.drew) m.sym m.id ⟨m.wth, ea, 0, m.qty⟩
          have HS10 := Lib.hid (HS9.out.drew.ls' (.inl rfl) (HS9.out.drew.ls.set1 hm10 hc10) hc10)
          unfold Acc.cells at hrun
          clear hm10 hc10 hs10
          refine Go.Proofs.Ytmkcooamgojbpaa.Veil.start 11 (by kernel_rfl) (by kernel_rfl) ?_
          simp only [List.take_succ_cons, List.take_zero, List.drop_succ_cons, List.drop_zero]
          (refine Go.Proofs.Ytmkcooamgojbpaa.Veil.step (fun K hK => ?_); go_simp; refine hK _ ?_; clear hK K)
          (refine Go.Proofs.Ytmkcooamgojbpaa.Veil.step (fun K hK => ?_); go_simp; refine hK _ ?_; clear hK K)
          (refine Go.Proofs.Ytmkcooamgojbpaa.Veil.step (fun K hK => ?_); go_simp; refine hK _ ?_; clear hK K)
          (refine Go.Proofs.Ytmkcooamgojbpaa.Veil.step (fun K hK => ?_); go_simp; refine hK _ ?_; clear hK K)
          (refine Go.Proofs.Ytmkcooamgojbpaa.Veil.step (fun K hK => ?_); go_simp; refine hK _ ?_; clear hK K)
          (refine Go.Proofs.Ytmkcooamgojbpaa.Veil.step (fun K hK => ?_); go_simp; refine hK _ ?_; clear hK K)
          (refine Go.Proofs.Ytmkcooamgojbpaa.Veil.step (fun K hK => ?_); go_simp; refine hK _ ?_; clear hK K)
          (refine Go.Proofs.Ytmkcooamgojbpaa.Veil.step (fun K hK => ?_); go_simp; refine hK _ ?_; clear hK K)
          (refine Go.Proofs.Ytmkcooamgojbpaa.Veil.step (fun K hK => ?_); go_simp; refine hK _ ?_; clear hK K)
          (refine Go.Proofs.Ytmkcooamgojbpaa.Veil.step (fun K hK => ?_); go_simp; refine hK _ ?_; clear hK K)
          (refine Go.Proofs.Ytmkcooamgojbpaa.Veil.step (fun K hK => ?_); go_simp; refine hK _ ?_; clear hK K)
          refine Go.Proofs.Ytmkcooamgojbpaa.Veil.nil ?_
          change wpList _ _ _ _ _ W9.drew
          clear cD ck1 ck2 cq cw HS9
          go_wp2_with fail
          go_ret
          exact ⟨by rw [HF.out]; rfl, by rw [HF.out]; exact HS10.out.ls, HS10.out.chg⟩
      · have g2 : (owesA a != 0) = true := by simpa using how
        rw [if_pos ⟨rfl, .inr how⟩] at HF
        clear how hre
        go_wp2_with fail
        refine (HOW.out W3).mono ?_
        rintro e W5 ⟨rfl, hb5⟩
        have HS5 := Lib.hid (HS4.out.below hb5)
        clear hb5 HS4 HA4 ca0 ca1 ca2 ca3
        go_wp2_with fail
        go_ret
        exact ⟨by rw [HF.out]; rfl, by rw [HF.out]; exact HS5.out.ls, HS5.out.chg⟩
    · have g1 : (a.rest != 0) = true := by simpa using hre
      rw [if_pos ⟨rfl, .inl hre⟩] at HF
      clear hre
      go_wp2_with fail
      go_ret
      exact ⟨by rw [HF.out]; rfl, by rw [HF.out]; exact HS4.out.ls, HS4.out.chg⟩
  | false =>
    rw [if_neg (by rintro ⟨h, -⟩; cases h)] at HF
    clear ca0 ca1 ca2 ca3
    have cq : W3.cell? ⟨w.heap.size, 7, none⟩ = some (.int .i64 m.qty) := HS4.out.mb.cell 7 rfl
    have cw : W3.cell? ⟨w.heap.size, 5, none⟩ = some (.int .i64 m.wth) := HS4.out.mb.cell 5 rfl
    obtain ⟨⟨q1, q2⟩, q3, q4⟩ := HQ.out
    obtain ⟨e1, e2⟩ := HE.out
    by_cases hgt : m.wth < ea + m.qty
    · rw [if_pos hgt] at HF
      go_wp2_with fail
      go_ret
      exact ⟨by rw [HF.out]; rfl, by rw [HF.out]; exact HS4.out.ls, HS4.out.chg⟩
    · rw [if_neg hgt] at HF
      go_upto_region 8 with fail
      have cD : W3.cell? ⟨D, 2, none⟩ = some (.map (some b3)) := HS4.out.ls.box.cell 2 rfl
      have ck1 : W3.cell? ⟨w.heap.size + 1, 0, none⟩ = some (.int .i64 m.sym) := HS4.out.kb.cell 0 rfl
      refine wp_region_held_drew (S := (fun w' => w'.cell? ⟨D, 2, none⟩ = some (.map (some b3)) ∧ w'.cell? ⟨w.heap.size + 1, 0, none⟩ = some (.int .i64 m.sym) ∧ w'.rangeAt A1 0 a.cells.toList)) (by kernel_rfl) (⟨cD, ck1, HA4.out.drew.range⟩) (fun hHeld => ?_)
      have HA6 := Lib.hid HA4.out.drew
      have HS6 := Lib.hid HS4.out.drew
      clear cD ck1 HS4 HA4 cq cw
      generalize W3.drew = W6 at HS6 HA6 hHeld ⊢
      refine wpAnyH_take (i := 0) (oi := ⟨some 49, _, _, _, _, _⟩) (v := (.pointer (some ⟨D, 0, none⟩))) rfl (by kernel_rfl) (by kernel_rfl) (by kernel_rfl) (fun _ _ _ h => h) (Or.inl ⟨by rfl, fun w hSw => by (try dsimp only at hSw); go_simp⟩) (by assumption) ?_
      simp only [Act.put, List.setIfInBounds_toArray, List.set_cons_zero, List.set_cons_succ]
      refine wpAnyH_take (i := 1) (oi := ⟨some 50, _, _, _, _, _⟩) (v := (.pointer (some ⟨D, 0, none⟩))) rfl (by kernel_rfl) (by kernel_rfl) (by kernel_rfl) (fun _ _ _ h => h) (Or.inl ⟨by rfl, fun w hSw => by (try dsimp only at hSw); go_simp⟩) (by assumption) ?_
      simp only [Act.put, List.setIfInBounds_toArray, List.set_cons_zero, List.set_cons_succ]
      refine wpAnyH_take (i := 2) (oi := ⟨some 51, _, _, _, _, _⟩) (v := (.pointer (some ⟨D, 2, none⟩))) rfl (by kernel_rfl) (by kernel_rfl) (by kernel_rfl) (fun _ _ _ h => h) (Or.inl ⟨by rfl, fun w hSw => by (try dsimp only at hSw); go_simp⟩) (by assumption) ?_
      simp only [Act.put, List.setIfInBounds_toArray, List.set_cons_zero, List.set_cons_succ]
      refine wpAnyH_take (i := 3) (oi := ⟨some 52, _, _, _, _, _⟩) (v := (.map (some b3))) rfl (by kernel_rfl) (by kernel_rfl) (by kernel_rfl) (fun _ _ _ h => h) (Or.inl ⟨by rfl, fun w hSw => by (try dsimp only at hSw); go_simp⟩) (by assumption) ?_
      simp only [Act.put, List.setIfInBounds_toArray, List.set_cons_zero, List.set_cons_succ]
      refine wpAnyH_take (i := 4) (oi := ⟨some 53, _, _, _, _, _⟩) (v := (.pointer (some ⟨w.heap.size + 1, 0, none⟩))) rfl (by kernel_rfl) (by kernel_rfl) (by kernel_rfl) (fun _ _ _ h => h) (Or.inl ⟨by rfl, fun w hSw => by (try dsimp only at hSw); go_simp⟩) (by assumption) ?_
      simp only [Act.put, List.setIfInBounds_toArray, List.set_cons_zero, List.set_cons_succ]
      refine wpAnyH_take (i := 5) (oi := ⟨some 54, _, _, _, _, _⟩) (v := (.int .i64 m.sym)) rfl (by kernel_rfl) (by kernel_rfl) (by kernel_rfl) (fun _ _ _ h => h) (Or.inl ⟨by rfl, fun w hSw => by (try dsimp only at hSw); go_simp⟩) (by assumption) ?_
      simp only [Act.put, List.setIfInBounds_toArray, List.set_cons_zero, List.set_cons_succ]
      refine wpAnyH_take (i := 6) (oi := ⟨some 55, _, _, _, _, _⟩) (v := (.pointer (some ⟨D, 0, none⟩))) rfl (by kernel_rfl) (by kernel_rfl) (by kernel_rfl) (fun _ _ _ h => h) (Or.inl ⟨by rfl, fun w hSw => by (try dsimp only at hSw); go_simp⟩) (by assumption) ?_
      simp only [Act.put, List.setIfInBounds_toArray, List.set_cons_zero, List.set_cons_succ]
      refine wpAnyH_take (i := 7) (oi := ⟨some 56, _, _, _, _, _⟩) (v := (.pointer (some ⟨D, 0, none⟩))) rfl (by kernel_rfl) (by kernel_rfl) (by kernel_rfl) (fun _ _ _ h => h) (Or.inl ⟨by rfl, fun w hSw => by (try dsimp only at hSw); go_simp⟩) (by assumption) ?_
      simp only [Act.put, List.setIfInBounds_toArray, List.set_cons_zero, List.set_cons_succ]
      refine wpAnyH_take (i := 8) (oi := ⟨some 57, _, _, _, _, _⟩) (v := (.pointer (some ⟨D, 2, none⟩))) rfl (by kernel_rfl) (by kernel_rfl) (by kernel_rfl) (fun _ _ _ h => h) (Or.inl ⟨by rfl, fun w hSw => by (try dsimp only at hSw); go_simp⟩) (by assumption) ?_
      simp only [Act.put, List.setIfInBounds_toArray, List.set_cons_zero, List.set_cons_succ]
      refine wpAnyH_take (i := 9) (oi := ⟨some 58, _, _, _, _, _⟩) (v := (.map (some b3))) rfl (by kernel_rfl) (by kernel_rfl) (by kernel_rfl) (fun _ _ _ h => h) (Or.inl ⟨by rfl, fun w hSw => by (try dsimp only at hSw); go_simp⟩) (by assumption) ?_
      simp only [Act.put, List.setIfInBounds_toArray, List.set_cons_zero, List.set_cons_succ]
      refine wpAnyH_take (i := 10) (oi := ⟨some 59, _, _, _, _, _⟩) (v := (.pointer (some ⟨w.heap.size + 1, 0, none⟩))) rfl (by kernel_rfl) (by kernel_rfl) (by kernel_rfl) (fun _ _ _ h => h) (Or.inl ⟨by rfl, fun w hSw => by (try dsimp only at hSw); go_simp⟩) (by assumption) ?_
      simp only [Act.put, List.setIfInBounds_toArray, List.set_cons_zero, List.set_cons_succ]
      refine wpAnyH_take (i := 11) (oi := ⟨some 60, _, _, _, _, _⟩) (v := (.int .i64 m.sym)) rfl (by kernel_rfl) (by kernel_rfl) (by kernel_rfl) (fun _ _ _ h => h) (Or.inl ⟨by rfl, fun w hSw => by (try dsimp only at hSw); go_simp⟩) (by assumption) ?_
      simp only [Act.put, List.setIfInBounds_toArray, List.set_cons_zero, List.set_cons_succ]
      refine wpAnyH_take (i := 13) (oi := ⟨some 62, .load 41 (.tmp 6), _, _, _, _⟩) (v := _) rfl (by kernel_rfl) (by kernel_rfl) (by kernel_rfl) (fun _ _ _ h => h) (yieldsIf_load_mid (by rfl) _ _ rfl _ _ rfl _ _ (fun w h => h.2.2) Try.underlying41 rfl (by kernel_rfl)) (by assumption) ?_
      simp only [Act.put, List.setIfInBounds_toArray, List.set_cons_zero, List.set_cons_succ]
      have hlk := look3 (show MapIs W6 b3 vi va L.aside from HS6.out.ls.m3) m.sym
      refine wpAnyH_ready (rs := [12]) (by kernel_rfl) (by simp) ?_
      refine AllReadyH.cons (o := ⟨some 61, _, _, _, _, _⟩) rfl (fun KK hK => ?_) AllReadyH.nil
      go_simp
      clear hlk
      generalize (mget m.sym L.aside).getD acc0 = sd at HSD HF ⊢
      have HPL := Lib.hid (plus_any sd a HSD.out ⟨⟨HBA.out.1.1, by have := HBA.out.1.2; omega⟩, ⟨HBA.out.2.1.1, by have := HBA.out.2.1.2; omega⟩, ⟨HBA.out.2.2.1.1, by have := HBA.out.2.2.1.2; omega⟩, HBA.out.2.2.2.1, by have := HBA.out.2.2.2.2; omega⟩ W6)
      refine hK.out _ _ ⟨HS6.out.ls.box.cell 2 rfl, HS6.out.kb.cell 0 rfl, HA6.out.range⟩ (fun hHeld => ?_)
      clear hK; try clear KK
      try simp only [Act.put, List.setIfInBounds_toArray, List.set_cons_zero, List.set_cons_succ]
      refine wpAnyH_ready (rs := [14]) (by kernel_rfl) (by simp) ?_
      refine AllReadyH.cons (o := ⟨some 63, _, _, _, _, _⟩) rfl (fun KK hK => ?_) AllReadyH.nil
      go_simp
      refine HPL.out.mono ?_
      clear HPL
      rintro e W7 ⟨rfl, hb7⟩
      have HS7 := Lib.hid (HS6.out.below hb7)
      have HA7 := Lib.hid (HA6.out.below hb7 HA6.out.lt)
      clear hb7 HS6 HA6 hHeld
      dsimp only
      refine hK.out _ _ ⟨HS7.out.ls.box.cell 2 rfl, HS7.out.kb.cell 0 rfl, HA7.out.range⟩ (fun hHeld => ?_)
      clear hK; try clear KK
      try simp only [Act.put, List.setIfInBounds_toArray, List.set_cons_zero, List.set_cons_succ]
      obtain ⟨W8, hrun, hm8, hc8, hs8⟩ := put3 HS7.out.ls.m3 m.sym (plusA sd a)
      have HS8 := Lib.hid (HS7.out.ls' (.inr (.inr rfl)) (HS7.out.ls.set3 hm8 hc8) hc8)
      have HA8 := Lib.hid (hc8.blk HA7.out.lt (by intro e; exact (HS7.out.ls.m3.not_blk HA7.out) e.symm) HA7.out)
      refine wpAnyH_ready (rs := [15]) (by kernel_rfl) (by simp) ?_
      refine AllReadyH.cons (o := ⟨none, _, _, _, _, _⟩) rfl (fun KK hK => ?_) AllReadyH.nil
      go_simp
      clear hm8 hc8 hs8 hrun HS7 HA7
      refine hK.out _ _ ⟨HS8.out.ls.box.cell 2 rfl, HS8.out.kb.cell 0 rfl, HA8.out.range⟩ (fun hHeld => ?_)
      clear hK; try clear KK
      refine wpAnyH_done (by kernel_rfl) ?_ _
      clear hHeld HA8
      go_upto_region 9 with fail
      have cD : W8.cell? ⟨D, 1, none⟩ = some (.map (some b2)) := HS8.out.ls.box.cell 1 rfl
      have ck1 : W8.cell? ⟨w.heap.size + 1, 0, none⟩ = some (.int .i64 m.sym) := HS8.out.kb.cell 0 rfl
      have ck2 : W8.cell? ⟨w.heap.size + 1, 1, none⟩ = some (.int .i64 m.id) := HS8.out.kb.cell 1 rfl
      obtain ⟨W9, hrun, hm9, hc9, hs9⟩ := del2 (show MapIs W8.drew b2 ke vi L.early from HS8.out.ls.m2.drew) m.sym m.id 0
      have HS9 := Lib.hid (HS8.out.drew.ls' (.inr (.inl rfl)) (HS8.out.drew.ls.set2 hm9 hc9) hc9)
      clear hm9 hc9 hs9
      refine Go.Proofs.Ytmkcooamgojbpaa.Veil.start 5 (by kernel_rfl) (by kernel_rfl) ?_
      simp only [List.take_succ_cons, List.take_zero, List.drop_succ_cons, List.drop_zero]
      (refine Go.Proofs.Ytmkcooamgojbpaa.Veil.step (fun K hK => ?_); go_simp; refine hK _ ?_; clear hK K)
      (refine Go.Proofs.Ytmkcooamgojbpaa.Veil.step (fun K hK => ?_); go_simp; refine hK _ ?_; clear hK K)
      (refine Go.Proofs.Ytmkcooamgojbpaa.Veil.step (fun K hK => ?_); go_simp; refine hK _ ?_; clear hK K)
      (refine Go.Proofs.Ytmkcooamgojbpaa.Veil.step (fun K hK => ?_); go_simp; refine hK _ ?_; clear hK K)
      (refine Go.Proofs.Ytmkcooamgojbpaa.Veil.step (fun K hK => ?_); go_simp; refine hK _ ?_; clear hK K)
      refine Go.Proofs.Ytmkcooamgojbpaa.Veil.nil ?_
      change wpList _ _ _ _ _ W8.drew
      clear cD ck1 ck2 HS8
      go_upto_region 10 with fail
      clear hrun
      have cD : W9.cell? ⟨D, 0, none⟩ = some (.map (some b1)) := HS9.out.ls.box.cell 0 rfl
      have ck1 : W9.cell? ⟨w.heap.size + 1, 0, none⟩ = some (.int .i64 m.sym) := HS9.out.kb.cell 0 rfl
      have ck2 : W9.cell? ⟨w.heap.size + 1, 1, none⟩ = some (.int .i64 m.id) := HS9.out.kb.cell 1 rfl
      have cq : W9.cell? ⟨w.heap.size, 7, none⟩ = some (.int .i64 m.qty) := HS9.out.mb.cell 7 rfl
      have cw : W9.cell? ⟨w.heap.size, 5, none⟩ = some (.int .i64 m.wth) := HS9.out.mb.cell 5 rfl
      obtain ⟨W10, hrun, hm10, hc10, hs10⟩ := put1 (show MapIs W9.drew b1 ke va L.now from HS9.out.ls.m1.drew) m.sym m.id ⟨m.wth, ea, 0, m.qty⟩
      have HS10 := Lib.hid (HS9.out.drew.ls' (.inl rfl) (HS9.out.drew.ls.set1 hm10 hc10) hc10)
      unfold Acc.cells at hrun
      clear hm10 hc10 hs10
      refine Go.Proofs.Ytmkcooamgojbpaa.Veil.start 11 (by kernel_rfl) (by kernel_rfl) ?_
      simp only [List.take_succ_cons, List.take_zero, List.drop_succ_cons, List.drop_zero]
      (refine Go.Proofs.Ytmkcooamgojbpaa.Veil.step (fun K hK => ?_); go_simp; refine hK _ ?_; clear hK K)
      (refine Go.Proofs.Ytmkcooamgojbpaa.Veil.step (fun K hK => ?_); go_simp; refine hK _ ?_; clear hK K)
      (refine Go.Proofs.Ytmkcooamgojbpaa.Veil.step (fun K hK => ?_); go_simp; refine hK _ ?_; clear hK K)
      (refine Go.Proofs.Ytmkcooamgojbpaa.Veil.step (fun K hK => ?_); go_simp; refine hK _ ?_; clear hK K)
      (refine Go.Proofs.Ytmkcooamgojbpaa.Veil.step (fun K hK => ?_); go_simp; refine hK _ ?_; clear hK K)
      (refine Go.Proofs.Ytmkcooamgojbpaa.Veil.step (fun K hK => ?_); go_simp; refine hK _ ?_; clear hK K)
      (refine Go.Proofs.Ytmkcooamgojbpaa.Veil.step (fun K hK => ?_); go_simp; refine hK _ ?_; clear hK K)
      (refine Go.Proofs.Ytmkcooamgojbpaa.Veil.step (fun K hK => ?_); go_simp; refine hK _ ?_; clear hK K)
      (refine Go.Proofs.Ytmkcooamgojbpaa.Veil.step (fun K hK => ?_); go_simp; refine hK _ ?_; clear hK K)
      (refine Go.Proofs.Ytmkcooamgojbpaa.Veil.step (fun K hK => ?_); go_simp; refine hK _ ?_; clear hK K)
      (refine Go.Proofs.Ytmkcooamgojbpaa.Veil.step (fun K hK => ?_); go_simp; refine hK _ ?_; clear hK K)
      refine Go.Proofs.Ytmkcooamgojbpaa.Veil.nil ?_
      change wpList _ _ _ _ _ W9.drew
      clear cD ck1 ck2 cq cw HS9
      go_wp2_with fail
      go_ret
      exact ⟨by rw [HF.out]; rfl, by rw [HF.out]; exact HS10.out.ls, HS10.out.chg⟩
end Go.Proofs.Ytmkcooamgojbpaa.Ledger
