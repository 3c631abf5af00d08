/- (*ledger.Ledger).done: what is left of an order is gone. -/
import Derived.Test.YtmkcooamgojbpaaLedSt
namespace Go.Proofs.Ytmkcooamgojbpaa.Ledger
open Go.RowKit Go.Proofs.Ytmkcooamgojbpaa.Kit Go.Proofs.Ytmkcooamgojbpaa.Blk Go.Proofs.Ytmkcooamgojbpaa.Mp Go.Proofs.Ytmkcooamgojbpaa.Qty Go.Proofs.Ytmkcooamgojbpaa.Msgs
attribute [local go_sem ↓] Go.wp_at_zero Go.wp_at_succ
set_option linter.unusedVariables false

def keyM (m : Msg) : Key := (m.sym, m.id)
def goneA (q : Int) (a : Acc) : Acc := ⟨a.asked, a.filled, a.gone + q, a.rest⟩
def restA (a : Acc) : Acc := ⟨a.asked, a.filled, a.gone, 0⟩
def doneF (L : Led) (m : Msg) : Int × Led := match mget (keyM m) L.now with
  | none => (5, L)
  | some a => if owesA a = m.qty then (0, ⟨mput (keyM m) (goneA m.qty a) L.now, L.early, L.aside⟩)
    else if a.rest = m.qty then (0, ⟨mput (keyM m) (goneA m.qty (restA a)) L.now, L.early, L.aside⟩) else (5, L)
set_option maxRecDepth 20000 in
set_option maxHeartbeats 4000000 in
theorem done_any (L : Led) (m : Msg) (D b1 b2 b3 : Nat) (w : World) (h : LS w D b1 b2 b3 L) (hq : 0 ≤ m.qty ∧ m.qty ≤ 4294967296) (hb : AccIn 1125899906842624 ((mget (keyM m) L.now).getD acc0)) :
    Calls Try.prog 16 #[.pointer (some ⟨D, 0, none⟩), .agg m.cells] w (PutIs (doneF L m).1 (doneF L m).2 D b1 b2 b3 w) := by
  have HS := Lib.hid (St.start h m (keyM m))
  have HLK := Lib.hid (fun W (hm : MapIs W b1 ke va L.now) => look1 hm m.sym m.id)
  have HQ := Lib.hid hq
  have HD := Lib.hid (show doneF L m = _ from rfl)
  clear h hq
  unfold Msg.cells
  go_enter Try.func16, Try.ntmps16
  go_upto_region 2 with fail
  change Code.wp _ _ _ _ ((w.alloc (.cells m.cells 33)).alloc (.cells (keyC (keyM m)) 60))
  generalize hW : (w.alloc (.cells m.cells 33)).alloc (.cells (keyC (keyM m)) 60) = W0 at HS ⊢
  clear hW
  refine wp_region_held_drew (S := (fun w' => w'.cell? ⟨D, 0, none⟩ = some (.map (some b1)) ∧ w'.cell? ⟨w.heap.size + 1, 0, none⟩ = some (.int .i64 m.sym) ∧ w'.cell? ⟨w.heap.size + 1, 1, none⟩ = some (.int .i64 m.id) ∧ (Instr.lookup 47 (.map (some b1)) (.agg #[.int .i64 m.sym, .int .i64 m.id]) true).run Try.prog w' = .ok (.tuple #[.agg ((mget (keyM m) L.now).getD acc0).cells, .bool (mget (keyM m) L.now).isSome]) w')) (by kernel_rfl) ⟨HS.out.ls.box.cell 0 rfl, HS.out.kb.cell 0 rfl, HS.out.kb.cell 1 rfl, HLK.out _ HS.out.ls.m1.drew⟩ (fun hHeld => ?_)
  replace HS := Lib.hid HS.out.drew
  have hsz : w.heap.size + 1 < W0.drew.heap.size := HS.out.kb.lt
  generalize W0.drew = W1 at HS hHeld hsz ⊢
  have HM := Lib.hid (show mget (keyM m) L.now = if (mget (keyM m) L.now).isSome = true then some ((mget (keyM m) L.now).getD acc0) else none by cases mget (keyM m) L.now <;> rfl)
  change Hid (∀ W, MapIs W b1 ke va L.now → (Instr.lookup 47 (.map (some b1)) (.agg #[.int .i64 m.sym, .int .i64 m.id]) true).run Try.prog W = .ok (.tuple #[.agg ((mget (keyM m) L.now).getD acc0).cells, .bool (mget (keyM m) L.now).isSome]) W) at HLK
  generalize (mget (keyM m) L.now).getD acc0 = a at hHeld HLK HM hb
  generalize (mget (keyM m) L.now).isSome = is at hHeld HLK HM
  refine wpAnyH_take (i := 0) (oi := ⟨some 14, _, _, _, _, _⟩) (v := (.pointer (some ⟨D, 0, none⟩))) rfl (by kernel_rfl) (by kernel_rfl) (by kernel_rfl) (fun _ _ _ h => h) (Or.inl ⟨by rfl, fun w hSw => by (try dsimp only at hSw); go_simp⟩) (by assumption) ?_
  simp only [Act.put, List.setIfInBounds_toArray, List.set_cons_zero, List.set_cons_succ]
  refine wpAnyH_take (i := 1) (oi := ⟨some 15, _, _, _, _, _⟩) (v := (.pointer (some ⟨D, 0, none⟩))) rfl (by kernel_rfl) (by kernel_rfl) (by kernel_rfl) (fun _ _ _ h => h) (Or.inl ⟨by rfl, fun w hSw => by (try dsimp only at hSw); go_simp⟩) (by assumption) ?_
  simp only [Act.put, List.setIfInBounds_toArray, List.set_cons_zero, List.set_cons_succ]
  refine wpAnyH_take (i := 2) (oi := ⟨some 16, _, _, _, _, _⟩) (v := (.pointer (some ⟨D, 0, none⟩))) rfl (by kernel_rfl) (by kernel_rfl) (by kernel_rfl) (fun _ _ _ h => h) (Or.inl ⟨by rfl, fun w hSw => by (try dsimp only at hSw); go_simp⟩) (by assumption) ?_
  simp only [Act.put, List.setIfInBounds_toArray, List.set_cons_zero, List.set_cons_succ]
  refine wpAnyH_take (i := 3) (oi := ⟨some 17, _, _, _, _, _⟩) (v := (.map (some b1))) rfl (by kernel_rfl) (by kernel_rfl) (by kernel_rfl) (fun _ _ _ h => h) (Or.inl ⟨by rfl, fun w hSw => by (try dsimp only at hSw); go_simp⟩) (by assumption) ?_
  simp only [Act.put, List.setIfInBounds_toArray, List.set_cons_zero, List.set_cons_succ]
  refine wpAnyH_take (i := 4) (oi := ⟨some 18, _, _, _, _, _⟩) (v := (.agg #[.int .i64 m.sym, .int .i64 m.id])) rfl (by kernel_rfl) (by kernel_rfl) (by kernel_rfl) (fun _ _ _ h => h) (Or.inl ⟨by rfl, fun w hSw => by (try dsimp only at hSw); go_simp⟩) (by assumption) ?_
  simp only [Act.put, List.setIfInBounds_toArray, List.set_cons_zero, List.set_cons_succ]
  refine wpAnyH_take (i := 5) (oi := ⟨some 19, _, _, _, _, _⟩) (v := (.tuple #[.agg a.cells, .bool is])) rfl (by kernel_rfl) (by kernel_rfl) (by kernel_rfl) (fun _ _ _ h => h) (Or.inl ⟨by rfl, fun w hSw => by (try dsimp only at hSw); go_simp⟩) (by assumption) ?_
  simp only [Act.put, List.setIfInBounds_toArray, List.set_cons_zero, List.set_cons_succ]
  refine wpAnyH_take (i := 6) (oi := ⟨some 13, _, _, _, _, _⟩) (v := (.tuple #[.agg a.cells, .bool is])) rfl (by kernel_rfl) (by kernel_rfl) (by kernel_rfl) (fun _ _ _ h => h) (Or.inl ⟨by rfl, fun w hSw => by (try dsimp only at hSw); go_simp⟩) (by assumption) ?_
  simp only [Act.put, List.setIfInBounds_toArray, List.set_cons_zero, List.set_cons_succ]
  refine wpAnyH_take (i := 7) (oi := ⟨some 20, _, _, _, _, _⟩) (v := (.agg a.cells)) rfl (by kernel_rfl) (by kernel_rfl) (by kernel_rfl) (fun _ _ _ h => h) (Or.inl ⟨by rfl, fun w hSw => by (try dsimp only at hSw); go_simp⟩) (by assumption) ?_
  simp only [Act.put, List.setIfInBounds_toArray, List.set_cons_zero, List.set_cons_succ]
  refine wpAnyH_take (i := 8) (oi := ⟨some 21, _, _, _, _, _⟩) (v := (.bool is)) rfl (by kernel_rfl) (by kernel_rfl) (by kernel_rfl) (fun _ _ _ h => h) (Or.inl ⟨by rfl, fun w hSw => by (try dsimp only at hSw); go_simp⟩) (by assumption) ?_
  simp only [Act.put, List.setIfInBounds_toArray, List.set_cons_zero, List.set_cons_succ]
  refine wpAnyH_ready (rs := [9]) (by kernel_rfl) (by simp) ?_
  refine AllReadyH.cons (o := ⟨some 6, _, _, _, _, _⟩) rfl (fun KK hK => ?_) AllReadyH.nil
  go_simp
  change KK _ (W1.alloc (.cells acc0.cells 41))
  have HS3 := Lib.hid (HS.out.alloc (.cells acc0.cells 41))
  have HA3 := Lib.hid (Blk.new W1 acc0.cells 41 W1.heap.size rfl)
  clear HS
  refine hK.out _ _ ⟨HS3.out.ls.box.cell 0 rfl, HS3.out.kb.cell 0 rfl, HS3.out.kb.cell 1 rfl, HLK.out _ HS3.out.ls.m1⟩ (fun hHeld => ?_)
  clear hK; try clear KK
  try simp only [Act.put, List.setIfInBounds_toArray, List.set_cons_zero, List.set_cons_succ]
  refine wpAnyH_ready (rs := [10]) (by kernel_rfl) (by simp) ?_
  refine AllReadyH.cons (o := ⟨none, _, _, _, _, _⟩) rfl (fun KK hK => ?_) AllReadyH.nil
  refine step_store_blk (by rfl) 41 _ _ (by rfl) W1.heap.size (by rfl) acc0.cells a.cells 41 HA3.out (by rfl) rfl (by kernel_rfl) (acc_one a) ?_
  have HS4 := Lib.hid (HS3.out.cells HA3.out hsz a.cells.toList 0)
  have HA4 := Lib.hid (HA3.out.setCells a.cells rfl)
  clear HS3 HA3
  refine hK.out _ _ ⟨HS4.out.ls.box.cell 0 rfl, HS4.out.kb.cell 0 rfl, HS4.out.kb.cell 1 rfl, HLK.out _ HS4.out.ls.m1⟩ (fun hHeld => ?_)
  clear hK; try clear KK
  refine wpAnyH_take (i := 11) (oi := ⟨some 7, _, _, _, _, _⟩) (v := (.bool is)) rfl (by kernel_rfl) (by kernel_rfl) (by kernel_rfl) (fun _ _ _ h => h) (Or.inl ⟨by rfl, fun w hSw => by (try dsimp only at hSw); go_simp⟩) (by assumption) ?_
  simp only [Act.put, List.setIfInBounds_toArray, List.set_cons_zero, List.set_cons_succ]
  refine wpAnyH_done (by kernel_rfl) ?_ _
  generalize hW2 : (W1.alloc (.cells acc0.cells 41)).setCells W1.heap.size 0 a.cells.toList = W2 at HS4 HA4 ⊢
  generalize hA1 : W1.heap.size = A1 at HA4 hsz ⊢
  clear hHeld hW2 hA1
  cases is with
  | false =>
    have HF := Lib.hid (show doneF L m = (5, L) by unfold doneF; rw [HM.out]; rfl)
    go_wp2_with fail
    go_ret
    exact ⟨by rw [HF.out]; rfl, by rw [HF.out]; exact HS4.out.ls, HS4.out.chg⟩
  | true =>
    have HF := Lib.hid (show doneF L m = if owesA a = m.qty then (0, ⟨mput (keyM m) (goneA m.qty a) L.now, L.early, L.aside⟩) else if a.rest = m.qty then (0, ⟨mput (keyM m) (goneA m.qty (restA a)) L.now, L.early, L.aside⟩) else (5, L) by unfold doneF; rw [HM.out]; rfl)
    have HOW := Lib.hid (fun W => owes_any a hb W)
    obtain ⟨⟨x1, x2⟩, ⟨x3, x4⟩, ⟨x5, x6⟩, x7, x8⟩ := hb
    obtain ⟨q1, q2⟩ := HQ.out
    go_upto_region 6 with fail
    refine wp_region_held_drew (S := (fun w' => w'.rangeAt A1 0 a.cells.toList ∧ w'.cell? ⟨w.heap.size, 7, none⟩ = some (.int .i64 m.qty))) (by kernel_rfl) (⟨HA4.out.drew.range, HS4.out.mb.cell 7 rfl⟩) (fun hHeld => ?_)
    replace HS4 := Lib.hid HS4.out.drew
    replace HA4 := Lib.hid HA4.out.drew
    generalize W2.drew = W3 at HS4 HA4 hHeld ⊢
    refine wpAnyH_take (i := 0) (oi := ⟨some 26, .load 41 (.tmp 6), _, _, _, _⟩) (v := _) rfl (by kernel_rfl) (by kernel_rfl) (by kernel_rfl) (fun _ _ _ h => h) (yieldsIf_load_mid (by rfl) _ _ rfl _ _ rfl _ _ (fun w h => h.1) Try.underlying41 rfl (by kernel_rfl)) (by assumption) ?_
    simp only [Act.put, List.setIfInBounds_toArray, List.set_cons_zero, List.set_cons_succ]
    refine wpAnyH_take (i := 2) (oi := ⟨some 28, _, _, _, _, _⟩) (v := (.pointer (some ⟨w.heap.size, 7, none⟩))) rfl (by kernel_rfl) (by kernel_rfl) (by kernel_rfl) (fun _ _ _ h => h) (Or.inl ⟨by rfl, fun w hSw => by (try dsimp only at hSw); go_simp⟩) (by assumption) ?_
    simp only [Act.put, List.setIfInBounds_toArray, List.set_cons_zero, List.set_cons_succ]
    refine wpAnyH_take (i := 3) (oi := ⟨some 29, _, _, _, _, _⟩) (v := (.int .i64 m.qty)) rfl (by kernel_rfl) (by kernel_rfl) (by kernel_rfl) (fun _ _ _ h => h) (Or.inl ⟨by rfl, fun w hSw => by (try dsimp only at hSw); go_simp⟩) (by assumption) ?_
    simp only [Act.put, List.setIfInBounds_toArray, List.set_cons_zero, List.set_cons_succ]
    refine wpAnyH_ready (rs := [1]) (by kernel_rfl) (by simp) ?_
    refine AllReadyH.cons (o := ⟨some 27, _, _, _, _, _⟩) rfl (fun KK hK => ?_) AllReadyH.nil
    go_simp
    refine (HOW.out W3).mono ?_
    rintro e W5 ⟨rfl, hb5⟩
    have HS5 := Lib.hid (HS4.out.below hb5)
    have HA5 := Lib.hid (HA4.out.below hb5 HA4.out.lt)
    clear hb5 HS4 HA4 hHeld
    dsimp only
    refine hK.out _ _ (⟨HA5.out.range, HS5.out.mb.cell 7 rfl⟩) (fun hHeld => ?_)
    clear hK; try clear KK
    try simp only [Act.put, List.setIfInBounds_toArray, List.set_cons_zero, List.set_cons_succ]
    by_cases how : owesA a = m.qty
    · have g1 : (owesA a == m.qty) = true := by simpa using how
      rw [if_pos how] at HF
      clear how
      refine wpAnyH_ready (rs := [4]) (by kernel_rfl) (by simp) ?_
      refine AllReadyH.cons (o := ⟨some 30, _, _, _, _, _⟩) rfl (fun KK hK => ?_) AllReadyH.nil
      go_simp
      refine hK.out _ _ (⟨HA5.out.range, HS5.out.mb.cell 7 rfl⟩) (fun hHeld => ?_)
      clear hK; try clear KK
      try simp only [Act.put, List.setIfInBounds_toArray, List.set_cons_zero, List.set_cons_succ]
      refine wpAnyH_take (i := 5) (oi := ⟨some 25, _, _, _, _, _⟩) (v := (.bool true)) rfl (by kernel_rfl) (by kernel_rfl) (by kernel_rfl) (fun _ _ _ h => h) (Or.inl ⟨by rfl, fun w hSw => by (try dsimp only at hSw); go_simp⟩) (by assumption) ?_
      simp only [Act.put, List.setIfInBounds_toArray, List.set_cons_zero, List.set_cons_succ]
      refine wpAnyH_done (by kernel_rfl) ?_ _
      clear hHeld
      have e2 : W5.cell? ⟨A1, 2, none⟩ = some (.int .i64 a.gone) := HA5.out.cell 2 rfl
      have eq : W5.cell? ⟨w.heap.size, 7, none⟩ = some (.int .i64 m.qty) := HS5.out.mb.cell 7 rfl
      have fe2 := HA5.out.free 2
      go_upto_region 10 with fail
      have HS8 := Lib.hid (show St w D b1 b2 b3 L m (keyM m) (W5.setCell ⟨A1, 2, none⟩ (.int .i64 (a.gone + m.qty))) from HS5.out.cells HA5.out hsz [.int .i64 (a.gone + m.qty)] 2)
      have HA8 := Lib.hid (show Blk (W5.setCell ⟨A1, 2, none⟩ (.int .i64 (a.gone + m.qty))) A1 (goneA m.qty a).cells 41 from HA5.out.set 2 _)
      change Code.wp _ _ _ _ (W5.setCell ⟨A1, 2, none⟩ (.int .i64 (a.gone + m.qty)))
      clear HS5 HA5 e2 eq fe2
      generalize W5.setCell ⟨A1, 2, none⟩ (.int .i64 (a.gone + m.qty)) = W8 at HS8 HA8 ⊢
      have cD : W8.cell? ⟨D, 0, none⟩ = some (.map (some b1)) := HS8.out.ls.box.cell 0 rfl
      have ck1 : W8.cell? ⟨w.heap.size + 1, 0, none⟩ = some (.int .i64 m.sym) := HS8.out.kb.cell 0 rfl
      have ck2 : W8.cell? ⟨w.heap.size + 1, 1, none⟩ = some (.int .i64 m.id) := HS8.out.kb.cell 1 rfl
      have ca0 : W8.cell? ⟨A1, 0, none⟩ = some (.int .i64 a.asked) := HA8.out.cell 0 rfl
      have ca1 : W8.cell? ⟨A1, 1, none⟩ = some (.int .i64 a.filled) := HA8.out.cell 1 rfl
      have ca2 : W8.cell? ⟨A1, 2, none⟩ = some (.int .i64 (a.gone + m.qty)) := HA8.out.cell 2 rfl
      have ca3 : W8.cell? ⟨A1, 3, none⟩ = some (.int .i64 (a.rest)) := HA8.out.cell 3 rfl
      obtain ⟨W9, hrun, hm9, hc9, hs9⟩ := put1 (show MapIs W8.drew b1 ke va L.now from HS8.out.ls.m1.drew) m.sym m.id (goneA m.qty a)
      have HS9 := Lib.hid (HS8.out.drew.ls' (.inl rfl) (HS8.out.drew.ls.set1 hm9 hc9) hc9)
      unfold goneA Acc.cells at hrun
      clear hm9 hc9 hs9
      refine Go.Proofs.Ytmkcooamgojbpaa.Veil.start 6 (by kernel_rfl) (by kernel_rfl) ?_
      simp only [List.take_succ_cons, List.take_zero, List.drop_succ_cons, List.drop_zero]
      (refine Go.Proofs.Ytmkcooamgojbpaa.Veil.step (fun K hK => ?_); go_simp; refine hK _ ?_; clear hK K)
      (refine Go.Proofs.Ytmkcooamgojbpaa.Veil.step (fun K hK => ?_); go_simp; refine hK _ ?_; clear hK K)
      (refine Go.Proofs.Ytmkcooamgojbpaa.Veil.step (fun K hK => ?_); go_simp; refine hK _ ?_; clear hK K)
      (refine Go.Proofs.Ytmkcooamgojbpaa.Veil.step (fun K hK => ?_); go_simp; refine hK _ ?_; clear hK K)
      (refine Go.Proofs.Ytmkcooamgojbpaa.Veil.step (fun K hK => ?_); go_simp; refine hK _ ?_; clear hK K)
      (refine Go.Proofs.Ytmkcooamgojbpaa.Veil.step (fun K hK => ?_); go_simp; refine hK _ ?_; clear hK K)
      refine Go.Proofs.Ytmkcooamgojbpaa.Veil.nil ?_
      change wpList _ _ _ _ _ W8.drew
      clear cD ck1 ck2 ca0 ca1 ca2 ca3
      go_wp2_with fail
      go_ret
      exact ⟨by rw [HF.out]; rfl, by rw [HF.out]; exact HS9.out.ls, HS9.out.chg⟩
    · have g1 : (owesA a == m.qty) = false := by simpa using how
      rw [if_neg how] at HF
      clear how
      refine wpAnyH_ready (rs := [4]) (by kernel_rfl) (by simp) ?_
      refine AllReadyH.cons (o := ⟨some 30, _, _, _, _, _⟩) rfl (fun KK hK => ?_) AllReadyH.nil
      go_simp
      refine hK.out _ _ (⟨HA5.out.range, HS5.out.mb.cell 7 rfl⟩) (fun hHeld => ?_)
      clear hK; try clear KK
      try simp only [Act.put, List.setIfInBounds_toArray, List.set_cons_zero, List.set_cons_succ]
      refine wpAnyH_take (i := 5) (oi := ⟨some 25, _, _, _, _, _⟩) (v := (.bool false)) rfl (by kernel_rfl) (by kernel_rfl) (by kernel_rfl) (fun _ _ _ h => h) (Or.inl ⟨by rfl, fun w hSw => by (try dsimp only at hSw); go_simp⟩) (by assumption) ?_
      simp only [Act.put, List.setIfInBounds_toArray, List.set_cons_zero, List.set_cons_succ]
      refine wpAnyH_done (by kernel_rfl) ?_ _
      clear hHeld
      have c3 : W5.cell? ⟨A1, 3, none⟩ = some (.int .i64 a.rest) := HA5.out.cell 3 rfl
      have f3 := HA5.out.free 3
      have cq : W5.cell? ⟨w.heap.size, 7, none⟩ = some (.int .i64 m.qty) := HS5.out.mb.cell 7 rfl
      by_cases hre : a.rest = m.qty
      · have g2 : (a.rest == m.qty) = true := by simpa using hre
        rw [if_pos hre] at HF
        clear hre
        have HS6 := Lib.hid (show St w D b1 b2 b3 L m (keyM m) (W5.setCell ⟨A1, 3, none⟩ (.int .i64 0)) from HS5.out.cells HA5.out hsz [.int .i64 0] 3)
        have HA6 := Lib.hid (show Blk (W5.setCell ⟨A1, 3, none⟩ (.int .i64 0)) A1 (restA a).cells 41 from HA5.out.set 3 _)
        go_upto_region 9 with fail
        change Code.wp _ _ _ _ (W5.setCell ⟨A1, 3, none⟩ (.int .i64 0))
        clear HS5 HA5 c3 f3 cq
        generalize W5.setCell ⟨A1, 3, none⟩ (.int .i64 0) = W6 at HS6 HA6 ⊢
        have e2 : W6.cell? ⟨A1, 2, none⟩ = some (.int .i64 a.gone) := HA6.out.cell 2 rfl
        have eq : W6.cell? ⟨w.heap.size, 7, none⟩ = some (.int .i64 m.qty) := HS6.out.mb.cell 7 rfl
        have fe2 := HA6.out.free 2
        go_upto_region 10 with fail
        have HS8 := Lib.hid (show St w D b1 b2 b3 L m (keyM m) (W6.setCell ⟨A1, 2, none⟩ (.int .i64 (a.gone + m.qty))) from HS6.out.cells HA6.out hsz [.int .i64 (a.gone + m.qty)] 2)
        have HA8 := Lib.hid (show Blk (W6.setCell ⟨A1, 2, none⟩ (.int .i64 (a.gone + m.qty))) A1 (goneA m.qty (restA a)).cells 41 from HA6.out.set 2 _)
        change Code.wp _ _ _ _ (W6.setCell ⟨A1, 2, none⟩ (.int .i64 (a.gone + m.qty)))
        clear HS6 HA6 e2 eq fe2
        generalize W6.setCell ⟨A1, 2, none⟩ (.int .i64 (a.gone + m.qty)) = W8 at HS8 HA8 ⊢
        have cD : W8.cell? ⟨D, 0, none⟩ = some (.map (some b1)) := HS8.out.ls.box.cell 0 rfl
        have ck1 : W8.cell? ⟨w.heap.size + 1, 0, none⟩ = some (.int .i64 m.sym) := HS8.out.kb.cell 0 rfl
        have ck2 : W8.cell? ⟨w.heap.size + 1, 1, none⟩ = some (.int .i64 m.id) := HS8.out.kb.cell 1 rfl
        have ca0 : W8.cell? ⟨A1, 0, none⟩ = some (.int .i64 a.asked) := HA8.out.cell 0 rfl
        have ca1 : W8.cell? ⟨A1, 1, none⟩ = some (.int .i64 a.filled) := HA8.out.cell 1 rfl
        have ca2 : W8.cell? ⟨A1, 2, none⟩ = some (.int .i64 (a.gone + m.qty)) := HA8.out.cell 2 rfl
        have ca3 : W8.cell? ⟨A1, 3, none⟩ = some (.int .i64 (0)) := HA8.out.cell 3 rfl
        obtain ⟨W9, hrun, hm9, hc9, hs9⟩ := put1 (show MapIs W8.drew b1 ke va L.now from HS8.out.ls.m1.drew) m.sym m.id (goneA m.qty (restA a))
        have HS9 := Lib.hid (HS8.out.drew.ls' (.inl rfl) (HS8.out.drew.ls.set1 hm9 hc9) hc9)
        unfold goneA restA Acc.cells at hrun
        clear hm9 hc9 hs9
        refine Go.Proofs.Ytmkcooamgojbpaa.Veil.start 6 (by kernel_rfl) (by kernel_rfl) ?_
        simp only [List.take_succ_cons, List.take_zero, List.drop_succ_cons, List.drop_zero]
        (refine Go.Proofs.Ytmkcooamgojbpaa.Veil.step (fun K hK => ?_); go_simp; refine hK _ ?_; clear hK K)
        (refine Go.Proofs.Ytmkcooamgojbpaa.Veil.step (fun K hK => ?_); go_simp; refine hK _ ?_; clear hK K)
        (refine Go.Proofs.Ytmkcooamgojbpaa.Veil.step (fun K hK => ?_); go_simp; refine hK _ ?_; clear hK K)
        (refine Go.Proofs.Ytmkcooamgojbpaa.Veil.step (fun K hK => ?_); go_simp; refine hK _ ?_; clear hK K)
        (refine Go.Proofs.Ytmkcooamgojbpaa.Veil.step (fun K hK => ?_); go_simp; refine hK _ ?_; clear hK K)
        (refine Go.Proofs.Ytmkcooamgojbpaa.Veil.step (fun K hK => ?_); go_simp; refine hK _ ?_; clear hK K)
        refine Go.Proofs.Ytmkcooamgojbpaa.Veil.nil ?_
        change wpList _ _ _ _ _ W8.drew
        clear cD ck1 ck2 ca0 ca1 ca2 ca3
        go_wp2_with fail
        go_ret
        exact ⟨by rw [HF.out]; rfl, by rw [HF.out]; exact HS9.out.ls, HS9.out.chg⟩
      · have g2 : (a.rest == m.qty) = false := by simpa using hre
        rw [if_neg hre] at HF
        clear hre
        go_wp2_with fail
        go_ret
        exact ⟨by rw [HF.out]; rfl, by rw [HF.out]; exact HS5.out.ls, HS5.out.chg⟩
end Go.Proofs.Ytmkcooamgojbpaa.Ledger
