/- (*ledger.Ledger).trade: two orders. -/
import Derived.Test.YtmkcooamgojbpaaLedAck
namespace Go.Proofs.Ytmkcooamgojbpaa.Ledger
open Go.RowKit Go.Proofs.Ytmkcooamgojbpaa.Kit Go.Proofs.Ytmkcooamgojbpaa.Blk Go.Proofs.Ytmkcooamgojbpaa.Mp Go.Proofs.Ytmkcooamgojbpaa.Qty Go.Proofs.Ytmkcooamgojbpaa.Msgs
attribute [local go_sem ↓] Go.wp_at_zero Go.wp_at_succ
set_option linter.unusedVariables false

theorem get_put {κ ν : Type} [DecidableEq κ] (k k' : κ) (v : ν) : ∀ l : List (κ × ν), mget k (mput k' v l) = if k = k' then some v else mget k l
  | [] => by by_cases h : k = k' <;> simp [mput, mget, h]
  | (a, u) :: l => by
    rw [mput]
    by_cases h1 : k' = a
    · rw [if_pos h1]
      by_cases h2 : k = k'
      · rw [if_pos h2, mget, if_pos (h2.trans h1)]
      · rw [if_neg h2, mget, if_neg (fun e => h2 (e.trans h1.symm)), mget, if_neg (fun e => h2 (e.trans h1.symm))]
    · rw [if_neg h1, mget, mget, get_put k k' v l]
      by_cases h2 : k = a
      · have : k ≠ k' := fun e => h1 (e.symm.trans h2)
        rw [if_pos h2, if_neg this, if_pos h2]
      · rw [if_neg h2, if_neg h2]
/-- While a trade is put: the ledger, the boxed message, the two keys; what has changed. -/
structure StT (w : World) (D b1 b2 b3 : Nat) (L : Led) (m : Msg) (A B : Nat) (W : World) : Prop where
  ls : LS W D b1 b2 b3 L
  mb : Blk W w.heap.size m.cells 33
  ka : Blk W A (keyC (keyM m)) 60
  kb : Blk W B (keyC (keyW m)) 60
  chg : Chg3 w.heap.size b1 b2 b3 w W
  old : (D < w.heap.size ∧ b1 < w.heap.size ∧ b2 < w.heap.size ∧ b3 < w.heap.size) ∧ w.heap.size < A ∧ w.heap.size < B
section
variable {w W W' : World} {D b1 b2 b3 A B : Nat} {L : Led} {m : Msg}
theorem StT.drew (h : StT w D b1 b2 b3 L m A B W) : StT w D b1 b2 b3 L m A B W.drew := ⟨h.ls.drew, h.mb, h.ka, h.kb, h.chg.drew, h.old⟩
theorem StT.below (h : StT w D b1 b2 b3 L m A B W) (hb : Below W.heap.size W W') : StT w D b1 b2 b3 L m A B W' := ⟨h.ls.below hb, h.mb.below hb h.mb.lt, h.ka.below hb h.ka.lt, h.kb.below hb h.kb.lt, h.chg.step (hb.mono h.chg.size), h.old⟩
theorem StT.alloc (h : StT w D b1 b2 b3 L m A B W) (o : Obj) : StT w D b1 b2 b3 L m A B (W.alloc o) := h.below ((Below.refl _ _).alloc (Nat.le_refl _) o)
theorem StT.ls' (h : StT w D b1 b2 b3 L m A B W) {L' : Led} {d : Nat} (hd : d = b1 ∨ d = b2 ∨ d = b3) (hl : LS W' D b1 b2 b3 L') (hc : Chg W.heap.size d W W') : StT w D b1 b2 b3 L' m A B W' :=
  have h1 := h.old
  ⟨hl, hc.blk h.mb.lt (by omega) h.mb, hc.blk h.ka.lt (by omega) h.ka, hc.blk h.kb.lt (by omega) h.kb, h.chg.trans ((Chg3.of hc hd).mono h.chg.size), h.old⟩
end
theorem row_one (W : World) (k : Key) : KeyRow (W.alloc (.cells (keyC k) 60)) W.heap.size [k] :=
  ⟨by simp, fun i hi => by
    have : i = 0 := by simpa using hi
    subst this
    exact (Blk.new W (keyC k) 60 W.heap.size rfl).range⟩
theorem row_two (W : World) (k k' : Key) : KeyRow (W.alloc (.cells #[.int .i64 k.1, .int .i64 k.2, .int .i64 k'.1, .int .i64 k'.2] 60)) W.heap.size [k, k'] :=
  ⟨by simp, fun i hi => by
    have hb := Blk.new W #[.int .i64 k.1, .int .i64 k.2, .int .i64 k'.1, .int .i64 k'.2] 60 W.heap.size rfl
    have h2 : i = 0 ∨ i = 1 := by simp at hi; omega
    rcases h2 with rfl | rfl
    · intro j v hv
      match j, hv with
      | 0, hv => injection hv with hv; subst hv; exact hb.cell 0 rfl
      | 1, hv => injection hv with hv; subst hv; exact hb.cell 1 rfl
      | j + 2, hv => simp [keyC] at hv
    · intro j v hv
      match j, hv with
      | 0, hv => injection hv with hv; subst hv; exact hb.cell 2 rfl
      | 1, hv => injection hv with hv; subst hv; exact hb.cell 3 rfl
      | j + 2, hv => simp [keyC] at hv⟩
set_option maxRecDepth 20000 in
set_option maxHeartbeats 1000000 in
theorem trade_any (L : Led) (m : Msg) (D b1 b2 b3 : Nat) (w : World) (h : LS w D b1 b2 b3 L) (hq : 0 ≤ m.qty ∧ m.qty ≤ 4294967296) (he : 0 ≤ earlyF L (keyW m) ∧ earlyF L (keyW m) ≤ 1125899906842624)
    (hx : AccIn 1125899906842624 ((mget (keyM m) L.now).getD acc0)) (hy : AccIn 1125899906842624 ((mget (keyW m) L.now).getD acc0)) :
    Calls Try.prog 15 #[.pointer (some ⟨D, 0, none⟩), .agg m.cells] w (PutIs (tradeF L m).1 (tradeF L m).2 D b1 b2 b3 w) := by
  have HM := Lib.hid (Blk.new w m.cells 33 w.heap.size rfl)
  have HL := Lib.hid (h.alloc (.cells m.cells 33))
  have HO := Lib.hid (And.intro h.box.lt (And.intro h.m1.lt (And.intro h.m2.lt h.m3.lt)))
  have HC := Lib.hid ((Chg3.refl w.heap.size b1 b2 b3 w).alloc (Nat.le_refl _) (.cells m.cells 33))
  have HQ := Lib.hid hq
  have HE := Lib.hid he
  have HX := Lib.hid hx
  have HY := Lib.hid hy
  clear h hq he hx hy
  have HMC := Lib.hid (show m.cells = m.cells from rfl)
  unfold Msg.cells
  go_enter Try.func15, Try.ntmps15
  go_upto_region 1 with fail
  change Code.wp _ _ _ _ (w.alloc (.cells m.cells 33))
  generalize hW : w.alloc (.cells m.cells 33) = W0 at HM HL HC ⊢
  have HSZ := Lib.hid (show W0.heap.size = w.heap.size + 1 by rw [← hW]; simp)
  clear hW
  refine wp_region_held_drew (S := (fun w' => w'.cell? ⟨w.heap.size, 1, none⟩ = some (.int .i64 m.sym) ∧ w'.cell? ⟨w.heap.size, 4, none⟩ = some (.int .i64 m.id) ∧ w'.cell? ⟨w.heap.size, 5, none⟩ = some (.int .i64 m.wth))) (by kernel_rfl) ⟨HM.out.cell 1 rfl, HM.out.cell 4 rfl, HM.out.cell 5 rfl⟩ (fun hHeld => ?_)
  replace HM := Lib.hid HM.out.drew
  replace HL := Lib.hid HL.out.drew
  replace HC := Lib.hid HC.out.drew
  have HSD := Lib.hid (show W0.drew.heap.size = w.heap.size + 1 from HSZ.out)
  generalize W0.drew = W1 at HM HL HC HSD hHeld ⊢
  refine wpAnyH_take (i := 0) (oi := ⟨some 8, _, _, _, _, _⟩) (v := ?_) rfl (by kernel_rfl) (by kernel_rfl) (by kernel_rfl) (fun _ _ _ h => h) (Or.inl ⟨by rfl, ?_⟩) (by assumption) ?_
  rotate_left
  · (intro w hSw; (try dsimp only at hSw); go_simp; (try with_reducible rfl))
  simp only [Act.put, List.setIfInBounds_toArray, List.set_cons_zero, List.set_cons_succ]
  refine wpAnyH_take (i := 1) (oi := ⟨some 9, _, _, _, _, _⟩) (v := ?_) rfl (by kernel_rfl) (by kernel_rfl) (by kernel_rfl) (fun _ _ _ h => h) (Or.inl ⟨by rfl, ?_⟩) (by assumption) ?_
  rotate_left
  · (intro w hSw; (try dsimp only at hSw); go_simp; (try with_reducible rfl))
  simp only [Act.put, List.setIfInBounds_toArray, List.set_cons_zero, List.set_cons_succ]
  refine wpAnyH_take (i := 2) (oi := ⟨some 10, _, _, _, _, _⟩) (v := ?_) rfl (by kernel_rfl) (by kernel_rfl) (by kernel_rfl) (fun _ _ _ h => h) (Or.inl ⟨by rfl, ?_⟩) (by assumption) ?_
  rotate_left
  · (intro w hSw; (try dsimp only at hSw); go_simp; (try with_reducible rfl))
  simp only [Act.put, List.setIfInBounds_toArray, List.set_cons_zero, List.set_cons_succ]
  refine wpAnyH_take (i := 3) (oi := ⟨some 11, _, _, _, _, _⟩) (v := ?_) rfl (by kernel_rfl) (by kernel_rfl) (by kernel_rfl) (fun _ _ _ h => h) (Or.inl ⟨by rfl, ?_⟩) (by assumption) ?_
  rotate_left
  · (intro w hSw; (try dsimp only at hSw); go_simp; (try with_reducible rfl))
  simp only [Act.put, List.setIfInBounds_toArray, List.set_cons_zero, List.set_cons_succ]
  refine wpAnyH_take (i := 4) (oi := ⟨some 12, _, _, _, _, _⟩) (v := (.agg #[.int .i64 m.sym, .int .i64 m.id])) rfl (by kernel_rfl) (by kernel_rfl) (by kernel_rfl) (fun _ _ _ h => h) (Or.inl ⟨by rfl, fun w hSw => by (try dsimp only at hSw); go_simp⟩) (by assumption) ?_
  simp only [Act.put, List.setIfInBounds_toArray, List.set_cons_zero, List.set_cons_succ]
  refine wpAnyH_take (i := 5) (oi := ⟨some 13, _, _, _, _, _⟩) (v := ?_) rfl (by kernel_rfl) (by kernel_rfl) (by kernel_rfl) (fun _ _ _ h => h) (Or.inl ⟨by rfl, ?_⟩) (by assumption) ?_
  rotate_left
  · (intro w hSw; (try dsimp only at hSw); go_simp; (try with_reducible rfl))
  simp only [Act.put, List.setIfInBounds_toArray, List.set_cons_zero, List.set_cons_succ]
  refine wpAnyH_take (i := 6) (oi := ⟨some 14, _, _, _, _, _⟩) (v := ?_) rfl (by kernel_rfl) (by kernel_rfl) (by kernel_rfl) (fun _ _ _ h => h) (Or.inl ⟨by rfl, ?_⟩) (by assumption) ?_
  rotate_left
  · (intro w hSw; (try dsimp only at hSw); go_simp; (try with_reducible rfl))
  simp only [Act.put, List.setIfInBounds_toArray, List.set_cons_zero, List.set_cons_succ]
  refine wpAnyH_take (i := 7) (oi := ⟨some 15, _, _, _, _, _⟩) (v := ?_) rfl (by kernel_rfl) (by kernel_rfl) (by kernel_rfl) (fun _ _ _ h => h) (Or.inl ⟨by rfl, ?_⟩) (by assumption) ?_
  rotate_left
  · (intro w hSw; (try dsimp only at hSw); go_simp; (try with_reducible rfl))
  simp only [Act.put, List.setIfInBounds_toArray, List.set_cons_zero, List.set_cons_succ]
  refine wpAnyH_take (i := 8) (oi := ⟨some 16, _, _, _, _, _⟩) (v := ?_) rfl (by kernel_rfl) (by kernel_rfl) (by kernel_rfl) (fun _ _ _ h => h) (Or.inl ⟨by rfl, ?_⟩) (by assumption) ?_
  rotate_left
  · (intro w hSw; (try dsimp only at hSw); go_simp; (try with_reducible rfl))
  simp only [Act.put, List.setIfInBounds_toArray, List.set_cons_zero, List.set_cons_succ]
  refine wpAnyH_take (i := 9) (oi := ⟨some 17, _, _, _, _, _⟩) (v := (.agg #[.int .i64 m.sym, .int .i64 m.wth])) rfl (by kernel_rfl) (by kernel_rfl) (by kernel_rfl) (fun _ _ _ h => h) (Or.inl ⟨by rfl, fun w hSw => by (try dsimp only at hSw); go_simp⟩) (by assumption) ?_
  simp only [Act.put, List.setIfInBounds_toArray, List.set_cons_zero, List.set_cons_succ]
  refine wpAnyH_ready (rs := [10, 11]) (by kernel_rfl) (by simp) ?_
  refine AllReadyH.cons (o := ⟨some 5, _, _, _, _, _⟩) rfl (fun KK hK => ?_) (AllReadyH.cons (o := ⟨some 6, _, _, _, _, _⟩) rfl (fun KK hK => ?_) AllReadyH.nil)
  · go_simp
    change KK _ (W1.alloc (.cells (keyC (0, 0)) 60))
    refine hK.out _ _ ⟨(HM.out.old _).cell 1 rfl, (HM.out.old _).cell 4 rfl, (HM.out.old _).cell 5 rfl⟩ (fun hHeld => ?_)
    clear hK; try clear KK
    try simp only [Act.put, List.setIfInBounds_toArray, List.set_cons_zero, List.set_cons_succ]
    refine wpAnyH_ready (rs := [11]) (by kernel_rfl) (by simp) ?_
    refine AllReadyH.cons (o := ⟨some 6, _, _, _, _, _⟩) rfl (fun KK hK => ?_) AllReadyH.nil
    go_simp
    change KK _ ((W1.alloc (.cells (keyC (0, 0)) 60)).alloc (.cells (keyC (0, 0)) 60))
    have HM2 := Lib.hid ((HM.out.old (.cells (keyC (0, 0)) 60)).old (.cells (keyC (0, 0)) 60))
    have HL2 := Lib.hid ((HL.out.alloc (.cells (keyC (0, 0)) 60)).alloc (.cells (keyC (0, 0)) 60))
    have HC2 := Lib.hid ((HC.out.alloc HC.out.size (.cells (keyC (0, 0)) 60)).alloc (Nat.le_trans HC.out.size (by simp)) (.cells (keyC (0, 0)) 60))
    have HZ1 := Lib.hid ((Blk.new W1 (keyC (0, 0)) 60 W1.heap.size rfl).old (.cells (keyC (0, 0)) 60))
    have HZ2 := Lib.hid (Blk.new (W1.alloc (.cells (keyC (0, 0)) 60)) (keyC (0, 0)) 60 (W1.heap.size + 1) (by simp))
    have HPS := Lib.hid (show w.heap.size < W1.heap.size by rw [HSD.out]; omega)
    clear HSD hHeld
    generalize (W1.alloc (.cells (keyC (0, 0)) 60)).alloc (.cells (keyC (0, 0)) 60) = W2 at HM2 HL2 HC2 HZ1 HZ2 ⊢
    generalize W1.heap.size = P at HZ1 HZ2 HPS ⊢
    refine hK.out _ _ ⟨HM2.out.cell 1 rfl, HM2.out.cell 4 rfl, HM2.out.cell 5 rfl⟩ (fun hHeld => ?_)
    clear hK; try clear KK
    try simp only [Act.put, List.setIfInBounds_toArray, List.set_cons_zero, List.set_cons_succ]
    refine wpAnyH_ready (rs := [12]) (by kernel_rfl) (by simp) ?_
    refine AllReadyH.cons (o := ⟨none, _, _, _, _, _⟩) rfl (fun KK hK => ?_) AllReadyH.nil
    refine step_store_blk (by rfl) 60 _ _ (by rfl) (P) (by rfl) (keyC (0, 0)) (keyC (keyM m)) 60 HZ1.out (by rfl) rfl (by kernel_rfl) (by simp [keyC, Value.oneCell']) ?_
    have hps := HPS.out
    have ho := HO.out
    have HM3 := Lib.hid (HM2.out.apartAll (keyC (keyM m)).toList 0 W2 (show P ≠ w.heap.size by omega))
    have HL3 := Lib.hid (HL2.out.cells HZ1.out (by omega) (keyC (keyM m)).toList 0)
    have HC3 := Lib.hid (HC2.out.setCells (show w.heap.size ≤ P by omega) (keyC (keyM m)).toList 0)
    have HA3 := Lib.hid (HZ1.out.setCells (keyC (keyM m)) rfl)
    have HB3 := Lib.hid (HZ2.out.apartAll (keyC (keyM m)).toList 0 W2 (show P ≠ P + 1 by omega))
    clear HM2 HL2 HC2 HZ1 HZ2
    generalize W2.setCells (P) 0 (keyC (keyM m)).toList = W3 at HM3 HL3 HC3 HA3 HB3 ⊢
    refine hK.out _ _ ⟨HM3.out.cell 1 rfl, HM3.out.cell 4 rfl, HM3.out.cell 5 rfl⟩ (fun hHeld => ?_)
    clear hK; try clear KK
    refine wpAnyH_ready (rs := [13]) (by kernel_rfl) (by simp) ?_
    refine AllReadyH.cons (o := ⟨none, _, _, _, _, _⟩) rfl (fun KK hK => ?_) AllReadyH.nil
    refine step_store_blk (by rfl) 60 _ _ (by rfl) (P + 1) (by rfl) (keyC (0, 0)) (keyC (keyW m)) 60 HB3.out (by rfl) rfl (by kernel_rfl) (by simp [keyC, Value.oneCell']) ?_
    have HS := Lib.hid (show StT w D b1 b2 b3 L m (P) (P + 1) (W3.setCells (P + 1) 0 (keyC (keyW m)).toList) from
      ⟨HL3.out.cells HB3.out (by omega) _ 0, HM3.out.apartAll _ 0 W3 (show P + 1 ≠ w.heap.size by omega), HA3.out.apartAll _ 0 W3 (show P + 1 ≠ P by omega), HB3.out.setCells (keyC (keyW m)) rfl, HC3.out.setCells (show w.heap.size ≤ P + 1 by omega) _ 0, ho, by omega, by omega⟩)
    clear HM3 HL3 HC3 HA3 HB3 hps ho HPS
    generalize W3.setCells (P + 1) 0 (keyC (keyW m)).toList = W4 at HS ⊢
    refine hK.out _ _ ⟨HS.out.mb.cell 1 rfl, HS.out.mb.cell 4 rfl, HS.out.mb.cell 5 rfl⟩ (fun hHeld => ?_)
    clear hK; try clear KK
    refine wpAnyH_done (by kernel_rfl) ?_ _
    clear hHeld
    generalize P + 1 = P2 at HS ⊢
    clear HM HL HC HSZ
    have cc : W4.cell? ⟨w.heap.size, 8, none⟩ = some (.int .i64 m.code) := HS.out.mb.cell 8 rfl
    have cq : W4.cell? ⟨w.heap.size, 7, none⟩ = some (.int .i64 m.qty) := HS.out.mb.cell 7 rfl
    have ca0 : W4.cell? ⟨P, 0, none⟩ = some (.int .i64 m.sym) := HS.out.ka.cell 0 rfl
    have ca1 : W4.cell? ⟨P, 1, none⟩ = some (.int .i64 m.id) := HS.out.ka.cell 1 rfl
    have cb0 : W4.cell? ⟨P2, 0, none⟩ = some (.int .i64 m.sym) := HS.out.kb.cell 0 rfl
    have cb1 : W4.cell? ⟨P2, 1, none⟩ = some (.int .i64 m.wth) := HS.out.kb.cell 1 rfl
    have hmf : ∀ (fn : Fn) (first cap : Array Value) (w : World), (Instr.makeFunc fn first cap).run Try.prog w = .ok (.func fn first cap) w := fun _ _ _ _ => rfl
    by_cases hc : m.code = 1
    · have g1 : (m.code != 1) = false := by simpa using hc
      have HFL := Lib.hid (fill_any L m.qty [keyM m] (by simp) D b1 b2 b3 W4.heap.size 1 (W4.alloc (.cells (keyC (keyM m)) 60)) (HS.out.ls.alloc _) (row_one W4 (keyM m)) HQ.out (fun k hk => by
        have : k = 0 := by simpa using hk
        subst this
        exact HX.out))
      unfold keyC at HFL
      have HF := Lib.hid (show tradeF L m = if fillOK L.now m.qty [keyM m] = true then (0, ⟨fillF L.now m.qty [keyM m], mput (keyW m) (earlyF L (keyW m) + m.qty) L.early, L.aside⟩) else (5, L) by unfold tradeF; rw [if_pos hc])
      have HS5 := Lib.hid (HS.out.alloc (.cells (keyC (keyM m)) 60))
      clear hc
      go_wp2_with fail
      refine HFL.out.mono ?_
      clear HFL
      rintro e W6 ⟨rfl, hl6, hc6⟩
      have HS6 := Lib.hid (HS5.out.ls' (.inl rfl) hl6 hc6)
      clear hl6 hc6 HS5 HS ca0 ca1 cb0 cb1 cq cc
      cases hok : fillOK L.now m.qty [keyM m] with
      | false =>
        rw [hok, if_neg (by decide)] at HF HS6
        clear hok
        go_wp2_with fail
        go_ret
        exact ⟨by rw [HF.out]; rfl, by rw [HF.out]; exact HS6.out.ls, HS6.out.chg⟩
      | true =>
        rw [hok, if_pos rfl] at HF HS6
        clear hok
        generalize fillF L.now m.qty [keyM m] = nw at HF HS6
        go_upto_region 3 with fail
        refine wp_region_held_drew (S := (fun w' => w'.cell? ⟨D, 1, none⟩ = some (.map (some b2)) ∧ w'.cell? ⟨w.heap.size, 7, none⟩ = some (.int .i64 m.qty) ∧ w'.cell? ⟨P2, 0, none⟩ = some (.int .i64 m.sym) ∧ w'.cell? ⟨P2, 1, none⟩ = some (.int .i64 m.wth))) (by kernel_rfl) (⟨HS6.out.ls.box.cell 1 rfl, HS6.out.mb.cell 7 rfl, HS6.out.kb.cell 0 rfl, HS6.out.kb.cell 1 rfl⟩) (fun hHeld => ?_)
        replace HS6 := Lib.hid HS6.out.drew
        generalize W6.drew = W7 at HS6 hHeld ⊢
        obtain ⟨e1, e2⟩ := HE.out
        obtain ⟨q1, q2⟩ := HQ.out
        have hlk := look2 (show MapIs W7 b2 ke vi L.early from HS6.out.ls.m2) m.sym m.wth
        change (Instr.lookup 48 (.map (some b2)) (.agg #[.int .i64 m.sym, .int .i64 m.wth]) false).run Try.prog W7 = .ok (.int .i64 (earlyF L (keyW m))) W7 at hlk
        obtain ⟨stamp, W8, W9, hr1, hr2, hm9, hc8, hc9, hs8, hs9, l8, hm8, hg8⟩ := add2 (show MapIs W7 b2 ke vi L.early from HS6.out.ls.m2) m.sym m.wth (earlyF L (keyW m) + m.qty)
        change (Instr.mapEntry 48 (.map (some b2)) (.agg #[.int .i64 m.sym, .int .i64 m.wth])).run Try.prog W7 = .ok (.tuple #[.int .i64 (earlyF L (keyW m)), .int .i64 stamp]) W8 at hr1
        have HS9 := Lib.hid (HS6.out.ls' (.inr (.inl rfl)) (HS6.out.ls.set2 hm9 hc9) hc9)
        change Hid (StT w D b1 b2 b3 ⟨nw, mput (keyW m) (earlyF L (keyW m) + m.qty) L.early, L.aside⟩ m (P) (P2) W9) at HS9
        have hlk8 := look2 hm8 m.sym m.wth
        rw [hg8] at hlk8
        change (Instr.lookup 48 (.map (some b2)) (.agg #[.int .i64 m.sym, .int .i64 m.wth]) false).run Try.prog W8 = .ok (.int .i64 (earlyF L (keyW m))) W8 at hlk8
        clear hm8 hg8
        generalize earlyF L (keyW m) = ea at HE HF hlk hr1 hr2 HS9 e1 e2 hm9 hlk8
        have HLK8 := Lib.hid hlk8
        clear hlk8
        have hold := HS6.out.old
        have HC8 := Lib.hid (show W8.cell? ⟨D, 1, none⟩ = some (.map (some b2)) ∧ W8.cell? ⟨w.heap.size, 7, none⟩ = some (.int .i64 m.qty) ∧ W8.cell? ⟨P2, 0, none⟩ = some (.int .i64 m.sym) ∧ W8.cell? ⟨P2, 1, none⟩ = some (.int .i64 m.wth) from
          ⟨(hc8.blk HS6.out.ls.box.lt HS6.out.ls.d2.symm HS6.out.ls.box).cell 1 rfl, (hc8.blk HS6.out.mb.lt (by omega) HS6.out.mb).cell 7 rfl, (hc8.blk HS6.out.kb.lt (by omega) HS6.out.kb).cell 0 rfl, (hc8.blk HS6.out.kb.lt (by omega) HS6.out.kb).cell 1 rfl⟩)
        have q3 : IntKind.i64.wrap (ea + m.qty) = ea + m.qty := IntWalk.i64_in _ (by omega)
        have HR1 := Lib.hid hr1
        have HR2 := Lib.hid hr2
        clear hm9 hc8 hc9 hs8 hs9 hold hr1 hr2
        refine wpAnyH_take (i := 0) (oi := ⟨some 20, _, _, _, _, _⟩) (v := (.pointer (some ⟨D, 0, none⟩))) rfl (by kernel_rfl) (by kernel_rfl) (by kernel_rfl) (fun _ _ _ h => h) (Or.inl ⟨by rfl, fun w hSw => by (try dsimp only at hSw); go_simp⟩) (by assumption) ?_
        simp only [Act.put, List.setIfInBounds_toArray, List.set_cons_zero, List.set_cons_succ]
        refine wpAnyH_take (i := 1) (oi := ⟨some 21, _, _, _, _, _⟩) (v := (.pointer (some ⟨D, 0, none⟩))) rfl (by kernel_rfl) (by kernel_rfl) (by kernel_rfl) (fun _ _ _ h => h) (Or.inl ⟨by rfl, fun w hSw => by (try dsimp only at hSw); go_simp⟩) (by assumption) ?_
        simp only [Act.put, List.setIfInBounds_toArray, List.set_cons_zero, List.set_cons_succ]
        refine wpAnyH_take (i := 2) (oi := ⟨some 22, _, _, _, _, _⟩) (v := (.pointer (some ⟨D, 1, none⟩))) rfl (by kernel_rfl) (by kernel_rfl) (by kernel_rfl) (fun _ _ _ h => h) (Or.inl ⟨by rfl, fun w hSw => by (try dsimp only at hSw); go_simp⟩) (by assumption) ?_
        simp only [Act.put, List.setIfInBounds_toArray, List.set_cons_zero, List.set_cons_succ]
        refine wpAnyH_take (i := 3) (oi := ⟨some 23, _, _, _, _, _⟩) (v := (.map (some b2))) rfl (by kernel_rfl) (by kernel_rfl) (by kernel_rfl) (fun _ _ _ h => h) (Or.inl ⟨by rfl, fun w hSw => by (try dsimp only at hSw); go_simp⟩) (by assumption) ?_
        simp only [Act.put, List.setIfInBounds_toArray, List.set_cons_zero, List.set_cons_succ]
        refine wpAnyH_take (i := 4) (oi := ⟨some 24, _, _, _, _, _⟩) (v := (.agg #[.int .i64 m.sym, .int .i64 m.wth])) rfl (by kernel_rfl) (by kernel_rfl) (by kernel_rfl) (fun _ _ _ h => h) (Or.inl ⟨by rfl, fun w hSw => by (try dsimp only at hSw); go_simp⟩) (by assumption) ?_
        simp only [Act.put, List.setIfInBounds_toArray, List.set_cons_zero, List.set_cons_succ]
        refine wpAnyH_take (i := 6) (oi := ⟨some 26, _, _, _, _, _⟩) (v := (.pointer (some ⟨w.heap.size, 7, none⟩))) rfl (by kernel_rfl) (by kernel_rfl) (by kernel_rfl) (fun _ _ _ h => h) (Or.inl ⟨by rfl, fun w hSw => by (try dsimp only at hSw); go_simp⟩) (by assumption) ?_
        simp only [Act.put, List.setIfInBounds_toArray, List.set_cons_zero, List.set_cons_succ]
        refine wpAnyH_take (i := 7) (oi := ⟨some 27, _, _, _, _, _⟩) (v := (.int .i64 m.qty)) rfl (by kernel_rfl) (by kernel_rfl) (by kernel_rfl) (fun _ _ _ h => h) (Or.inl ⟨by rfl, fun w hSw => by (try dsimp only at hSw); go_simp⟩) (by assumption) ?_
        simp only [Act.put, List.setIfInBounds_toArray, List.set_cons_zero, List.set_cons_succ]
        refine wpAnyH_ready (rs := [5, 9]) (by kernel_rfl) (by simp) ?_
        refine AllReadyH.cons (o := ⟨some 25, _, _, _, _, _⟩) rfl (fun KK hK => ?_) (AllReadyH.cons (o := ⟨some 29, _, _, _, _, _⟩) rfl (fun KK hK => ?_) AllReadyH.nil)
        · go_simp
          clear hlk
          refine hK.out _ _ ⟨HS6.out.ls.box.cell 1 rfl, HS6.out.mb.cell 7 rfl, HS6.out.kb.cell 0 rfl, HS6.out.kb.cell 1 rfl⟩ (fun hHeld => ?_)
          clear hK; try clear KK
          try simp only [Act.put, List.setIfInBounds_toArray, List.set_cons_zero, List.set_cons_succ]
          refine wpAnyH_take (i := 8) (oi := ⟨some 28, _, _, _, _, _⟩) (v := (.int .i64 (ea + m.qty))) rfl (by kernel_rfl) (by kernel_rfl) (by kernel_rfl) (fun _ _ _ h => h) (Or.inl ⟨by rfl, fun w hSw => by (try dsimp only at hSw); go_simp⟩) (by assumption) ?_
          simp only [Act.put, List.setIfInBounds_toArray, List.set_cons_zero, List.set_cons_succ]
          have hr1 := HR1.out
          refine wpAnyH_ready (rs := [9]) (by kernel_rfl) (by simp) ?_
          refine AllReadyH.cons (o := ⟨some 29, _, _, _, _, _⟩) rfl (fun KK hK => ?_) AllReadyH.nil
          go_simp
          clear hr1 HR1 HS6
          refine hK.out _ _ HC8.out (fun hHeld => ?_)
          clear hK; try clear KK
          try simp only [Act.put, List.setIfInBounds_toArray, List.set_cons_zero, List.set_cons_succ]
          refine wpAnyH_take (i := 10) (oi := ⟨some 30, _, _, _, _, _⟩) (v := (.int .i64 stamp)) rfl (by kernel_rfl) (by kernel_rfl) (by kernel_rfl) (fun _ _ _ h => h) (Or.inl ⟨by rfl, fun w hSw => by (try dsimp only at hSw); go_simp⟩) (by assumption) ?_
          simp only [Act.put, List.setIfInBounds_toArray, List.set_cons_zero, List.set_cons_succ]
          have hr2 := HR2.out
          refine wpAnyH_ready (rs := [11]) (by kernel_rfl) (by simp) ?_
          refine AllReadyH.cons (o := ⟨none, _, _, _, _, _⟩) rfl (fun KK hK => ?_) AllReadyH.nil
          go_simp
          clear hr2 HR2 HC8
          refine hK.out _ _ ⟨HS9.out.ls.box.cell 1 rfl, HS9.out.mb.cell 7 rfl, HS9.out.kb.cell 0 rfl, HS9.out.kb.cell 1 rfl⟩ (fun hHeld => ?_)
          clear hK; try clear KK
          refine wpAnyH_done (by kernel_rfl) ?_ _
          clear hHeld
          go_wp2_with fail
          go_ret
          exact ⟨by rw [HF.out]; rfl, by rw [HF.out]; exact HS9.out.ls, HS9.out.chg⟩
        · clear hlk
          have hr1 := HR1.out
          go_simp
          clear hr1 HR1 HS6
          refine hK.out _ _ HC8.out (fun hHeld => ?_)
          clear hK; try clear KK
          try simp only [Act.put, List.setIfInBounds_toArray, List.set_cons_zero, List.set_cons_succ]
          refine wpAnyH_take (i := 10) (oi := ⟨some 30, _, _, _, _, _⟩) (v := (.int .i64 stamp)) rfl (by kernel_rfl) (by kernel_rfl) (by kernel_rfl) (fun _ _ _ h => h) (Or.inl ⟨by rfl, fun w hSw => by (try dsimp only at hSw); go_simp⟩) (by assumption) ?_
          simp only [Act.put, List.setIfInBounds_toArray, List.set_cons_zero, List.set_cons_succ]
          have hlk8 := HLK8.out
          refine wpAnyH_ready (rs := [5]) (by kernel_rfl) (by simp) ?_
          refine AllReadyH.cons (o := ⟨some 25, _, _, _, _, _⟩) rfl (fun KK hK => ?_) AllReadyH.nil
          go_simp
          clear hlk8
          refine hK.out _ _ HC8.out (fun hHeld => ?_)
          clear hK; try clear KK
          try simp only [Act.put, List.setIfInBounds_toArray, List.set_cons_zero, List.set_cons_succ]
          refine wpAnyH_take (i := 8) (oi := ⟨some 28, _, _, _, _, _⟩) (v := (.int .i64 (ea + m.qty))) rfl (by kernel_rfl) (by kernel_rfl) (by kernel_rfl) (fun _ _ _ h => h) (Or.inl ⟨by rfl, fun w hSw => by (try dsimp only at hSw); go_simp⟩) (by assumption) ?_
          simp only [Act.put, List.setIfInBounds_toArray, List.set_cons_zero, List.set_cons_succ]
          have hr2 := HR2.out
          refine wpAnyH_ready (rs := [11]) (by kernel_rfl) (by simp) ?_
          refine AllReadyH.cons (o := ⟨none, _, _, _, _, _⟩) rfl (fun KK hK => ?_) AllReadyH.nil
          go_simp
          clear hr2 HR2 HC8
          refine hK.out _ _ ⟨HS9.out.ls.box.cell 1 rfl, HS9.out.mb.cell 7 rfl, HS9.out.kb.cell 0 rfl, HS9.out.kb.cell 1 rfl⟩ (fun hHeld => ?_)
          clear hK; try clear KK
          refine wpAnyH_done (by kernel_rfl) ?_ _
          clear hHeld
          go_wp2_with fail
          go_ret
          exact ⟨by rw [HF.out]; rfl, by rw [HF.out]; exact HS9.out.ls, HS9.out.chg⟩
    · have g1 : (m.code != 1) = true := by simpa using hc
      by_cases hid : m.id = m.wth
      · have g2 : (m.id == m.wth) = true := by simpa using hid
        have HF := Lib.hid (show tradeF L m = (5, L) by unfold tradeF; rw [if_neg hc, if_pos (by unfold keyM keyW; rw [hid])])
        clear hc hid
        go_wp2_with fail
        go_ret
        exact ⟨by rw [HF.out]; rfl, by rw [HF.out]; exact HS.out.ls, HS.out.chg⟩
      · have g2 : (m.id == m.wth) = false := by simpa using hid
        have hne : keyM m ≠ keyW m := fun e => hid (congrArg Prod.snd e)
        have HF := Lib.hid (show tradeF L m = if fillOK L.now m.qty [keyM m, keyW m] = true then (0, ⟨fillF L.now m.qty [keyM m, keyW m], L.early, L.aside⟩) else (5, L) by unfold tradeF; rw [if_neg hc, if_neg hne])
        have HFL := Lib.hid (fill_any L m.qty [keyM m, keyW m] (by simp) D b1 b2 b3 W4.heap.size 2 (W4.alloc (.cells #[.int .i64 (keyM m).1, .int .i64 (keyM m).2, .int .i64 (keyW m).1, .int .i64 (keyW m).2] 60)) (HS.out.ls.alloc _) (row_two W4 (keyM m) (keyW m)) HQ.out (fun k hk => by
          have h2 : k = 0 ∨ k = 1 := by simp at hk; omega
          rcases h2 with rfl | rfl
          · exact HX.out
          · show AccIn _ ((mget (keyW m) (fillK L.now m.qty (keyM m))).getD acc0)
            rw [fillK, get_put, if_neg hne.symm]
            exact HY.out))
        have HS5 := Lib.hid (HS.out.alloc (.cells #[.int .i64 (keyM m).1, .int .i64 (keyM m).2, .int .i64 (keyW m).1, .int .i64 (keyW m).2] 60))
        clear hc hid hne
        go_wp2_with fail
        refine HFL.out.mono ?_
        clear HFL
        rintro e W6 ⟨rfl, hl6, hc6⟩
        have HS6 := Lib.hid (HS5.out.ls' (.inl rfl) hl6 hc6)
        clear hl6 hc6 HS5 HS ca0 ca1 cb0 cb1 cq cc
        cases hok : fillOK L.now m.qty [keyM m, keyW m] with
        | false =>
          rw [hok, if_neg (by decide)] at HF HS6
          clear hok
          go_wp2_with fail
          go_ret
          exact ⟨by rw [HF.out]; rfl, by rw [HF.out]; exact HS6.out.ls, HS6.out.chg⟩
        | true =>
          rw [hok, if_pos rfl] at HF HS6
          clear hok
          go_wp2_with fail
          go_ret
          exact ⟨by rw [HF.out]; rfl, by rw [HF.out]; exact HS6.out.ls, HS6.out.chg⟩
  · go_simp
    change KK _ (W1.alloc (.cells (keyC (0, 0)) 60))
    refine hK.out _ _ ⟨(HM.out.old _).cell 1 rfl, (HM.out.old _).cell 4 rfl, (HM.out.old _).cell 5 rfl⟩ (fun hHeld => ?_)
    clear hK; try clear KK
    try simp only [Act.put, List.setIfInBounds_toArray, List.set_cons_zero, List.set_cons_succ]
    refine wpAnyH_ready (rs := [10]) (by kernel_rfl) (by simp) ?_
    refine AllReadyH.cons (o := ⟨some 5, _, _, _, _, _⟩) rfl (fun KK hK => ?_) AllReadyH.nil
    go_simp
    change KK _ ((W1.alloc (.cells (keyC (0, 0)) 60)).alloc (.cells (keyC (0, 0)) 60))
    have HM2 := Lib.hid ((HM.out.old (.cells (keyC (0, 0)) 60)).old (.cells (keyC (0, 0)) 60))
    have HL2 := Lib.hid ((HL.out.alloc (.cells (keyC (0, 0)) 60)).alloc (.cells (keyC (0, 0)) 60))
    have HC2 := Lib.hid ((HC.out.alloc HC.out.size (.cells (keyC (0, 0)) 60)).alloc (Nat.le_trans HC.out.size (by simp)) (.cells (keyC (0, 0)) 60))
    have HZ1 := Lib.hid ((Blk.new W1 (keyC (0, 0)) 60 W1.heap.size rfl).old (.cells (keyC (0, 0)) 60))
    have HZ2 := Lib.hid (Blk.new (W1.alloc (.cells (keyC (0, 0)) 60)) (keyC (0, 0)) 60 (W1.heap.size + 1) (by simp))
    have HPS := Lib.hid (show w.heap.size < W1.heap.size by rw [HSD.out]; omega)
    clear HSD hHeld
    generalize (W1.alloc (.cells (keyC (0, 0)) 60)).alloc (.cells (keyC (0, 0)) 60) = W2 at HM2 HL2 HC2 HZ1 HZ2 ⊢
    generalize W1.heap.size = P at HZ1 HZ2 HPS ⊢
    refine hK.out _ _ ⟨HM2.out.cell 1 rfl, HM2.out.cell 4 rfl, HM2.out.cell 5 rfl⟩ (fun hHeld => ?_)
    clear hK; try clear KK
    try simp only [Act.put, List.setIfInBounds_toArray, List.set_cons_zero, List.set_cons_succ]
    refine wpAnyH_ready (rs := [12]) (by kernel_rfl) (by simp) ?_
    refine AllReadyH.cons (o := ⟨none, _, _, _, _, _⟩) rfl (fun KK hK => ?_) AllReadyH.nil
    refine step_store_blk (by rfl) 60 _ _ (by rfl) (P + 1) (by rfl) (keyC (0, 0)) (keyC (keyM m)) 60 HZ2.out (by rfl) rfl (by kernel_rfl) (by simp [keyC, Value.oneCell']) ?_
    have hps := HPS.out
    have ho := HO.out
    have HM3 := Lib.hid (HM2.out.apartAll (keyC (keyM m)).toList 0 W2 (show P + 1 ≠ w.heap.size by omega))
    have HL3 := Lib.hid (HL2.out.cells HZ2.out (by omega) (keyC (keyM m)).toList 0)
    have HC3 := Lib.hid (HC2.out.setCells (show w.heap.size ≤ P + 1 by omega) (keyC (keyM m)).toList 0)
    have HA3 := Lib.hid (HZ2.out.setCells (keyC (keyM m)) rfl)
    have HB3 := Lib.hid (HZ1.out.apartAll (keyC (keyM m)).toList 0 W2 (show P + 1 ≠ P by omega))
    clear HM2 HL2 HC2 HZ1 HZ2
    generalize W2.setCells (P + 1) 0 (keyC (keyM m)).toList = W3 at HM3 HL3 HC3 HA3 HB3 ⊢
    refine hK.out _ _ ⟨HM3.out.cell 1 rfl, HM3.out.cell 4 rfl, HM3.out.cell 5 rfl⟩ (fun hHeld => ?_)
    clear hK; try clear KK
    refine wpAnyH_ready (rs := [13]) (by kernel_rfl) (by simp) ?_
    refine AllReadyH.cons (o := ⟨none, _, _, _, _, _⟩) rfl (fun KK hK => ?_) AllReadyH.nil
    refine step_store_blk (by rfl) 60 _ _ (by rfl) (P) (by rfl) (keyC (0, 0)) (keyC (keyW m)) 60 HB3.out (by rfl) rfl (by kernel_rfl) (by simp [keyC, Value.oneCell']) ?_
    have HS := Lib.hid (show StT w D b1 b2 b3 L m (P + 1) (P) (W3.setCells (P) 0 (keyC (keyW m)).toList) from
      ⟨HL3.out.cells HB3.out (by omega) _ 0, HM3.out.apartAll _ 0 W3 (show P ≠ w.heap.size by omega), HA3.out.apartAll _ 0 W3 (show P ≠ P + 1 by omega), HB3.out.setCells (keyC (keyW m)) rfl, HC3.out.setCells (show w.heap.size ≤ P by omega) _ 0, ho, by omega, by omega⟩)
    clear HM3 HL3 HC3 HA3 HB3 hps ho HPS
    generalize W3.setCells (P) 0 (keyC (keyW m)).toList = W4 at HS ⊢
    refine hK.out _ _ ⟨HS.out.mb.cell 1 rfl, HS.out.mb.cell 4 rfl, HS.out.mb.cell 5 rfl⟩ (fun hHeld => ?_)
    clear hK; try clear KK
    refine wpAnyH_done (by kernel_rfl) ?_ _
    clear hHeld
    generalize P + 1 = P2 at HS ⊢
    clear HM HL HC HSZ
    have cc : W4.cell? ⟨w.heap.size, 8, none⟩ = some (.int .i64 m.code) := HS.out.mb.cell 8 rfl
    have cq : W4.cell? ⟨w.heap.size, 7, none⟩ = some (.int .i64 m.qty) := HS.out.mb.cell 7 rfl
    have ca0 : W4.cell? ⟨P2, 0, none⟩ = some (.int .i64 m.sym) := HS.out.ka.cell 0 rfl
    have ca1 : W4.cell? ⟨P2, 1, none⟩ = some (.int .i64 m.id) := HS.out.ka.cell 1 rfl
    have cb0 : W4.cell? ⟨P, 0, none⟩ = some (.int .i64 m.sym) := HS.out.kb.cell 0 rfl
    have cb1 : W4.cell? ⟨P, 1, none⟩ = some (.int .i64 m.wth) := HS.out.kb.cell 1 rfl
    have hmf : ∀ (fn : Fn) (first cap : Array Value) (w : World), (Instr.makeFunc fn first cap).run Try.prog w = .ok (.func fn first cap) w := fun _ _ _ _ => rfl
    by_cases hc : m.code = 1
    · have g1 : (m.code != 1) = false := by simpa using hc
      have HFL := Lib.hid (fill_any L m.qty [keyM m] (by simp) D b1 b2 b3 W4.heap.size 1 (W4.alloc (.cells (keyC (keyM m)) 60)) (HS.out.ls.alloc _) (row_one W4 (keyM m)) HQ.out (fun k hk => by
        have : k = 0 := by simpa using hk
        subst this
        exact HX.out))
      unfold keyC at HFL
      have HF := Lib.hid (show tradeF L m = if fillOK L.now m.qty [keyM m] = true then (0, ⟨fillF L.now m.qty [keyM m], mput (keyW m) (earlyF L (keyW m) + m.qty) L.early, L.aside⟩) else (5, L) by unfold tradeF; rw [if_pos hc])
      have HS5 := Lib.hid (HS.out.alloc (.cells (keyC (keyM m)) 60))
      clear hc
      go_wp2_with fail
      refine HFL.out.mono ?_
      clear HFL
      rintro e W6 ⟨rfl, hl6, hc6⟩
      have HS6 := Lib.hid (HS5.out.ls' (.inl rfl) hl6 hc6)
      clear hl6 hc6 HS5 HS ca0 ca1 cb0 cb1 cq cc
      cases hok : fillOK L.now m.qty [keyM m] with
      | false =>
        rw [hok, if_neg (by decide)] at HF HS6
        clear hok
        go_wp2_with fail
        go_ret
        exact ⟨by rw [HF.out]; rfl, by rw [HF.out]; exact HS6.out.ls, HS6.out.chg⟩
      | true =>
        rw [hok, if_pos rfl] at HF HS6
        clear hok
        generalize fillF L.now m.qty [keyM m] = nw at HF HS6
        go_upto_region 3 with fail
        refine wp_region_held_drew (S := (fun w' => w'.cell? ⟨D, 1, none⟩ = some (.map (some b2)) ∧ w'.cell? ⟨w.heap.size, 7, none⟩ = some (.int .i64 m.qty) ∧ w'.cell? ⟨P, 0, none⟩ = some (.int .i64 m.sym) ∧ w'.cell? ⟨P, 1, none⟩ = some (.int .i64 m.wth))) (by kernel_rfl) (⟨HS6.out.ls.box.cell 1 rfl, HS6.out.mb.cell 7 rfl, HS6.out.kb.cell 0 rfl, HS6.out.kb.cell 1 rfl⟩) (fun hHeld => ?_)
        replace HS6 := Lib.hid HS6.out.drew
        generalize W6.drew = W7 at HS6 hHeld ⊢
        obtain ⟨e1, e2⟩ := HE.out
        obtain ⟨q1, q2⟩ := HQ.out
        have hlk := look2 (show MapIs W7 b2 ke vi L.early from HS6.out.ls.m2) m.sym m.wth
        change (Instr.lookup 48 (.map (some b2)) (.agg #[.int .i64 m.sym, .int .i64 m.wth]) false).run Try.prog W7 = .ok (.int .i64 (earlyF L (keyW m))) W7 at hlk
        obtain ⟨stamp, W8, W9, hr1, hr2, hm9, hc8, hc9, hs8, hs9, l8, hm8, hg8⟩ := add2 (show MapIs W7 b2 ke vi L.early from HS6.out.ls.m2) m.sym m.wth (earlyF L (keyW m) + m.qty)
        change (Instr.mapEntry 48 (.map (some b2)) (.agg #[.int .i64 m.sym, .int .i64 m.wth])).run Try.prog W7 = .ok (.tuple #[.int .i64 (earlyF L (keyW m)), .int .i64 stamp]) W8 at hr1
        have HS9 := Lib.hid (HS6.out.ls' (.inr (.inl rfl)) (HS6.out.ls.set2 hm9 hc9) hc9)
        change Hid (StT w D b1 b2 b3 ⟨nw, mput (keyW m) (earlyF L (keyW m) + m.qty) L.early, L.aside⟩ m (P2) (P) W9) at HS9
        have hlk8 := look2 hm8 m.sym m.wth
        rw [hg8] at hlk8
        change (Instr.lookup 48 (.map (some b2)) (.agg #[.int .i64 m.sym, .int .i64 m.wth]) false).run Try.prog W8 = .ok (.int .i64 (earlyF L (keyW m))) W8 at hlk8
        clear hm8 hg8
        generalize earlyF L (keyW m) = ea at HE HF hlk hr1 hr2 HS9 e1 e2 hm9 hlk8
        have HLK8 := Lib.hid hlk8
        clear hlk8
        have hold := HS6.out.old
        have HC8 := Lib.hid (show W8.cell? ⟨D, 1, none⟩ = some (.map (some b2)) ∧ W8.cell? ⟨w.heap.size, 7, none⟩ = some (.int .i64 m.qty) ∧ W8.cell? ⟨P, 0, none⟩ = some (.int .i64 m.sym) ∧ W8.cell? ⟨P, 1, none⟩ = some (.int .i64 m.wth) from
          ⟨(hc8.blk HS6.out.ls.box.lt HS6.out.ls.d2.symm HS6.out.ls.box).cell 1 rfl, (hc8.blk HS6.out.mb.lt (by omega) HS6.out.mb).cell 7 rfl, (hc8.blk HS6.out.kb.lt (by omega) HS6.out.kb).cell 0 rfl, (hc8.blk HS6.out.kb.lt (by omega) HS6.out.kb).cell 1 rfl⟩)
        have q3 : IntKind.i64.wrap (ea + m.qty) = ea + m.qty := IntWalk.i64_in _ (by omega)
        have HR1 := Lib.hid hr1
        have HR2 := Lib.hid hr2
        clear hm9 hc8 hc9 hs8 hs9 hold hr1 hr2
        refine wpAnyH_take (i := 0) (oi := ⟨some 20, _, _, _, _, _⟩) (v := (.pointer (some ⟨D, 0, none⟩))) rfl (by kernel_rfl) (by kernel_rfl) (by kernel_rfl) (fun _ _ _ h => h) (Or.inl ⟨by rfl, fun w hSw => by (try dsimp only at hSw); go_simp⟩) (by assumption) ?_
        simp only [Act.put, List.setIfInBounds_toArray, List.set_cons_zero, List.set_cons_succ]
        refine wpAnyH_take (i := 1) (oi := ⟨some 21, _, _, _, _, _⟩) (v := (.pointer (some ⟨D, 0, none⟩))) rfl (by kernel_rfl) (by kernel_rfl) (by kernel_rfl) (fun _ _ _ h => h) (Or.inl ⟨by rfl, fun w hSw => by (try dsimp only at hSw); go_simp⟩) (by assumption) ?_
        simp only [Act.put, List.setIfInBounds_toArray, List.set_cons_zero, List.set_cons_succ]
        refine wpAnyH_take (i := 2) (oi := ⟨some 22, _, _, _, _, _⟩) (v := (.pointer (some ⟨D, 1, none⟩))) rfl (by kernel_rfl) (by kernel_rfl) (by kernel_rfl) (fun _ _ _ h => h) (Or.inl ⟨by rfl, fun w hSw => by (try dsimp only at hSw); go_simp⟩) (by assumption) ?_
        simp only [Act.put, List.setIfInBounds_toArray, List.set_cons_zero, List.set_cons_succ]
        refine wpAnyH_take (i := 3) (oi := ⟨some 23, _, _, _, _, _⟩) (v := (.map (some b2))) rfl (by kernel_rfl) (by kernel_rfl) (by kernel_rfl) (fun _ _ _ h => h) (Or.inl ⟨by rfl, fun w hSw => by (try dsimp only at hSw); go_simp⟩) (by assumption) ?_
        simp only [Act.put, List.setIfInBounds_toArray, List.set_cons_zero, List.set_cons_succ]
        refine wpAnyH_take (i := 4) (oi := ⟨some 24, _, _, _, _, _⟩) (v := (.agg #[.int .i64 m.sym, .int .i64 m.wth])) rfl (by kernel_rfl) (by kernel_rfl) (by kernel_rfl) (fun _ _ _ h => h) (Or.inl ⟨by rfl, fun w hSw => by (try dsimp only at hSw); go_simp⟩) (by assumption) ?_
        simp only [Act.put, List.setIfInBounds_toArray, List.set_cons_zero, List.set_cons_succ]
        refine wpAnyH_take (i := 6) (oi := ⟨some 26, _, _, _, _, _⟩) (v := (.pointer (some ⟨w.heap.size, 7, none⟩))) rfl (by kernel_rfl) (by kernel_rfl) (by kernel_rfl) (fun _ _ _ h => h) (Or.inl ⟨by rfl, fun w hSw => by (try dsimp only at hSw); go_simp⟩) (by assumption) ?_
        simp only [Act.put, List.setIfInBounds_toArray, List.set_cons_zero, List.set_cons_succ]
        refine wpAnyH_take (i := 7) (oi := ⟨some 27, _, _, _, _, _⟩) (v := (.int .i64 m.qty)) rfl (by kernel_rfl) (by kernel_rfl) (by kernel_rfl) (fun _ _ _ h => h) (Or.inl ⟨by rfl, fun w hSw => by (try dsimp only at hSw); go_simp⟩) (by assumption) ?_
        simp only [Act.put, List.setIfInBounds_toArray, List.set_cons_zero, List.set_cons_succ]
        refine wpAnyH_ready (rs := [5, 9]) (by kernel_rfl) (by simp) ?_
        refine AllReadyH.cons (o := ⟨some 25, _, _, _, _, _⟩) rfl (fun KK hK => ?_) (AllReadyH.cons (o := ⟨some 29, _, _, _, _, _⟩) rfl (fun KK hK => ?_) AllReadyH.nil)
        · go_simp
          clear hlk
          refine hK.out _ _ ⟨HS6.out.ls.box.cell 1 rfl, HS6.out.mb.cell 7 rfl, HS6.out.kb.cell 0 rfl, HS6.out.kb.cell 1 rfl⟩ (fun hHeld => ?_)
          clear hK; try clear KK
          try simp only [Act.put, List.setIfInBounds_toArray, List.set_cons_zero, List.set_cons_succ]
          refine wpAnyH_take (i := 8) (oi := ⟨some 28, _, _, _, _, _⟩) (v := (.int .i64 (ea + m.qty))) rfl (by kernel_rfl) (by kernel_rfl) (by kernel_rfl) (fun _ _ _ h => h) (Or.inl ⟨by rfl, fun w hSw => by (try dsimp only at hSw); go_simp⟩) (by assumption) ?_
          simp only [Act.put, List.setIfInBounds_toArray, List.set_cons_zero, List.set_cons_succ]
          have hr1 := HR1.out
          refine wpAnyH_ready (rs := [9]) (by kernel_rfl) (by simp) ?_
          refine AllReadyH.cons (o := ⟨some 29, _, _, _, _, _⟩) rfl (fun KK hK => ?_) AllReadyH.nil
          go_simp
          clear hr1 HR1 HS6
          refine hK.out _ _ HC8.out (fun hHeld => ?_)
          clear hK; try clear KK
          try simp only [Act.put, List.setIfInBounds_toArray, List.set_cons_zero, List.set_cons_succ]
          refine wpAnyH_take (i := 10) (oi := ⟨some 30, _, _, _, _, _⟩) (v := (.int .i64 stamp)) rfl (by kernel_rfl) (by kernel_rfl) (by kernel_rfl) (fun _ _ _ h => h) (Or.inl ⟨by rfl, fun w hSw => by (try dsimp only at hSw); go_simp⟩) (by assumption) ?_
          simp only [Act.put, List.setIfInBounds_toArray, List.set_cons_zero, List.set_cons_succ]
          have hr2 := HR2.out
          refine wpAnyH_ready (rs := [11]) (by kernel_rfl) (by simp) ?_
          refine AllReadyH.cons (o := ⟨none, _, _, _, _, _⟩) rfl (fun KK hK => ?_) AllReadyH.nil
          go_simp
          clear hr2 HR2 HC8
          refine hK.out _ _ ⟨HS9.out.ls.box.cell 1 rfl, HS9.out.mb.cell 7 rfl, HS9.out.kb.cell 0 rfl, HS9.out.kb.cell 1 rfl⟩ (fun hHeld => ?_)
          clear hK; try clear KK
          refine wpAnyH_done (by kernel_rfl) ?_ _
          clear hHeld
          go_wp2_with fail
          go_ret
          exact ⟨by rw [HF.out]; rfl, by rw [HF.out]; exact HS9.out.ls, HS9.out.chg⟩
        · clear hlk
          have hr1 := HR1.out
          go_simp
          clear hr1 HR1 HS6
          refine hK.out _ _ HC8.out (fun hHeld => ?_)
          clear hK; try clear KK
          try simp only [Act.put, List.setIfInBounds_toArray, List.set_cons_zero, List.set_cons_succ]
          refine wpAnyH_take (i := 10) (oi := ⟨some 30, _, _, _, _, _⟩) (v := (.int .i64 stamp)) rfl (by kernel_rfl) (by kernel_rfl) (by kernel_rfl) (fun _ _ _ h => h) (Or.inl ⟨by rfl, fun w hSw => by (try dsimp only at hSw); go_simp⟩) (by assumption) ?_
          simp only [Act.put, List.setIfInBounds_toArray, List.set_cons_zero, List.set_cons_succ]
          have hlk8 := HLK8.out
          refine wpAnyH_ready (rs := [5]) (by kernel_rfl) (by simp) ?_
          refine AllReadyH.cons (o := ⟨some 25, _, _, _, _, _⟩) rfl (fun KK hK => ?_) AllReadyH.nil
          go_simp
          clear hlk8
          refine hK.out _ _ HC8.out (fun hHeld => ?_)
          clear hK; try clear KK
          try simp only [Act.put, List.setIfInBounds_toArray, List.set_cons_zero, List.set_cons_succ]
          refine wpAnyH_take (i := 8) (oi := ⟨some 28, _, _, _, _, _⟩) (v := (.int .i64 (ea + m.qty))) rfl (by kernel_rfl) (by kernel_rfl) (by kernel_rfl) (fun _ _ _ h => h) (Or.inl ⟨by rfl, fun w hSw => by (try dsimp only at hSw); go_simp⟩) (by assumption) ?_
          simp only [Act.put, List.setIfInBounds_toArray, List.set_cons_zero, List.set_cons_succ]
          have hr2 := HR2.out
          refine wpAnyH_ready (rs := [11]) (by kernel_rfl) (by simp) ?_
          refine AllReadyH.cons (o := ⟨none, _, _, _, _, _⟩) rfl (fun KK hK => ?_) AllReadyH.nil
          go_simp
          clear hr2 HR2 HC8
          refine hK.out _ _ ⟨HS9.out.ls.box.cell 1 rfl, HS9.out.mb.cell 7 rfl, HS9.out.kb.cell 0 rfl, HS9.out.kb.cell 1 rfl⟩ (fun hHeld => ?_)
          clear hK; try clear KK
          refine wpAnyH_done (by kernel_rfl) ?_ _
          clear hHeld
          go_wp2_with fail
          go_ret
          exact ⟨by rw [HF.out]; rfl, by rw [HF.out]; exact HS9.out.ls, HS9.out.chg⟩
    · have g1 : (m.code != 1) = true := by simpa using hc
      by_cases hid : m.id = m.wth
      · have g2 : (m.id == m.wth) = true := by simpa using hid
        have HF := Lib.hid (show tradeF L m = (5, L) by unfold tradeF; rw [if_neg hc, if_pos (by unfold keyM keyW; rw [hid])])
        clear hc hid
        go_wp2_with fail
        go_ret
        exact ⟨by rw [HF.out]; rfl, by rw [HF.out]; exact HS.out.ls, HS.out.chg⟩
      · have g2 : (m.id == m.wth) = false := by simpa using hid
        have hne : keyM m ≠ keyW m := fun e => hid (congrArg Prod.snd e)
        have HF := Lib.hid (show tradeF L m = if fillOK L.now m.qty [keyM m, keyW m] = true then (0, ⟨fillF L.now m.qty [keyM m, keyW m], L.early, L.aside⟩) else (5, L) by unfold tradeF; rw [if_neg hc, if_neg hne])
        have HFL := Lib.hid (fill_any L m.qty [keyM m, keyW m] (by simp) D b1 b2 b3 W4.heap.size 2 (W4.alloc (.cells #[.int .i64 (keyM m).1, .int .i64 (keyM m).2, .int .i64 (keyW m).1, .int .i64 (keyW m).2] 60)) (HS.out.ls.alloc _) (row_two W4 (keyM m) (keyW m)) HQ.out (fun k hk => by
          have h2 : k = 0 ∨ k = 1 := by simp at hk; omega
          rcases h2 with rfl | rfl
          · exact HX.out
          · show AccIn _ ((mget (keyW m) (fillK L.now m.qty (keyM m))).getD acc0)
            rw [fillK, get_put, if_neg hne.symm]
            exact HY.out))
        have HS5 := Lib.hid (HS.out.alloc (.cells #[.int .i64 (keyM m).1, .int .i64 (keyM m).2, .int .i64 (keyW m).1, .int .i64 (keyW m).2] 60))
        clear hc hid hne
        go_wp2_with fail
        refine HFL.out.mono ?_
        clear HFL
        rintro e W6 ⟨rfl, hl6, hc6⟩
        have HS6 := Lib.hid (HS5.out.ls' (.inl rfl) hl6 hc6)
        clear hl6 hc6 HS5 HS ca0 ca1 cb0 cb1 cq cc
        cases hok : fillOK L.now m.qty [keyM m, keyW m] with
        | false =>
          rw [hok, if_neg (by decide)] at HF HS6
          clear hok
          go_wp2_with fail
          go_ret
          exact ⟨by rw [HF.out]; rfl, by rw [HF.out]; exact HS6.out.ls, HS6.out.chg⟩
        | true =>
          rw [hok, if_pos rfl] at HF HS6
          clear hok
          go_wp2_with fail
          go_ret
          exact ⟨by rw [HF.out]; rfl, by rw [HF.out]; exact HS6.out.ls, HS6.out.chg⟩
end Go.Proofs.Ytmkcooamgojbpaa.Ledger
