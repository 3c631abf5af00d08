/- The document's watch: Put of a message of a symbol. -/
import Derived.Test.YtggkhnmhhifniaaWatchRPut
namespace Go.Proofs.Ytggkhnmhhifniaa.Watch
open Go.RowKit Go.Proofs.Ytggkhnmhhifniaa.Kit Go.Proofs.Ytggkhnmhhifniaa.Blk Go.Proofs.Ytggkhnmhhifniaa.Symbol Go.Proofs.Ytggkhnmhhifniaa.Check Go.Proofs.Ytggkhnmhhifniaa.RefSymbol Go.Proofs.Ytggkhnmhhifniaa.CheckEq
attribute [local go_sem ↓] Go.wp_at_zero Go.wp_at_succ

structure OwnSt (w wx : World) (Q M cap : Nat) (c : Cfg) (sa ta : Option Addr) (sc tc : Nat) (ks : List Kn) (seq tick : Int) (m : Msg) (B : Nat) (k : Kn) : Prop where
  box : Blk wx B k.cells 48
  rw : RW wx Q M cap c sa ta sc tc ks seq tick
  msg : Blk wx w.heap.size m.cells 40
  chg : Chg2 w.heap.size Q M w wx
  hB : w.heap.size < B
  hQ : Q < w.heap.size
  hM : M < w.heap.size
  hsa : ∀ b off, sa = some ⟨b, off, none⟩ → b < w.heap.size

section
variable {w wx wy : World} {Q M cap : Nat} {c : Cfg} {sa ta : Option Addr} {sc tc : Nat} {ks : List Kn} {seq tick : Int} {m : Msg} {B : Nat} {k : Kn}
theorem OwnSt.drew (h : OwnSt w wx Q M cap c sa ta sc tc ks seq tick m B k) : OwnSt w wx.drew Q M cap c sa ta sc tc ks seq tick m B k :=
  ⟨h.box, h.rw.below (Below.refl _ _).drew, h.msg, h.chg.drew, h.hB, h.hQ, h.hM, h.hsa⟩
theorem OwnSt.below (h : OwnSt w wx Q M cap c sa ta sc tc ks seq tick m B k) (hb : Below wx.heap.size wx wy) : OwnSt w wy Q M cap c sa ta sc tc ks seq tick m B k :=
  ⟨h.box.below hb h.box.lt, h.rw.below hb, h.msg.below hb h.msg.lt, h.chg.step (hb.mono (Nat.le_of_lt h.msg.lt)), h.hB, h.hQ, h.hM, h.hsa⟩
theorem OwnSt.set (h : OwnSt w wx Q M cap c sa ta sc tc ks seq tick m B k) (j : Nat) (v : Value) (k' : Kn) (hk : k'.cells = k.cells.setIfInBounds j v) :
    OwnSt w (wx.setCell ⟨B, j, none⟩ v) Q M cap c sa ta sc tc ks seq tick m B k' := by
  have h1 := h.hB
  have h2 := h.hQ
  have h3 := h.hM
  exact ⟨by rw [hk]; exact h.box.set j v, h.rw.keep (by simp [World.setCell]) (Below.heap_setCell _ _ _ _ (by show Q ≠ B; omega)) (Below.heap_setCell _ _ _ _ (by show M ≠ B; omega)) (fun b off ha hl => Below.heap_setCell _ _ _ _ (by have := h.hsa b off ha; show b ≠ B; omega)),
    h.msg.apart _ _ (by show B ≠ w.heap.size; omega), h.chg.setCell _ _ (.inr (.inr (by show w.heap.size ≤ B; omega))), h.hB, h.hQ, h.hM, h.hsa⟩
end

theorem RW.again {w : World} {Q M cap : Nat} {c : Cfg} {sa ta : Option Addr} {sc tc : Nat} {ks : List Kn} {seq tick : Int} {i : Nat} {k : Kn} (h : RW w Q M cap c sa ta sc tc (ks.set i k) seq tick) (hi : i < ks.length) (j : Nat) (hj : j < 10) (v : Value) (k' : Kn)
    (hk : k'.cells = k.cells.setIfInBounds j v) : RW (w.setCell ⟨M, i * 10 + j, none⟩ v) Q M cap c sa ta sc tc (ks.set i k') seq tick := by
  have e := h.store i (by rw [List.length_set]; exact hi) j hj v k' (by rw [hk]; simp [List.getD, hi])
  rwa [List.set_set] at e
theorem RW.storeRow {w : World} {Q M cap : Nat} {c : Cfg} {sa ta : Option Addr} {sc tc : Nat} {ks : List Kn} {seq tick : Int} {i : Nat} (h : RW w Q M cap c sa ta sc tc ks seq tick) (hi : i < ks.length) (k' : Kn) :
    RW (w.setCells M (i * 10) k'.cells.toList) Q M cap c sa ta sc tc (ks.set i k') seq tick := by
  have h0 := h.store i hi 0 (by decide) (.int .i64 k'.phase) { ks.getD i Kn.zero with phase := k'.phase } rfl
  have h1 := h0.again hi 1 (by decide) (.int .i64 k'.blo) { k' with bhi := (ks.getD i Kn.zero).bhi, clo := (ks.getD i Kn.zero).clo, chi := (ks.getD i Kn.zero).chi, deadline := (ks.getD i Kn.zero).deadline, t0 := (ks.getD i Kn.zero).t0, t1 := (ks.getD i Kn.zero).t1, t2 := (ks.getD i Kn.zero).t2, t3 := (ks.getD i Kn.zero).t3 } rfl
  have h2 := h1.again hi 2 (by decide) (.int .i64 k'.bhi) { k' with clo := (ks.getD i Kn.zero).clo, chi := (ks.getD i Kn.zero).chi, deadline := (ks.getD i Kn.zero).deadline, t0 := (ks.getD i Kn.zero).t0, t1 := (ks.getD i Kn.zero).t1, t2 := (ks.getD i Kn.zero).t2, t3 := (ks.getD i Kn.zero).t3 } rfl
  have h3 := h2.again hi 3 (by decide) (.int .i64 k'.clo) { k' with chi := (ks.getD i Kn.zero).chi, deadline := (ks.getD i Kn.zero).deadline, t0 := (ks.getD i Kn.zero).t0, t1 := (ks.getD i Kn.zero).t1, t2 := (ks.getD i Kn.zero).t2, t3 := (ks.getD i Kn.zero).t3 } rfl
  have h4 := h3.again hi 4 (by decide) (.int .i64 k'.chi) { k' with deadline := (ks.getD i Kn.zero).deadline, t0 := (ks.getD i Kn.zero).t0, t1 := (ks.getD i Kn.zero).t1, t2 := (ks.getD i Kn.zero).t2, t3 := (ks.getD i Kn.zero).t3 } rfl
  have h5 := h4.again hi 5 (by decide) (.int .i64 k'.deadline) { k' with t0 := (ks.getD i Kn.zero).t0, t1 := (ks.getD i Kn.zero).t1, t2 := (ks.getD i Kn.zero).t2, t3 := (ks.getD i Kn.zero).t3 } rfl
  have h6 := h5.again hi 6 (by decide) (.int .i64 k'.t0) { k' with t1 := (ks.getD i Kn.zero).t1, t2 := (ks.getD i Kn.zero).t2, t3 := (ks.getD i Kn.zero).t3 } rfl
  have h7 := h6.again hi 7 (by decide) (.int .i64 k'.t1) { k' with t2 := (ks.getD i Kn.zero).t2, t3 := (ks.getD i Kn.zero).t3 } rfl
  have h8 := h7.again hi 8 (by decide) (.int .i64 k'.t2) { k' with t3 := (ks.getD i Kn.zero).t3 } rfl
  exact h8.again hi 9 (by decide) (.int .i64 k'.t3) k' rfl
theorem RW.there {w : World} {Q M cap : Nat} {c : Cfg} {sa ta : Option Addr} {sc tc : Nat} {ks : List Kn} {seq tick : Int} {i : Nat} (h : RW w Q M cap c sa ta sc tc ks seq tick) (hi : i < ks.length) : w.there M (i * 10) 10 := fun j hj => by
  refine ⟨?_, h.free _⟩
  rw [h.row i hi j _ (Array.getElem?_eq_getElem (by rw [kn_size]; exact hj))]; rfl
theorem Chg2.setCells {n d e M : Nat} {a : World} (vs : List Value) : ∀ (o : Nat) (w : World), Chg2 n d e a w → (M = d ∨ M = e ∨ n ≤ M) → Chg2 n d e a (w.setCells M o vs) := by
  induction vs with
  | nil => intro o w h _; exact h
  | cons v vs ih => intro o w h hB; exact ih (o + 1) _ (h.setCell _ _ hB) hB

theorem tell_bands (s : Sym) (k : Kn) (m : Msg) (h : m.kind = 5) : tellF s k m = { k with blo := m.price, bhi := m.qty } := by unfold tellF; rw [if_neg (by omega), if_pos h]
theorem tell_extend (s : Sym) (k : Kn) (m : Msg) (h : m.kind = 8) : tellF s k m = { k with clo := m.price, chi := m.qty } := by unfold tellF; rw [if_neg (by omega), if_neg (by omega), if_pos h]
theorem tell_status (s : Sym) (k : Kn) (m : Msg) (h : m.kind = 6) : tellF s k m = statusF s k m := by unfold tellF; rw [if_neg (by omega), if_neg (by omega), if_neg (by omega), if_pos h]
theorem tell_trade (s : Sym) (k : Kn) (m : Msg) (h : m.kind = 3) : tellF s k m = addT k m.code m.qty := by unfold tellF; rw [if_pos h]
theorem tell_none (s : Sym) (k : Kn) (m : Msg) (h3 : ¬ m.kind = 3) (h5 : ¬ m.kind = 5) (h8 : ¬ m.kind = 8) (h6 : ¬ m.kind = 6) : tellF s k m = k := by unfold tellF; rw [if_neg h3, if_neg h5, if_neg h8, if_neg h6]

section
variable (Q M cap : Nat) (c : Cfg) (sa ta : Option Addr) (sc tc : Nat) (ks : List Kn) (seq tick : Int) (m : Msg) (w : World) (h : RW w Q M cap c sa ta sc tc ks seq tick)
include h
set_option maxRecDepth 20000 in
set_option maxHeartbeats 4000000 in
theorem rput_own (hf : rfaultF ks seq tick m = 0) (h9 : ¬ m.kind = 9) (h2 : ¬ m.kind = 2) (i : Nat) (hi : i < ks.length) (hs : m.sym = i) (hc : m.kind = 3 → m.code = 1 ∨ m.code = 2 ∨ m.code = 3) :
    Calls Try.prog 12 #[.pointer (some ⟨Q, 0, none⟩), .agg m.cells] w fun e w' => e = .returned (.int .i64 0) ∧ Chg2 w.heap.size Q M w w' ∧ RW w' Q M cap c sa ta sc tc (ks.set i (tellF (c.syms.getD i noSym) (ks.getD i Kn.zero) m)) m.seq m.tick := by
  have b9 : (m.kind == 9) = false := by simpa using h9
  have b2 : (m.kind == 2) = false := by simpa using h2
  have hic : i < c.syms.length := by rw [h.len]; exact hi
  have HSA := Lib.hid (show ∀ b off, sa = some ⟨b, off, none⟩ → b < w.heap.size from fun b off e => by
    obtain ⟨b', off', e', hl, _⟩ := h.syms i hic
    rw [e] at e'; injection e' with e'; injection e' with e1 _ _; omega)
  have HCD := Lib.hid hc
  have HI := Lib.hid hs
  clear h9 h2 hc hs
  have HP := Lib.hid (h.below ((Below.refl _ _).alloc (Nat.le_refl _) (.cells m.cells 40)))
  have HM := Lib.hid (Blk.new w m.cells 40 w.heap.size rfl)
  have HC := Lib.hid (show Chg2 w.heap.size Q M w (w.alloc (.cells m.cells 40)) from Chg2.of ((Below.refl _ _).alloc (Nat.le_refl _) _))
  have hbz : w.heap.size < (w.alloc (.cells m.cells 40)).heap.size := by simp
  have hQ := h.head.lt
  have hM := h.lt
  have hfew := h.few
  have HF := Lib.hid hf
  have HK := Lib.hid (fun w h => rcheck_any Q M cap c sa ta sc tc ks seq tick m w h)
  clear h hf
  go_enter Try.func12, Try.ntmps12
  go_upto_region 1 with fail
  generalize w.alloc (.cells m.cells 40) = W at HP HM HC hbz ⊢
  go_wp2_with (refine load_blk rfl 40 _ rfl _ rfl _ _ HM.out _ Try.underlying40 rfl (by kernel_rfl) ?_)
  refine (HK.out _ HP.out).mono ?_
  rintro e w1 ⟨rfl, hb1⟩
  replace HP := Lib.hid (HP.out.below hb1)
  replace HM := Lib.hid (HM.out.below hb1 HM.out.lt)
  replace HC := Lib.hid (HC.out.step (hb1.mono (by omega)))
  clear hb1 hbz HK
  rw [HF.out]
  have q9 : w1.cell? ⟨Q, 9, none⟩ = some (.int .i64 seq) := HP.out.head.cell 9 rfl
  have q10 : w1.cell? ⟨Q, 10, none⟩ = some (.int .i64 tick) := HP.out.head.cell 10 rfl
  have f9 : w1.frozen? ⟨Q, 9, none⟩ = false := HP.out.head.free 9
  have f10 : w1.frozen? ⟨Q, 10, none⟩ = false := HP.out.head.free 10
  have hne : w.heap.size ≠ Q := by omega
  have m_seq : w1.cell? ⟨w.heap.size, 2, none⟩ = some (.int .i64 m.seq) := HM.out.cell 2 rfl
  have m_tick : w1.cell? ⟨w.heap.size, 3, none⟩ = some (.int .i64 m.tick) := HM.out.cell 3 rfl
  go_upto_region 6 with fail
  replace HP := Lib.hid ((HP.out.setSeq m.seq).setTick m.tick)
  replace HM := Lib.hid ((HM.out.apart ⟨Q, 9, none⟩ (.int .i64 m.seq) (by show Q ≠ w.heap.size; omega)).apart ⟨Q, 10, none⟩ (.int .i64 m.tick) (by show Q ≠ w.heap.size; omega))
  replace HC := Lib.hid ((HC.out.setCell ⟨Q, 9, none⟩ (.int .i64 m.seq) (.inl rfl)).setCell ⟨Q, 10, none⟩ (.int .i64 m.tick) (.inl rfl))
  generalize (w1.setCell ⟨Q, 9, none⟩ (.int .i64 m.seq)).setCell ⟨Q, 10, none⟩ (.int .i64 m.tick) = w2 at HP HM HC ⊢
  clear q9 q10 f9 f10 m_seq m_tick HF
  have m_kind : w2.cell? ⟨w.heap.size, 0, none⟩ = some (.int .i64 m.kind) := HM.out.cell 0 rfl
  have m_sym : w2.cell? ⟨w.heap.size, 1, none⟩ = some (.int .i64 m.sym) := HM.out.cell 1 rfl
  have m_seq : w2.cell? ⟨w.heap.size, 2, none⟩ = some (.int .i64 m.seq) := HM.out.cell 2 rfl
  have m_tick : w2.cell? ⟨w.heap.size, 3, none⟩ = some (.int .i64 m.tick) := HM.out.cell 3 rfl
  have m_id : w2.cell? ⟨w.heap.size, 4, none⟩ = some (.int .i64 m.id) := HM.out.cell 4 rfl
  have m_wth : w2.cell? ⟨w.heap.size, 5, none⟩ = some (.int .i64 m.wth) := HM.out.cell 5 rfl
  have m_price : w2.cell? ⟨w.heap.size, 6, none⟩ = some (.int .i64 m.price) := HM.out.cell 6 rfl
  have m_qty : w2.cell? ⟨w.heap.size, 7, none⟩ = some (.int .i64 m.qty) := HM.out.cell 7 rfl
  have m_code : w2.cell? ⟨w.heap.size, 8, none⟩ = some (.int .i64 m.code) := HM.out.cell 8 rfl
  replace m_sym : w2.cell? ⟨w.heap.size, 1, none⟩ = some (.int .i64 i) := HI.out ▸ m_sym
  go_wp2_with fail
  have hrow := HP.out.row i hi
  generalize hk : ks.getD i Kn.zero = k at hrow
  have HK := Lib.hid hk
  clear hk
  have k_phase : w2.cell? ⟨M, i * 10, none⟩ = some (.int .i64 k.phase) := hrow 0 _ rfl
  have k_blo : w2.cell? ⟨M, i * 10 + 1, none⟩ = some (.int .i64 k.blo) := hrow 1 _ rfl
  have k_bhi : w2.cell? ⟨M, i * 10 + 2, none⟩ = some (.int .i64 k.bhi) := hrow 2 _ rfl
  have k_clo : w2.cell? ⟨M, i * 10 + 3, none⟩ = some (.int .i64 k.clo) := hrow 3 _ rfl
  have k_chi : w2.cell? ⟨M, i * 10 + 4, none⟩ = some (.int .i64 k.chi) := hrow 4 _ rfl
  have k_deadline : w2.cell? ⟨M, i * 10 + 5, none⟩ = some (.int .i64 k.deadline) := hrow 5 _ rfl
  have k_t0 : w2.cell? ⟨M, i * 10 + 6, none⟩ = some (.int .i64 k.t0) := hrow 6 _ rfl
  have k_t1 : w2.cell? ⟨M, i * 10 + 7, none⟩ = some (.int .i64 k.t1) := hrow 7 _ rfl
  have k_t2 : w2.cell? ⟨M, i * 10 + 8, none⟩ = some (.int .i64 k.t2) := hrow 8 _ rfl
  have k_t3 : w2.cell? ⟨M, i * 10 + 9, none⟩ = some (.int .i64 k.t3) := hrow 9 _ rfl
  clear hrow
  have q8 : w2.cell? ⟨Q, 8, none⟩ = some (.slice (some ⟨M, 0, none⟩) ks.length cap) := HP.out.head.cell 8 rfl
  have m_symi : w2.cell? ⟨w.heap.size, 1, none⟩ = some (.int .i64 i) := m_sym
  have g0 : (0 : Int) ≤ (i : Int) := by omega
  have g1 : (i : Int) < (ks.length : Int) := by omega
  go_region_held3 (fun w' => w'.cell? ⟨M, i * 10, none⟩ = some (.int .i64 k.phase) ∧ w'.cell? ⟨M, i * 10 + 1, none⟩ = some (.int .i64 k.blo) ∧ w'.cell? ⟨M, i * 10 + 2, none⟩ = some (.int .i64 k.bhi) ∧ w'.cell? ⟨M, i * 10 + 3, none⟩ = some (.int .i64 k.clo) ∧ w'.cell? ⟨M, i * 10 + 4, none⟩ = some (.int .i64 k.chi) ∧ w'.cell? ⟨M, i * 10 + 5, none⟩ = some (.int .i64 k.deadline) ∧ w'.cell? ⟨M, i * 10 + 6, none⟩ = some (.int .i64 k.t0) ∧ w'.cell? ⟨M, i * 10 + 7, none⟩ = some (.int .i64 k.t1) ∧ w'.cell? ⟨M, i * 10 + 8, none⟩ = some (.int .i64 k.t2) ∧ w'.cell? ⟨M, i * 10 + 9, none⟩ = some (.int .i64 k.t3) ∧ w'.cell? ⟨Q, 8, none⟩ = some (.slice (some ⟨M, 0, none⟩) ks.length cap) ∧ w'.cell? ⟨w.heap.size, 1, none⟩ = some (.int .i64 i)) (go_keep) (fail)
  have hs3 : OwnSt w (w2.alloc (.cells k.cells 48)).drew Q M cap c sa ta sc tc ks m.seq m.tick m w2.heap.size k :=
    ⟨Blk.new _ _ _ _ rfl, HP.out.below (((Below.refl _ _).alloc (Nat.le_refl _) _).drew), HM.out.old _, HC.out.step (((Below.refl _ _).alloc (Nat.le_of_lt HM.out.lt) _).drew), HM.out.lt, hQ, hM, HSA.out⟩
  have HS := Lib.hid hs3
  clear hs3
  rename_i hHeld
  clear hHeld
  unfold Kn.cells at HS
  generalize hW3 : (w2.alloc (.cells #[.int .i64 k.phase, .int .i64 k.blo, .int .i64 k.bhi, .int .i64 k.clo, .int .i64 k.chi, .int .i64 k.deadline, .int .i64 k.t0, .int .i64 k.t1, .int .i64 k.t2, .int .i64 k.t3] 48)).drew = w3 at HS ⊢
  generalize w2.heap.size = B at HS ⊢
  clear hW3 m_kind m_sym m_seq m_tick m_id m_wth m_price m_qty m_code k_phase k_blo k_bhi k_clo k_chi k_deadline k_t0 k_t1 k_t2 k_t3 q8 m_symi
  have hsy := HS.out.rw.syms i hic
  have HT : Hid (c.syms.getD i noSym = c.syms[i]) := Lib.hid (by simp [List.getD, hic])
  rw [← HT.out] at hsy
  generalize hs : c.syms.getD i noSym = s at hsy
  have HSY := Lib.hid hs
  clear hs HT
  have m_kind : w3.cell? ⟨w.heap.size, 0, none⟩ = some (.int .i64 m.kind) := HS.out.msg.cell 0 rfl
  go_upto_block 2 with fail
  clear m_kind
  go_cut [] (fun wx => OwnSt w wx Q M cap c sa ta sc tc ks m.seq m.tick m B (tellF s k m))
  case first =>
    by_cases h3 : m.kind = 3
    · have b3 : (m.kind == 3) = true := by rw [h3]; rfl
      have HE := Lib.hid (tell_trade s k m h3)
      have hcd := HCD.out h3
      clear h3
      rcases hcd with hcd | hcd | hcd
      · have HA := Lib.hid (show addT k m.code m.qty = { k with t0 := wrap64 (k.t0 + m.qty), t1 := wrap64 (k.t1 + m.qty) } by unfold addT; rw [if_pos hcd])
        have HCC := Lib.hid hcd
        clear hcd
        have m_kind : w3.cell? ⟨w.heap.size, 0, none⟩ = some (.int .i64 m.kind) := HS.out.msg.cell 0 rfl
        have m_qty : w3.cell? ⟨w.heap.size, 7, none⟩ = some (.int .i64 m.qty) := HS.out.msg.cell 7 rfl
        have x6 : w3.cell? ⟨B, 6, none⟩ = some (.int .i64 k.t0) := HS.out.box.cell 6 rfl
        have y6 : w3.frozen? ⟨B, 6, none⟩ = false := HS.out.box.free _
        have hBw : B ≠ w.heap.size := by have := HS.out.hB; omega
        have HX := Lib.hid (HS.out.set 6 (.int .i64 (wrap64 (k.t0 + m.qty))) { k with t0 := wrap64 (k.t0 + m.qty) } rfl)
        go_upto_region 18 with fail
        generalize w3.setCell ⟨B, 6, none⟩ (.int .i64 (wrap64 (k.t0 + m.qty))) = w4 at HX ⊢
        clear m_kind m_qty x6 y6
        have m_qty : w4.cell? ⟨w.heap.size, 7, none⟩ = some (.int .i64 m.qty) := HX.out.msg.cell 7 rfl
        have m_code : w4.cell? ⟨w.heap.size, 8, none⟩ = some (.int .i64 m.code) := HX.out.msg.cell 8 rfl
        replace m_code : w4.cell? ⟨w.heap.size, 8, none⟩ = some (.int .i64 1) := HCC.out ▸ m_code
        have x7 : w4.cell? ⟨B, 7, none⟩ = some (.int .i64 k.t1) := HX.out.box.cell 7 rfl
        have y7 : w4.frozen? ⟨B, 7, none⟩ = false := HX.out.box.free _
        have HY := Lib.hid ((HX.out.set 7 (.int .i64 (wrap64 (k.t1 + m.qty))) { k with t0 := wrap64 (k.t0 + m.qty), t1 := wrap64 (k.t1 + m.qty) } rfl).drew)
        refine wp_region_still_tail 12 (by kernel_rfl) (by kernel_rfl) ?_
        simp only [List.take_succ_cons, List.take_zero, List.drop_succ_cons, List.drop_zero]
        repeat still_step
        refine wpStill_nil ?_
        change wpList _ _ _ _ _ w4.drew
        go_wp2_with fail
        go_meet
        rw [HE.out, HA.out]
        exact HY.out
      · have HA := Lib.hid (show addT k m.code m.qty = { k with t0 := wrap64 (k.t0 + m.qty), t2 := wrap64 (k.t2 + m.qty) } by unfold addT; rw [if_neg (by omega), if_pos hcd])
        have HCC := Lib.hid hcd
        clear hcd
        have m_kind : w3.cell? ⟨w.heap.size, 0, none⟩ = some (.int .i64 m.kind) := HS.out.msg.cell 0 rfl
        have m_qty : w3.cell? ⟨w.heap.size, 7, none⟩ = some (.int .i64 m.qty) := HS.out.msg.cell 7 rfl
        have x6 : w3.cell? ⟨B, 6, none⟩ = some (.int .i64 k.t0) := HS.out.box.cell 6 rfl
        have y6 : w3.frozen? ⟨B, 6, none⟩ = false := HS.out.box.free _
        have hBw : B ≠ w.heap.size := by have := HS.out.hB; omega
        have HX := Lib.hid (HS.out.set 6 (.int .i64 (wrap64 (k.t0 + m.qty))) { k with t0 := wrap64 (k.t0 + m.qty) } rfl)
        go_upto_region 18 with fail
        generalize w3.setCell ⟨B, 6, none⟩ (.int .i64 (wrap64 (k.t0 + m.qty))) = w4 at HX ⊢
        clear m_kind m_qty x6 y6
        have m_qty : w4.cell? ⟨w.heap.size, 7, none⟩ = some (.int .i64 m.qty) := HX.out.msg.cell 7 rfl
        have m_code : w4.cell? ⟨w.heap.size, 8, none⟩ = some (.int .i64 m.code) := HX.out.msg.cell 8 rfl
        replace m_code : w4.cell? ⟨w.heap.size, 8, none⟩ = some (.int .i64 2) := HCC.out ▸ m_code
        have x7 : w4.cell? ⟨B, 8, none⟩ = some (.int .i64 k.t2) := HX.out.box.cell 8 rfl
        have y7 : w4.frozen? ⟨B, 8, none⟩ = false := HX.out.box.free _
        have HY := Lib.hid ((HX.out.set 8 (.int .i64 (wrap64 (k.t2 + m.qty))) { k with t0 := wrap64 (k.t0 + m.qty), t2 := wrap64 (k.t2 + m.qty) } rfl).drew)
        refine wp_region_still_tail 12 (by kernel_rfl) (by kernel_rfl) ?_
        simp only [List.take_succ_cons, List.take_zero, List.drop_succ_cons, List.drop_zero]
        repeat still_step
        refine wpStill_nil ?_
        change wpList _ _ _ _ _ w4.drew
        go_wp2_with fail
        go_meet
        rw [HE.out, HA.out]
        exact HY.out
      · have HA := Lib.hid (show addT k m.code m.qty = { k with t0 := wrap64 (k.t0 + m.qty), t3 := wrap64 (k.t3 + m.qty) } by unfold addT; rw [if_neg (by omega), if_neg (by omega)])
        have HCC := Lib.hid hcd
        clear hcd
        have m_kind : w3.cell? ⟨w.heap.size, 0, none⟩ = some (.int .i64 m.kind) := HS.out.msg.cell 0 rfl
        have m_qty : w3.cell? ⟨w.heap.size, 7, none⟩ = some (.int .i64 m.qty) := HS.out.msg.cell 7 rfl
        have x6 : w3.cell? ⟨B, 6, none⟩ = some (.int .i64 k.t0) := HS.out.box.cell 6 rfl
        have y6 : w3.frozen? ⟨B, 6, none⟩ = false := HS.out.box.free _
        have hBw : B ≠ w.heap.size := by have := HS.out.hB; omega
        have HX := Lib.hid (HS.out.set 6 (.int .i64 (wrap64 (k.t0 + m.qty))) { k with t0 := wrap64 (k.t0 + m.qty) } rfl)
        go_upto_region 18 with fail
        generalize w3.setCell ⟨B, 6, none⟩ (.int .i64 (wrap64 (k.t0 + m.qty))) = w4 at HX ⊢
        clear m_kind m_qty x6 y6
        have m_qty : w4.cell? ⟨w.heap.size, 7, none⟩ = some (.int .i64 m.qty) := HX.out.msg.cell 7 rfl
        have m_code : w4.cell? ⟨w.heap.size, 8, none⟩ = some (.int .i64 m.code) := HX.out.msg.cell 8 rfl
        replace m_code : w4.cell? ⟨w.heap.size, 8, none⟩ = some (.int .i64 3) := HCC.out ▸ m_code
        have x7 : w4.cell? ⟨B, 9, none⟩ = some (.int .i64 k.t3) := HX.out.box.cell 9 rfl
        have y7 : w4.frozen? ⟨B, 9, none⟩ = false := HX.out.box.free _
        have HY := Lib.hid ((HX.out.set 9 (.int .i64 (wrap64 (k.t3 + m.qty))) { k with t0 := wrap64 (k.t0 + m.qty), t3 := wrap64 (k.t3 + m.qty) } rfl).drew)
        refine wp_region_still_tail 12 (by kernel_rfl) (by kernel_rfl) ?_
        simp only [List.take_succ_cons, List.take_zero, List.drop_succ_cons, List.drop_zero]
        repeat still_step
        refine wpStill_nil ?_
        change wpList _ _ _ _ _ w4.drew
        go_wp2_with fail
        go_meet
        rw [HE.out, HA.out]
        exact HY.out
    have b3 : (m.kind == 3) = false := by simpa using h3
    by_cases h5 : m.kind = 5
    · have b5 : (m.kind == 5) = true := by rw [h5]; rfl
      have HE := Lib.hid (tell_bands s k m h5)
      clear h3 h5
      have m_kind : w3.cell? ⟨w.heap.size, 0, none⟩ = some (.int .i64 m.kind) := HS.out.msg.cell 0 rfl
      have m_price : w3.cell? ⟨w.heap.size, 6, none⟩ = some (.int .i64 m.price) := HS.out.msg.cell 6 rfl
      have m_qty : w3.cell? ⟨w.heap.size, 7, none⟩ = some (.int .i64 m.qty) := HS.out.msg.cell 7 rfl
      have x6 : w3.cell? ⟨B, 1, none⟩ = some (.int .i64 k.blo) := HS.out.box.cell 1 rfl
      have x7 : w3.cell? ⟨B, 2, none⟩ = some (.int .i64 k.bhi) := HS.out.box.cell 2 rfl
      have y6 : w3.frozen? ⟨B, 1, none⟩ = false := HS.out.box.free _
      have y7 : w3.frozen? ⟨B, 2, none⟩ = false := HS.out.box.free _
      have hBw : B ≠ w.heap.size := by have := HS.out.hB; omega
      have HX := Lib.hid ((HS.out.set 1 (.int .i64 m.price) { k with blo := m.price } rfl).set 2 (.int .i64 m.qty) { k with blo := m.price, bhi := m.qty } rfl)
      go_wp2_with fail
      go_meet
      rw [HE.out]
      exact HX.out
    have b5 : (m.kind == 5) = false := by simpa using h5
    by_cases h8 : m.kind = 8
    · have b8 : (m.kind == 8) = true := by rw [h8]; rfl
      have HE := Lib.hid (tell_extend s k m h8)
      clear h3 h5 h8
      have m_kind : w3.cell? ⟨w.heap.size, 0, none⟩ = some (.int .i64 m.kind) := HS.out.msg.cell 0 rfl
      have m_price : w3.cell? ⟨w.heap.size, 6, none⟩ = some (.int .i64 m.price) := HS.out.msg.cell 6 rfl
      have m_qty : w3.cell? ⟨w.heap.size, 7, none⟩ = some (.int .i64 m.qty) := HS.out.msg.cell 7 rfl
      have x6 : w3.cell? ⟨B, 3, none⟩ = some (.int .i64 k.clo) := HS.out.box.cell 3 rfl
      have x7 : w3.cell? ⟨B, 4, none⟩ = some (.int .i64 k.chi) := HS.out.box.cell 4 rfl
      have y6 : w3.frozen? ⟨B, 3, none⟩ = false := HS.out.box.free _
      have y7 : w3.frozen? ⟨B, 4, none⟩ = false := HS.out.box.free _
      have hBw : B ≠ w.heap.size := by have := HS.out.hB; omega
      have HX := Lib.hid ((HS.out.set 3 (.int .i64 m.price) { k with clo := m.price } rfl).set 4 (.int .i64 m.qty) { k with clo := m.price, chi := m.qty } rfl)
      go_wp2_with fail
      go_meet
      rw [HE.out]
      exact HX.out
    have b8 : (m.kind == 8) = false := by simpa using h8
    by_cases h6 : m.kind = 6
    · have b6 : (m.kind == 6) = true := by rw [h6]; rfl
      have HE := Lib.hid (tell_status s k m h6)
      clear h3 h5 h8 h6
      have m_kind : w3.cell? ⟨w.heap.size, 0, none⟩ = some (.int .i64 m.kind) := HS.out.msg.cell 0 rfl
      have m_code : w3.cell? ⟨w.heap.size, 8, none⟩ = some (.int .i64 m.code) := HS.out.msg.cell 8 rfl
      have x0 : w3.cell? ⟨B, 0, none⟩ = some (.int .i64 k.phase) := HS.out.box.cell 0 rfl
      have y0 : w3.frozen? ⟨B, 0, none⟩ = false := HS.out.box.free _
      have hBw : B ≠ w.heap.size := by have := HS.out.hB; omega
      have HX := Lib.hid (HS.out.set 0 (.int .i64 m.code) { k with phase := m.code } rfl)
      go_upto_region 25 with fail
      generalize w3.setCell ⟨B, 0, none⟩ (.int .i64 m.code) = w4 at HX ⊢
      clear m_kind m_code x0 y0 HS
      by_cases c3 : m.code = 3
      · have d3 : (m.code == 3) = true := by rw [c3]; rfl
        have HA := Lib.hid (show statusF s k m = { k with phase := m.code, deadline := IntKind.i64.wrap (m.tick + boundF s) } by unfold statusF; rw [if_pos c3])
        clear c3
        obtain ⟨b, off, hsa, hbl, hsc⟩ := hsy
        have hl34 := HX.out.chg
        have hsy2 := HX.out.rw.syms i hic
        obtain ⟨b', off', hsa', hbl', hsc'⟩ := hsy2
        have hbo : b' = b ∧ off' = off := by rw [hsa] at hsa'; injection hsa' with e; injection e with e1 e2 _; exact ⟨e1.symm, e2.symm⟩
        obtain ⟨rfl, rfl⟩ := hbo
        have HSI := Lib.hid (show c.syms[i] = s by rw [← HSY.out]; simp [List.getD, hic])
        rw [HSI.out] at hsc'
        have m_kind : w4.cell? ⟨w.heap.size, 0, none⟩ = some (.int .i64 m.kind) := HX.out.msg.cell 0 rfl
        have m_code : w4.cell? ⟨w.heap.size, 8, none⟩ = some (.int .i64 m.code) := HX.out.msg.cell 8 rfl
        have m_tick : w4.cell? ⟨w.heap.size, 3, none⟩ = some (.int .i64 m.tick) := HX.out.msg.cell 3 rfl
        have m_symi : w4.cell? ⟨w.heap.size, 1, none⟩ = some (.int .i64 i) := HI.out ▸ HX.out.msg.cell 1 rfl
        have q0 : w4.cell? ⟨Q, 0, none⟩ = some (.slice (some ⟨b', off', none⟩) c.syms.length sc) := hsa ▸ HX.out.rw.head.cell 0 rfl
        have s_grid : w4.cell? ⟨b', off' + i * 16, none⟩ = some (.int .i64 s.grid) := hsc' 0 _ rfl
        have s_ref : w4.cell? ⟨b', off' + i * 16 + 1, none⟩ = some (.int .i64 s.ref) := hsc' 1 _ rfl
        have s_static : w4.cell? ⟨b', off' + i * 16 + 2, none⟩ = some (.int .i64 s.static) := hsc' 2 _ rfl
        have s_dynamic : w4.cell? ⟨b', off' + i * 16 + 3, none⟩ = some (.int .i64 s.dynamic) := hsc' 3 _ rfl
        have s_window : w4.cell? ⟨b', off' + i * 16 + 4, none⟩ = some (.int .i64 s.window) := hsc' 4 _ rfl
        have s_move : w4.cell? ⟨b', off' + i * 16 + 5, none⟩ = some (.int .i64 s.move) := hsc' 5 _ rfl
        have s_limit : w4.cell? ⟨b', off' + i * 16 + 6, none⟩ = some (.int .i64 s.limit) := hsc' 6 _ rfl
        have s_pause : w4.cell? ⟨b', off' + i * 16 + 7, none⟩ = some (.int .i64 s.pause) := hsc' 7 _ rfl
        have s_ext : w4.cell? ⟨b', off' + i * 16 + 8, none⟩ = some (.int .i64 s.ext) := hsc' 8 _ rfl
        have s_maxExt : w4.cell? ⟨b', off' + i * 16 + 9, none⟩ = some (.int .i64 s.maxExt) := hsc' 9 _ rfl
        have s_collar : w4.cell? ⟨b', off' + i * 16 + 10, none⟩ = some (.int .i64 s.collar) := hsc' 10 _ rfl
        have s_widen : w4.cell? ⟨b', off' + i * 16 + 11, none⟩ = some (.int .i64 s.widen) := hsc' 11 _ rfl
        have s_self : w4.cell? ⟨b', off' + i * 16 + 12, none⟩ = some (.int .i64 s.self) := hsc' 12 _ rfl
        have s_slots : w4.cell? ⟨b', off' + i * 16 + 13, none⟩ = some (.int .i64 s.slots) := hsc' 13 _ rfl
        have s_levels : w4.cell? ⟨b', off' + i * 16 + 14, none⟩ = some (.int .i64 s.levels) := hsc' 14 _ rfl
        have s_short : w4.cell? ⟨b', off' + i * 16 + 15, none⟩ = some (.int .i64 s.short) := hsc' 15 _ rfl
        have g2 : (i : Int) < (c.syms.length : Int) := by omega
        have HSL := Lib.hid hsa
        clear hsa hsa' hsc hsc' hbl hbl' hl34
        go_upto_region 26 with fail
        have hb3 : Below w4.heap.size w4 w4 := Below.refl _ _
        have hBw : B ≠ w.heap.size := by have := HX.out.hB; omega
        have hBq : B ≠ Q := by have := HX.out.hB; omega
        have hBb : B ≠ b' := by have := HX.out.hB; have := HX.out.hsa _ _ HSL.out; omega
        go_region_held3 (fun w' => w'.cell? ⟨b', off' + i * 16, none⟩ = some (.int .i64 s.grid) ∧ w'.cell? ⟨b', off' + i * 16 + 1, none⟩ = some (.int .i64 s.ref) ∧ w'.cell? ⟨b', off' + i * 16 + 2, none⟩ = some (.int .i64 s.static) ∧ w'.cell? ⟨b', off' + i * 16 + 3, none⟩ = some (.int .i64 s.dynamic) ∧ w'.cell? ⟨b', off' + i * 16 + 4, none⟩ = some (.int .i64 s.window) ∧ w'.cell? ⟨b', off' + i * 16 + 5, none⟩ = some (.int .i64 s.move) ∧ w'.cell? ⟨b', off' + i * 16 + 6, none⟩ = some (.int .i64 s.limit) ∧ w'.cell? ⟨b', off' + i * 16 + 7, none⟩ = some (.int .i64 s.pause) ∧ w'.cell? ⟨b', off' + i * 16 + 8, none⟩ = some (.int .i64 s.ext) ∧ w'.cell? ⟨b', off' + i * 16 + 9, none⟩ = some (.int .i64 s.maxExt) ∧ w'.cell? ⟨b', off' + i * 16 + 10, none⟩ = some (.int .i64 s.collar) ∧ w'.cell? ⟨b', off' + i * 16 + 11, none⟩ = some (.int .i64 s.widen) ∧ w'.cell? ⟨b', off' + i * 16 + 12, none⟩ = some (.int .i64 s.self) ∧ w'.cell? ⟨b', off' + i * 16 + 13, none⟩ = some (.int .i64 s.slots) ∧ w'.cell? ⟨b', off' + i * 16 + 14, none⟩ = some (.int .i64 s.levels) ∧ w'.cell? ⟨b', off' + i * 16 + 15, none⟩ = some (.int .i64 s.short) ∧ w'.cell? ⟨w.heap.size, 1, none⟩ = some (.int .i64 i) ∧ w'.cell? ⟨w.heap.size, 3, none⟩ = some (.int .i64 m.tick) ∧ w'.cell? ⟨Q, 0, none⟩ = some (.slice (some ⟨b', off', none⟩) c.syms.length sc)) ((repeat' apply And.intro) <;> (first | assumption | exact cell_hi hb3 (by assumption) | (rw [World.cell?_setCell_far _ _ _ _ (by assumption)]; exact cell_hi hb3 (by assumption))))
          ((go_at_call 35; refine (rbound_any s _).mono ?_; rintro e w5 ⟨rfl, hb3⟩; have HZ := Lib.hid (HX.out.drew.below hb3); have x5 : w5.cell? ⟨B, 5, none⟩ = some (.int .i64 k.deadline) := HZ.out.box.cell 5 rfl; have y5 : w5.frozen? ⟨B, 5, none⟩ = false := HZ.out.box.free 5))
        go_wp2_with fail
        go_meet
        rw [HE.out, HA.out]
        exact HZ.out.set 5 _ _ rfl
      · have d3 : (m.code == 3) = false := by simpa using c3
        by_cases c45 : m.code = 4 ∨ m.code = 5
        · have HA := Lib.hid (show statusF s k m = { k with phase := m.code } by unfold statusF; rw [if_neg c3, if_pos c45])
          have d45 : (m.code != 4) = false ∨ ((m.code != 4) = true ∧ (m.code != 5) = false) := by rcases c45 with h | h <;> simp [h]
          clear c3 c45
          rcases d45 with d4 | ⟨d4, d5⟩
          all_goals
            have m_code : w4.cell? ⟨w.heap.size, 8, none⟩ = some (.int .i64 m.code) := HX.out.msg.cell 8 rfl
            go_wp2_with fail
            go_meet
            rw [HE.out, HA.out]
            exact HX.out
        · have HA := Lib.hid (show statusF s k m = { k with phase := m.code, deadline := 0 } by unfold statusF; rw [if_neg c3, if_neg c45])
          have d4 : (m.code != 4) = true := by have : ¬ m.code = 4 := fun h => c45 (.inl h); simp [this]
          have d5 : (m.code != 5) = true := by have : ¬ m.code = 5 := fun h => c45 (.inr h); simp [this]
          clear c3 c45
          have m_code : w4.cell? ⟨w.heap.size, 8, none⟩ = some (.int .i64 m.code) := HX.out.msg.cell 8 rfl
          have x5 : w4.cell? ⟨B, 5, none⟩ = some (.int .i64 k.deadline) := HX.out.box.cell 5 rfl
          have y5 : w4.frozen? ⟨B, 5, none⟩ = false := HX.out.box.free 5
          go_wp2_with fail
          go_meet
          rw [HE.out, HA.out]
          exact HX.out.set 5 _ _ rfl
    · have b6 : (m.kind == 6) = false := by simpa using h6
      have HE := Lib.hid (tell_none s k m h3 h5 h8 h6)
      clear h3 h5 h8 h6
      have m_kind : w3.cell? ⟨w.heap.size, 0, none⟩ = some (.int .i64 m.kind) := HS.out.msg.cell 0 rfl
      go_wp2_with fail
      go_meet
      rw [HE.out]
      exact HS.out
  case rest =>
    have HY := Lib.hid hcut
    clear hcut HS
    generalize hkk : tellF s k m = k' at HY
    have HKK := Lib.hid hkk
    clear hkk
    have hw := HY.out.msg.lt
    have m_kind : wc.cell? ⟨w.heap.size, 0, none⟩ = some (.int .i64 m.kind) := HY.out.msg.cell 0 rfl
    have m_sym : wc.cell? ⟨w.heap.size, 1, none⟩ = some (.int .i64 m.sym) := HY.out.msg.cell 1 rfl
    have m_seq : wc.cell? ⟨w.heap.size, 2, none⟩ = some (.int .i64 m.seq) := HY.out.msg.cell 2 rfl
    have m_tick : wc.cell? ⟨w.heap.size, 3, none⟩ = some (.int .i64 m.tick) := HY.out.msg.cell 3 rfl
    have m_id : wc.cell? ⟨w.heap.size, 4, none⟩ = some (.int .i64 m.id) := HY.out.msg.cell 4 rfl
    have m_wth : wc.cell? ⟨w.heap.size, 5, none⟩ = some (.int .i64 m.wth) := HY.out.msg.cell 5 rfl
    have m_price : wc.cell? ⟨w.heap.size, 6, none⟩ = some (.int .i64 m.price) := HY.out.msg.cell 6 rfl
    have m_qty : wc.cell? ⟨w.heap.size, 7, none⟩ = some (.int .i64 m.qty) := HY.out.msg.cell 7 rfl
    have m_code : wc.cell? ⟨w.heap.size, 8, none⟩ = some (.int .i64 m.code) := HY.out.msg.cell 8 rfl
    replace m_sym : wc.cell? ⟨w.heap.size, 1, none⟩ = some (.int .i64 i) := HI.out ▸ m_sym
    have q8 : wc.cell? ⟨Q, 8, none⟩ = some (.slice (some ⟨M, 0, none⟩) ks.length cap) := HY.out.rw.head.cell 8 rfl
    go_wp2_with fail
    refine wp_region_still_tail 8 (by kernel_rfl) (by kernel_rfl) ?_
    simp only [List.take_succ_cons, List.take_zero, List.drop_succ_cons, List.drop_zero]
    repeat (first | (refine still_load_blk rfl 48 _ rfl _ rfl _ _ HY.out.box _ Try.underlying48 rfl (by kernel_rfl) ?_) | still_step)
    refine wpStill_nil ?_
    change wpList _ _ _ _ _ wc.drew
    refine wpList_store_mid rfl 48 _ _ rfl M (i * 10) k'.cells rfl rfl (HY.out.rw.drew.there hi) (by kernel_rfl) (by simp [Kn.cells, Value.oneCell']) ?_
    have hr := HY.out.rw.drew.storeRow hi k'
    have hc2 := Chg2.setCells (M := M) k'.cells.toList (i * 10) _ HY.out.drew.chg (.inr (.inl rfl))
    have HR := Lib.hid hr
    have HC2 := Lib.hid hc2
    clear hr hc2 m_kind m_sym m_seq m_tick m_id m_wth m_price m_qty m_code q8
    generalize wc.drew.setCells M (i * 10) k'.cells.toList = wz at HR HC2 ⊢
    go_wp2
    go_ret
    exact ⟨rfl, HC2.out, by rw [HSY.out, HK.out, HKK.out]; exact HR.out⟩
end
end Go.Proofs.Ytggkhnmhhifniaa.Watch
