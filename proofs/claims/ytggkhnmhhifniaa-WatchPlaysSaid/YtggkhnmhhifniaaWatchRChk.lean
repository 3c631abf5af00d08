/- The document's watch: Bound, Check. -/
import Derived.Test.YtggkhnmhhifniaaWatchRW
import Derived.Test.YtggkhnmhhifniaaCheckEq
import Derived.Test.YtggkhnmhhifniaaStill
namespace Go.Proofs.Ytggkhnmhhifniaa.Watch
open Go.RowKit Go.Proofs.Ytggkhnmhhifniaa.Kit Go.Proofs.Ytggkhnmhhifniaa.Blk Go.Proofs.Ytggkhnmhhifniaa.Symbol Go.Proofs.Ytggkhnmhhifniaa.Check Go.Proofs.Ytggkhnmhhifniaa.RefSymbol Go.Proofs.Ytggkhnmhhifniaa.CheckEq
attribute [local go_sem ↓] Go.wp_at_zero Go.wp_at_succ

set_option maxHeartbeats 1000000 in
theorem rbound_any (s : Sym) (w : World) : Calls Try.prog 35 #[.agg s.cells] w fun e w' => e = .returned (.int .i64 (boundF s)) ∧ Below w.heap.size w w' := by
  have HB := Lib.hid (Blk.new w s.cells 73 w.heap.size rfl)
  have HA := Lib.hid (show Below w.heap.size w (w.alloc (.cells s.cells 73)) from (Below.refl _ _).alloc (Nat.le_refl _) _)
  go_enter Try.func35, Try.ntmps35
  go_upto_region 1 with fail
  generalize w.alloc (.cells s.cells 73) = W at HB HA ⊢
  have HC := Lib.hid (HA.out.alloc HA.out.size (.cells s.cells 73))
  have HO := Lib.hid (HB.out.old (.cells s.cells 73))
  go_wp2_with (refine load_blk rfl 73 _ rfl _ rfl _ _ HB.out _ Try.underlying73 rfl (by kernel_rfl) ?_)
  refine (symbol_ref s _).mono ?_
  rintro e w1 ⟨rfl, rfl⟩
  generalize W.alloc (.cells s.cells 73) = W1 at HC HO ⊢
  have s_pause : W1.cell? ⟨w.heap.size, 7, none⟩ = some (.int .i64 s.pause) := HO.out.cell 7 rfl
  have s_ext : W1.cell? ⟨w.heap.size, 8, none⟩ = some (.int .i64 s.ext) := HO.out.cell 8 rfl
  have s_maxExt : W1.cell? ⟨w.heap.size, 9, none⟩ = some (.int .i64 s.maxExt) := HO.out.cell 9 rfl
  go_wp2
  all_goals (have he := sym_eq s; go_ret; exact ⟨ret_int (by unfold boundF; (repeat' split) <;> (first | rfl | (simp_all; done) | omega | (exfalso; simp_all; omega) | (simp_all; omega))), HC.out⟩)

theorem ofF_none (n : Nat) (s : Int) (h : s < 0 ∨ (n : Int) ≤ s) : ofF n s = none := by unfold ofF; rw [if_neg (by omega)]
theorem ofF_nat (n i : Nat) (h : i < n) : ofF n (i : Int) = some i := by unfold ofF; rw [if_pos (by omega)]; simp
theorem rfault_seq (ks : List Kn) (seq tick : Int) (m : Msg) (h : IntKind.i64.wrap (m.seq - 1) ≠ seq ∨ m.seq < 1) : rfaultF ks seq tick m = 4 := by unfold rfaultF; rw [if_pos h]
theorem rfault_late (ks : List Kn) (seq tick : Int) (m : Msg) (h : ¬ (IntKind.i64.wrap (m.seq - 1) ≠ seq ∨ m.seq < 1)) (h2 : lateF ks tick m.tick = true) : rfaultF ks seq tick m = 15 := by
  unfold rfaultF; rw [if_neg h, if_pos h2]
theorem rfault_none (ks : List Kn) (seq tick : Int) (m : Msg) (h : ¬ (IntKind.i64.wrap (m.seq - 1) ≠ seq ∨ m.seq < 1)) (h2 : lateF ks tick m.tick = false) (h3 : m.sym < 0 ∨ (ks.length : Int) ≤ m.sym) :
    rfaultF ks seq tick m = if m.kind = 2 ∨ m.kind = 9 then 0 else 5 := by
  unfold rfaultF; rw [if_neg h, if_neg (by rw [h2]; decide), ofF_none _ _ h3]
theorem rfault_some (ks : List Kn) (seq tick : Int) (m : Msg) (h : ¬ (IntKind.i64.wrap (m.seq - 1) ≠ seq ∨ m.seq < 1)) (h2 : lateF ks tick m.tick = false) (i : Nat) (hi : i < ks.length) (h3 : m.sym = i) :
    rfaultF ks seq tick m = if m.kind = 3 then rtradeF (ks.getD i Kn.zero) m else 0 := by
  unfold rfaultF; rw [if_neg h, if_neg (by rw [h2]; decide), h3, ofF_nat _ _ hi]

set_option maxRecDepth 20000 in
set_option maxHeartbeats 4000000 in
theorem rcheck_any (Q M cap : Nat) (c : Cfg) (sa ta : Option Addr) (sc tc : Nat) (ks : List Kn) (seq tick : Int) (m : Msg) (w : World) (h : RW w Q M cap c sa ta sc tc ks seq tick) :
    Calls Try.prog 34 #[.pointer (some ⟨Q, 0, none⟩), .agg m.cells] w fun e w' => e = .returned (.int .i64 (rfaultF ks seq tick m)) ∧ Below w.heap.size w w' := by
  have HP := Lib.hid (h.below ((Below.refl _ _).alloc (Nat.le_refl _) (.cells m.cells 40)))
  have HM := Lib.hid (Blk.new w m.cells 40 w.heap.size rfl)
  have HC := Lib.hid (show Below w.heap.size w (w.alloc (.cells m.cells 40)) from (Below.refl _ _).alloc (Nat.le_refl _) _)
  have hfew := h.few
  clear h
  go_enter Try.func34, Try.ntmps34
  go_upto_region 1 with fail
  generalize w.alloc (.cells m.cells 40) = W at HP HM HC ⊢
  have m_kind : W.cell? ⟨w.heap.size, 0, none⟩ = some (.int .i64 m.kind) := HM.out.cell 0 rfl
  have m_sym : W.cell? ⟨w.heap.size, 1, none⟩ = some (.int .i64 m.sym) := HM.out.cell 1 rfl
  have m_seq : W.cell? ⟨w.heap.size, 2, none⟩ = some (.int .i64 m.seq) := HM.out.cell 2 rfl
  have m_tick : W.cell? ⟨w.heap.size, 3, none⟩ = some (.int .i64 m.tick) := HM.out.cell 3 rfl
  have m_id : W.cell? ⟨w.heap.size, 4, none⟩ = some (.int .i64 m.id) := HM.out.cell 4 rfl
  have m_wth : W.cell? ⟨w.heap.size, 5, none⟩ = some (.int .i64 m.wth) := HM.out.cell 5 rfl
  have m_price : W.cell? ⟨w.heap.size, 6, none⟩ = some (.int .i64 m.price) := HM.out.cell 6 rfl
  have m_qty : W.cell? ⟨w.heap.size, 7, none⟩ = some (.int .i64 m.qty) := HM.out.cell 7 rfl
  have m_code : W.cell? ⟨w.heap.size, 8, none⟩ = some (.int .i64 m.code) := HM.out.cell 8 rfl
  have q1 : W.cell? ⟨Q, 8, none⟩ = some (.slice (some ⟨M, 0, none⟩) ks.length cap) := HP.out.head.cell 8 rfl
  have q2 : W.cell? ⟨Q, 9, none⟩ = some (.int .i64 seq) := HP.out.head.cell 9 rfl
  by_cases hs1 : IntKind.i64.wrap (m.seq - 1) = seq
  · have b1 : (IntKind.i64.wrap (m.seq - 1) != seq) = false := by rw [hs1]; simp
    by_cases hs2 : m.seq < 1
    · have HS := Lib.hid (rfault_seq ks seq tick m (.inr hs2))
      clear hs1
      go_quiet (fail)
      go_wp2
      go_ret
      exact ⟨ret_int HS.out.symm, HC.out.drewN _⟩
    · have hs2' : 1 ≤ m.seq := by omega
      have HN := Lib.hid (show ¬ (IntKind.i64.wrap (m.seq - 1) ≠ seq ∨ m.seq < 1) by rw [hs1]; simp; omega)
      have HL := Lib.hid (fun w => rlate_any Q M cap c sa ta sc tc ks seq tick m.tick w)
      clear hs1 hs2
      go_quiet (fail)
      replace HP := Lib.hid ((HP.out).drewN nq)
      replace HM := Lib.hid ((HM.out).drewN nq)
      replace HC := Lib.hid ((HC.out).drewN nq)
      generalize W.drewN nq = W1 at HP HM HC ⊢
      clear m_kind m_sym m_seq m_tick m_id m_wth m_price m_qty m_code q1 q2
      have m_kind : W1.cell? ⟨w.heap.size, 0, none⟩ = some (.int .i64 m.kind) := HM.out.cell 0 rfl
      have m_sym : W1.cell? ⟨w.heap.size, 1, none⟩ = some (.int .i64 m.sym) := HM.out.cell 1 rfl
      have m_seq : W1.cell? ⟨w.heap.size, 2, none⟩ = some (.int .i64 m.seq) := HM.out.cell 2 rfl
      have m_tick : W1.cell? ⟨w.heap.size, 3, none⟩ = some (.int .i64 m.tick) := HM.out.cell 3 rfl
      have m_id : W1.cell? ⟨w.heap.size, 4, none⟩ = some (.int .i64 m.id) := HM.out.cell 4 rfl
      have m_wth : W1.cell? ⟨w.heap.size, 5, none⟩ = some (.int .i64 m.wth) := HM.out.cell 5 rfl
      have m_price : W1.cell? ⟨w.heap.size, 6, none⟩ = some (.int .i64 m.price) := HM.out.cell 6 rfl
      have m_qty : W1.cell? ⟨w.heap.size, 7, none⟩ = some (.int .i64 m.qty) := HM.out.cell 7 rfl
      have m_code : W1.cell? ⟨w.heap.size, 8, none⟩ = some (.int .i64 m.code) := HM.out.cell 8 rfl
      have q1 : W1.cell? ⟨Q, 8, none⟩ = some (.slice (some ⟨M, 0, none⟩) ks.length cap) := HP.out.head.cell 8 rfl
      go_wp2_with fail
      refine (HL.out _ HP.out).mono ?_
      rintro e w1 ⟨rfl, rfl⟩
      clear HL
      cases hlate : lateF ks tick m.tick with
      | true =>
        have HS := Lib.hid (rfault_late ks seq tick m HN.out hlate)
        go_wp2
        go_ret
        exact ⟨ret_int HS.out.symm, HC.out⟩
      | false =>
        by_cases h0 : m.sym < 0
        · have HS := Lib.hid (rfault_none ks seq tick m HN.out hlate (.inl h0))
          have b0 : decide (m.sym < 0) = true := by simpa using h0
          clear hlate
          go_wp2_with fail
          go_quiet (fail)
          replace HP := Lib.hid ((HP.out).drewN nq)
          replace HM := Lib.hid ((HM.out).drewN nq)
          replace HC := Lib.hid ((HC.out).drewN nq)
          generalize W1.drewN nq = W2 at HP HM HC ⊢
          clear m_kind m_sym m_seq m_tick m_id m_wth m_price m_qty m_code q1
          have m_kind : W2.cell? ⟨w.heap.size, 0, none⟩ = some (.int .i64 m.kind) := HM.out.cell 0 rfl
          have m_sym : W2.cell? ⟨w.heap.size, 1, none⟩ = some (.int .i64 m.sym) := HM.out.cell 1 rfl
          have m_seq : W2.cell? ⟨w.heap.size, 2, none⟩ = some (.int .i64 m.seq) := HM.out.cell 2 rfl
          have m_tick : W2.cell? ⟨w.heap.size, 3, none⟩ = some (.int .i64 m.tick) := HM.out.cell 3 rfl
          have m_id : W2.cell? ⟨w.heap.size, 4, none⟩ = some (.int .i64 m.id) := HM.out.cell 4 rfl
          have m_wth : W2.cell? ⟨w.heap.size, 5, none⟩ = some (.int .i64 m.wth) := HM.out.cell 5 rfl
          have m_price : W2.cell? ⟨w.heap.size, 6, none⟩ = some (.int .i64 m.price) := HM.out.cell 6 rfl
          have m_qty : W2.cell? ⟨w.heap.size, 7, none⟩ = some (.int .i64 m.qty) := HM.out.cell 7 rfl
          have m_code : W2.cell? ⟨w.heap.size, 8, none⟩ = some (.int .i64 m.code) := HM.out.cell 8 rfl
          go_wp2
          all_goals (go_ret; exact ⟨ret_int (by rw [HS.out]; (repeat' split) <;> (first | rfl | (simp_all; done) | omega | (exfalso; simp_all; omega) | (simp_all; omega))), HC.out⟩)
        · by_cases h1 : m.sym < ks.length
          · obtain ⟨i, hi⟩ := Int.eq_ofNat_of_zero_le (show 0 ≤ m.sym by omega)
            have hik : i < ks.length := by omega
            have HS := Lib.hid (rfault_some ks seq tick m HN.out hlate i hik hi)
            have b0 : decide (m.sym < 0) = false := by simpa using h0
            have b1 : decide ((ks.length : Int) ≤ m.sym) = false := by simp; omega
            have HI := Lib.hid hi
            clear hlate hi
            go_wp2_with fail
            go_quiet (fail)
            replace HP := Lib.hid ((HP.out).drewN nq)
            replace HM := Lib.hid ((HM.out).drewN nq)
            replace HC := Lib.hid ((HC.out).drewN nq)
            generalize W1.drewN nq = W2 at HP HM HC ⊢
            clear m_kind m_sym m_seq m_tick m_id m_wth m_price m_qty m_code q1 b0 b1
            have m_kind : W2.cell? ⟨w.heap.size, 0, none⟩ = some (.int .i64 m.kind) := HM.out.cell 0 rfl
            have m_sym : W2.cell? ⟨w.heap.size, 1, none⟩ = some (.int .i64 m.sym) := HM.out.cell 1 rfl
            have m_seq : W2.cell? ⟨w.heap.size, 2, none⟩ = some (.int .i64 m.seq) := HM.out.cell 2 rfl
            have m_tick : W2.cell? ⟨w.heap.size, 3, none⟩ = some (.int .i64 m.tick) := HM.out.cell 3 rfl
            have m_id : W2.cell? ⟨w.heap.size, 4, none⟩ = some (.int .i64 m.id) := HM.out.cell 4 rfl
            have m_wth : W2.cell? ⟨w.heap.size, 5, none⟩ = some (.int .i64 m.wth) := HM.out.cell 5 rfl
            have m_price : W2.cell? ⟨w.heap.size, 6, none⟩ = some (.int .i64 m.price) := HM.out.cell 6 rfl
            have m_qty : W2.cell? ⟨w.heap.size, 7, none⟩ = some (.int .i64 m.qty) := HM.out.cell 7 rfl
            have m_code : W2.cell? ⟨w.heap.size, 8, none⟩ = some (.int .i64 m.code) := HM.out.cell 8 rfl
            replace m_sym : W2.cell? ⟨w.heap.size, 1, none⟩ = some (.int .i64 i) := HI.out ▸ m_sym
            have q1 : W2.cell? ⟨Q, 8, none⟩ = some (.slice (some ⟨M, 0, none⟩) ks.length cap) := HP.out.head.cell 8 rfl
            have hrow := HP.out.row i hik
            generalize ks.getD i Kn.zero = k at hrow HS
            have hr : W2.rangeAt M (i * 10) k.cells.toList := fun j v hv => hrow j v (by simpa using hv)
            clear hrow
            have g0 : (0 : Int) ≤ (i : Int) := by omega
            have g1 : (i : Int) < (ks.length : Int) := by omega
            by_cases hk3 : m.kind = 3
            · have HS2 := Lib.hid (HS.out.trans (if_pos hk3))
              have b3 : (m.kind == 3) = true := by rw [hk3]; rfl
              clear hk3
              go_wp2_with fail
              refine wp_region_still_tail 9 (by kernel_rfl) (by kernel_rfl) ?_
              simp only [List.take_succ_cons, List.take_zero, List.drop_succ_cons, List.drop_zero]
              repeat (first | (refine still_load_blk rfl 40 _ rfl _ rfl _ _ HM.out _ Try.underlying40 rfl (by kernel_rfl) ?_) | (refine still_load_mid rfl 48 _ rfl _ _ rfl _ _ hr Try.underlying48 rfl (by kernel_rfl) ?_) | still_step)
              refine wpStill_nil ?_
              change wpList _ _ _ _ _ W2.drew
              go_wp2_with fail
              refine (rtrade_any k m _).mono ?_
              rintro e w1 ⟨rfl, hb⟩
              have HB := Lib.hid (HC.out.drew.trans (hb.mono HC.out.drew.size))
              clear hb
              go_wp2
              go_ret
              exact ⟨ret_int HS2.out.symm, HB.out⟩
            · have HS2 := Lib.hid (HS.out.trans (if_neg hk3))
              have b3 : (m.kind == 3) = false := by simpa using hk3
              clear hk3
              go_wp2
              go_ret
              exact ⟨ret_int HS2.out.symm, HC.out⟩
          · have HS := Lib.hid (rfault_none ks seq tick m HN.out hlate (.inr (by omega)))
            have b0 : decide (m.sym < 0) = false := by simpa using h0
            have b1 : decide ((ks.length : Int) ≤ m.sym) = true := by simp; omega
            clear hlate
            go_wp2_with fail
            go_quiet (fail)
            replace HP := Lib.hid ((HP.out).drewN nq)
            replace HM := Lib.hid ((HM.out).drewN nq)
            replace HC := Lib.hid ((HC.out).drewN nq)
            generalize W1.drewN nq = W2 at HP HM HC ⊢
            clear m_kind m_sym m_seq m_tick m_id m_wth m_price m_qty m_code q1
            have m_kind : W2.cell? ⟨w.heap.size, 0, none⟩ = some (.int .i64 m.kind) := HM.out.cell 0 rfl
            have m_sym : W2.cell? ⟨w.heap.size, 1, none⟩ = some (.int .i64 m.sym) := HM.out.cell 1 rfl
            have m_seq : W2.cell? ⟨w.heap.size, 2, none⟩ = some (.int .i64 m.seq) := HM.out.cell 2 rfl
            have m_tick : W2.cell? ⟨w.heap.size, 3, none⟩ = some (.int .i64 m.tick) := HM.out.cell 3 rfl
            have m_id : W2.cell? ⟨w.heap.size, 4, none⟩ = some (.int .i64 m.id) := HM.out.cell 4 rfl
            have m_wth : W2.cell? ⟨w.heap.size, 5, none⟩ = some (.int .i64 m.wth) := HM.out.cell 5 rfl
            have m_price : W2.cell? ⟨w.heap.size, 6, none⟩ = some (.int .i64 m.price) := HM.out.cell 6 rfl
            have m_qty : W2.cell? ⟨w.heap.size, 7, none⟩ = some (.int .i64 m.qty) := HM.out.cell 7 rfl
            have m_code : W2.cell? ⟨w.heap.size, 8, none⟩ = some (.int .i64 m.code) := HM.out.cell 8 rfl
            go_wp2
            all_goals (go_ret; exact ⟨ret_int (by rw [HS.out]; (repeat' split) <;> (first | rfl | (simp_all; done) | omega | (exfalso; simp_all; omega) | (simp_all; omega))), HC.out⟩)
  · have HS := Lib.hid (rfault_seq ks seq tick m (.inl hs1))
    have b1 : (IntKind.i64.wrap (m.seq - 1) != seq) = true := bne_iff_ne.2 hs1
    clear hs1
    go_quiet (fail)
    go_wp2
    go_ret
    exact ⟨ret_int HS.out.symm, HC.out.drewN _⟩
end Go.Proofs.Ytggkhnmhhifniaa.Watch
