/- The document's watch: Put. -/
import Derived.Test.YtggkhnmhhifniaaWatchRChk
import Derived.Test.YtggkhnmhhifniaaWatchAsk
namespace Go.Proofs.Ytggkhnmhhifniaa.Watch
open Go.RowKit Go.Proofs.Ytggkhnmhhifniaa.Kit Go.Proofs.Ytggkhnmhhifniaa.Blk Go.Proofs.Ytggkhnmhhifniaa.Symbol Go.Proofs.Ytggkhnmhhifniaa.Check Go.Proofs.Ytggkhnmhhifniaa.RefSymbol Go.Proofs.Ytggkhnmhhifniaa.CheckEq
attribute [local go_sem ↓] Go.wp_at_zero Go.wp_at_succ

theorem tell_level (sy : List Sym) (ks : List Kn) (m : Msg) (h : m.kind = 9) : tellAll sy ks m = levelF ks m := by unfold tellAll; rw [if_pos h]
theorem level_yes (ks : List Kn) (m : Msg) (h : m.code = 1 ∨ m.code = 2) : levelF ks m = ks.map (bump m.qty) := by unfold levelF; rw [if_pos h]
theorem level_no (ks : List Kn) (m : Msg) (h : ¬ (m.code = 1 ∨ m.code = 2)) : levelF ks m = ks := by unfold levelF; rw [if_neg h]
theorem tell_two (sy : List Sym) (ks : List Kn) (m : Msg) (h : m.kind = 2) : tellAll sy ks m = ks := by
  unfold tellAll; rw [if_neg (by omega)]
  cases ho : ofF ks.length m.sym with
  | none => rfl
  | some i =>
    have e : tellF (sy.getD i noSym) (ks.getD i Kn.zero) m = ks.getD i Kn.zero := by unfold tellF; rw [if_neg (by omega), if_neg (by omega), if_neg (by omega), if_neg (by omega)]
    have hl := ofF_lt _ _ _ ho
    show ks.set i (tellF (sy.getD i noSym) (ks.getD i Kn.zero) m) = ks
    rw [e]
    simp only [List.getD_eq_getElem?_getD, List.getElem?_eq_getElem hl, Option.getD_some, List.set_getElem_self]
theorem tell_own (sy : List Sym) (ks : List Kn) (m : Msg) (h : ¬ m.kind = 9) (i : Nat) (hi : i < ks.length) (hs : m.sym = i) :
    tellAll sy ks m = ks.set i (tellF (sy.getD i noSym) (ks.getD i Kn.zero) m) := by unfold tellAll; rw [if_neg h, hs, ofF_nat _ _ hi]

/-- What a message may find: it is no fault, and it is of a symbol, or of none at all. -/
theorem rfault_zero (ks : List Kn) (seq tick : Int) (m : Msg) (h : rfaultF ks seq tick m = 0) :
    (m.kind = 2 ∨ m.kind = 9) ∨ ∃ i : Nat, i < ks.length ∧ m.sym = i ∧ (m.kind = 3 → m.code = 1 ∨ m.code = 2 ∨ m.code = 3) := by
  unfold rfaultF at h
  split at h
  · omega
  split at h
  · omega
  split at h
  · split at h
    · exact .inl ‹_›
    · omega
  · rename_i i ho
    refine .inr ⟨i, ofF_lt _ _ _ ho, ?_, ?_⟩
    · unfold ofF at ho; split at ho
      · cases ho; omega
      · cases ho
    · intro h3
      rw [if_pos h3] at h
      unfold rtradeF at h
      by_cases h1 : m.code = 1
      · exact .inl h1
      · by_cases h2 : m.code = 2
        · exact .inr (.inl h2)
        · by_cases h3 : m.code = 3
          · exact .inr (.inr h3)
          · rw [if_neg h1, if_neg h2, if_neg h3] at h
            split at h <;> omega

section
variable (Q M cap : Nat) (c : Cfg) (sa ta : Option Addr) (sc tc : Nat) (ks : List Kn) (seq tick : Int) (m : Msg) (w : World) (h : RW w Q M cap c sa ta sc tc ks seq tick)
include h
set_option maxRecDepth 20000 in
set_option maxHeartbeats 4000000 in
theorem rput_no (hf : rfaultF ks seq tick m ≠ 0) :
    Calls Try.prog 12 #[.pointer (some ⟨Q, 0, none⟩), .agg m.cells] w fun e w' => e = .returned (.int .i64 (rfaultF ks seq tick m)) ∧ Chg2 w.heap.size Q M w w' ∧ RW w' Q M cap c sa ta sc tc ks seq tick := by
  have HP := Lib.hid (h.below ((Below.refl _ _).alloc (Nat.le_refl _) (.cells m.cells 40)))
  have HM := Lib.hid (Blk.new w m.cells 40 w.heap.size rfl)
  have HC := Lib.hid (show Chg2 w.heap.size Q M w (w.alloc (.cells m.cells 40)) from Chg2.of ((Below.refl _ _).alloc (Nat.le_refl _) _))
  have hbz : w.heap.size < (w.alloc (.cells m.cells 40)).heap.size := by simp
  have hQ := h.head.lt
  have hM := h.lt
  have hfew := h.few
  have HF := Lib.hid hf
  have HK := Lib.hid (fun w h => rcheck_any Q M cap c sa ta sc tc ks seq tick m w h)
  clear h hf
  go_enter Try.func12, Try.ntmps12
  go_upto_region 1 with fail
  generalize w.alloc (.cells m.cells 40) = W at HP HM HC hbz ⊢
  go_wp2_with (refine load_blk rfl 40 _ rfl _ rfl _ _ HM.out _ Try.underlying40 rfl (by kernel_rfl) ?_)
  refine (HK.out _ HP.out).mono ?_
  rintro e w1 ⟨rfl, hb1⟩
  replace HP := Lib.hid (HP.out.below hb1)
  replace HM := Lib.hid (HM.out.below hb1 HM.out.lt)
  replace HC := Lib.hid (HC.out.step (hb1.mono (by omega)))
  clear hb1 hbz HK
  have b0 : (rfaultF ks seq tick m != 0) = true := bne_iff_ne.2 HF.out
  clear HF
  generalize hfe : rfaultF ks seq tick m = f at b0 ⊢
  have HE := Lib.hid hfe
  clear hfe
  go_wp2
  go_ret
  exact ⟨ret_int HE.out.symm, HC.out, HP.out⟩

set_option maxRecDepth 20000 in
set_option maxHeartbeats 4000000 in
theorem rput_level (hf : rfaultF ks seq tick m = 0) (h9 : m.kind = 9) (hc : m.code = 1 ∨ m.code = 2) :
    Calls Try.prog 12 #[.pointer (some ⟨Q, 0, none⟩), .agg m.cells] w fun e w' => e = .returned (.int .i64 0) ∧ Chg2 w.heap.size Q M w w' ∧ RW w' Q M cap c sa ta sc tc (ks.map (bump m.qty)) m.seq m.tick := by
  have b12 : (m.code == 1) = true ∨ ((m.code == 1) = false ∧ (m.code == 2) = true) := by rcases hc with h | h <;> simp [h]
  rcases b12 with b1 | ⟨b1, b3⟩
  all_goals
    have b9 : (m.kind == 9) = true := by rw [h9]; rfl
    have b2 : (m.kind == 2) = false := by rw [h9]; rfl
    clear h9 hc
    have HP := Lib.hid (h.below ((Below.refl _ _).alloc (Nat.le_refl _) (.cells m.cells 40)))
    have HM := Lib.hid (Blk.new w m.cells 40 w.heap.size rfl)
    have HC := Lib.hid (show Chg2 w.heap.size Q M w (w.alloc (.cells m.cells 40)) from Chg2.of ((Below.refl _ _).alloc (Nat.le_refl _) _))
    have hbz : w.heap.size < (w.alloc (.cells m.cells 40)).heap.size := by simp
    have hQ := h.head.lt
    have hM := h.lt
    have hfew := h.few
    have HF := Lib.hid hf
    have HK := Lib.hid (fun w h => rcheck_any Q M cap c sa ta sc tc ks seq tick m w h)
    clear h hf
    go_enter Try.func12, Try.ntmps12
    go_upto_region 1 with fail
    generalize w.alloc (.cells m.cells 40) = W at HP HM HC hbz ⊢
    go_wp2_with (refine load_blk rfl 40 _ rfl _ rfl _ _ HM.out _ Try.underlying40 rfl (by kernel_rfl) ?_)
    refine (HK.out _ HP.out).mono ?_
    rintro e w1 ⟨rfl, hb1⟩
    replace HP := Lib.hid (HP.out.below hb1)
    replace HM := Lib.hid (HM.out.below hb1 HM.out.lt)
    replace HC := Lib.hid (HC.out.step (hb1.mono (by omega)))
    clear hb1 hbz HK
    rw [HF.out]
    have q9 : w1.cell? ⟨Q, 9, none⟩ = some (.int .i64 seq) := HP.out.head.cell 9 rfl
    have q10 : w1.cell? ⟨Q, 10, none⟩ = some (.int .i64 tick) := HP.out.head.cell 10 rfl
    have f9 : w1.frozen? ⟨Q, 9, none⟩ = false := HP.out.head.free 9
    have f10 : w1.frozen? ⟨Q, 10, none⟩ = false := HP.out.head.free 10
    have hne : w.heap.size ≠ Q := by omega
    have m_seq : w1.cell? ⟨w.heap.size, 2, none⟩ = some (.int .i64 m.seq) := HM.out.cell 2 rfl
    have m_tick : w1.cell? ⟨w.heap.size, 3, none⟩ = some (.int .i64 m.tick) := HM.out.cell 3 rfl
    go_upto_region 6 with fail
    replace HP := Lib.hid ((HP.out.setSeq m.seq).setTick m.tick)
    replace HM := Lib.hid ((HM.out.apart ⟨Q, 9, none⟩ (.int .i64 m.seq) (by show Q ≠ w.heap.size; omega)).apart ⟨Q, 10, none⟩ (.int .i64 m.tick) (by show Q ≠ w.heap.size; omega))
    replace HC := Lib.hid ((HC.out.setCell ⟨Q, 9, none⟩ (.int .i64 m.seq) (.inl rfl)).setCell ⟨Q, 10, none⟩ (.int .i64 m.tick) (.inl rfl))
    generalize (w1.setCell ⟨Q, 9, none⟩ (.int .i64 m.seq)).setCell ⟨Q, 10, none⟩ (.int .i64 m.tick) = w2 at HP HM HC ⊢
    clear q9 q10 f9 f10 m_seq m_tick HF
    have m_kind : w2.cell? ⟨w.heap.size, 0, none⟩ = some (.int .i64 m.kind) := HM.out.cell 0 rfl
    have m_code : w2.cell? ⟨w.heap.size, 8, none⟩ = some (.int .i64 m.code) := HM.out.cell 8 rfl
    go_wp2_with fail
    clear m_kind m_code
    go_loopw [6] (fun i wr => ∃ k : Nat, k ≤ ks.length ∧ i = .int .i64 k ∧ RW wr Q M cap c sa ta sc tc (upTo m.qty ks k) m.seq m.tick ∧ Blk wr w.heap.size m.cells 40 ∧ Chg2 w.heap.size Q M w wr) (fun i _ => ks.length - (intOf i).toNat)
    case atStart => exact ⟨0, by omega, rfl, by rw [upTo_zero]; exact HP.out, HM.out, HC.out⟩
    case round =>
      clear HP HM HC
      obtain ⟨k, hk, rfl, hp, hm, hc⟩ := hrel
      by_cases hlt2 : k < ks.length
      · have hku : k < (upTo m.qty ks k).length := by rw [upTo_length]; exact hlt2
        have g0 : (0 : Int) ≤ (k : Int) := by omega
        have g1 : (k : Int) < (ks.length : Int) := by omega
        have p0 : wr.cell? ⟨Q, 8, none⟩ = some (.slice (some ⟨M, 0, none⟩) ks.length cap) := by have := hp.head.cell 8 rfl; rw [upTo_length] at this; exact this
        have k21 : wr.cell? ⟨M, k * 10 + 5, none⟩ = some (.int .i64 (ks.getD k Kn.zero).deadline) := by have := hp.row k hku 5 _ rfl; rw [upTo_getD _ _ _ hlt2] at this; exact this
        have f21 : wr.frozen? ⟨M, k * 10 + 5, none⟩ = false := hp.free _
        have m7 : wr.cell? ⟨w.heap.size, 7, none⟩ = some (.int .i64 m.qty) := hm.cell 7 rfl
        by_cases hd : (ks.getD k Kn.zero).deadline = 0
        · have HU := Lib.hid (upTo_stay m.qty ks k hlt2 hd)
          have d0 : ((ks.getD k Kn.zero).deadline != 0) = false := by rw [hd]; rfl
          have HP := Lib.hid hp
          have HM := Lib.hid hm
          have HC := Lib.hid hc
          clear hp hm hc hd
          generalize (ks.getD k Kn.zero).deadline = dl at k21 d0
          go_wp2
          go_roundw
          case rel => exact ⟨k + 1, by omega, by go_num, by rw [HU.out]; exact HP.out, HM.out, HC.out⟩
          case measure => simp [intOf]; omega
        · have HU := Lib.hid (upTo_set m.qty ks k hlt2)
          have d0 : ((ks.getD k Kn.zero).deadline != 0) = true := bne_iff_ne.2 hd
          have HE := Lib.hid (show bump m.qty (ks.getD k Kn.zero) = { ks.getD k Kn.zero with deadline := wrap64 ((ks.getD k Kn.zero).deadline + m.qty) } by unfold bump; rw [if_neg hd])
          have HS2 := Lib.hid (RW.below (hp.store k hku 5 (by decide) (.int .i64 (wrap64 ((ks.getD k Kn.zero).deadline + m.qty))) { ks.getD k Kn.zero with deadline := wrap64 ((ks.getD k Kn.zero).deadline + m.qty) } (by rw [upTo_getD _ _ _ hlt2]; rfl)) (Below.refl _ _).drew)
          have hne : w.heap.size ≠ M := by omega
          have HM := Lib.hid ((hm.apart ⟨M, k * 10 + 5, none⟩ (.int .i64 (wrap64 ((ks.getD k Kn.zero).deadline + m.qty))) (by show M ≠ w.heap.size; omega)).drew)
          have HC := Lib.hid ((hc.setCell ⟨M, k * 10 + 5, none⟩ (.int .i64 (wrap64 ((ks.getD k Kn.zero).deadline + m.qty))) (Or.inr (Or.inl rfl))).drew)
          have HP := Lib.hid hp
          clear hp hm hc hd
          generalize hdl : (ks.getD k Kn.zero).deadline = dl at k21 d0 HM HC
          have HDL := Lib.hid hdl
          clear hdl
          go_wp2_with fail
          refine wp_region_still_tail 18 (by kernel_rfl) (by kernel_rfl) ?_
          simp only [List.take_succ_cons, List.take_zero, List.drop_succ_cons, List.drop_zero]
          repeat still_step
          refine wpStill_nil ?_
          change wpList _ _ _ _ _ wr.drew
          go_wp2
          go_roundw
          case rel =>
            refine ⟨k + 1, by omega, by go_num, ?_, HM.out, HC.out⟩
            have h5 := HS2.out
            rw [← HE.out, HU.out, HDL.out] at h5
            exact h5
          case measure => simp [intOf]; omega
      · have he := upTo_all m.qty ks k (by omega)
        have g1 : (ks.length : Int) ≤ (k : Int) := by omega
        have p0 : wr.cell? ⟨Q, 8, none⟩ = some (.slice (some ⟨M, 0, none⟩) ks.length cap) := by have := hp.head.cell 8 rfl; rw [upTo_length] at this; exact this
        rw [he] at hp
        have HP := Lib.hid hp
        have HC := Lib.hid hc
        have m_kind : wr.cell? ⟨w.heap.size, 0, none⟩ = some (.int .i64 m.kind) := hm.cell 0 rfl
        clear hp hm hc he
        go_wp2
        go_ret
        exact ⟨rfl, HC.out, HP.out⟩

set_option maxRecDepth 20000 in
set_option maxHeartbeats 4000000 in
theorem rput_rest (hf : rfaultF ks seq tick m = 0) (h9 : m.kind = 2 ∨ m.kind = 9) (hc : m.kind = 9 → ¬ (m.code = 1 ∨ m.code = 2)) :
    Calls Try.prog 12 #[.pointer (some ⟨Q, 0, none⟩), .agg m.cells] w fun e w' => e = .returned (.int .i64 0) ∧ Chg2 w.heap.size Q M w w' ∧ RW w' Q M cap c sa ta sc tc ks m.seq m.tick := by
  have b : ((m.kind == 9) = false ∧ (m.kind == 2) = true) ∨ ((m.kind == 9) = true ∧ (m.kind == 2) = false ∧ (m.code == 1) = false ∧ (m.code == 2) = false) := by
    rcases h9 with h | h
    · exact .inl (by simp [h])
    · exact .inr (by have := hc h; simp [h]; omega)
  clear h9 hc
  rcases b with ⟨b1, b2⟩ | ⟨b1, b2, b3, b4⟩
  all_goals
    have HP := Lib.hid (h.below ((Below.refl _ _).alloc (Nat.le_refl _) (.cells m.cells 40)))
    have HM := Lib.hid (Blk.new w m.cells 40 w.heap.size rfl)
    have HC := Lib.hid (show Chg2 w.heap.size Q M w (w.alloc (.cells m.cells 40)) from Chg2.of ((Below.refl _ _).alloc (Nat.le_refl _) _))
    have hbz : w.heap.size < (w.alloc (.cells m.cells 40)).heap.size := by simp
    have hQ := h.head.lt
    have hM := h.lt
    have hfew := h.few
    have HF := Lib.hid hf
    have HK := Lib.hid (fun w h => rcheck_any Q M cap c sa ta sc tc ks seq tick m w h)
    clear h hf
    go_enter Try.func12, Try.ntmps12
    go_upto_region 1 with fail
    generalize w.alloc (.cells m.cells 40) = W at HP HM HC hbz ⊢
    go_wp2_with (refine load_blk rfl 40 _ rfl _ rfl _ _ HM.out _ Try.underlying40 rfl (by kernel_rfl) ?_)
    refine (HK.out _ HP.out).mono ?_
    rintro e w1 ⟨rfl, hb1⟩
    replace HP := Lib.hid (HP.out.below hb1)
    replace HM := Lib.hid (HM.out.below hb1 HM.out.lt)
    replace HC := Lib.hid (HC.out.step (hb1.mono (by omega)))
    clear hb1 hbz HK
    rw [HF.out]
    have q9 : w1.cell? ⟨Q, 9, none⟩ = some (.int .i64 seq) := HP.out.head.cell 9 rfl
    have q10 : w1.cell? ⟨Q, 10, none⟩ = some (.int .i64 tick) := HP.out.head.cell 10 rfl
    have f9 : w1.frozen? ⟨Q, 9, none⟩ = false := HP.out.head.free 9
    have f10 : w1.frozen? ⟨Q, 10, none⟩ = false := HP.out.head.free 10
    have hne : w.heap.size ≠ Q := by omega
    have m_seq : w1.cell? ⟨w.heap.size, 2, none⟩ = some (.int .i64 m.seq) := HM.out.cell 2 rfl
    have m_tick : w1.cell? ⟨w.heap.size, 3, none⟩ = some (.int .i64 m.tick) := HM.out.cell 3 rfl
    go_upto_region 6 with fail
    replace HP := Lib.hid ((HP.out.setSeq m.seq).setTick m.tick)
    replace HM := Lib.hid ((HM.out.apart ⟨Q, 9, none⟩ (.int .i64 m.seq) (by show Q ≠ w.heap.size; omega)).apart ⟨Q, 10, none⟩ (.int .i64 m.tick) (by show Q ≠ w.heap.size; omega))
    replace HC := Lib.hid ((HC.out.setCell ⟨Q, 9, none⟩ (.int .i64 m.seq) (.inl rfl)).setCell ⟨Q, 10, none⟩ (.int .i64 m.tick) (.inl rfl))
    generalize (w1.setCell ⟨Q, 9, none⟩ (.int .i64 m.seq)).setCell ⟨Q, 10, none⟩ (.int .i64 m.tick) = w2 at HP HM HC ⊢
    clear q9 q10 f9 f10 m_seq m_tick HF
    have m_kind : w2.cell? ⟨w.heap.size, 0, none⟩ = some (.int .i64 m.kind) := HM.out.cell 0 rfl
    have m_code : w2.cell? ⟨w.heap.size, 8, none⟩ = some (.int .i64 m.code) := HM.out.cell 8 rfl
    go_wp2
    go_ret
    exact ⟨rfl, HC.out, HP.out⟩
end
end Go.Proofs.Ytggkhnmhhifniaa.Watch
