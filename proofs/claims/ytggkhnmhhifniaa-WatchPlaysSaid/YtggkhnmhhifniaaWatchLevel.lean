/- (*watch.Watch).level: a halt of the market. -/
import Derived.Test.YtggkhnmhhifniaaWatchPut
import Derived.StillTailTactics
namespace Go.Proofs.Ytggkhnmhhifniaa.Watch
open Go.RowKit Go.Proofs.Ytggkhnmhhifniaa.Kit Go.Proofs.Ytggkhnmhhifniaa.Blk Go.Proofs.Ytggkhnmhhifniaa.Symbol
attribute [local go_sem ↓] Go.wp_at_zero Go.wp_at_succ

def bump (q : Int) (k : Kn) : Kn := if k.deadline = 0 then k else { k with deadline := wrap64 (k.deadline + q) }
def levelF (ks : List Kn) (m : Msg) : List Kn := if m.code = 1 ∨ m.code = 2 then ks.map (bump m.qty) else ks
def upTo (q : Int) (ks : List Kn) (k : Nat) : List Kn := (ks.take k).map (bump q) ++ ks.drop k
theorem upTo_zero (q : Int) (ks : List Kn) : upTo q ks 0 = ks := by simp [upTo]
theorem upTo_all (q : Int) (ks : List Kn) (k : Nat) (h : ks.length ≤ k) : upTo q ks k = ks.map (bump q) := by
  simp [upTo, List.take_of_length_le h, List.drop_eq_nil_of_le h]
theorem upTo_length (q : Int) (ks : List Kn) (k : Nat) : (upTo q ks k).length = ks.length := by
  simp [upTo]; omega
theorem upTo_getD (q : Int) (ks : List Kn) (k : Nat) (h : k < ks.length) : (upTo q ks k).getD k Kn.zero = ks.getD k Kn.zero := by
  have h1 : ((ks.take k).map (bump q)).length = k := by simp; omega
  unfold upTo
  rw [List.getD_eq_getElem?_getD, List.getElem?_append_right (by omega), h1, Nat.sub_self, List.getElem?_drop, Nat.add_zero, ← List.getD_eq_getElem?_getD]
theorem upTo_set (q : Int) (ks : List Kn) (k : Nat) (h : k < ks.length) : (upTo q ks k).set k (bump q (ks.getD k Kn.zero)) = upTo q ks (k + 1) := by
  have h1 : ((ks.take k).map (bump q)).length = k := by simp; omega
  unfold upTo
  rw [List.set_append_right _ _ (by omega), h1, Nat.sub_self, List.drop_eq_getElem_cons h, List.set_cons_zero, List.take_succ_eq_append_getElem h, List.map_append]
  simp [List.getD, h]

theorem upTo_stay (q : Int) (ks : List Kn) (k : Nat) (h : k < ks.length) (hd : (ks.getD k Kn.zero).deadline = 0) : upTo q ks (k + 1) = upTo q ks k := by
  rw [← upTo_set q ks k h]
  have e : bump q (ks.getD k Kn.zero) = ks.getD k Kn.zero := by unfold bump; rw [if_pos hd]
  have hl : k < (upTo q ks k).length := by rw [upTo_length]; exact h
  rw [e, ← upTo_getD q ks k h, List.getD_eq_getElem?_getD, List.getElem?_eq_getElem hl, Option.getD_some, List.set_getElem_self]

set_option maxRecDepth 20000 in
set_option maxHeartbeats 4000000 in
theorem level_any (P L cap : Nat) (sy : List Sym) (ks : List Kn) (seq tick : Int) (m : Msg) (w : World) (h : PW w P L cap sy ks seq tick) :
    Calls Try.prog 32 #[.pointer (some ⟨P, 0, none⟩), .agg m.cells] w fun e w' =>
    e = .returned (.tuple #[]) ∧ PW w' P L cap sy (levelF ks m) seq tick ∧ Chg w.heap.size L w w' := by
  have HP := Lib.hid (h.below ((Below.refl _ _).alloc (Nat.le_refl _) (.cells m.cells 40)))
  have HM := Lib.hid (Blk.new w m.cells 40 w.heap.size rfl)
  have HC := Lib.hid (show Chg w.heap.size L w (w.alloc (.cells m.cells 40)) from (Chg.refl _ _ _).alloc (Nat.le_refl _) _)
  have hlt := h.lt
  have hfew := h.few
  clear h
  by_cases hc : m.code = 1 ∨ m.code = 2
  · have HS := Lib.hid (show levelF ks m = ks.map (bump m.qty) by simp [levelF, hc])
    have b12 : (m.code != 1) = false ∨ ((m.code != 1) = true ∧ (m.code != 2) = false) := by rcases hc with h | h <;> simp [h]
    clear hc
    rcases b12 with b1 | ⟨b1, b2⟩
    all_goals
      go_enter Try.func32, Try.ntmps32
      go_upto_region 1 with fail
      generalize w.alloc (.cells m.cells 40) = W at HP HM HC ⊢
      have m8 : W.cell? ⟨w.heap.size, 8, none⟩ = some (.int .i64 m.code) := HM.out.cell 8 rfl
      have p0 : W.cell? ⟨P, 0, none⟩ = some (.slice (some ⟨L, 0, none⟩) ks.length cap) := HP.out.head.cell 0 rfl
      go_wp2_with fail
      clear m8 p0
      go_loopw [19] (fun i wr => ∃ k : Nat, k ≤ ks.length ∧ i = .int .i64 k ∧ PW wr P L cap sy (upTo m.qty ks k) seq tick ∧ Blk wr w.heap.size m.cells 40 ∧ Chg w.heap.size L w wr) (fun i _ => ks.length - (intOf i).toNat)
      case atStart => exact ⟨0, by omega, rfl, by rw [upTo_zero]; exact HP.out, HM.out, HC.out⟩
      case round =>
        clear HP HM HC
        obtain ⟨k, hk, rfl, hp, hm, hc⟩ := hrel
        by_cases hlt2 : k < ks.length
        · have hku : k < (upTo m.qty ks k).length := by rw [upTo_length]; exact hlt2
          have g0 : (0 : Int) ≤ (k : Int) := by omega
          have g1 : (k : Int) < (ks.length : Int) := by omega
          have p0 : wr.cell? ⟨P, 0, none⟩ = some (.slice (some ⟨L, 0, none⟩) ks.length cap) := by have := hp.head.cell 0 rfl; rw [upTo_length] at this; exact this
          have k21 : wr.cell? ⟨L, k * 26 + 21, none⟩ = some (.int .i64 (ks.getD k Kn.zero).deadline) := by have := hp.row k hku 21 _ rfl; rw [upTo_getD _ _ _ hlt2] at this; exact this
          have f21 : wr.frozen? ⟨L, k * 26 + 21, none⟩ = false := hp.free _
          have m7 : wr.cell? ⟨w.heap.size, 7, none⟩ = some (.int .i64 m.qty) := hm.cell 7 rfl
          by_cases hd : (ks.getD k Kn.zero).deadline = 0
          · have HU := Lib.hid (upTo_stay m.qty ks k hlt2 hd)
            have d0 : ((ks.getD k Kn.zero).deadline != 0) = false := by rw [hd]; rfl
            have HP := Lib.hid hp
            have HM := Lib.hid hm
            have HC := Lib.hid hc
            clear hp hm hc hd
            generalize (ks.getD k Kn.zero).deadline = dl at k21 d0
            go_wp2
            go_roundw
            case rel => exact ⟨k + 1, by omega, by go_num, by rw [HU.out]; exact HP.out, HM.out, HC.out⟩
            case measure => simp [intOf]; omega
          · have HU := Lib.hid (upTo_set m.qty ks k hlt2)
            have d0 : ((ks.getD k Kn.zero).deadline != 0) = true := bne_iff_ne.2 hd
            have HE := Lib.hid (show bump m.qty (ks.getD k Kn.zero) = { ks.getD k Kn.zero with deadline := wrap64 ((ks.getD k Kn.zero).deadline + m.qty) } by unfold bump; rw [if_neg hd])
            have HS2 := Lib.hid (PW.below (hp.store k hku 21 (by decide) (.int .i64 (wrap64 ((ks.getD k Kn.zero).deadline + m.qty))) { ks.getD k Kn.zero with deadline := wrap64 ((ks.getD k Kn.zero).deadline + m.qty) } (by rw [upTo_getD _ _ _ hlt2]; rfl)) (Below.refl _ _).drew)
            have hne : w.heap.size ≠ L := by omega
            have HM := Lib.hid ((hm.apart ⟨L, k * 26 + 21, none⟩ (.int .i64 (wrap64 ((ks.getD k Kn.zero).deadline + m.qty))) (by show L ≠ w.heap.size; omega)).drew)
            have HC := Lib.hid ((hc.setCell ⟨L, k * 26 + 21, none⟩ (.int .i64 (wrap64 ((ks.getD k Kn.zero).deadline + m.qty))) (Or.inl rfl)).drew)
            have HP := Lib.hid hp
            clear hp hm hc hd
            generalize hdl : (ks.getD k Kn.zero).deadline = dl at k21 d0 HM HC
            have HDL := Lib.hid hdl
            clear hdl
            go_wp2_with fail
            go_still_tail 9, (by kernel_rfl)
            change wpList _ _ _ _ _ wr.drew
            go_wp2
            go_roundw
            case rel =>
              refine ⟨k + 1, by omega, by go_num, ?_, HM.out, HC.out⟩
              have h5 := HS2.out
              rw [← HE.out, HU.out, HDL.out] at h5
              exact h5
            case measure => simp [intOf]; omega
        · have he := upTo_all m.qty ks k (by omega)
          have g1 : (ks.length : Int) ≤ (k : Int) := by omega
          rw [he] at hp
          have HP := Lib.hid hp
          have HC := Lib.hid hc
          clear hp hm hc
          go_wp2
          go_end0
          exact ⟨rfl, by rw [HS.out]; exact HP.out, HC.out⟩
  · have HS := Lib.hid (show levelF ks m = ks by simp [levelF, hc])
    have b1 : (m.code != 1) = true := by have : ¬ m.code = 1 := fun h => hc (Or.inl h); simp [this]
    have b2 : (m.code != 2) = true := by have : ¬ m.code = 2 := fun h => hc (Or.inr h); simp [this]
    clear hc
    go_enter Try.func32, Try.ntmps32
    go_upto_region 1 with fail
    generalize w.alloc (.cells m.cells 40) = W at HP HM HC ⊢
    have m8 : W.cell? ⟨w.heap.size, 8, none⟩ = some (.int .i64 m.code) := HM.out.cell 8 rfl
    go_wp2_with fail
    refine bodyPost_ret (results_none rfl _ _ _) rfl ?_
    exact ⟨rfl, by rw [HS.out]; exact HP.out, HC.out⟩
end Go.Proofs.Ytggkhnmhhifniaa.Watch
