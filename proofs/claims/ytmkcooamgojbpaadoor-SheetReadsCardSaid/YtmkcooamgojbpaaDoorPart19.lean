/- Parts of the proof: RefOct. -/
import Derived.Test.YtmkcooamgojbpaaDoorPart18
import Derived.Laws.AppendOwnNone

/- damperref03: Num, Uint, turned, Int. -/
namespace Go.Proofs.YtmkcooamgojbpaaDoor.Octets
set_option linter.unusedVariables false
open Go.RowKit Go.Proofs.YtmkcooamgojbpaaDoor.Kit Go.Proofs.YtmkcooamgojbpaaDoor.Blk
attribute [local go_sem ↓] Go.wp_at_zero Go.wp_at_succ

theorem own_push {N : Nat} {k m : List Nat} {w W W' w5 : World} {v v' : Value} (hb : Below N w W) (hN : N ≤ W.heap.size) (hrow : Own N k v W) (hb' : Below W.heap.size W W')
    (hown : w5.ownsRow N 5 1 v' (k.length + m.length) (vals k ++ vals m)) (hgrow : W'.grownBy w5 v.ownBlock) : Own N (k ++ m) v' w5 ∧ Below N w w5 :=
  ⟨by unfold Own; rw [vals_app, List.length_append]; exact hown, (hb.trans (hb'.mono hN)).grown hgrow (Nat.le_trans hN hb'.size) (fun k e => (row_from' hrow e).1)⟩

set_option maxRecDepth 20000 in
set_option maxHeartbeats 2000000 in
theorem refnum_any (n : Nat) (hn : n < 18446744073709551616) (w : World) :
    Calls Tryd.prog 242 #[.int .u64 n] w fun e w' => BytesIs (numB n) w e w' := by
  obtain ⟨i0, hi0, hz0, hz1, hz2⟩ := info_parts infoU8
  go_enter Tryd.func242, Tryd.ntmps242
  go_wp2_with fail
  go_loopw [0, 3] (fun x v wr => ∃ (f m : Nat) (k : List Nat), x = .int .u64 m ∧ f ≤ 10 ∧ m < 128 ^ (f + 1) ∧ m < 18446744073709551616 ∧ k.length + f ≤ 10 ∧ k ++ numG f m = numB n ∧ Own w.heap.size k v wr ∧ Below w.heap.size w wr) (fun x _ _ => (intOf x).toNat)
  case atStart => exact ⟨10, n, [], rfl, by omega, Nat.lt_trans hn (by decide), hn, by simp, rfl, World.ownsRow_nil _ _ _ _, Below.refl _ _⟩
  case round =>
    obtain ⟨f, m, k, rfl, hf, hm, hm2, hkl, hkn, hrow, hbw⟩ := hrel
    have HROW := Lib.hid hrow
    have HBW := Lib.hid hbw
    have HKN := Lib.hid hkn
    have HM := Lib.hid hm
    obtain ⟨va, vc, rfl⟩ := slice_of hrow
    clear hrow hbw hkn hm
    by_cases hlt : 128 ≤ m
    · have g1 : (127 : Int) < (m : Int) := by omega
      obtain ⟨f', rfl⟩ : ∃ f', f = f' + 1 := by
        cases f with
        | zero => have := HM.out; rw [Nat.zero_add, Nat.pow_one] at this; omega
        | succ f' => exact ⟨f', rfl⟩
      have HM2 := Lib.hid (show m / 128 < 128 ^ (f' + 1) by have h := HM.out; rw [Nat.pow_succ] at h; exact Nat.div_lt_of_lt_mul (by rw [Nat.mul_comm]; exact h))
      obtain ⟨b, hb⟩ : ∃ b, b = m % 128 + 128 := ⟨_, rfl⟩
      have hb8 : (m : Int) % 128 + 128 = (b : Int) := by rw [hb]; omega
      have hb9 : (b : Int) % 256 = (b : Int) := by omega
      have HKN2 := Lib.hid (show k ++ [b] ++ numG f' (m / 128) = numB n by rw [← HKN.out, numG_more _ _ (by omega), hb]; simp)
      clear hb HM HKN
      have HNW := Lib.hid (Blk.new wr #[.int .u8 (b : Int)] 5 wr.heap.size rfl)
      have HA := Lib.hid (World.ownsRow.alloc HROW.out (.cells #[.int .u8 (b : Int)] 5))
      have hle : w.heap.size ≤ wr.heap.size := HBW.out.size
      go_wp2_with
      (at_builtin; refine wpList_append_lies _ (by rfl) _ _ _ (by rfl) w.heap.size 5 i0 (.int .u8 0) 1 1 Tryd.underlying40 hi0 hz0 hz1 hz2 (by rfl) (by decide) _ k.length (vals k) (by rfl) HA.out ⟨wr.heap.size, 0, none⟩ 1 1 [.int .u8 (b : Int)] (by rfl) (by rfl) (news_one HNW.out) (by simp [Value.oneCell']) (by decide) (by unfold maxLen; omega) (by omega) (by simp; omega) (wr.heap.size + 1) (by simp) ?_; intro ga ca w5 hown hgrow hat hlt5; have HPU := Lib.hid (own_push (m := [b]) HBW.out hle HROW.out ((Below.refl _ _).alloc (Nat.le_refl _) (.cells #[.int .u8 (b : Int)] 5)) hown hgrow); clear hown hgrow hat hlt5)
      go_roundw
      case rel => exact ⟨f', m / 128, k ++ [b], by simp, by omega, HM2.out, by omega, by rw [List.length_append]; simp; omega, HKN2.out, HPU.out.1, HPU.out.2⟩
      case measure => simp [intOf]; omega
    · have g1 : (m : Int) ≤ 127 := by omega
      have hb7 : (m : Int) % 256 = (m : Int) := by omega
      obtain ⟨b, rfl⟩ : ∃ b, b = m := ⟨_, rfl⟩
      have HFIN := Lib.hid (show k ++ [b] = numB n by rw [← HKN.out, numG_one _ _ (by omega)])
      clear HM HKN
      have HNW := Lib.hid (Blk.new wr #[.int .u8 (b : Int)] 5 wr.heap.size rfl)
      have HA := Lib.hid (World.ownsRow.alloc HROW.out (.cells #[.int .u8 (b : Int)] 5))
      have hle : w.heap.size ≤ wr.heap.size := HBW.out.size
      go_wp2_with
      (at_builtin; refine wpList_append_lies _ (by rfl) _ _ _ (by rfl) w.heap.size 5 i0 (.int .u8 0) 1 1 Tryd.underlying40 hi0 hz0 hz1 hz2 (by rfl) (by decide) _ k.length (vals k) (by rfl) HA.out ⟨wr.heap.size, 0, none⟩ 1 1 [.int .u8 (b : Int)] (by rfl) (by rfl) (news_one HNW.out) (by simp [Value.oneCell']) (by decide) (by unfold maxLen; omega) (by omega) (by simp; omega) (wr.heap.size + 1) (by simp) ?_; intro ga ca w5 hown hgrow hat hlt5; have HPU := Lib.hid (own_push (m := [b]) HBW.out hle HROW.out ((Below.refl _ _).alloc (Nat.le_refl _) (.cells #[.int .u8 (b : Int)] 5)) hown hgrow); clear hown hgrow hat hlt5)
      go_ret
      exact ⟨_, rfl, by rw [← HFIN.out]; exact HPU.out.1, HPU.out.2⟩

set_option maxRecDepth 20000 in
set_option maxHeartbeats 2000000 in
theorem refuint_any (n d : Nat) (hd1 : 1 ≤ d) (hd8 : d ≤ 8) (hn : n < 18446744073709551616) (w : World) :
    Calls Tryd.prog 247 #[.int .u64 n, .int .i64 d] w fun e w' => BytesIs (beB d n) w e w' := by
  obtain ⟨i0, hi0, hz0, hz1, hz2⟩ := info_parts infoU8
  have g1 : ¬ (d : Int) < 1 := by omega
  have g2 : ¬ (8 : Int) < (d : Int) := by omega
  go_enter Tryd.func247, Tryd.ntmps247
  go_wp2_with fail
  go_loopw [0, 5, 6] (fun x v i wr => ∃ (j m : Nat), x = .int .u64 m ∧ i = .int .i64 j ∧ j ≤ d ∧ m = n / 256 ^ j ∧ m < 18446744073709551616 ∧ (j = 0 → v = .slice none 0 0) ∧ Own w.heap.size (beB j n) v wr ∧ Below w.heap.size w wr) (fun _ _ i _ => d - (intOf i).toNat)
  case atStart => exact ⟨0, n, rfl, rfl, by omega, by simp, hn, fun _ => rfl, World.ownsRow_nil _ _ _ _, Below.refl _ _⟩
  case round =>
    obtain ⟨j, m, rfl, rfl, hj, hm, hm64, hnone, hrow, hbw⟩ := hrel
    have HROW := Lib.hid hrow
    have HBW := Lib.hid hbw
    clear hrow hbw
    by_cases hlt : j < d
    · have g3 : (j : Int) < (d : Int) := by omega
      have hle : w.heap.size ≤ wr.heap.size := HBW.out.size
      have HM2 := Lib.hid (show m / 256 = n / 256 ^ (j + 1) by rw [hm, Nat.div_div_eq_div_mul, Nat.pow_succ])
      have HKN := Lib.hid (show beB (j + 1) n = (m % 256) :: beB j n by rw [hm]; rfl)
      obtain ⟨b, hb⟩ : ∃ b, b = m % 256 := ⟨_, rfl⟩
      have hb8 : (m : Int) % 256 = (b : Int) := by rw [hb]; omega
      have hb9 : (b : Int) % 256 = (b : Int) := by omega
      rw [← hb] at HKN
      have HLEN := Lib.hid (beB_len j n)
      have HNEW := Lib.hid (show (wr.alloc (.cells #[.int .u8 (b : Int)] 5)).ownsRow w.heap.size 5 1 (.slice (some ⟨wr.heap.size, 0, none⟩) 1 1) 1 [.int .u8 (b : Int)] from ⟨rfl, .inr ⟨_, 1, #[.int .u8 (b : Int)], rfl, hle, Blk.new wr #[.int .u8 (b : Int)] 5 wr.heap.size rfl, Nat.le_refl _, by decide, rfl, rfl⟩⟩)
      generalize beB j n = k at HROW HKN HLEN
      rcases Nat.eq_zero_or_pos j with h0 | h0
      · obtain rfl := hnone h0
        have hnl : k = [] := by have := HLEN.out; cases k with
          | nil => rfl
          | cons => simp at this; omega
        subst hnl
        have HB2 := Lib.hid (HBW.out.alloc hle (.cells #[.int .u8 (b : Int)] 5))
        clear hb hm hnone
        go_wp2_with
        (at_builtin; refine wpList_append_own_none (by rfl) _ _ _ (by rfl) w.heap.size 5 i0 1 Tryd.underlying40 hi0 _ 1 [.int .u8 (b : Int)] (by rfl) HNEW.out (by rfl) ?_)
        go_roundw
        case rel => exact ⟨j + 1, m / 256, by simp, by go_num, by omega, HM2.out, by omega, fun h => by omega, by rw [HKN.out]; exact HNEW.out, HB2.out⟩
        case measure => simp [intOf]; omega
      · obtain ⟨g, cap, rfl, hg1, hg2⟩ := World.ownsRow.form HROW.out (by rw [HLEN.out]; exact h0)
        have hk0 : 0 < k.length := by rw [HLEN.out]; exact h0
        have hk8 : k.length ≤ 8 := by rw [HLEN.out]; omega
        have HOLD := Lib.hid (show ∀ j u, (vals k)[j]? = some u → (wr.alloc (.cells #[.int .u8 (b : Int)] 5)).cell? ((⟨g, 0, none⟩ : Addr).add j) = some u from World.ownsRow.cells (World.ownsRow.alloc HROW.out _) rfl)
        clear hb hm hnone
        go_wp2_with
        (at_builtin; refine wpList_append_lies _ (by rfl) _ _ _ (by rfl) w.heap.size 5 i0 (.int .u8 0) 1 1 Tryd.underlying40 hi0 hz0 hz1 hz2 (by rfl) (by decide) _ 1 [.int .u8 (b : Int)] (by rfl) HNEW.out ⟨g, 0, none⟩ k.length cap (vals k) (by rfl) (by rw [vals_len, Nat.mul_one]) HOLD.out (one_vals k) hk0 (by unfold maxLen; omega) (by omega) (by simp; omega) (wr.heap.size + 1) (by simp) ?_; intro ga ca w5 hown hgrow hat hlt5; have HPU := Lib.hid (show Own w.heap.size (b :: k) (.slice (some ⟨ga, 0, none⟩) (1 + k.length) ca) w5 ∧ Below w.heap.size w w5 from ⟨by unfold Own; rw [List.length_cons, Nat.add_comm k.length 1]; exact hown, (HBW.out.alloc hle (.cells #[.int .u8 (b : Int)] 5)).grown hgrow (by simp; omega) (fun j e => by have e : some wr.heap.size = some j := e; injection e with e; omega)⟩); clear hown hgrow hat hlt5)
        go_roundw
        case rel => exact ⟨j + 1, m / 256, by simp, by go_num, by omega, HM2.out, by omega, fun h => by omega, by rw [HKN.out]; exact HPU.out.1, HPU.out.2⟩
        case measure => simp [intOf]; omega
    · obtain rfl : j = d := by omega
      go_wp2_with fail
      go_ret
      exact ⟨_, rfl, HROW.out, HBW.out⟩
end Go.Proofs.YtmkcooamgojbpaaDoor.Octets
