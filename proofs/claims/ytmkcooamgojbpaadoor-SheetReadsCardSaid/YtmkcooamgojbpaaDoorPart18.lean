/- Parts of the proof: OctetsU, OctetsI. -/
import Derived.Test.YtmkcooamgojbpaaDoorPart11
import Derived.Deep.RegionHeld3

/- octets.Writer: Uint, Int, Bytes. -/
namespace Go.Proofs.YtmkcooamgojbpaaDoor.Octets
set_option linter.unusedVariables false
open Go.RowKit Go.Proofs.YtmkcooamgojbpaaDoor.Kit Go.Proofs.YtmkcooamgojbpaaDoor.Blk
attribute [local go_sem ↓] Go.wp_at_zero Go.wp_at_succ

/-- A number in k bytes, the greatest first. -/
def beB : Nat → Nat → List Nat
  | 0, _ => []
  | k + 1, n => (n / 256 ^ k % 256) :: beB k n
theorem beB_len (k n : Nat) : (beB k n).length = k := by induction k with
  | zero => rfl
  | succ k ih => simp [beB, ih]

set_option maxRecDepth 20000 in
set_option maxHeartbeats 2000000 in
theorem uint_any (N P : Nat) (hNP : N ≤ P) (l : List Nat) (hl : l.length ≤ 10000) (n d : Nat) (hd1 : 1 ≤ d) (hd8 : d ≤ 8) (hn : n < 18446744073709551616) (w : World) (hN : N ≤ w.heap.size) (hw : WS N P l w) :
    Calls Tryd.prog 246 #[.pointer (some ⟨P, 0, none⟩), .int .u64 n, .int .i64 d] w fun e w' => e = .returned (.pointer (some ⟨P, 0, none⟩)) ∧ WS N P (l ++ beB d n) w' ∧ Keep N P w w' := by
  obtain ⟨i0, hi0, hz0, hz1, hz2⟩ := info_parts infoU8
  have HW := Lib.hid hw
  clear hw
  have g1 : ¬ (d : Int) < 1 := by omega
  have g2 : ¬ (8 : Int) < (d : Int) := by omega
  go_enter Tryd.func246, Tryd.ntmps246
  go_wp2_with fail
  go_loopw [7] (fun x wr => ∃ (j : Nat) (k : List Nat), x = .int .i64 ((j : Int) - 1) ∧ j ≤ d ∧ k ++ beB j n = l ++ beB d n ∧ WS N P k wr ∧ Keep N P w wr) (fun x _ => (intOf x + 1).toNat)
  case atStart => exact ⟨d, l, by simp, by omega, rfl, HW.out, Keep.refl _ _ _⟩
  case round =>
    obtain ⟨j, k, rfl, hj, hkn, ⟨v, hv, hrow⟩, hkp⟩ := hrel
    have HV := Lib.hid hv
    have HROW := Lib.hid hrow
    have HKP := Lib.hid hkp
    have HKN := Lib.hid hkn
    obtain ⟨va, vc, rfl⟩ := slice_of hrow
    clear hv hrow hkp hkn
    by_cases hlt : 1 ≤ j
    · have g1 : (0 : Int) ≤ (j : Int) - 1 := by omega
      obtain ⟨i, rfl⟩ : ∃ i, j = i + 1 := ⟨j - 1, by omega⟩
      have hw8 : IntKind.i64.wrap (8 * (i : Int)) = ((8 * i : Nat) : Int) := by rw [show (8 * (i : Int)) = ((8 * i : Nat) : Int) by omega]; rw [show ∀ m : Int, IntKind.i64.wrap m = if 9223372036854775808 ≤ m % 18446744073709551616 then m % 18446744073709551616 - 18446744073709551616 else m % 18446744073709551616 from fun m => by simp [IntKind.wrap, IntKind.bits, IntKind.signed]]; omega
      have hsh : (n : Int) / 2 ^ (8 * (i : Int)).toNat = ((n / 256 ^ i : Nat) : Int) := by
        rw [show (8 * (i : Int)).toNat = 8 * i by omega, show (256 : Nat) ^ i = 2 ^ (8 * i) by rw [Nat.pow_mul]]
        simp
      obtain ⟨b, hb⟩ : ∃ b, b = n / 256 ^ i % 256 := ⟨_, rfl⟩
      have hb8 : IntKind.u8.wrap ((n : Int) / 256 ^ i) = (b : Int) := by rw [hb]; simp [IntKind.wrap, IntKind.bits, IntKind.signed]
      have HKN2 := Lib.hid (show k ++ [b] ++ beB i n = l ++ beB d n by rw [← HKN.out, hb]; simp [beB])
      have HKL := Lib.hid (show k.length + 1 + i = l.length + d by have h := congrArg List.length HKN2.out; simp [beB_len] at h; omega)
      clear hb HKN
      go_wp2_with fail
      refine wp_region_held_drew (S := (fun _ => True)) (by kernel_rfl) trivial (fun hHeld => ?_)
      replace HKP := Lib.hid (HKP.out.trans (Keep.below (w := wr) (w' := wr.drew) (Nat.le_trans hN HKP.out.bel.size) HV.out.lt (Below.refl _ _).drew))
      replace HV := Lib.hid (show Blk wr.drew P #[.slice va k.length vc] 273 from HV.out)
      replace HROW := Lib.hid (show wr.drew.ownsRow N 5 1 (.slice va k.length vc) k.length (vals k) from HROW.out)
      generalize wr.drew = wd at HKP HV HROW ⊢
      refine wpAnyH_take (i := 0) (oi := ⟨some 25, _, _, _, _, _⟩) (v := (.pointer (some ⟨P, 0, none⟩))) rfl (by kernel_rfl) (by kernel_rfl) (by kernel_rfl) (fun _ _ _ h => h) (Or.inl ⟨by rfl, fun w hSw => by (try dsimp only at hSw); go_simp⟩) (by assumption) ?_
      simp only [Act.put, List.setIfInBounds_toArray, List.set_cons_zero, List.set_cons_succ]
      refine wpAnyH_take (i := 1) (oi := ⟨some 26, _, _, _, _, _⟩) (v := (.pointer (some ⟨P, 0, none⟩))) rfl (by kernel_rfl) (by kernel_rfl) (by kernel_rfl) (fun _ _ _ h => h) (Or.inl ⟨by rfl, fun w hSw => by (try dsimp only at hSw); go_simp⟩) (by assumption) ?_
      simp only [Act.put, List.setIfInBounds_toArray, List.set_cons_zero, List.set_cons_succ]
      refine wpAnyH_take (i := 2) (oi := ⟨some 27, _, _, _, _, _⟩) (v := (.pointer (some ⟨P, 0, none⟩))) rfl (by kernel_rfl) (by kernel_rfl) (by kernel_rfl) (fun _ _ _ h => h) (Or.inl ⟨by rfl, fun w hSw => by (try dsimp only at hSw); go_simp⟩) (by assumption) ?_
      simp only [Act.put, List.setIfInBounds_toArray, List.set_cons_zero, List.set_cons_succ]
      refine wpAnyH_take (i := 3) (oi := ⟨some 28, _, _, _, _, _⟩) (v := (.pointer (some ⟨P, 0, none⟩))) rfl (by kernel_rfl) (by kernel_rfl) (by kernel_rfl) (fun _ _ _ h => h) (Or.inl ⟨by rfl, fun w hSw => by (try dsimp only at hSw); go_simp⟩) (by assumption) ?_
      simp only [Act.put, List.setIfInBounds_toArray, List.set_cons_zero, List.set_cons_succ]
      refine wpAnyH_take (i := 5) (oi := ⟨some 30, _, _, _, _, _⟩) (v := (.int .u64 n)) rfl (by kernel_rfl) (by kernel_rfl) (by kernel_rfl) (fun _ _ _ h => h) (Or.inl ⟨by rfl, fun w hSw => by (try dsimp only at hSw); go_simp⟩) (by assumption) ?_
      simp only [Act.put, List.setIfInBounds_toArray, List.set_cons_zero, List.set_cons_succ]
      refine wpAnyH_take (i := 6) (oi := ⟨some 31, _, _, _, _, _⟩) (v := (.int .i64 i)) rfl (by kernel_rfl) (by kernel_rfl) (by kernel_rfl) (fun _ _ _ h => h) (Or.inl ⟨by rfl, fun w hSw => by (try dsimp only at hSw); go_simp⟩) (by assumption) ?_
      simp only [Act.put, List.setIfInBounds_toArray, List.set_cons_zero, List.set_cons_succ]
      refine wpAnyH_take (i := 7) (oi := ⟨some 32, _, _, _, _, _⟩) (v := (.int .i64 ((8 * i : Nat) : Int))) rfl (by kernel_rfl) (by kernel_rfl) (by kernel_rfl) (fun _ _ _ h => h) (Or.inl ⟨by rfl, fun w hSw => by (try dsimp only at hSw); go_simp⟩) (by assumption) ?_
      simp only [Act.put, List.setIfInBounds_toArray, List.set_cons_zero, List.set_cons_succ]
      refine wpAnyH_take (i := 8) (oi := ⟨some 33, _, _, _, _, _⟩) (v := (.int .u64 ((n / 256 ^ i : Nat) : Int))) rfl (by kernel_rfl) (by kernel_rfl) (by kernel_rfl) (fun _ _ _ h => h) (Or.inl ⟨by rfl, fun w hSw => by (try dsimp only at hSw); go_simp⟩) (by assumption) ?_
      simp only [Act.put, List.setIfInBounds_toArray, List.set_cons_zero, List.set_cons_succ]
      refine wpAnyH_take (i := 9) (oi := ⟨some 34, _, _, _, _, _⟩) (v := (.int .u8 b)) rfl (by kernel_rfl) (by kernel_rfl) (by kernel_rfl) (fun _ _ _ h => h) (Or.inl ⟨by rfl, fun w hSw => by (try dsimp only at hSw); go_simp⟩) (by assumption) ?_
      simp only [Act.put, List.setIfInBounds_toArray, List.set_cons_zero, List.set_cons_succ]
      refine wpAnyH_ready (rs := [4, 10]) (by kernel_rfl) (by simp) ?_
      refine AllReadyH.cons (o := ⟨some 29, _, _, _, _, _⟩) rfl (fun KK hK => ?_) (AllReadyH.cons (o := ⟨some 35, _, _, _, _, _⟩) rfl (fun KK hK => ?_) AllReadyH.nil)
      ·
        have c0 : wd.cell? ⟨P, 0, none⟩ = some (.slice va k.length vc) := HV.out.cell 0 rfl
        go_simp
        refine hK.out _ _ trivial (fun hHeld => ?_)
        clear hK; try clear KK
        try simp only [Act.put, List.setIfInBounds_toArray, List.set_cons_zero, List.set_cons_succ]
        clear c0
        refine wpAnyH_ready (rs := [10]) (by kernel_rfl) (by simp) ?_
        refine AllReadyH.cons (o := ⟨some 35, _, _, _, _, _⟩) rfl (fun KK hK => ?_) AllReadyH.nil
        go_simp
        change KK _ (wd.alloc (.cells #[.int .u8 (b : Int)] 5))
        have HA := Lib.hid (HROW.out.alloc (.cells #[.int .u8 (b : Int)] 5))
        have HNW := Lib.hid (Blk.new wd #[.int .u8 (b : Int)] 5 wd.heap.size rfl)
        refine hK.out _ _ trivial (fun hHeld => ?_)
        clear hK; try clear KK
        try simp only [Act.put, List.setIfInBounds_toArray, List.set_cons_zero, List.set_cons_succ]
        have hle : N ≤ wd.heap.size := Nat.le_trans hN HKP.out.bel.size
        refine wpAnyH_ready (rs := [11]) (by kernel_rfl) (by simp) ?_
        refine AllReadyH.cons (o := ⟨some 36, _, _, _, _, _⟩) rfl (fun KK hK => ?_) AllReadyH.nil
        refine step_append_lies _ (by rfl) _ _ _ (by rfl) N 5 i0 (.int .u8 0) 1 1 Tryd.underlying40 hi0 hz0 hz1 hz2 (by rfl) (by decide) _ k.length (vals k) (by rfl) HA.out ⟨wd.heap.size, 0, none⟩ 1 1 [.int .u8 (b : Int)] (by rfl) (by rfl) (news_one HNW.out) (by simp [Value.oneCell']) (by decide) (by unfold maxLen; have := HKL.out; omega) (by have := HKL.out; omega) (by simp; have := HKL.out; omega) (wd.heap.size + 1) (by simp) ?_
        intro ga ca w5 hown hgrow hat hlt5
        have HPU := Lib.hid (ws_push (m := [b]) ((Below.refl _ _).alloc (Nat.le_refl _) (.cells #[.int .u8 (b : Int)] 5)) HV.out HROW.out hNP hle hown hgrow rfl hat (by omega))
        have c5 : w5.cell? ⟨P, 0, none⟩ = some (.slice va k.length vc) := (blk_row' (HV.out.old (.cells #[.int .u8 (b : Int)] 5)) (by decide) HA.out hgrow).cell 0 rfl
        have f5 : w5.frozen? ⟨P, 0, none⟩ = false := (blk_row' (HV.out.old (.cells #[.int .u8 (b : Int)] 5)) (by decide) HA.out hgrow).free 0
        clear hown hgrow hat hlt5
        refine hK.out _ _ trivial (fun hHeld => ?_)
        clear hK; try clear KK
        try simp only [Act.put, List.setIfInBounds_toArray, List.set_cons_zero, List.set_cons_succ]
        refine wpAnyH_take (i := 12) (oi := ⟨some 37, _, _, _, _, _⟩) (v := (.pointer (some ⟨P, 0, none⟩))) rfl (by kernel_rfl) (by kernel_rfl) (by kernel_rfl) (fun _ _ _ h => h) (Or.inl ⟨by rfl, fun w hSw => by (try dsimp only at hSw); go_simp⟩) (by assumption) ?_
        simp only [Act.put, List.setIfInBounds_toArray, List.set_cons_zero, List.set_cons_succ]
        refine wpAnyH_take (i := 13) (oi := ⟨some 38, _, _, _, _, _⟩) (v := (.pointer (some ⟨P, 0, none⟩))) rfl (by kernel_rfl) (by kernel_rfl) (by kernel_rfl) (fun _ _ _ h => h) (Or.inl ⟨by rfl, fun w hSw => by (try dsimp only at hSw); go_simp⟩) (by assumption) ?_
        simp only [Act.put, List.setIfInBounds_toArray, List.set_cons_zero, List.set_cons_succ]
        refine wpAnyH_ready (rs := [14]) (by kernel_rfl) (by simp) ?_
        refine AllReadyH.cons (o := ⟨none, _, _, _, _, _⟩) rfl (fun KK hK => ?_) AllReadyH.nil
        go_simp
        clear c5 f5
        replace HKP := Lib.hid (HKP.out.trans HPU.out.2)
        replace HPU := Lib.hid HPU.out.1
        refine hK.out _ _ trivial (fun hHeld => ?_)
        clear hK; try clear KK
        refine wpAnyH_done (by kernel_rfl) ?_ _
        go_wp2
        go_roundw
        case rel => exact ⟨i, k ++ [b], by simp, by omega, HKN2.out, by simpa using HPU.out, HKP.out⟩
        case measure => simp [intOf]
      ·
        go_simp
        change KK _ (wd.alloc (.cells #[.int .u8 (b : Int)] 5))
        have HA := Lib.hid (HROW.out.alloc (.cells #[.int .u8 (b : Int)] 5))
        have HNW := Lib.hid (Blk.new wd #[.int .u8 (b : Int)] 5 wd.heap.size rfl)
        refine hK.out _ _ trivial (fun hHeld => ?_)
        clear hK; try clear KK
        try simp only [Act.put, List.setIfInBounds_toArray, List.set_cons_zero, List.set_cons_succ]
        refine wpAnyH_ready (rs := [4]) (by kernel_rfl) (by simp) ?_
        refine AllReadyH.cons (o := ⟨some 29, _, _, _, _, _⟩) rfl (fun KK hK => ?_) AllReadyH.nil
        have c0 : (wd.alloc (.cells #[.int .u8 (b : Int)] 5)).cell? ⟨P, 0, none⟩ = some (.slice va k.length vc) := (HV.out.old _).cell 0 rfl
        go_simp
        refine hK.out _ _ trivial (fun hHeld => ?_)
        clear hK; try clear KK
        try simp only [Act.put, List.setIfInBounds_toArray, List.set_cons_zero, List.set_cons_succ]
        clear c0
        have hle : N ≤ wd.heap.size := Nat.le_trans hN HKP.out.bel.size
        refine wpAnyH_ready (rs := [11]) (by kernel_rfl) (by simp) ?_
        refine AllReadyH.cons (o := ⟨some 36, _, _, _, _, _⟩) rfl (fun KK hK => ?_) AllReadyH.nil
        refine step_append_lies _ (by rfl) _ _ _ (by rfl) N 5 i0 (.int .u8 0) 1 1 Tryd.underlying40 hi0 hz0 hz1 hz2 (by rfl) (by decide) _ k.length (vals k) (by rfl) HA.out ⟨wd.heap.size, 0, none⟩ 1 1 [.int .u8 (b : Int)] (by rfl) (by rfl) (news_one HNW.out) (by simp [Value.oneCell']) (by decide) (by unfold maxLen; have := HKL.out; omega) (by have := HKL.out; omega) (by simp; have := HKL.out; omega) (wd.heap.size + 1) (by simp) ?_
        intro ga ca w5 hown hgrow hat hlt5
        have HPU := Lib.hid (ws_push (m := [b]) ((Below.refl _ _).alloc (Nat.le_refl _) (.cells #[.int .u8 (b : Int)] 5)) HV.out HROW.out hNP hle hown hgrow rfl hat (by omega))
        have c5 : w5.cell? ⟨P, 0, none⟩ = some (.slice va k.length vc) := (blk_row' (HV.out.old (.cells #[.int .u8 (b : Int)] 5)) (by decide) HA.out hgrow).cell 0 rfl
        have f5 : w5.frozen? ⟨P, 0, none⟩ = false := (blk_row' (HV.out.old (.cells #[.int .u8 (b : Int)] 5)) (by decide) HA.out hgrow).free 0
        clear hown hgrow hat hlt5
        refine hK.out _ _ trivial (fun hHeld => ?_)
        clear hK; try clear KK
        try simp only [Act.put, List.setIfInBounds_toArray, List.set_cons_zero, List.set_cons_succ]
        refine wpAnyH_take (i := 12) (oi := ⟨some 37, _, _, _, _, _⟩) (v := (.pointer (some ⟨P, 0, none⟩))) rfl (by kernel_rfl) (by kernel_rfl) (by kernel_rfl) (fun _ _ _ h => h) (Or.inl ⟨by rfl, fun w hSw => by (try dsimp only at hSw); go_simp⟩) (by assumption) ?_
        simp only [Act.put, List.setIfInBounds_toArray, List.set_cons_zero, List.set_cons_succ]
        refine wpAnyH_take (i := 13) (oi := ⟨some 38, _, _, _, _, _⟩) (v := (.pointer (some ⟨P, 0, none⟩))) rfl (by kernel_rfl) (by kernel_rfl) (by kernel_rfl) (fun _ _ _ h => h) (Or.inl ⟨by rfl, fun w hSw => by (try dsimp only at hSw); go_simp⟩) (by assumption) ?_
        simp only [Act.put, List.setIfInBounds_toArray, List.set_cons_zero, List.set_cons_succ]
        refine wpAnyH_ready (rs := [14]) (by kernel_rfl) (by simp) ?_
        refine AllReadyH.cons (o := ⟨none, _, _, _, _, _⟩) rfl (fun KK hK => ?_) AllReadyH.nil
        go_simp
        clear c5 f5
        replace HKP := Lib.hid (HKP.out.trans HPU.out.2)
        replace HPU := Lib.hid HPU.out.1
        refine hK.out _ _ trivial (fun hHeld => ?_)
        clear hK; try clear KK
        refine wpAnyH_done (by kernel_rfl) ?_ _
        go_wp2
        go_roundw
        case rel => exact ⟨i, k ++ [b], by simp, by omega, HKN2.out, by simpa using HPU.out, HKP.out⟩
        case measure => simp [intOf]
    · obtain rfl : j = 0 := by omega
      have g1 : ¬ (0 : Int) ≤ ((0 : Nat) : Int) - 1 := by decide
      go_wp2_with fail
      go_ret
      exact ⟨rfl, ⟨_, HV.out, by rw [show l ++ beB d n = k by rw [← HKN.out]; simp [beB]]; exact HROW.out⟩, HKP.out⟩
end Go.Proofs.YtmkcooamgojbpaaDoor.Octets

/- octets.Writer: Int, Bytes; bytes.Clone. -/
namespace Go.Proofs.YtmkcooamgojbpaaDoor.Octets
set_option linter.unusedVariables false
open Go.RowKit Go.Proofs.YtmkcooamgojbpaaDoor.Kit Go.Proofs.YtmkcooamgojbpaaDoor.Blk
attribute [local go_sem ↓] Go.wp_at_zero Go.wp_at_succ

/-- A signed number, its sign as the lowest bit. -/
def zig (n : Int) : Nat := if 0 ≤ n then (2 * n).toNat else (-2 * n - 1).toNat
theorem zig_lt (n : Int) (h0 : -9223372036854775808 ≤ n) (h1 : n ≤ 9223372036854775807) : zig n < 18446744073709551616 := by
  unfold zig; split <;> omega

theorem u64_xor0 (a : Nat) (h : a < 18446744073709551616) : bits .xor .u64 (a : Int) 0 = (a : Int) := by
  show IntKind.u64.wrap ((BitVec.ofInt 64 (a : Int) ^^^ BitVec.ofInt 64 0).toNat : Int) = a
  have e : BitVec.ofInt 64 (a : Int) ^^^ BitVec.ofInt 64 0 = BitVec.ofNat 64 a := by
    show BitVec.ofInt 64 (a : Int) ^^^ 0#64 = _
    simp
  rw [e, BitVec.toNat_ofNat, IntKind.wrap_u64]
  omega
theorem u64_xor1 (a : Nat) (h : a < 18446744073709551616) : bits .xor .u64 (a : Int) 18446744073709551615 = ((18446744073709551615 - a : Nat) : Int) := by
  show IntKind.u64.wrap ((BitVec.ofInt 64 (a : Int) ^^^ BitVec.ofInt 64 18446744073709551615).toNat : Int) = _
  have e : BitVec.ofInt 64 (a : Int) ^^^ BitVec.ofInt 64 18446744073709551615 = ~~~ BitVec.ofNat 64 a := by
    have : BitVec.ofInt 64 18446744073709551615 = BitVec.allOnes 64 := by decide
    rw [this, BitVec.xor_allOnes]; simp
  rw [e, BitVec.toNat_not, BitVec.toNat_ofNat, IntKind.wrap_u64]
  omega

theorem int_any (N P : Nat) (hNP : N ≤ P) (l : List Nat) (hl : l.length ≤ 10000) (n : Int) (h0 : -9223372036854775808 ≤ n) (h1 : n ≤ 9223372036854775807) (w : World) (hN : N ≤ w.heap.size) (hw : WS N P l w) :
    Calls Tryd.prog 240 #[.pointer (some ⟨P, 0, none⟩), .int .i64 n] w fun e w' => e = .returned (.pointer (some ⟨P, 0, none⟩)) ∧ WS N P (l ++ beB 8 (zig n)) w' ∧ Keep N P w w' := by
  have HC := Lib.hid (uint_any N P hNP l hl (zig n) 8 (by decide) (by decide) (zig_lt n h0 h1) w hN hw)
  have hx : bits .xor .u64 (2 * n % 18446744073709551616) ((n / 9223372036854775808) % 18446744073709551616) = (zig n : Int) := by
    unfold zig
    split
    · rename_i h
      rw [show n / 9223372036854775808 = 0 by omega, show (2 * n % 18446744073709551616) = ((2 * n).toNat : Int) by omega]
      exact u64_xor0 _ (by omega)
    · rename_i h
      rw [show n / 9223372036854775808 = -1 by omega, show (2 * n % 18446744073709551616) = ((2 * n % 18446744073709551616).toNat : Int) by omega]
      rw [show ((-1 : Int) % 18446744073709551616) = 18446744073709551615 by decide, u64_xor1 _ (by omega)]
      omega
  clear hw
  go_enter Tryd.func240, Tryd.ntmps240
  go_wp2_with fail
  rw [IntKind.wrap_u64, IntKind.wrap_u64, show wrap64 (n * 2) % 18446744073709551616 = 2 * n % 18446744073709551616 by unfold wrap64; omega, hx]
  refine HC.out.mono ?_
  rintro e w' ⟨rfl, hws, hkp⟩
  go_wp2_with fail
  go_ret
  exact ⟨rfl, hws, hkp⟩

/-- Bytes in a block of their own. -/
def Own (N : Nat) (l : List Nat) (v : Value) (w : World) : Prop := w.ownsRow N 5 1 v l.length (vals l)
/-- A function answers with bytes of its own. -/
def BytesIs (l : List Nat) (w : World) (e : Ending) (w' : World) : Prop := ∃ v, e = .returned v ∧ Own w.heap.size l v w' ∧ Below w.heap.size w w'

set_option maxRecDepth 20000 in
theorem clone_any (N : Nat) (l : List Nat) (h0 : 0 < l.length) (hl : l.length ≤ 100000) (v : Value) (w : World) (h : Own N l v w) :
    Calls Tryd.prog 202 #[v] w fun e w' => BytesIs l w e w' := by
  obtain ⟨i0, hi0, hz0, hz1, hz2⟩ := info_parts infoU8
  have hF := World.ownsRow.form h h0
  obtain ⟨g, cap, rfl, hg1, hg2⟩ := hF
  have HB := Lib.hid h
  have HL := Lib.hid (vals_len l)
  have HE := Lib.hid (show (w.alloc (.cells #[] 5)).ownsRow w.heap.size 5 1 (.slice (some ⟨w.heap.size, 0, none⟩) 0 0) 0 [] from World.ownsRow_made w #[] 0 (Nat.le_refl _) (by decide) rfl)
  have hnil : ∀ W : World, (binOp .eql 40 (.slice (some ⟨g, 0, none⟩) l.length cap) (.slice none 0 0)).run Tryd.prog W = .ok (.bool false) W := fun _ => by kernel_rfl
  have HN := Lib.hid (show ∀ j u, (vals l)[j]? = some u → (w.alloc (.cells #[] 5)).cell? ((⟨g, 0, none⟩ : Addr).add j) = some u from World.ownsRow.cells (World.ownsRow.alloc h (.cells #[] 5)) rfl)
  go_enter Tryd.func202, Tryd.ntmps202
  go_wp2_with (at_builtin; refine wpList_append_lies _ (by rfl) _ _ _ (by rfl) w.heap.size 5 i0 (.int .u8 0) 1 1 Tryd.underlying40 hi0 hz0 hz1 hz2 (by rfl) (by decide) _ 0 [] (by rfl) HE.out ⟨g, 0, none⟩ l.length cap (vals l) (by rfl) (by rw [HL.out, Nat.mul_one]) HN.out (one_vals l) h0 (by unfold maxLen; omega) (by omega) (by simp) (w.heap.size + 1) (by simp) ?_; intro ga ca w5 hown hgrow hat hlt5; have HOWN := Lib.hid hown; have HGR := Lib.hid hgrow; clear hown hgrow hat hlt5)
  go_ret
  refine ⟨_, rfl, by have h := HOWN.out; rw [Nat.zero_add, List.nil_append] at h; exact h, ?_⟩
  exact ((Below.refl _ _).alloc (Nat.le_refl _) _).grown HGR.out (by simp) (fun k e => by have e : some w.heap.size = some k := e; injection e with e; omega)

set_option maxRecDepth 20000 in
theorem bytes_any (N P : Nat) (l : List Nat) (h0 : 0 < l.length) (hl : l.length ≤ 100000) (w : World) (hw : WS N P l w) :
    Calls Tryd.prog 241 #[.pointer (some ⟨P, 0, none⟩)] w fun e w' => BytesIs l w e w' := by
  obtain ⟨v, hv, hrow⟩ := hw
  have HC := Lib.hid (clone_any N l h0 hl v w hrow)
  have hc : w.cell? ⟨P, 0, none⟩ = some v := hv.cell 0 rfl
  clear hv hrow
  go_enter Tryd.func241, Tryd.ntmps241
  go_wp2_with fail
  refine HC.out.mono ?_
  rintro e w' ⟨v', rfl, hv, hb⟩
  go_wp2_with fail
  go_ret
  exact ⟨_, rfl, hv, hb⟩
end Go.Proofs.YtmkcooamgojbpaaDoor.Octets
