/- The document's numbers of 128 bits: Mul. -/
import Derived.Test.YtogjgpiddjmpiaaRef01D
namespace Go.Proofs.Ytogjgpiddjmpiaa.Ref01
set_option linter.unusedVariables false
open Go.RowKit Go.Proofs.Ytogjgpiddjmpiaa.Kit Go.Proofs.Ytogjgpiddjmpiaa.Blk Go.Proofs.Ytogjgpiddjmpiaa.B128
attribute [local go_sem ↓] Go.wp_at_zero Go.wp_at_succ


set_option maxRecDepth 20000 in
set_option maxHeartbeats 4000000 in
theorem mul_any (a b : Nat) (ha : a < 2 ^ 64) (hb : b < 2 ^ 64) (w : World) : Calls Try.prog 151 #[.int .u64 a, .int .u64 b] w fun e w' => e = .returned (.agg (bitsB (BitVec.ofNat 128 (a * b)))) ∧ Below w.heap.size w w' := by
  obtain ⟨i0, hi0, hz0, hz1, -⟩ := info_parts infoB
  have HZ := Lib.hid (show ∀ k, k = 64 → BitVec.ofNat 128 (a * (b % 2 ^ k)) = BitVec.ofNat 128 (a * b) from fun k hk => by rw [hk, Nat.mod_eq_of_lt hb])
  have HS := Lib.hid (fun k => mul_step a b k)
  have HN := Lib.hid (fun k => low_next b k)
  have HBI := Lib.hid (fun k => bit_int b k hb)
  have HOF := Lib.hid (fun w => of_any 0 a (by decide) ha w)
  generalize hx : BitVec.ofNat 128 (0 * 2 ^ 64 + a) = x at HS HOF
  generalize hy : BitVec.ofNat 128 (a * b) = Y at HZ
  clear hx hy
  go_enter Try.func151, Try.ntmps151
  go_upto_region 2 with (refine alloc_big rfl 239 rfl i0 hi0 _ hz0 ?_)
  have HR := Lib.hid ((Blk.new w zero128 239 w.heap.size rfl).old (.cells zero128 239))
  have HO := Lib.hid (Blk.new (w.alloc (.cells zero128 239)) zero128 239 (w.heap.size + 1) (by simp))
  have HL := Lib.hid (((Below.refl w.heap.size w).alloc (Nat.le_refl _) (.cells zero128 239)).alloc (by simp) (.cells zero128 239))
  change Code.wp _ _ _ _ ((w.alloc (.cells zero128 239)).alloc (.cells zero128 239))
  generalize (w.alloc (.cells zero128 239)).alloc (.cells zero128 239) = W at HR HO HL ⊢
  have HC0 : Hid ((0 : Int) = ((0 : Nat) : Int)) := Lib.hid rfl
  go_wp2_with fail
  refine (HOF.out _).mono ?_
  rintro e w1 ⟨rfl, hb⟩
  replace HR := Lib.hid (HR.out.below hb HR.out.lt)
  replace HO := Lib.hid (HO.out.below hb HO.out.lt)
  replace HL := Lib.hid (HL.out.trans (hb.mono HL.out.size))
  clear hb HOF
  go_upto_region 3 with (first | (refine alloc_big rfl 239 rfl i0 hi0 _ hz0 ?_) | (refine store_blk rfl 239 _ _ rfl w1.heap.size rfl zero128 (bitsB x) 239 (Blk.new _ _ _ _ rfl) rfl (by rw [bits_size, row_size]) (by kernel_rfl) (row_one _) ?_))
  have hx4 := (Blk.new w1 zero128 239 w1.heap.size rfl).setCells (bitsB x) (by rw [bits_size, row_size])
  have hb : Below w1.heap.size w1 (World.setCells (w1.alloc (.cells zero128 239)) w1.heap.size 0 (bitsB x).toList) := Blk.Below.setCells _ _ _ ((Below.refl _ _).alloc (Nat.le_refl _) _) (Nat.le_refl _)
  change Code.wp _ _ _ _ (World.setCells (w1.alloc (.cells zero128 239)) w1.heap.size 0 (bitsB x).toList)
  generalize World.setCells (w1.alloc (.cells zero128 239)) w1.heap.size 0 (bitsB x).toList = w4 at hx4 hb ⊢
  have HD := Lib.hid hx4
  have hO1 := HO.out.lt
  replace HR := Lib.hid (HR.out.below hb HR.out.lt)
  replace HO := Lib.hid (HO.out.below hb HO.out.lt)
  replace HL := Lib.hid (HL.out.trans (hb.mono HL.out.size))
  clear hx4 hb
  generalize w1.heap.size = D at HD hO1 ⊢
  go_wp2_with fail
  go_loopw [7] (fun i wr => ∃ k : Nat, k ≤ 64 ∧ i = .int .i64 k ∧ Blk wr w.heap.size zero128 239 ∧ Blk wr (w.heap.size + 1) (bitsB (BitVec.ofNat 128 (a * (b % 2 ^ k)))) 239 ∧ Blk wr D (bitsB x) 239 ∧ Below w.heap.size w wr) (fun i _ => 64 - (intOf i).toNat)
  case atStart => exact ⟨0, by omega, rfl, HR.out, by have e : bitsB (BitVec.ofNat 128 (a * (b % 2 ^ 0))) = zero128 := by rw [Nat.pow_zero, Nat.mod_one, Nat.mul_zero]; exact bits_zero
                                                      rw [e]; exact HO.out, HD.out, HL.out⟩
  case round =>
    clear HR HO HD HL
    obtain ⟨k, hk, rfl, hr, ho, hd, hl⟩ := hrel
    have HR := Lib.hid hr
    have HO := Lib.hid ho
    have HD := Lib.hid hd
    have HL := Lib.hid hl
    clear hr ho hd hl
    by_cases hlt : k < 64
    · have g0 : (0 : Int) ≤ (k : Int) := by omega
      have g1 : (k : Int) < 64 := by omega
      have HS1 := Lib.hid (HS.out k)
      have HN1 := Lib.hid (HN.out k)
      have hbi := HBI.out k
      cases hbt : b.testBit k with
      | false =>
        rw [hbt] at hbi HN1
        have HE := Lib.hid (show b % 2 ^ (k + 1) = b % 2 ^ k by rw [HN1.out]; simp)
        clear hbt
        go_wp2
        go_roundw
        case rel => exact ⟨k + 1, by omega, by go_num, HR.out, by rw [HE.out]; exact HO.out, HD.out, HL.out⟩
        case measure => simp [intOf]; omega
      | true =>
        rw [hbt] at hbi HN1
        have HE := Lib.hid (show b % 2 ^ (k + 1) = b % 2 ^ k + 2 ^ k by rw [HN1.out]; simp)
        clear hbt
        generalize hp : BitVec.ofNat 128 (a * (b % 2 ^ k)) = p at HO HS1
        generalize hq : BitVec.ofNat 128 (a * (b % 2 ^ k + 2 ^ k)) = q at HS1
        have HQ := Lib.hid hq
        clear hp hq
        go_upto_region 7 with fail
        replace HR := Lib.hid (show Blk wr.drew w.heap.size zero128 239 from HR.out)
        replace HO := Lib.hid (show Blk wr.drew (w.heap.size + 1) (bitsB p) 239 from HO.out)
        replace HD := Lib.hid (show Blk wr.drew D (bitsB x) 239 from HD.out)
        replace HL := Lib.hid (show Below w.heap.size w wr.drew from HL.out.drew)
        refine wp_region_held_drew (S := (fun w' => w'.rangeAt D 0 (bitsB x).toList)) (by kernel_rfl) HD.out.range (fun hHeld => ?_)
        refine wpAnyH_take (i := 1) (oi := ⟨some 22, .load 239 (.tmp 6), _, _, _, _⟩) (v := _) rfl (by kernel_rfl) (by kernel_rfl) (by kernel_rfl) (fun _ _ _ h => h) (yieldsIf_load_mid (by rfl) _ _ rfl _ _ rfl _ _ (fun w h => h) Try.underlying239 rfl (info128 x)) (by assumption) ?_
        simp only [Act.put, List.setIfInBounds_toArray, List.set_cons_zero, List.set_cons_succ]
        refine wpAnyH_take (i := 2) (oi := ⟨some 23, _, _, _, _, _⟩) (v := (.int .i64 k)) rfl (by kernel_rfl) (by kernel_rfl) (by kernel_rfl) (fun _ _ _ h => h) (Or.inl ⟨by rfl, fun w hSw => by (try dsimp only at hSw); go_simp⟩) (by assumption) ?_
        simp only [Act.put, List.setIfInBounds_toArray, List.set_cons_zero, List.set_cons_succ]
        refine wpAnyH_ready (rs := [0, 3]) (by kernel_rfl) (by simp) ?_
        refine AllReadyH.cons (o := ⟨some 21, .load 239 (.tmp 5), _, _, _, _⟩) rfl (fun K hK => ?_) (AllReadyH.cons (o := ⟨some 24, _, _, _, _, _⟩) rfl (fun K hK => ?_) AllReadyH.nil)
        ·
          refine step_load_blk (by rfl) 239 _ (by rfl) (w.heap.size + 1) (by rfl) _ _ HO.out _ Try.underlying239 rfl (by kernel_rfl) ?_
          refine hK.out _ _ HD.out.range (fun hHeld => ?_)
          clear hK; try clear KK
          try simp only [Act.put, List.setIfInBounds_toArray, List.set_cons_zero, List.set_cons_succ]
          refine wpAnyH_ready (rs := [3]) (by kernel_rfl) (by simp) ?_
          refine AllReadyH.cons (o := ⟨some 24, _, _, _, _, _⟩) rfl (fun KK hK => ?_) AllReadyH.nil
          go_simp
          refine (left_any x k (by omega) _).mono ?_
          rintro e w2 ⟨rfl, hb⟩
          replace HR := Lib.hid (HR.out.below hb HR.out.lt)
          replace HO := Lib.hid (HO.out.below hb HO.out.lt)
          replace HD := Lib.hid (HD.out.below hb HD.out.lt)
          replace HL := Lib.hid (HL.out.trans (hb.mono HL.out.size))
          clear hb
          go_wp2_with fail
          refine hK.out _ _ HD.out.range (fun hHeld => ?_)
          clear hK; try clear KK
          try simp only [Act.put, List.setIfInBounds_toArray, List.set_cons_zero, List.set_cons_succ]
          refine wpAnyH_ready (rs := [4]) (by kernel_rfl) (by simp) ?_
          refine AllReadyH.cons (o := ⟨some 25, _, _, _, _, _⟩) rfl (fun KK hK => ?_) AllReadyH.nil
          go_simp
          refine (add_any p (x <<< k) _).mono ?_
          rintro e w3 ⟨rfl, hb⟩
          rw [HS1.out]
          replace HR := Lib.hid (HR.out.below hb HR.out.lt)
          replace HO := Lib.hid (HO.out.below hb HO.out.lt)
          replace HD := Lib.hid (HD.out.below hb HD.out.lt)
          replace HL := Lib.hid (HL.out.trans (hb.mono HL.out.size))
          clear hb
          generalize (!BitVec.carry 128 p (x <<< k) false) = cc
          generalize x <<< k = xk at HS1 ⊢
          go_wp2_with fail
          refine hK.out _ _ HD.out.range (fun hHeld => ?_)
          clear hK; try clear KK
          try simp only [Act.put, List.setIfInBounds_toArray, List.set_cons_zero, List.set_cons_succ]
          refine wpAnyH_take (i := 5) (oi := ⟨some 20, _, _, _, _, _⟩) (v := (.tuple #[.agg (bitsB q), .bool cc])) rfl (by kernel_rfl) (by kernel_rfl) (by kernel_rfl) (fun _ _ _ h => h) (Or.inl ⟨by rfl, fun w hSw => by (try dsimp only at hSw); go_simp⟩) (by assumption) ?_
          simp only [Act.put, List.setIfInBounds_toArray, List.set_cons_zero, List.set_cons_succ]
          refine wpAnyH_take (i := 6) (oi := ⟨some 26, _, _, _, _, _⟩) (v := (.agg (bitsB q))) rfl (by kernel_rfl) (by kernel_rfl) (by kernel_rfl) (fun _ _ _ h => h) (Or.inl ⟨by rfl, fun w hSw => by (try dsimp only at hSw); go_simp⟩) (by assumption) ?_
          simp only [Act.put, List.setIfInBounds_toArray, List.set_cons_zero, List.set_cons_succ]
          refine wpAnyH_take (i := 7) (oi := ⟨some 27, _, _, _, _, _⟩) (v := (.bool cc)) rfl (by kernel_rfl) (by kernel_rfl) (by kernel_rfl) (fun _ _ _ h => h) (Or.inl ⟨by rfl, fun w hSw => by (try dsimp only at hSw); go_simp⟩) (by assumption) ?_
          simp only [Act.put, List.setIfInBounds_toArray, List.set_cons_zero, List.set_cons_succ]
          refine wpAnyH_ready (rs := [8]) (by kernel_rfl) (by simp) ?_
          refine AllReadyH.cons (o := ⟨none, _, _, _, _, _⟩) rfl (fun KK hK => ?_) AllReadyH.nil
          refine step_store_blk (by rfl) 239 _ _ (by rfl) (w.heap.size + 1) (by rfl) (bitsB p) (bitsB q) 239 HO.out (by rfl) (by rw [bits_size, bits_size]) (by kernel_rfl) (row_one _) ?_
          replace HR := Lib.hid (Blk.apartAll (B := w.heap.size + 1) (bitsB q).toList 0 _ HR.out (by omega))
          replace HD := Lib.hid (Blk.apartAll (B := w.heap.size + 1) (bitsB q).toList 0 _ HD.out (by omega))
          replace HL := Lib.hid (Blk.Below.setCells (B := w.heap.size + 1) (bitsB q).toList 0 _ HL.out (by omega))
          replace HO := Lib.hid (HO.out.setCells (bitsB q) (by rw [bits_size, bits_size]))
          refine hK.out _ _ HD.out.range (fun hHeld => ?_)
          clear hK; try clear KK
          refine wpAnyH_done (by kernel_rfl) ?_ _
          go_wp2
          go_roundw
          case rel => exact ⟨k + 1, by omega, by go_num, HR.out, by rw [HE.out, HQ.out]; exact HO.out, HD.out, HL.out⟩
          case measure => simp [intOf]; omega
        ·
          go_simp
          refine (left_any x k (by omega) _).mono ?_
          rintro e w2 ⟨rfl, hb⟩
          replace HR := Lib.hid (HR.out.below hb HR.out.lt)
          replace HO := Lib.hid (HO.out.below hb HO.out.lt)
          replace HD := Lib.hid (HD.out.below hb HD.out.lt)
          replace HL := Lib.hid (HL.out.trans (hb.mono HL.out.size))
          clear hb
          go_wp2_with fail
          refine hK.out _ _ HD.out.range (fun hHeld => ?_)
          clear hK; try clear KK
          try simp only [Act.put, List.setIfInBounds_toArray, List.set_cons_zero, List.set_cons_succ]
          refine wpAnyH_ready (rs := [0]) (by kernel_rfl) (by simp) ?_
          refine AllReadyH.cons (o := ⟨some 21, .load 239 (.tmp 5), _, _, _, _⟩) rfl (fun K hK => ?_) AllReadyH.nil
          refine step_load_blk (by rfl) 239 _ (by rfl) (w.heap.size + 1) (by rfl) _ _ HO.out _ Try.underlying239 rfl (by kernel_rfl) ?_
          refine hK.out _ _ HD.out.range (fun hHeld => ?_)
          clear hK; try clear KK
          try simp only [Act.put, List.setIfInBounds_toArray, List.set_cons_zero, List.set_cons_succ]
          refine wpAnyH_ready (rs := [4]) (by kernel_rfl) (by simp) ?_
          refine AllReadyH.cons (o := ⟨some 25, _, _, _, _, _⟩) rfl (fun KK hK => ?_) AllReadyH.nil
          go_simp
          refine (add_any p (x <<< k) _).mono ?_
          rintro e w3 ⟨rfl, hb⟩
          rw [HS1.out]
          replace HR := Lib.hid (HR.out.below hb HR.out.lt)
          replace HO := Lib.hid (HO.out.below hb HO.out.lt)
          replace HD := Lib.hid (HD.out.below hb HD.out.lt)
          replace HL := Lib.hid (HL.out.trans (hb.mono HL.out.size))
          clear hb
          generalize (!BitVec.carry 128 p (x <<< k) false) = cc
          generalize x <<< k = xk at HS1 ⊢
          go_wp2_with fail
          refine hK.out _ _ HD.out.range (fun hHeld => ?_)
          clear hK; try clear KK
          try simp only [Act.put, List.setIfInBounds_toArray, List.set_cons_zero, List.set_cons_succ]
          refine wpAnyH_take (i := 5) (oi := ⟨some 20, _, _, _, _, _⟩) (v := (.tuple #[.agg (bitsB q), .bool cc])) rfl (by kernel_rfl) (by kernel_rfl) (by kernel_rfl) (fun _ _ _ h => h) (Or.inl ⟨by rfl, fun w hSw => by (try dsimp only at hSw); go_simp⟩) (by assumption) ?_
          simp only [Act.put, List.setIfInBounds_toArray, List.set_cons_zero, List.set_cons_succ]
          refine wpAnyH_take (i := 6) (oi := ⟨some 26, _, _, _, _, _⟩) (v := (.agg (bitsB q))) rfl (by kernel_rfl) (by kernel_rfl) (by kernel_rfl) (fun _ _ _ h => h) (Or.inl ⟨by rfl, fun w hSw => by (try dsimp only at hSw); go_simp⟩) (by assumption) ?_
          simp only [Act.put, List.setIfInBounds_toArray, List.set_cons_zero, List.set_cons_succ]
          refine wpAnyH_take (i := 7) (oi := ⟨some 27, _, _, _, _, _⟩) (v := (.bool cc)) rfl (by kernel_rfl) (by kernel_rfl) (by kernel_rfl) (fun _ _ _ h => h) (Or.inl ⟨by rfl, fun w hSw => by (try dsimp only at hSw); go_simp⟩) (by assumption) ?_
          simp only [Act.put, List.setIfInBounds_toArray, List.set_cons_zero, List.set_cons_succ]
          refine wpAnyH_ready (rs := [8]) (by kernel_rfl) (by simp) ?_
          refine AllReadyH.cons (o := ⟨none, _, _, _, _, _⟩) rfl (fun KK hK => ?_) AllReadyH.nil
          refine step_store_blk (by rfl) 239 _ _ (by rfl) (w.heap.size + 1) (by rfl) (bitsB p) (bitsB q) 239 HO.out (by rfl) (by rw [bits_size, bits_size]) (by kernel_rfl) (row_one _) ?_
          replace HR := Lib.hid (Blk.apartAll (B := w.heap.size + 1) (bitsB q).toList 0 _ HR.out (by omega))
          replace HD := Lib.hid (Blk.apartAll (B := w.heap.size + 1) (bitsB q).toList 0 _ HD.out (by omega))
          replace HL := Lib.hid (Blk.Below.setCells (B := w.heap.size + 1) (bitsB q).toList 0 _ HL.out (by omega))
          replace HO := Lib.hid (HO.out.setCells (bitsB q) (by rw [bits_size, bits_size]))
          refine hK.out _ _ HD.out.range (fun hHeld => ?_)
          clear hK; try clear KK
          refine wpAnyH_done (by kernel_rfl) ?_ _
          go_wp2
          go_roundw
          case rel => exact ⟨k + 1, by omega, by go_num, HR.out, by rw [HE.out, HQ.out]; exact HO.out, HD.out, HL.out⟩
          case measure => simp [intOf]; omega
    · have HK := Lib.hid (HZ.out k (by omega))
      have HO2 := Lib.hid (show Blk wr (w.heap.size + 1) (bitsB Y) 239 by rw [← HK.out]; exact HO.out)
      have g1 : (64 : Int) ≤ (k : Int) := by omega
      clear HO HK
      go_wp2_with (first | (refine load_blk rfl 239 _ rfl _ rfl _ _ HO2.out _ Try.underlying239 rfl (by kernel_rfl) ?_) | (refine store_blk rfl 239 _ _ rfl w.heap.size rfl zero128 (bitsB Y) 239 HR.out rfl (by rw [bits_size, row_size]) (by kernel_rfl) (row_one _) ?_))
      refine bodyPost_ret (results_cell_row rfl _ _ _ _ _ (0, 0) _ rfl (HR.out.setCells (bitsB Y) (by rw [bits_size, row_size])) Try.underlying239 rfl (by kernel_rfl)) rfl ?_
      exact ⟨rfl, Blk.Below.setCells _ _ _ HL.out (by omega)⟩
end Go.Proofs.Ytogjgpiddjmpiaa.Ref01
