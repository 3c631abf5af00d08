/- Parts of the proof: Ref01D, Ref01M, Ref01V, Ref01H, RefMean. -/
import Derived.Test.YtogjgpiddjmpiaaPart20
import Derived.Deep.RegionHeld3
import Derived.Test.YtogjgpiddjmpiaaPart8

/- The document's numbers of 128 bits: Sub, Mul, Div. -/
namespace Go.Proofs.Ytogjgpiddjmpiaa.Ref01
set_option linter.unusedVariables false
open Go.RowKit Go.Proofs.Ytogjgpiddjmpiaa.Kit Go.Proofs.Ytogjgpiddjmpiaa.Blk Go.Proofs.Ytogjgpiddjmpiaa.B128
attribute [local go_sem ↓] Go.wp_at_zero Go.wp_at_succ


theorem info128 (x : B) : (Try.prog.info? 239).map (·.size) = some (bitsB x).toList.length := by rw [Array.length_toList, bits_size]; kernel_rfl

set_option maxRecDepth 20000 in
set_option maxHeartbeats 4000000 in
theorem sub_any (a b : B) (w : World) : Calls Try.prog 192 #[.agg (bitsB a), .agg (bitsB b)] w fun e w' => e = .returned (.tuple #[.agg (bitsB (a - b)), .bool (decide (b.toNat ≤ a.toNat))]) ∧ Below w.heap.size w w' := by
  obtain ⟨i0, hi0, hz0, hz1, -⟩ := info_parts infoB
  have HX := Lib.hid (sub_as a b)
  generalize hx : a - b = X at HX
  clear hx
  have HG := Lib.hid (cmp_ge a b)
  generalize hg : decide (b.toNat ≤ a.toNat) = g at HG
  clear hg
  go_enter Try.func192, Try.ntmps192
  go_upto_region 1 with (refine alloc_big rfl 239 rfl i0 hi0 _ hz0 ?_)
  have HA := Lib.hid (((Blk.new w (bitsB a) 239 w.heap.size rfl).old (.cells (bitsB b) 239)).old (.cells zero128 239))
  have HB := Lib.hid ((Blk.new (w.alloc (.cells (bitsB a) 239)) (bitsB b) 239 (w.heap.size + 1) (by simp)).old (.cells zero128 239))
  have HR := Lib.hid (Blk.new ((w.alloc (.cells (bitsB a) 239)).alloc (.cells (bitsB b) 239)) zero128 239 (w.heap.size + 1 + 1) (by simp))
  have HL := Lib.hid ((((Below.refl w.heap.size w).alloc (Nat.le_refl _) (.cells (bitsB a) 239)).alloc (by simp) (.cells (bitsB b) 239)).alloc (by simp; omega) (.cells zero128 239))
  change Code.wp _ _ _ _ (((w.alloc (.cells (bitsB a) 239)).alloc (.cells (bitsB b) 239)).alloc (.cells zero128 239))
  generalize ((w.alloc (.cells (bitsB a) 239)).alloc (.cells (bitsB b) 239)).alloc (.cells zero128 239) = W at HA HB HR HL ⊢
  go_wp2_with (refine load_blk rfl 239 _ rfl _ rfl _ _ HB.out _ Try.underlying239 rfl (by kernel_rfl) ?_)
  refine (not_any b _).mono ?_
  rintro e w1 ⟨rfl, hb⟩
  replace HA := Lib.hid (HA.out.below hb HA.out.lt)
  replace HB := Lib.hid (HB.out.below hb HB.out.lt)
  replace HR := Lib.hid (HR.out.below hb HR.out.lt)
  replace HL := Lib.hid (HL.out.trans (hb.mono HL.out.size))
  clear hb
  go_wp2_with fail
  refine (of_any 0 1 (by decide) (by decide) _).mono ?_
  rintro e w2 ⟨rfl, hb⟩
  replace HA := Lib.hid (HA.out.below hb HA.out.lt)
  replace HB := Lib.hid (HB.out.below hb HB.out.lt)
  replace HR := Lib.hid (HR.out.below hb HR.out.lt)
  replace HL := Lib.hid (HL.out.trans (hb.mono HL.out.size))
  clear hb
  generalize hone : BitVec.ofNat 128 (0 * 2 ^ 64 + 1) = one at HX
  clear hone
  go_wp2_with fail
  refine (add_any _ _ _).mono ?_
  rintro e w3 ⟨rfl, hb⟩
  replace HA := Lib.hid (HA.out.below hb HA.out.lt)
  replace HB := Lib.hid (HB.out.below hb HB.out.lt)
  replace HR := Lib.hid (HR.out.below hb HR.out.lt)
  replace HL := Lib.hid (HL.out.trans (hb.mono HL.out.size))
  clear hb
  generalize hd : ~~~b + one = d at HX
  clear hd
  generalize (!BitVec.carry 128 (~~~b) one false) = c1
  go_upto_region 2 with (first | (refine alloc_big rfl 239 rfl i0 hi0 _ hz0 ?_) | (refine store_blk rfl 239 _ _ rfl w3.heap.size rfl zero128 (bitsB d) 239 (Blk.new _ _ _ _ rfl) rfl (by rw [bits_size, row_size]) (by kernel_rfl) (row_one _) ?_))
  have hx4 := (Blk.new w3 zero128 239 w3.heap.size rfl).setCells (bitsB d) (by rw [bits_size, row_size])
  have hb : Below w3.heap.size w3 (World.setCells (w3.alloc (.cells zero128 239)) w3.heap.size 0 (bitsB d).toList) := Blk.Below.setCells _ _ _ ((Below.refl _ _).alloc (Nat.le_refl _) _) (Nat.le_refl _)
  change Code.wp _ _ _ _ (World.setCells (w3.alloc (.cells zero128 239)) w3.heap.size 0 (bitsB d).toList)
  generalize World.setCells (w3.alloc (.cells zero128 239)) w3.heap.size 0 (bitsB d).toList = w4 at hx4 hb ⊢
  have HD := Lib.hid hx4
  clear hx4
  replace HA := Lib.hid (HA.out.below hb HA.out.lt)
  replace HB := Lib.hid (HB.out.below hb HB.out.lt)
  replace HR := Lib.hid (HR.out.below hb HR.out.lt)
  replace HL := Lib.hid (HL.out.trans (hb.mono HL.out.size))
  clear hb
  go_wp2_with (first | (refine load_blk rfl 239 _ rfl _ rfl _ _ HA.out _ Try.underlying239 rfl (by kernel_rfl) ?_) | (refine load_blk rfl 239 _ rfl _ rfl _ _ HD.out _ Try.underlying239 rfl (by kernel_rfl) ?_))
  refine (add_any _ _ _).mono ?_
  rintro e w5 ⟨rfl, hb⟩
  rw [HX.out]
  replace HA := Lib.hid (HA.out.below hb HA.out.lt)
  replace HB := Lib.hid (HB.out.below hb HB.out.lt)
  replace HR := Lib.hid (HR.out.below hb HR.out.lt)
  replace HL := Lib.hid (HL.out.trans (hb.mono HL.out.size))
  clear hb
  have hw5 := HR.out.lt
  clear HD
  generalize (!BitVec.carry 128 a d false) = c2
  go_upto_region 3 with (first | (refine alloc_big rfl 239 rfl i0 hi0 _ hz0 ?_) | (refine store_blk rfl 239 _ _ rfl w5.heap.size rfl zero128 (bitsB X) 239 (Blk.new _ _ _ _ rfl) rfl (by rw [bits_size, row_size]) (by kernel_rfl) (row_one _) ?_))
  have hx4 := (Blk.new w5 zero128 239 w5.heap.size rfl).setCells (bitsB X) (by rw [bits_size, row_size])
  have hb : Below w5.heap.size w5 (World.setCells (w5.alloc (.cells zero128 239)) w5.heap.size 0 (bitsB X).toList) := Blk.Below.setCells _ _ _ ((Below.refl _ _).alloc (Nat.le_refl _) _) (Nat.le_refl _)
  change Code.wp _ _ _ _ (World.setCells (w5.alloc (.cells zero128 239)) w5.heap.size 0 (bitsB X).toList)
  generalize World.setCells (w5.alloc (.cells zero128 239)) w5.heap.size 0 (bitsB X).toList = w6 at hx4 hb ⊢
  have HD := Lib.hid hx4
  clear hx4
  replace HA := Lib.hid (HA.out.below hb HA.out.lt)
  replace HB := Lib.hid (HB.out.below hb HB.out.lt)
  replace HR := Lib.hid (HR.out.below hb HR.out.lt)
  replace HL := Lib.hid (HL.out.trans (hb.mono HL.out.size))
  clear hb
  go_wp2_with fail
  replace HL := Lib.hid (show Below w.heap.size w w6.drew from HL.out.drew)
  replace HA := Lib.hid (show Blk w6.drew w.heap.size (bitsB a) 239 from HA.out)
  replace HB := Lib.hid (show Blk w6.drew (w.heap.size + 1) (bitsB b) 239 from HB.out)
  replace HD := Lib.hid (show Blk w6.drew w5.heap.size (bitsB X) 239 from HD.out)
  replace HR := Lib.hid (show Blk w6.drew (w.heap.size + 1 + 1) zero128 239 from HR.out)
  refine wp_region_held_drew (S := fun w' => w'.rangeAt w5.heap.size 0 (bitsB X).toList ∧ w'.rangeAt w.heap.size 0 (bitsB a).toList ∧ w'.rangeAt (w.heap.size + 1) 0 (bitsB b).toList) (by kernel_rfl) ⟨HD.out.range, HA.out.range, HB.out.range⟩ (fun hHeld => ?_)
  refine wpAnyH_take (i := 0) (oi := ⟨some 23, .load 239 (.tmp 8), _, _, _, _⟩) (v := _) rfl (by kernel_rfl) (by kernel_rfl) (by kernel_rfl) (fun _ _ _ h => h) (yieldsIf_load_mid (by rfl) _ _ rfl _ _ rfl _ _ (fun w h => h.1) Try.underlying239 rfl (info128 X)) (by assumption) ?_
  simp only [Act.put, List.setIfInBounds_toArray, List.set_cons_zero, List.set_cons_succ]
  refine wpAnyH_take (i := 1) (oi := ⟨some 24, .load 239 (.tmp 2), _, _, _, _⟩) (v := _) rfl (by kernel_rfl) (by kernel_rfl) (by kernel_rfl) (fun _ _ _ h => h) (yieldsIf_load_mid (by rfl) _ _ rfl _ _ rfl _ _ (fun w h => h.2.1) Try.underlying239 rfl (info128 a)) (by assumption) ?_
  simp only [Act.put, List.setIfInBounds_toArray, List.set_cons_zero, List.set_cons_succ]
  refine wpAnyH_take (i := 2) (oi := ⟨some 25, .load 239 (.tmp 3), _, _, _, _⟩) (v := _) rfl (by kernel_rfl) (by kernel_rfl) (by kernel_rfl) (fun _ _ _ h => h) (yieldsIf_load_mid (by rfl) _ _ rfl _ _ rfl _ _ (fun w h => h.2.2) Try.underlying239 rfl (info128 b)) (by assumption) ?_
  simp only [Act.put, List.setIfInBounds_toArray, List.set_cons_zero, List.set_cons_succ]
  refine wpAnyH_ready (rs := [3]) (by kernel_rfl) (by simp) ?_
  refine AllReadyH.cons (o := ⟨some 26, _, _, _, _, _⟩) rfl (fun K hK => ?_) AllReadyH.nil
  go_simp
  refine (cmp_any a b _).mono ?_
  rintro e w7 ⟨rfl, hb⟩
  replace HD := Lib.hid (HD.out.below hb HD.out.lt)
  replace HA := Lib.hid (HA.out.below hb HA.out.lt)
  replace HB := Lib.hid (HB.out.below hb HB.out.lt)
  replace HR := Lib.hid (HR.out.below hb HR.out.lt)
  replace HL := Lib.hid (HL.out.trans (hb.mono HL.out.size))
  clear hb
  go_wp2_with fail
  refine hK.out _ _ ⟨HD.out.range, HA.out.range, HB.out.range⟩ (fun hHeld => ?_)
  clear hK K
  try simp only [Act.put, List.setIfInBounds_toArray, List.set_cons_zero, List.set_cons_succ]
  refine wpAnyH_take (i := 4) (oi := ⟨some 27, _, _, _, _, _⟩) (v := .bool (decide (0 ≤ cmp a b))) rfl (by kernel_rfl) (by kernel_rfl) (by kernel_rfl) (fun _ _ _ h => h) (Or.inl ⟨by rfl, fun w _ => by go_simp⟩) (by assumption) ?_
  simp only [Act.put, List.setIfInBounds_toArray, List.set_cons_zero, List.set_cons_succ]
  refine wpAnyH_ready (rs := [5]) (by kernel_rfl) (by simp) ?_
  refine AllReadyH.cons (o := ⟨none, _, _, _, _, _⟩) rfl (fun K hK => ?_) AllReadyH.nil
  refine step_store_blk (by rfl) 239 _ _ (by rfl) (w.heap.size + 1 + 1) (by rfl) zero128 (bitsB X) 239 HR.out (by rfl) (by rw [bits_size, row_size]) (by kernel_rfl) (row_one _) ?_
  have HRR := Lib.hid (HR.out.setCells (bitsB X) (by rw [bits_size, row_size]))
  have hD4 := HR.out.lt
  replace HA := Lib.hid (Blk.apartAll (B := w.heap.size + 1 + 1) (bitsB X).toList 0 _ HA.out (by omega))
  replace HB := Lib.hid (Blk.apartAll (B := w.heap.size + 1 + 1) (bitsB X).toList 0 _ HB.out (by omega))
  replace HD := Lib.hid (Blk.apartAll (B := w.heap.size + 1 + 1) (bitsB X).toList 0 _ HD.out (by omega))
  replace HL := Lib.hid (Blk.Below.setCells (B := w.heap.size + 1 + 1) (bitsB X).toList 0 _ HL.out (by omega))
  clear HR
  refine hK.out _ _ ⟨HD.out.range, HA.out.range, HB.out.range⟩ (fun hHeld => ?_)
  clear hK K
  refine wpAnyH_ready (rs := [6]) (by kernel_rfl) (by simp) ?_
  refine AllReadyH.cons (o := ⟨some 5, _, _, _, _, _⟩) rfl (fun K hK => ?_) AllReadyH.nil
  go_simp
  refine hK.out _ _ ⟨HD.out.range, HA.out.range, HB.out.range⟩ (fun hHeld => ?_)
  clear hK K
  refine wpAnyH_done (by kernel_rfl) ?_ _
  go_wp2
  refine bodyPost_ret (results_blk_tmp rfl rfl HRR.out Try.underlying239 rfl (by kernel_rfl)) rfl ?_
  exact ⟨by rw [← HG.out]; rfl, HL.out⟩
end Go.Proofs.Ytogjgpiddjmpiaa.Ref01

/- The document's numbers of 128 bits: Mul. -/
namespace Go.Proofs.Ytogjgpiddjmpiaa.Ref01
set_option linter.unusedVariables false
open Go.RowKit Go.Proofs.Ytogjgpiddjmpiaa.Kit Go.Proofs.Ytogjgpiddjmpiaa.Blk Go.Proofs.Ytogjgpiddjmpiaa.B128
attribute [local go_sem ↓] Go.wp_at_zero Go.wp_at_succ


set_option maxRecDepth 20000 in
set_option maxHeartbeats 4000000 in
theorem mul_any (a b : Nat) (ha : a < 2 ^ 64) (hb : b < 2 ^ 64) (w : World) : Calls Try.prog 151 #[.int .u64 a, .int .u64 b] w fun e w' => e = .returned (.agg (bitsB (BitVec.ofNat 128 (a * b)))) ∧ Below w.heap.size w w' := by
  obtain ⟨i0, hi0, hz0, hz1, -⟩ := info_parts infoB
  have HZ := Lib.hid (show ∀ k, k = 64 → BitVec.ofNat 128 (a * (b % 2 ^ k)) = BitVec.ofNat 128 (a * b) from fun k hk => by rw [hk, Nat.mod_eq_of_lt hb])
  have HS := Lib.hid (fun k => mul_step a b k)
  have HN := Lib.hid (fun k => low_next b k)
  have HBI := Lib.hid (fun k => bit_int b k hb)
  have HOF := Lib.hid (fun w => of_any 0 a (by decide) ha w)
  generalize hx : BitVec.ofNat 128 (0 * 2 ^ 64 + a) = x at HS HOF
  generalize hy : BitVec.ofNat 128 (a * b) = Y at HZ
  clear hx hy
  go_enter Try.func151, Try.ntmps151
  go_upto_region 2 with (refine alloc_big rfl 239 rfl i0 hi0 _ hz0 ?_)
  have HR := Lib.hid ((Blk.new w zero128 239 w.heap.size rfl).old (.cells zero128 239))
  have HO := Lib.hid (Blk.new (w.alloc (.cells zero128 239)) zero128 239 (w.heap.size + 1) (by simp))
  have HL := Lib.hid (((Below.refl w.heap.size w).alloc (Nat.le_refl _) (.cells zero128 239)).alloc (by simp) (.cells zero128 239))
  change Code.wp _ _ _ _ ((w.alloc (.cells zero128 239)).alloc (.cells zero128 239))
  generalize (w.alloc (.cells zero128 239)).alloc (.cells zero128 239) = W at HR HO HL ⊢
  have HC0 : Hid ((0 : Int) = ((0 : Nat) : Int)) := Lib.hid rfl
  go_wp2_with fail
  refine (HOF.out _).mono ?_
  rintro e w1 ⟨rfl, hb⟩
  replace HR := Lib.hid (HR.out.below hb HR.out.lt)
  replace HO := Lib.hid (HO.out.below hb HO.out.lt)
  replace HL := Lib.hid (HL.out.trans (hb.mono HL.out.size))
  clear hb HOF
  go_upto_region 3 with (first | (refine alloc_big rfl 239 rfl i0 hi0 _ hz0 ?_) | (refine store_blk rfl 239 _ _ rfl w1.heap.size rfl zero128 (bitsB x) 239 (Blk.new _ _ _ _ rfl) rfl (by rw [bits_size, row_size]) (by kernel_rfl) (row_one _) ?_))
  have hx4 := (Blk.new w1 zero128 239 w1.heap.size rfl).setCells (bitsB x) (by rw [bits_size, row_size])
  have hb : Below w1.heap.size w1 (World.setCells (w1.alloc (.cells zero128 239)) w1.heap.size 0 (bitsB x).toList) := Blk.Below.setCells _ _ _ ((Below.refl _ _).alloc (Nat.le_refl _) _) (Nat.le_refl _)
  change Code.wp _ _ _ _ (World.setCells (w1.alloc (.cells zero128 239)) w1.heap.size 0 (bitsB x).toList)
  generalize World.setCells (w1.alloc (.cells zero128 239)) w1.heap.size 0 (bitsB x).toList = w4 at hx4 hb ⊢
  have HD := Lib.hid hx4
  have hO1 := HO.out.lt
  replace HR := Lib.hid (HR.out.below hb HR.out.lt)
  replace HO := Lib.hid (HO.out.below hb HO.out.lt)
  replace HL := Lib.hid (HL.out.trans (hb.mono HL.out.size))
  clear hx4 hb
  generalize w1.heap.size = D at HD hO1 ⊢
  go_wp2_with fail
  go_loopw [7] (fun i wr => ∃ k : Nat, k ≤ 64 ∧ i = .int .i64 k ∧ Blk wr w.heap.size zero128 239 ∧ Blk wr (w.heap.size + 1) (bitsB (BitVec.ofNat 128 (a * (b % 2 ^ k)))) 239 ∧ Blk wr D (bitsB x) 239 ∧ Below w.heap.size w wr) (fun i _ => 64 - (intOf i).toNat)
  case atStart => exact ⟨0, by omega, rfl, HR.out, by have e : bitsB (BitVec.ofNat 128 (a * (b % 2 ^ 0))) = zero128 := by rw [Nat.pow_zero, Nat.mod_one, Nat.mul_zero]; exact bits_zero
                                                      rw [e]; exact HO.out, HD.out, HL.out⟩
  case round =>
    clear HR HO HD HL
    obtain ⟨k, hk, rfl, hr, ho, hd, hl⟩ := hrel
    have HR := Lib.hid hr
    have HO := Lib.hid ho
    have HD := Lib.hid hd
    have HL := Lib.hid hl
    clear hr ho hd hl
    by_cases hlt : k < 64
    · have g0 : (0 : Int) ≤ (k : Int) := by omega
      have g1 : (k : Int) < 64 := by omega
      have HS1 := Lib.hid (HS.out k)
      have HN1 := Lib.hid (HN.out k)
      have hbi := HBI.out k
      cases hbt : b.testBit k with
      | false =>
        rw [hbt] at hbi HN1
        have HE := Lib.hid (show b % 2 ^ (k + 1) = b % 2 ^ k by rw [HN1.out]; simp)
        clear hbt
        go_wp2
        go_roundw
        case rel => exact ⟨k + 1, by omega, by go_num, HR.out, by rw [HE.out]; exact HO.out, HD.out, HL.out⟩
        case measure => simp [intOf]; omega
      | true =>
        rw [hbt] at hbi HN1
        have HE := Lib.hid (show b % 2 ^ (k + 1) = b % 2 ^ k + 2 ^ k by rw [HN1.out]; simp)
        clear hbt
        generalize hp : BitVec.ofNat 128 (a * (b % 2 ^ k)) = p at HO HS1
        generalize hq : BitVec.ofNat 128 (a * (b % 2 ^ k + 2 ^ k)) = q at HS1
        have HQ := Lib.hid hq
        clear hp hq
        go_upto_region 7 with fail
        replace HR := Lib.hid (show Blk wr.drew w.heap.size zero128 239 from HR.out)
        replace HO := Lib.hid (show Blk wr.drew (w.heap.size + 1) (bitsB p) 239 from HO.out)
        replace HD := Lib.hid (show Blk wr.drew D (bitsB x) 239 from HD.out)
        replace HL := Lib.hid (show Below w.heap.size w wr.drew from HL.out.drew)
        refine wp_region_held_drew (S := (fun w' => w'.rangeAt D 0 (bitsB x).toList)) (by kernel_rfl) HD.out.range (fun hHeld => ?_)
        refine wpAnyH_take (i := 1) (oi := ⟨some 22, .load 239 (.tmp 6), _, _, _, _⟩) (v := _) rfl (by kernel_rfl) (by kernel_rfl) (by kernel_rfl) (fun _ _ _ h => h) (yieldsIf_load_mid (by rfl) _ _ rfl _ _ rfl _ _ (fun w h => h) Try.underlying239 rfl (info128 x)) (by assumption) ?_
        simp only [Act.put, List.setIfInBounds_toArray, List.set_cons_zero, List.set_cons_succ]
        refine wpAnyH_take (i := 2) (oi := ⟨some 23, _, _, _, _, _⟩) (v := (.int .i64 k)) rfl (by kernel_rfl) (by kernel_rfl) (by kernel_rfl) (fun _ _ _ h => h) (Or.inl ⟨by rfl, fun w hSw => by (try dsimp only at hSw); go_simp⟩) (by assumption) ?_
        simp only [Act.put, List.setIfInBounds_toArray, List.set_cons_zero, List.set_cons_succ]
        refine wpAnyH_ready (rs := [0, 3]) (by kernel_rfl) (by simp) ?_
        refine AllReadyH.cons (o := ⟨some 21, .load 239 (.tmp 5), _, _, _, _⟩) rfl (fun K hK => ?_) (AllReadyH.cons (o := ⟨some 24, _, _, _, _, _⟩) rfl (fun K hK => ?_) AllReadyH.nil)
        ·
          refine step_load_blk (by rfl) 239 _ (by rfl) (w.heap.size + 1) (by rfl) _ _ HO.out _ Try.underlying239 rfl (by kernel_rfl) ?_
          refine hK.out _ _ HD.out.range (fun hHeld => ?_)
          clear hK; try clear KK
          try simp only [Act.put, List.setIfInBounds_toArray, List.set_cons_zero, List.set_cons_succ]
          refine wpAnyH_ready (rs := [3]) (by kernel_rfl) (by simp) ?_
          refine AllReadyH.cons (o := ⟨some 24, _, _, _, _, _⟩) rfl (fun KK hK => ?_) AllReadyH.nil
          go_simp
          refine (left_any x k (by omega) _).mono ?_
          rintro e w2 ⟨rfl, hb⟩
          replace HR := Lib.hid (HR.out.below hb HR.out.lt)
          replace HO := Lib.hid (HO.out.below hb HO.out.lt)
          replace HD := Lib.hid (HD.out.below hb HD.out.lt)
          replace HL := Lib.hid (HL.out.trans (hb.mono HL.out.size))
          clear hb
          go_wp2_with fail
          refine hK.out _ _ HD.out.range (fun hHeld => ?_)
          clear hK; try clear KK
          try simp only [Act.put, List.setIfInBounds_toArray, List.set_cons_zero, List.set_cons_succ]
          refine wpAnyH_ready (rs := [4]) (by kernel_rfl) (by simp) ?_
          refine AllReadyH.cons (o := ⟨some 25, _, _, _, _, _⟩) rfl (fun KK hK => ?_) AllReadyH.nil
          go_simp
          refine (add_any p (x <<< k) _).mono ?_
          rintro e w3 ⟨rfl, hb⟩
          rw [HS1.out]
          replace HR := Lib.hid (HR.out.below hb HR.out.lt)
          replace HO := Lib.hid (HO.out.below hb HO.out.lt)
          replace HD := Lib.hid (HD.out.below hb HD.out.lt)
          replace HL := Lib.hid (HL.out.trans (hb.mono HL.out.size))
          clear hb
          generalize (!BitVec.carry 128 p (x <<< k) false) = cc
          generalize x <<< k = xk at HS1 ⊢
          go_wp2_with fail
          refine hK.out _ _ HD.out.range (fun hHeld => ?_)
          clear hK; try clear KK
          try simp only [Act.put, List.setIfInBounds_toArray, List.set_cons_zero, List.set_cons_succ]
          refine wpAnyH_take (i := 5) (oi := ⟨some 20, _, _, _, _, _⟩) (v := (.tuple #[.agg (bitsB q), .bool cc])) rfl (by kernel_rfl) (by kernel_rfl) (by kernel_rfl) (fun _ _ _ h => h) (Or.inl ⟨by rfl, fun w hSw => by (try dsimp only at hSw); go_simp⟩) (by assumption) ?_
          simp only [Act.put, List.setIfInBounds_toArray, List.set_cons_zero, List.set_cons_succ]
          refine wpAnyH_take (i := 6) (oi := ⟨some 26, _, _, _, _, _⟩) (v := (.agg (bitsB q))) rfl (by kernel_rfl) (by kernel_rfl) (by kernel_rfl) (fun _ _ _ h => h) (Or.inl ⟨by rfl, fun w hSw => by (try dsimp only at hSw); go_simp⟩) (by assumption) ?_
          simp only [Act.put, List.setIfInBounds_toArray, List.set_cons_zero, List.set_cons_succ]
          refine wpAnyH_take (i := 7) (oi := ⟨some 27, _, _, _, _, _⟩) (v := (.bool cc)) rfl (by kernel_rfl) (by kernel_rfl) (by kernel_rfl) (fun _ _ _ h => h) (Or.inl ⟨by rfl, fun w hSw => by (try dsimp only at hSw); go_simp⟩) (by assumption) ?_
          simp only [Act.put, List.setIfInBounds_toArray, List.set_cons_zero, List.set_cons_succ]
          refine wpAnyH_ready (rs := [8]) (by kernel_rfl) (by simp) ?_
          refine AllReadyH.cons (o := ⟨none, _, _, _, _, _⟩) rfl (fun KK hK => ?_) AllReadyH.nil
          refine step_store_blk (by rfl) 239 _ _ (by rfl) (w.heap.size + 1) (by rfl) (bitsB p) (bitsB q) 239 HO.out (by rfl) (by rw [bits_size, bits_size]) (by kernel_rfl) (row_one _) ?_
          replace HR := Lib.hid (Blk.apartAll (B := w.heap.size + 1) (bitsB q).toList 0 _ HR.out (by omega))
          replace HD := Lib.hid (Blk.apartAll (B := w.heap.size + 1) (bitsB q).toList 0 _ HD.out (by omega))
          replace HL := Lib.hid (Blk.Below.setCells (B := w.heap.size + 1) (bitsB q).toList 0 _ HL.out (by omega))
          replace HO := Lib.hid (HO.out.setCells (bitsB q) (by rw [bits_size, bits_size]))
          refine hK.out _ _ HD.out.range (fun hHeld => ?_)
          clear hK; try clear KK
          refine wpAnyH_done (by kernel_rfl) ?_ _
          go_wp2
          go_roundw
          case rel => exact ⟨k + 1, by omega, by go_num, HR.out, by rw [HE.out, HQ.out]; exact HO.out, HD.out, HL.out⟩
          case measure => simp [intOf]; omega
        ·
          go_simp
          refine (left_any x k (by omega) _).mono ?_
          rintro e w2 ⟨rfl, hb⟩
          replace HR := Lib.hid (HR.out.below hb HR.out.lt)
          replace HO := Lib.hid (HO.out.below hb HO.out.lt)
          replace HD := Lib.hid (HD.out.below hb HD.out.lt)
          replace HL := Lib.hid (HL.out.trans (hb.mono HL.out.size))
          clear hb
          go_wp2_with fail
          refine hK.out _ _ HD.out.range (fun hHeld => ?_)
          clear hK; try clear KK
          try simp only [Act.put, List.setIfInBounds_toArray, List.set_cons_zero, List.set_cons_succ]
          refine wpAnyH_ready (rs := [0]) (by kernel_rfl) (by simp) ?_
          refine AllReadyH.cons (o := ⟨some 21, .load 239 (.tmp 5), _, _, _, _⟩) rfl (fun K hK => ?_) AllReadyH.nil
          refine step_load_blk (by rfl) 239 _ (by rfl) (w.heap.size + 1) (by rfl) _ _ HO.out _ Try.underlying239 rfl (by kernel_rfl) ?_
          refine hK.out _ _ HD.out.range (fun hHeld => ?_)
          clear hK; try clear KK
          try simp only [Act.put, List.setIfInBounds_toArray, List.set_cons_zero, List.set_cons_succ]
          refine wpAnyH_ready (rs := [4]) (by kernel_rfl) (by simp) ?_
          refine AllReadyH.cons (o := ⟨some 25, _, _, _, _, _⟩) rfl (fun KK hK => ?_) AllReadyH.nil
          go_simp
          refine (add_any p (x <<< k) _).mono ?_
          rintro e w3 ⟨rfl, hb⟩
          rw [HS1.out]
          replace HR := Lib.hid (HR.out.below hb HR.out.lt)
          replace HO := Lib.hid (HO.out.below hb HO.out.lt)
          replace HD := Lib.hid (HD.out.below hb HD.out.lt)
          replace HL := Lib.hid (HL.out.trans (hb.mono HL.out.size))
          clear hb
          generalize (!BitVec.carry 128 p (x <<< k) false) = cc
          generalize x <<< k = xk at HS1 ⊢
          go_wp2_with fail
          refine hK.out _ _ HD.out.range (fun hHeld => ?_)
          clear hK; try clear KK
          try simp only [Act.put, List.setIfInBounds_toArray, List.set_cons_zero, List.set_cons_succ]
          refine wpAnyH_take (i := 5) (oi := ⟨some 20, _, _, _, _, _⟩) (v := (.tuple #[.agg (bitsB q), .bool cc])) rfl (by kernel_rfl) (by kernel_rfl) (by kernel_rfl) (fun _ _ _ h => h) (Or.inl ⟨by rfl, fun w hSw => by (try dsimp only at hSw); go_simp⟩) (by assumption) ?_
          simp only [Act.put, List.setIfInBounds_toArray, List.set_cons_zero, List.set_cons_succ]
          refine wpAnyH_take (i := 6) (oi := ⟨some 26, _, _, _, _, _⟩) (v := (.agg (bitsB q))) rfl (by kernel_rfl) (by kernel_rfl) (by kernel_rfl) (fun _ _ _ h => h) (Or.inl ⟨by rfl, fun w hSw => by (try dsimp only at hSw); go_simp⟩) (by assumption) ?_
          simp only [Act.put, List.setIfInBounds_toArray, List.set_cons_zero, List.set_cons_succ]
          refine wpAnyH_take (i := 7) (oi := ⟨some 27, _, _, _, _, _⟩) (v := (.bool cc)) rfl (by kernel_rfl) (by kernel_rfl) (by kernel_rfl) (fun _ _ _ h => h) (Or.inl ⟨by rfl, fun w hSw => by (try dsimp only at hSw); go_simp⟩) (by assumption) ?_
          simp only [Act.put, List.setIfInBounds_toArray, List.set_cons_zero, List.set_cons_succ]
          refine wpAnyH_ready (rs := [8]) (by kernel_rfl) (by simp) ?_
          refine AllReadyH.cons (o := ⟨none, _, _, _, _, _⟩) rfl (fun KK hK => ?_) AllReadyH.nil
          refine step_store_blk (by rfl) 239 _ _ (by rfl) (w.heap.size + 1) (by rfl) (bitsB p) (bitsB q) 239 HO.out (by rfl) (by rw [bits_size, bits_size]) (by kernel_rfl) (row_one _) ?_
          replace HR := Lib.hid (Blk.apartAll (B := w.heap.size + 1) (bitsB q).toList 0 _ HR.out (by omega))
          replace HD := Lib.hid (Blk.apartAll (B := w.heap.size + 1) (bitsB q).toList 0 _ HD.out (by omega))
          replace HL := Lib.hid (Blk.Below.setCells (B := w.heap.size + 1) (bitsB q).toList 0 _ HL.out (by omega))
          replace HO := Lib.hid (HO.out.setCells (bitsB q) (by rw [bits_size, bits_size]))
          refine hK.out _ _ HD.out.range (fun hHeld => ?_)
          clear hK; try clear KK
          refine wpAnyH_done (by kernel_rfl) ?_ _
          go_wp2
          go_roundw
          case rel => exact ⟨k + 1, by omega, by go_num, HR.out, by rw [HE.out, HQ.out]; exact HO.out, HD.out, HL.out⟩
          case measure => simp [intOf]; omega
    · have HK := Lib.hid (HZ.out k (by omega))
      have HO2 := Lib.hid (show Blk wr (w.heap.size + 1) (bitsB Y) 239 by rw [← HK.out]; exact HO.out)
      have g1 : (64 : Int) ≤ (k : Int) := by omega
      clear HO HK
      go_wp2_with (first | (refine load_blk rfl 239 _ rfl _ rfl _ _ HO2.out _ Try.underlying239 rfl (by kernel_rfl) ?_) | (refine store_blk rfl 239 _ _ rfl w.heap.size rfl zero128 (bitsB Y) 239 HR.out rfl (by rw [bits_size, row_size]) (by kernel_rfl) (row_one _) ?_))
      refine bodyPost_ret (results_cell_row rfl _ _ _ _ _ (0, 0) _ rfl (HR.out.setCells (bitsB Y) (by rw [bits_size, row_size])) Try.underlying239 rfl (by kernel_rfl)) rfl ?_
      exact ⟨rfl, Blk.Below.setCells _ _ _ HL.out (by omega)⟩
end Go.Proofs.Ytogjgpiddjmpiaa.Ref01

/- The document's numbers of 128 bits: Div, Halves. -/
namespace Go.Proofs.Ytogjgpiddjmpiaa.Ref01
set_option linter.unusedVariables false
open Go.RowKit Go.Proofs.Ytogjgpiddjmpiaa.Kit Go.Proofs.Ytogjgpiddjmpiaa.Blk Go.Proofs.Ytogjgpiddjmpiaa.B128
attribute [local go_sem ↓] Go.wp_at_zero Go.wp_at_succ

theorem toNat_small (n : Nat) (h : n < 2 ^ 128) : (BitVec.ofNat 128 n).toNat = n := by
  rw [BitVec.toNat_ofNat, Nat.mod_eq_of_lt h]

/-- What lies in memory while a number is divided: the quotient's row q, the left's row l. -/
structure DT (w wr : World) (A d D : Nat) (q l : Array Value) (z1 : Array Value := zero128) (z2 : Array Value := zero128) : Prop where
  num : Blk wr w.heap.size (bitsB (BitVec.ofNat 128 A)) 239
  r1 : Blk wr (w.heap.size + 1) z1 239
  r2 : Blk wr (w.heap.size + 1 + 1) z2 239
  q : Blk wr (w.heap.size + 1 + 1 + 1) q 239
  left : Blk wr (w.heap.size + 1 + 1 + 1 + 1) l 239
  by_ : Blk wr D (bitsB (BitVec.ofNat 128 d)) 239
  below : Below w.heap.size w wr
  hD : w.heap.size + 1 + 1 + 1 + 1 < D
section
variable {w wr wx : World} {A d D : Nat} {q l : Array Value}
theorem DT.step (h : DT w wr A d D q l) (hb : Below wr.heap.size wr wx) : DT w wx A d D q l :=
  ⟨h.num.below hb h.num.lt, h.r1.below hb h.r1.lt, h.r2.below hb h.r2.lt, h.q.below hb h.q.lt, h.left.below hb h.left.lt, h.by_.below hb h.by_.lt, h.below.trans (hb.mono h.below.size), h.hD⟩
theorem DT.setL (h : DT w wr A d D q l) (vs : Array Value) (hs : vs.size = l.size) : DT w (wr.setCells (w.heap.size + 1 + 1 + 1 + 1) 0 vs.toList) A d D q vs :=
  have hD := h.hD
  ⟨Blk.apartAll _ 0 _ h.num (by omega), Blk.apartAll _ 0 _ h.r1 (by omega), Blk.apartAll _ 0 _ h.r2 (by omega), Blk.apartAll _ 0 _ h.q (by omega), h.left.setCells vs hs, Blk.apartAll _ 0 _ h.by_ (by omega), Blk.Below.setCells _ 0 _ h.below (by omega), hD⟩
theorem DT.setL0 (h : DT w wr A d D q l) (v : Value) : DT w (wr.setCell ⟨w.heap.size + 1 + 1 + 1 + 1, 0, none⟩ v) A d D q (l.setIfInBounds 0 v) :=
  have hD := h.hD
  ⟨h.num.apart _ _ (by show w.heap.size + 1 + 1 + 1 + 1 ≠ _; omega), h.r1.apart _ _ (by show w.heap.size + 1 + 1 + 1 + 1 ≠ _; omega), h.r2.apart _ _ (by show w.heap.size + 1 + 1 + 1 + 1 ≠ _; omega), h.q.apart _ _ (by show w.heap.size + 1 + 1 + 1 + 1 ≠ _; omega), h.left.set 0 v, h.by_.apart _ _ (by show w.heap.size + 1 + 1 + 1 + 1 ≠ _; omega), h.below.setCell (p := ⟨w.heap.size + 1 + 1 + 1 + 1, 0, none⟩) (by show w.heap.size ≤ w.heap.size + 1 + 1 + 1 + 1; omega) v, hD⟩
theorem DT.setQ (h : DT w wr A d D q l) (k : Nat) (v : Value) : DT w (wr.setCell ⟨w.heap.size + 1 + 1 + 1, k, none⟩ v) A d D (q.setIfInBounds k v) l :=
  have hD := h.hD
  ⟨h.num.apart _ _ (by show w.heap.size + 1 + 1 + 1 ≠ _; omega), h.r1.apart _ _ (by show w.heap.size + 1 + 1 + 1 ≠ _; omega), h.r2.apart _ _ (by show w.heap.size + 1 + 1 + 1 ≠ _; omega), h.q.set k v, h.left.apart _ _ (by show w.heap.size + 1 + 1 + 1 ≠ _; omega), h.by_.apart _ _ (by show w.heap.size + 1 + 1 + 1 ≠ _; omega), h.below.setCell (p := ⟨w.heap.size + 1 + 1 + 1, k, none⟩) (by show w.heap.size ≤ w.heap.size + 1 + 1 + 1; omega) v, hD⟩
variable {z1 z2 : Array Value}
theorem DT.setR1 (h : DT w wr A d D q l z1 z2) (vs : Array Value) (hs : vs.size = z1.size) : DT w (wr.setCells (w.heap.size + 1) 0 vs.toList) A d D q l vs z2 :=
  have hD := h.hD
  ⟨Blk.apartAll _ 0 _ h.num (by omega), h.r1.setCells vs hs, Blk.apartAll _ 0 _ h.r2 (by omega), Blk.apartAll _ 0 _ h.q (by omega), Blk.apartAll _ 0 _ h.left (by omega), Blk.apartAll _ 0 _ h.by_ (by omega), Blk.Below.setCells _ 0 _ h.below (by omega), hD⟩
theorem DT.setR2 (h : DT w wr A d D q l z1 z2) (vs : Array Value) (hs : vs.size = z2.size) : DT w (wr.setCells (w.heap.size + 1 + 1) 0 vs.toList) A d D q l z1 vs :=
  have hD := h.hD
  ⟨Blk.apartAll _ 0 _ h.num (by omega), Blk.apartAll _ 0 _ h.r1 (by omega), h.r2.setCells vs hs, Blk.apartAll _ 0 _ h.q (by omega), Blk.apartAll _ 0 _ h.left (by omega), Blk.apartAll _ 0 _ h.by_ (by omega), Blk.Below.setCells _ 0 _ h.below (by omega), hD⟩
end
def qrow (A d n : Nat) : Array Value := row (fun j => decide (n ≤ j) && (A / d).testBit j)
def lrow (A d n : Nat) : Array Value := bitsB (BitVec.ofNat 128 (A / 2 ^ n % d))
theorem qrow_set (A d k : Nat) (h : (A / d).testBit k = true) : (qrow A d (k + 1)).setIfInBounds k (.bool true) = qrow A d k := by
  unfold qrow
  rw [row_set]
  refine row_ext (fun j hj => ?_)
  by_cases h1 : j = k
  · subst h1; simp [h]
  · rw [if_neg h1]; congr 1; simp; omega
theorem qrow_skip (A d k : Nat) (h : (A / d).testBit k = false) : qrow A d (k + 1) = qrow A d k := by
  unfold qrow
  refine row_ext (fun j hj => ?_)
  by_cases h1 : j = k
  · subst h1; simp [h]
  · congr 1; simp; omega
theorem qrow_zero (A d : Nat) : qrow A d 0 = bitsB (BitVec.ofNat 128 (A / d)) := row_ext (fun j hj => by
  rw [BitVec.getLsbD_ofNat]; simp [hj])
theorem qrow_size (A d n : Nat) : (qrow A d n).size = 128 := row_size _
theorem lrow_size (A d n : Nat) : (lrow A d n).size = 128 := row_size _


set_option maxRecDepth 20000 in
set_option maxHeartbeats 8000000 in
theorem div_any (A d : Nat) (hA : A < 2 ^ 128) (hd0 : 0 < d) (hd : d < 2 ^ 64) (w : World) :
    Calls Try.prog 152 #[.agg (bitsB (BitVec.ofNat 128 A)), .int .u64 d] w fun e w' => e = .returned (.tuple #[.agg (bitsB (BitVec.ofNat 128 (A / d))), .agg (bitsB (BitVec.ofNat 128 (A % d)))]) ∧ Below w.heap.size w w' := by
  obtain ⟨i0, hi0, hz0, hz1, -⟩ := info_parts infoB
  have HOF := Lib.hid (fun w => of_any 0 d (by decide) hd w)
  have HX := Lib.hid (show BitVec.ofNat 128 (0 * 2 ^ 64 + d) = BitVec.ofNat 128 d by rw [Nat.zero_mul, Nat.zero_add])
  rw [HX.out] at HOF
  clear HX
  generalize hba : bitsB (BitVec.ofNat 128 A) = ba
  have HBA := Lib.hid hba
  clear hba
  go_enter Try.func152, Try.ntmps152
  go_upto_region 2 with (refine alloc_big rfl 239 rfl i0 hi0 _ hz0 ?_)
  have HN := Lib.hid (((((Blk.new w ba 239 w.heap.size rfl).old (.cells zero128 239)).old (.cells zero128 239)).old (.cells zero128 239)).old (.cells zero128 239))
  have H1 := Lib.hid ((((Blk.new (w.alloc (.cells ba 239)) zero128 239 (w.heap.size + 1) (by simp)).old (.cells zero128 239)).old (.cells zero128 239)).old (.cells zero128 239))
  have H2 := Lib.hid (((Blk.new ((w.alloc (.cells ba 239)).alloc (.cells zero128 239)) zero128 239 (w.heap.size + 1 + 1) (by simp)).old (.cells zero128 239)).old (.cells zero128 239))
  have H3 := Lib.hid ((Blk.new (((w.alloc (.cells ba 239)).alloc (.cells zero128 239)).alloc (.cells zero128 239)) zero128 239 (w.heap.size + 1 + 1 + 1) (by simp)).old (.cells zero128 239))
  have H4 := Lib.hid (Blk.new ((((w.alloc (.cells ba 239)).alloc (.cells zero128 239)).alloc (.cells zero128 239)).alloc (.cells zero128 239)) zero128 239 (w.heap.size + 1 + 1 + 1 + 1) (by simp))
  have HL := Lib.hid ((((((Below.refl w.heap.size w).alloc (Nat.le_refl _) (.cells ba 239)).alloc (by simp) (.cells zero128 239)).alloc (by simp; omega) (.cells zero128 239)).alloc (by simp; omega) (.cells zero128 239)).alloc (by simp; omega) (.cells zero128 239))
  change Code.wp _ _ _ _ (((((w.alloc (.cells ba 239)).alloc (.cells zero128 239)).alloc (.cells zero128 239)).alloc (.cells zero128 239)).alloc (.cells zero128 239))
  generalize ((((w.alloc (.cells ba 239)).alloc (.cells zero128 239)).alloc (.cells zero128 239)).alloc (.cells zero128 239)).alloc (.cells zero128 239) = W at HN H1 H2 H3 H4 HL ⊢
  go_wp2_with fail
  refine (HOF.out _).mono ?_
  rintro e w1 ⟨rfl, hb⟩
  replace HN := Lib.hid (HN.out.below hb HN.out.lt)
  replace H1 := Lib.hid (H1.out.below hb H1.out.lt)
  replace H2 := Lib.hid (H2.out.below hb H2.out.lt)
  replace H3 := Lib.hid (H3.out.below hb H3.out.lt)
  replace H4 := Lib.hid (H4.out.below hb H4.out.lt)
  replace HL := Lib.hid (HL.out.trans (hb.mono HL.out.size))
  clear hb
  clear HOF
  go_upto_region 3 with (first | (refine alloc_big rfl 239 rfl i0 hi0 _ hz0 ?_) | (refine store_blk rfl 239 _ _ rfl w1.heap.size rfl zero128 (bitsB (BitVec.ofNat 128 d)) 239 (Blk.new _ _ _ _ rfl) rfl (by rw [bits_size, row_size]) (by kernel_rfl) (row_one _) ?_))
  have hx4 := (Blk.new w1 zero128 239 w1.heap.size rfl).setCells (bitsB (BitVec.ofNat 128 d)) (by rw [bits_size, row_size])
  have hb : Below w1.heap.size w1 (World.setCells (w1.alloc (.cells zero128 239)) w1.heap.size 0 (bitsB (BitVec.ofNat 128 d)).toList) := Blk.Below.setCells _ _ _ ((Below.refl _ _).alloc (Nat.le_refl _) _) (Nat.le_refl _)
  change Code.wp _ _ _ _ (World.setCells (w1.alloc (.cells zero128 239)) w1.heap.size 0 (bitsB (BitVec.ofNat 128 d)).toList)
  generalize World.setCells (w1.alloc (.cells zero128 239)) w1.heap.size 0 (bitsB (BitVec.ofNat 128 d)).toList = w4 at hx4 hb ⊢
  have hD := H4.out.lt
  replace HN := Lib.hid (HN.out.below hb HN.out.lt)
  replace H1 := Lib.hid (H1.out.below hb H1.out.lt)
  replace H2 := Lib.hid (H2.out.below hb H2.out.lt)
  replace H3 := Lib.hid (H3.out.below hb H3.out.lt)
  replace H4 := Lib.hid (H4.out.below hb H4.out.lt)
  replace HL := Lib.hid (HL.out.trans (hb.mono HL.out.size))
  clear hb
  have HDS := Lib.hid (show DT w w4 A d w1.heap.size (qrow A d 128) (lrow A d 128) from ⟨by rw [HBA.out]; exact HN.out, H1.out, H2.out,
    by have e : qrow A d 128 = zero128 := row_ext (fun j hj => by simp [show ¬ 128 ≤ j by omega])
       rw [e]; exact H3.out,
    by have e : lrow A d 128 = zero128 := by unfold lrow; rw [Nat.div_eq_of_lt hA, Nat.zero_mod]; exact bits_zero
       rw [e]; exact H4.out, hx4, HL.out, hD⟩)
  clear hx4 HN H1 H2 H3 H4 HL
  generalize w1.heap.size = D at HDS hD ⊢
  go_wp2_with fail
  go_loopw [9] (fun i wr => ∃ m : Int, -1 ≤ m ∧ m < 128 ∧ i = .int .i64 m ∧ DT w wr A d D (qrow A d (m + 1).toNat) (lrow A d (m + 1).toNat)) (fun i _ => (intOf i + 1).toNat)
  case atStart => exact ⟨127, by omega, by omega, rfl, HDS.out⟩
  case round =>
    clear HDS
    obtain ⟨m, h1, h2, rfl, hds⟩ := hrel
    by_cases h0 : 0 ≤ m
    · obtain ⟨k, rfl⟩ := Int.eq_ofNat_of_zero_le h0
      have e1 : ((k : Int) + 1).toNat = k + 1 := by omega
      rw [e1] at hds
      have HDS := Lib.hid hds
      clear hds e1
      have g1 : (0 : Int) ≤ (k : Int) := by omega
      have g2 : (k : Int) < 128 := by omega
      have hk : k < 128 := by omega
      clear h1 h2 h0
      obtain ⟨hst1, hst2⟩ := div_step A d k hd0
      have HLF := Lib.hid (show ∀ wx, Calls Try.prog 190 #[.agg (lrow A d (k + 1)), .int .i64 1] wx fun e w' => e = .returned (.agg (bitsB (BitVec.ofNat 128 (2 * (A / 2 ^ (k + 1) % d))))) ∧ Below wx.heap.size wx w' from fun wx => by
        rw [← shl_one]; exact left_any _ 1 (by omega) wx)
      have HSL := Lib.hid (set_low (A / 2 ^ (k + 1) % d) (A.testBit k))
      have hLd : A / 2 ^ (k + 1) % d < d := Nat.mod_lt _ hd0
      have hx2 : 2 * (A / 2 ^ (k + 1) % d) + (A.testBit k).toNat < 2 ^ 66 := by
        have : (A.testBit k).toNat ≤ 1 := by cases A.testBit k <;> decide
        have : (2 : Nat) ^ 66 = 4 * 2 ^ 64 := by decide
        omega
      have HQ := Lib.hid (fun h => qrow_set A d k h)
      have HQS := Lib.hid (fun h => qrow_skip A d k h)
      have cn0 : (bitsB (BitVec.ofNat 128 A))[k]? = some (.bool (A.testBit k)) := by
        have h := row_at (fun i => (BitVec.ofNat 128 A).getLsbD i) k hk
        rw [BitVec.getLsbD_ofNat] at h
        simp only [hk, decide_true, Bool.true_and] at h
        exact h
      have hlr : lrow A d k = bitsB (BitVec.ofNat 128 (A / 2 ^ k % d)) := rfl
      rw [hst1] at hlr
      clear hst1
      generalize A.testBit k = b at *
      generalize hL2 : 2 * (A / 2 ^ (k + 1) % d) + b.toNat = L2 at *
      have HLR := Lib.hid hlr
      clear hlr
      generalize 2 * (A / 2 ^ (k + 1) % d) = LL at *
      have HL2 := Lib.hid hL2
      clear hL2 hLd
      have HST2 := Lib.hid hst2
      clear hst2
      have hxs := lrow_size A d (k + 1)
      have hqs := qrow_size A d (k + 1)
      generalize lrow A d (k + 1) = lr at *
      generalize hqq : qrow A d (k + 1) = qr at *
      clear hqq
      go_wp2_with (refine load_blk rfl 239 _ rfl _ rfl _ _ HDS.out.left _ Try.underlying239 rfl (by kernel_rfl) ?_)
      refine (HLF.out _).mono ?_
      rintro e w1 ⟨rfl, hb⟩
      replace HDS := Lib.hid (HDS.out.step hb)
      clear hb HLF
      go_upto_region 7 with (refine store_blk rfl 239 _ _ rfl (w.heap.size + 1 + 1 + 1 + 1) rfl lr (bitsB (BitVec.ofNat 128 LL)) 239 HDS.out.left rfl (by rw [bits_size, hxs]) (by kernel_rfl) (row_one _) ?_)
      replace HDS := Lib.hid (HDS.out.setL (bitsB (BitVec.ofNat 128 LL)) (by rw [bits_size, hxs]))
      clear hxs
      generalize w1.setCells (w.heap.size + 1 + 1 + 1 + 1) 0 (bitsB (BitVec.ofNat 128 LL)).toList = w2 at HDS ⊢
      have cn : w2.cell? ⟨w.heap.size, k, none⟩ = some (.bool b) := HDS.out.num.cell k cn0
      have fl : w2.frozen? ⟨w.heap.size + 1 + 1 + 1 + 1, 0, none⟩ = false := HDS.out.left.free _
      have cl : w2.cell? ⟨w.heap.size + 1 + 1 + 1 + 1, 0, none⟩ = some (.bool ((BitVec.ofNat 128 LL).getLsbD 0)) := HDS.out.left.cell 0 (row_at _ _ (by omega))
      go_upto_region 8 with fail
      replace HDS := Lib.hid (HDS.out.setL0 (.bool b))
      clear cn fl cl cn0
      have hl0 : (bitsB (BitVec.ofNat 128 LL)).setIfInBounds 0 (.bool b) = bitsB (BitVec.ofNat 128 L2) := by rw [← HSL.out]; exact row_set _ _ _
      rw [hl0] at HDS
      clear hl0 HSL HL2
      generalize w2.setCell ⟨w.heap.size + 1 + 1 + 1 + 1, 0, none⟩ (.bool b) = w3 at HDS ⊢
      go_wp2_with (first | (refine load_blk rfl 239 _ rfl _ rfl _ _ HDS.out.left _ Try.underlying239 rfl (by kernel_rfl) ?_) | (refine load_blk rfl 239 _ rfl _ rfl _ _ HDS.out.by_ _ Try.underlying239 rfl (by kernel_rfl) ?_))
      refine (cmp_any _ _ _).mono ?_
      rintro e w4 ⟨rfl, hb⟩
      replace HDS := Lib.hid (HDS.out.step hb)
      clear hb
      have hcmp := cmp_ge (BitVec.ofNat 128 L2) (BitVec.ofNat 128 d)
      rw [toNat_small d (by omega), toNat_small L2 (by omega)] at hcmp
      generalize cmp (BitVec.ofNat 128 L2) (BitVec.ofNat 128 d) = c at hcmp ⊢
      by_cases hge : d ≤ L2
      · have hc : 0 ≤ c := by simpa [hge] using hcmp
        have HQ1 := Lib.hid (HQ.out (by rw [HST2.out]; simp [hge]))
        have HSUB := Lib.hid (show BitVec.ofNat 128 L2 - BitVec.ofNat 128 d = BitVec.ofNat 128 (L2 - d) by
          apply BitVec.eq_of_toNat_eq
          rw [BitVec.toNat_sub_of_le (by rw [BitVec.le_def, toNat_small d (by omega), toNat_small L2 (by omega)]; exact hge), toNat_small d (by omega), toNat_small L2 (by omega), toNat_small (L2 - d) (by omega)])
        rw [if_pos hge] at HLR
        clear hcmp hge HST2 HQ HQS hx2
        go_wp2_with (first | (refine load_blk rfl 239 _ rfl _ rfl _ _ HDS.out.left _ Try.underlying239 rfl (by kernel_rfl) ?_) | (refine load_blk rfl 239 _ rfl _ rfl _ _ HDS.out.by_ _ Try.underlying239 rfl (by kernel_rfl) ?_))
        refine (sub_any _ _ _).mono ?_
        rintro e w5 ⟨rfl, hb⟩
        replace HDS := Lib.hid (HDS.out.step hb)
        clear hb
        rw [HSUB.out]
        clear HSUB
        generalize decide ((BitVec.ofNat 128 d).toNat ≤ (BitVec.ofNat 128 L2).toNat) = tt
        generalize hll : bitsB (BitVec.ofNat 128 (L2 - d)) = ll at *
        go_upto_region 10 with (refine store_blk rfl 239 _ _ rfl (w.heap.size + 1 + 1 + 1 + 1) rfl (bitsB (BitVec.ofNat 128 L2)) ll 239 HDS.out.left rfl (by rw [← hll, bits_size, bits_size]) (by rw [← hll, bits_size]; kernel_rfl) (by rw [← hll]; exact row_one _) ?_)
        replace HDS := Lib.hid (HDS.out.setL ll (by rw [← hll, bits_size, bits_size]))
        generalize w5.setCells (w.heap.size + 1 + 1 + 1 + 1) 0 ll.toList = w6 at HDS ⊢
        obtain ⟨vq, hvq⟩ : ∃ v, qr[k]? = some v := ⟨_, Array.getElem?_eq_getElem (by omega)⟩
        have cq : w6.cell? ⟨w.heap.size + 1 + 1 + 1, k, none⟩ = some vq := HDS.out.q.cell k hvq
        have fq : w6.frozen? ⟨w.heap.size + 1 + 1 + 1, k, none⟩ = false := HDS.out.q.free _
        replace HDS := Lib.hid (HDS.out.setQ k (.bool true))
        rw [HQ1.out] at HDS
        clear hvq
        go_wp2
        go_roundw
        case rel => exact ⟨(k : Int) - 1, by omega, by omega, by go_num, by
          have e1 : ((k : Int) - 1 + 1).toNat = k := by omega
          rw [e1, HLR.out]; exact HDS.out⟩
        case measure => simp [intOf]
      · have hc : c < 0 := by
          have h : ¬ (0 ≤ c) := by simpa [hge] using hcmp
          omega
        have HQ1 := Lib.hid (HQS.out (by rw [HST2.out]; simp [hge]))
        rw [if_neg hge] at HLR
        rw [HQ1.out] at HDS
        clear hcmp hge HST2 HQ HQS hx2 hqs HQ1
        go_wp2
        go_roundw
        case rel => exact ⟨(k : Int) - 1, by omega, by omega, by go_num, by
          have e1 : ((k : Int) - 1 + 1).toNat = k := by omega
          rw [e1, HLR.out]; exact HDS.out⟩
        case measure => simp [intOf]
    · obtain rfl : m = -1 := by omega
      have hds2 : DT w wr A d D (bitsB (BitVec.ofNat 128 (A / d))) (bitsB (BitVec.ofNat 128 (A % d))) := by
        have h := hds
        rw [show ((-1 : Int) + 1).toNat = 0 from rfl, qrow_zero] at h
        unfold lrow at h
        rw [Nat.pow_zero, Nat.div_one] at h
        exact h
      clear hds h1 h2 h0
      have HDS := Lib.hid hds2
      clear hds2
      generalize hxq : BitVec.ofNat 128 (A / d) = xq at *
      generalize hxl : BitVec.ofNat 128 (A % d) = xl at *
      have HXQ := Lib.hid hxq
      have HXL := Lib.hid hxl
      clear hxq hxl
      go_upto_region 11 with fail
      replace HDS := Lib.hid (show DT w wr.drew A d D (bitsB xq) (bitsB xl) from ⟨HDS.out.num, HDS.out.r1, HDS.out.r2, HDS.out.q, HDS.out.left, HDS.out.by_, HDS.out.below.drew, HDS.out.hD⟩)
      refine wp_region_held_drew (S := (fun w' => w'.rangeAt (w.heap.size + 1 + 1 + 1) 0 (bitsB xq).toList ∧ w'.rangeAt (w.heap.size + 1 + 1 + 1 + 1) 0 (bitsB xl).toList)) (by kernel_rfl) ⟨HDS.out.q.range, HDS.out.left.range⟩ (fun hHeld => ?_)
      refine wpAnyH_take (i := 0) (oi := ⟨some 34, .load 239 (.tmp 6), _, _, _, _⟩) (v := _) rfl (by kernel_rfl) (by kernel_rfl) (by kernel_rfl) (fun _ _ _ h => h) (yieldsIf_load_mid (by rfl) _ _ rfl _ _ rfl _ _ (fun w h => h.1) Try.underlying239 rfl (info128 xq)) (by assumption) ?_
      simp only [Act.put, List.setIfInBounds_toArray, List.set_cons_zero, List.set_cons_succ]
      refine wpAnyH_take (i := 1) (oi := ⟨some 35, .load 239 (.tmp 7), _, _, _, _⟩) (v := _) rfl (by kernel_rfl) (by kernel_rfl) (by kernel_rfl) (fun _ _ _ h => h) (yieldsIf_load_mid (by rfl) _ _ rfl _ _ rfl _ _ (fun w h => h.2) Try.underlying239 rfl (info128 xl)) (by assumption) ?_
      simp only [Act.put, List.setIfInBounds_toArray, List.set_cons_zero, List.set_cons_succ]
      refine wpAnyH_ready (rs := [2]) (by kernel_rfl) (by simp) ?_
      refine AllReadyH.cons (o := ⟨none, _, _, _, _, _⟩) rfl (fun KK hK => ?_) AllReadyH.nil
      refine step_store_blk (by rfl) 239 _ _ (by rfl) (w.heap.size + 1) (by rfl) zero128 (bitsB xq) 239 HDS.out.r1 (by rfl) (by rw [bits_size, row_size]) (by kernel_rfl) (row_one _) ?_
      replace HDS := Lib.hid (HDS.out.setR1 (bitsB xq) (by rw [bits_size, row_size]))
      refine hK.out _ _ ⟨HDS.out.q.range, HDS.out.left.range⟩ (fun hHeld => ?_)
      clear hK; try clear KK
      refine wpAnyH_ready (rs := [3]) (by kernel_rfl) (by simp) ?_
      refine AllReadyH.cons (o := ⟨none, _, _, _, _, _⟩) rfl (fun KK hK => ?_) AllReadyH.nil
      refine step_store_blk (by rfl) 239 _ _ (by rfl) (w.heap.size + 1 + 1) (by rfl) zero128 (bitsB xl) 239 HDS.out.r2 (by rfl) (by rw [bits_size, row_size]) (by kernel_rfl) (row_one _) ?_
      replace HDS := Lib.hid (HDS.out.setR2 (bitsB xl) (by rw [bits_size, row_size]))
      refine hK.out _ _ ⟨HDS.out.q.range, HDS.out.left.range⟩ (fun hHeld => ?_)
      clear hK; try clear KK
      refine wpAnyH_done (by kernel_rfl) ?_ _
      go_wp2
      refine bodyPost_ret (results_blk_blk rfl rfl rfl HDS.out.r1 HDS.out.r2 Try.underlying239 rfl (by kernel_rfl) (by kernel_rfl)) rfl ?_
      exact ⟨by rw [HXQ.out, HXL.out], HDS.out.below⟩
end Go.Proofs.Ytogjgpiddjmpiaa.Ref01

/- The document's numbers of 128 bits: Halves. -/
namespace Go.Proofs.Ytogjgpiddjmpiaa.Ref01
set_option linter.unusedVariables false
open Go.RowKit Go.Proofs.Ytogjgpiddjmpiaa.Kit Go.Proofs.Ytogjgpiddjmpiaa.Blk Go.Proofs.Ytogjgpiddjmpiaa.B128
attribute [local go_sem ↓] Go.wp_at_zero Go.wp_at_succ

theorem or_bit (lo k : Nat) (hlo : lo < 2 ^ k) (hk : k < 64) : Go.bits .or .u64 (lo : Int) (IntKind.u64.wrap (2 ^ k)) = ((lo + 2 ^ k : Nat) : Int) := by
  have h2 : 2 ^ k < 2 ^ 64 := Nat.pow_lt_pow_right (by decide) hk
  have e : IntKind.u64.wrap (2 ^ k) = ((2 ^ k : Nat) : Int) := by
    rw [show ((2 : Int) ^ k) = ((2 ^ k : Nat) : Int) from by simp]
    exact IntWalk.u64_in _ ⟨by omega, by omega⟩
  rw [e, Go.u64_or_nat lo (2 ^ k) (by omega) (by omega), or_two_pow lo k hlo]
theorem shift_bit (A k : Nat) : (A / 2 ^ 64).testBit k = A.testBit (k + 64) := by
  rw [Nat.testBit_div_two_pow]
theorem halves_next (x lo k : Nat) (b : Bool) (h : x % 2 ^ k = lo) (hb : x.testBit k = b) : lo < 2 ^ k ∧ x % 2 ^ (k + 1) = if b then lo + 2 ^ k else lo := by
  subst h hb
  refine ⟨Nat.mod_lt _ (Nat.two_pow_pos k), ?_⟩
  rw [low_next]
  cases x.testBit k <;> simp

set_option maxRecDepth 20000 in
set_option maxHeartbeats 4000000 in
theorem halves_any (A : Nat) (w : World) : Calls Try.prog 153 #[.agg (bitsB (BitVec.ofNat 128 A))] w fun e w' => e = .returned (.tuple #[.int .u64 ((A / 2 ^ 64 % 2 ^ 64 : Nat) : Int), .int .u64 ((A % 2 ^ 64 : Nat) : Int)]) ∧ Below w.heap.size w w' := by
  have HCA := Lib.hid (show ∀ k, k < 128 → (bitsB (BitVec.ofNat 128 A))[k]? = some (.bool (A.testBit k)) from fun k hk => by
    have h := row_at (fun i => (BitVec.ofNat 128 A).getLsbD i) k hk
    rw [BitVec.getLsbD_ofNat] at h
    simp only [hk, decide_true, Bool.true_and] at h
    exact h)
  generalize bitsB (BitVec.ofNat 128 A) = ba at *
  go_enter Try.func153, Try.ntmps153
  go_upto_region 2 with fail
  have HA := Lib.hid (Blk.new w ba 239 w.heap.size rfl)
  have HL := Lib.hid ((Below.refl w.heap.size w).alloc (Nat.le_refl _) (.cells ba 239))
  generalize w.alloc (.cells ba 239) = W at HA HL ⊢
  go_wp2_with fail
  go_loopw [4, 5, 6] (fun hi lo i wr => ∃ k : Nat, k ≤ 64 ∧ i = .int .i64 k ∧ hi = .int .u64 ((A / 2 ^ 64 % 2 ^ k : Nat) : Int) ∧ lo = .int .u64 ((A % 2 ^ k : Nat) : Int) ∧ Blk wr w.heap.size ba 239 ∧ Below w.heap.size w wr) (fun _ _ i _ => 64 - (intOf i).toNat)
  case atStart => exact ⟨0, by omega, rfl, by rw [Nat.pow_zero, Nat.mod_one]; rfl, by rw [Nat.pow_zero, Nat.mod_one]; rfl, HA.out, HL.out⟩
  case round =>
    clear HA HL
    obtain ⟨k, hk, rfl, rfl, rfl, ha, hl⟩ := hrel
    have HA := Lib.hid ha
    have HL := Lib.hid hl
    clear ha hl
    by_cases hlt : k < 64
    · have g0 : (0 : Int) ≤ (k : Int) := by omega
      have g1 : (k : Int) < 64 := by omega
      have g3 : IntKind.i64.wrap ((k : Int) + 64) = ((k + 64 : Nat) : Int) := by
        rw [IntWalk.i64_in _ ⟨by omega, by omega⟩]; rfl
      have c1 : wr.cell? ⟨w.heap.size, k, none⟩ = some (.bool (A.testBit k)) := HA.out.cell k (HCA.out k (by omega))
      have c2 : wr.cell? ⟨w.heap.size, k + 64, none⟩ = some (.bool (A.testBit (k + 64))) := HA.out.cell (k + 64) (HCA.out (k + 64) (by omega))
      have HB1 := Lib.hid (fun b h => halves_next A _ k b rfl h)
      have HB2 := Lib.hid (fun b h => halves_next (A / 2 ^ 64) _ k b rfl ((shift_bit A k).trans h))
      generalize A % 2 ^ k = lo at HB1 ⊢
      generalize A / 2 ^ 64 % 2 ^ k = hi at HB2 ⊢
      cases hb1 : A.testBit k with
      | true =>
        rw [hb1] at c1
        replace HB1 := Lib.hid (HB1.out true hb1)
        clear hb1
        cases hb2 : A.testBit (k + 64) with
        | true =>
          rw [hb2] at c2
          replace HB2 := Lib.hid (HB2.out true hb2)
          clear hb2
          go_wp2
          go_roundw
          case rel => exact ⟨k + 1, by omega, by go_num, by rw [HB2.out.2]; first | rfl | exact congrArg (Value.int .u64) (or_bit hi k HB2.out.1 hlt), by rw [HB1.out.2]; first | rfl | exact congrArg (Value.int .u64) (or_bit lo k HB1.out.1 hlt), HA.out, HL.out⟩
          case measure => simp [intOf]; omega
        | false =>
          rw [hb2] at c2
          replace HB2 := Lib.hid (HB2.out false hb2)
          clear hb2
          go_wp2
          go_roundw
          case rel => exact ⟨k + 1, by omega, by go_num, by rw [HB2.out.2]; first | rfl | exact congrArg (Value.int .u64) (or_bit hi k HB2.out.1 hlt), by rw [HB1.out.2]; first | rfl | exact congrArg (Value.int .u64) (or_bit lo k HB1.out.1 hlt), HA.out, HL.out⟩
          case measure => simp [intOf]; omega
      | false =>
        rw [hb1] at c1
        replace HB1 := Lib.hid (HB1.out false hb1)
        clear hb1
        cases hb2 : A.testBit (k + 64) with
        | true =>
          rw [hb2] at c2
          replace HB2 := Lib.hid (HB2.out true hb2)
          clear hb2
          go_wp2
          go_roundw
          case rel => exact ⟨k + 1, by omega, by go_num, by rw [HB2.out.2]; first | rfl | exact congrArg (Value.int .u64) (or_bit hi k HB2.out.1 hlt), by rw [HB1.out.2]; first | rfl | exact congrArg (Value.int .u64) (or_bit lo k HB1.out.1 hlt), HA.out, HL.out⟩
          case measure => simp [intOf]; omega
        | false =>
          rw [hb2] at c2
          replace HB2 := Lib.hid (HB2.out false hb2)
          clear hb2
          go_wp2
          go_roundw
          case rel => exact ⟨k + 1, by omega, by go_num, by rw [HB2.out.2]; first | rfl | exact congrArg (Value.int .u64) (or_bit hi k HB2.out.1 hlt), by rw [HB1.out.2]; first | rfl | exact congrArg (Value.int .u64) (or_bit lo k HB1.out.1 hlt), HA.out, HL.out⟩
          case measure => simp [intOf]; omega
    · have g1 : (64 : Int) ≤ (k : Int) := by omega
      obtain rfl : k = 64 := by omega
      go_wp2
      refine bodyPost_ret (v := .tuple #[.int .u64 ((A / 2 ^ 64 % 2 ^ 64 : Nat) : Int), .int .u64 ((A % 2 ^ 64 : Nat) : Int)]) (by simp [results, Try.results153, go_sem]) rfl ?_
      exact ⟨rfl, HL.out⟩
end Go.Proofs.Ytogjgpiddjmpiaa.Ref01

/- damperref34.mean. -/
namespace Go.Proofs.Ytogjgpiddjmpiaa.Ref01
set_option linter.unusedVariables false
open Go.RowKit Go.Proofs.Ytogjgpiddjmpiaa.Kit Go.Proofs.Ytogjgpiddjmpiaa.Blk Go.Proofs.Ytogjgpiddjmpiaa.B128
attribute [local go_sem ↓] Go.wp_at_zero Go.wp_at_succ

/-- The worth and the volume of the first n of a row of prices and quantities. -/
def worth : List (Nat × Nat) → Nat
  | [] => 0
  | x :: l => x.1 * x.2 + worth l
def volume : List (Nat × Nat) → Nat
  | [] => 0
  | x :: l => x.2 + volume l
theorem worth_app (l m : List (Nat × Nat)) : worth (l ++ m) = worth l + worth m := by
  induction l with
  | nil => simp [worth]
  | cons x l ih => simp [worth, ih, Nat.add_assoc]
theorem volume_app (l m : List (Nat × Nat)) : volume (l ++ m) = volume l + volume m := by
  induction l with
  | nil => simp [volume]
  | cons x l ih => simp [volume, ih, Nat.add_assoc]
theorem worth_next (l : List (Nat × Nat)) (i : Nat) (h : i < l.length) : worth (l.take (i + 1)) = worth (l.take i) + l[i].1 * l[i].2 := by
  rw [List.take_succ_eq_append_getElem h, worth_app]; simp [worth]
theorem volume_next (l : List (Nat × Nat)) (i : Nat) (h : i < l.length) : volume (l.take (i + 1)) = volume (l.take i) + l[i].2 := by
  rw [List.take_succ_eq_append_getElem h, volume_app]; simp [volume]
theorem volume_le (l : List (Nat × Nat)) (M : Nat) (h : ∀ x ∈ l, x.2 ≤ M) : volume l ≤ l.length * M := by
  induction l with
  | nil => simp [volume]
  | cons x l ih =>
    have h1 := ih (fun y hy => h y (List.mem_cons_of_mem _ hy))
    have h2 := h x List.mem_cons_self
    rw [List.length_cons, Nat.add_mul, Nat.one_mul]
    simp only [volume]
    omega
theorem worth_le (l : List (Nat × Nat)) (M : Nat) (h : ∀ x ∈ l, x.1 * x.2 ≤ M) : worth l ≤ l.length * M := by
  induction l with
  | nil => simp [worth]
  | cons x l ih =>
    have h1 := ih (fun y hy => h y (List.mem_cons_of_mem _ hy))
    have h2 := h x List.mem_cons_self
    rw [List.length_cons, Nat.add_mul, Nat.one_mul]
    simp only [worth]
    omega
/-- Two rows in memory. -/
structure Rows (w : World) (P Q : Nat) (l : List (Nat × Nat)) : Prop where
  p : ∀ i (h : i < l.length), w.cell? ⟨P, i, none⟩ = some (.int .i64 (l[i].1 : Int))
  q : ∀ i (h : i < l.length), w.cell? ⟨Q, i, none⟩ = some (.int .i64 (l[i].2 : Int))
theorem Rows.p' {w : World} {P Q : Nat} {l : List (Nat × Nat)} (h : Rows w P Q l) (i : Nat) (hi : i < l.length) {a : Nat} (ha : l[i].1 = a) : w.cell? ⟨P, i, none⟩ = some (.int .i64 (a : Int)) := by rw [← ha]; exact h.p i hi
theorem Rows.q' {w : World} {P Q : Nat} {l : List (Nat × Nat)} (h : Rows w P Q l) (i : Nat) (hi : i < l.length) {a : Nat} (ha : l[i].2 = a) : w.cell? ⟨Q, i, none⟩ = some (.int .i64 (a : Int)) := by rw [← ha]; exact h.q i hi
theorem Rows.below {w w' : World} {P Q n : Nat} {l : List (Nat × Nat)} (h : Rows w P Q l) (hb : Below n w w') (hP : P < n) (hQ : Q < n) : Rows w' P Q l :=
  ⟨fun i hi => by rw [World.cell?_of_block (hb.block P hP)]; exact h.p i hi, fun i hi => by rw [World.cell?_of_block (hb.block Q hQ)]; exact h.q i hi⟩

set_option maxRecDepth 20000 in
set_option maxHeartbeats 4000000 in
theorem mean_any (P Q cp cq : Nat) (l : List (Nat × Nat)) (hl : l.length ≤ 1000) (hpq : ∀ x ∈ l, x.1 < 2 ^ 63 ∧ x.2 < 2 ^ 33) (hv : 0 < volume l) (hm : worth l / volume l < 2 ^ 63) (w : World) (hP : P < w.heap.size) (hQ : Q < w.heap.size) (hR : Rows w P Q l) :
    Calls Try.prog 115 #[.slice (some ⟨P, 0, none⟩) l.length cp, .slice (some ⟨Q, 0, none⟩) l.length cq] w fun e w' => e = .returned (.int .i64 ((worth l / volume l : Nat) : Int)) ∧ Below w.heap.size w w' := by
  obtain ⟨i0, hi0, hz0, hz1, -⟩ := info_parts infoB
  go_enter Try.func115, Try.ntmps115
  go_upto_region 2 with (refine alloc_big rfl 239 rfl i0 hi0 _ hz0 ?_)
  have HS := Lib.hid (Blk.new w zero128 239 w.heap.size rfl)
  have HL := Lib.hid ((Below.refl w.heap.size w).alloc (Nat.le_refl _) (.cells zero128 239))
  change Code.wp _ _ _ _ (w.alloc (.cells zero128 239))
  generalize w.alloc (.cells zero128 239) = W at HS HL ⊢
  go_wp2_with fail
  go_loopw [6, 7] (fun n i wr => ∃ k : Nat, k ≤ l.length ∧ i = .int .i64 k ∧ n = .int .u64 ((volume (l.take k) : Nat) : Int) ∧ Blk wr w.heap.size (bitsB (BitVec.ofNat 128 (worth (l.take k)))) 239 ∧ Below w.heap.size w wr) (fun _ i _ => l.length - (intOf i).toNat)
  case atStart => exact ⟨0, by omega, rfl, rfl, by rw [List.take_zero]; have h := HS.out; have e : zero128 = bitsB (BitVec.ofNat 128 (worth [])) := bits_zero.symm; rw [← e]; exact h, HL.out⟩
  case round =>
    clear HS HL
    obtain ⟨k, hk, rfl, rfl, hs, hw⟩ := hrel
    have HS := Lib.hid hs
    have HL := Lib.hid hw
    clear hs hw
    by_cases hlt : k < l.length
    · have g0 : (0 : Int) ≤ (k : Int) := by omega
      have g1 : (k : Int) < (l.length : Int) := by omega
      go_upto_region 6 with fail
      have hx := hpq l[k] (List.getElem_mem hlt)
      have hc : wr.drew.cell? ⟨P, k, none⟩ = some (.int .i64 (l[k].1 : Int)) ∧ wr.drew.cell? ⟨Q, k, none⟩ = some (.int .i64 (l[k].2 : Int)) :=
        ⟨(hR.below HL.out hP hQ).p k hlt, (hR.below HL.out hP hQ).q k hlt⟩
      have hPr : P < wr.drew.heap.size := Nat.lt_of_lt_of_le hP HL.out.size
      have hQr : Q < wr.drew.heap.size := Nat.lt_of_lt_of_le hQ HL.out.size
      have HWN := Lib.hid (worth_next l k hlt)
      have HVN := Lib.hid (volume_next l k hlt)
      have HMUL := Lib.hid (fun w => mul_any l[k].1 l[k].2 (by omega) (by omega) w)
      have ea : IntKind.u64.wrap (l[k].1 : Int) = (l[k].1 : Int) := IntWalk.u64_in _ ⟨by omega, by omega⟩
      have eb : IntKind.u64.wrap (l[k].2 : Int) = (l[k].2 : Int) := IntWalk.u64_in _ ⟨by omega, by omega⟩
      have hvk := volume_le (l.take k) (2 ^ 33) (fun x hx => Nat.le_of_lt (hpq x (List.mem_of_mem_take hx)).2)
      have hvb : (l.take k).length * 2 ^ 33 ≤ 1000 * 2 ^ 33 := Nat.mul_le_mul_right _ (by rw [List.length_take]; omega)
      have ev : IntKind.u64.wrap ((volume (l.take k) : Nat) + (l[k].2 : Int)) = ((volume (l.take k) + l[k].2 : Nat) : Int) := by
        rw [IntWalk.u64_in _ ⟨by omega, by omega⟩]; rfl
      clear hvk hvb
      generalize hla : l[k].1 = a at *
      generalize hlb : l[k].2 = b at *
      have HA := Lib.hid hla
      have HB := Lib.hid hlb
      clear hla hlb
      replace HS := Lib.hid (show Blk wr.drew w.heap.size (bitsB (BitVec.ofNat 128 (worth (l.take k)))) 239 from HS.out)
      replace HL := Lib.hid (show Below w.heap.size w wr.drew from HL.out.drew)
      have HC := Lib.hid hc
      clear hc
      refine wp_region_held_drew (S := (fun w' => w'.cell? ⟨P, k, none⟩ = some (.int .i64 (a : Int)) ∧ w'.cell? ⟨Q, k, none⟩ = some (.int .i64 (b : Int)))) (by kernel_rfl) HC.out (fun hHeld => ?_)
      refine wpAnyH_take (i := 1) (oi := ⟨some 20, _, _, _, _, _⟩) (v := (.slice (some ⟨P, 0, none⟩) l.length cp)) rfl (by kernel_rfl) (by kernel_rfl) (by kernel_rfl) (fun _ _ _ h => h) (Or.inl ⟨by rfl, fun w hSw => by (try dsimp only at hSw); go_simp⟩) (by assumption) ?_
      simp only [Act.put, List.setIfInBounds_toArray, List.set_cons_zero, List.set_cons_succ]
      refine wpAnyH_take (i := 2) (oi := ⟨some 21, _, _, _, _, _⟩) (v := (.int .i64 k)) rfl (by kernel_rfl) (by kernel_rfl) (by kernel_rfl) (fun _ _ _ h => h) (Or.inl ⟨by rfl, fun w hSw => by (try dsimp only at hSw); go_simp⟩) (by assumption) ?_
      simp only [Act.put, List.setIfInBounds_toArray, List.set_cons_zero, List.set_cons_succ]
      refine wpAnyH_take (i := 3) (oi := ⟨some 22, _, _, _, _, _⟩) (v := (.pointer (some ⟨P, k, none⟩))) rfl (by kernel_rfl) (by kernel_rfl) (by kernel_rfl) (fun _ _ _ h => h) (Or.inl ⟨by rfl, fun w hSw => by (try dsimp only at hSw); go_simp⟩) (by assumption) ?_
      simp only [Act.put, List.setIfInBounds_toArray, List.set_cons_zero, List.set_cons_succ]
      refine wpAnyH_take (i := 4) (oi := ⟨some 23, _, _, _, _, _⟩) (v := (.int .i64 a)) rfl (by kernel_rfl) (by kernel_rfl) (by kernel_rfl) (fun _ _ _ h => h) (Or.inl ⟨by rfl, fun w hSw => by (try dsimp only at hSw); go_simp⟩) (by assumption) ?_
      simp only [Act.put, List.setIfInBounds_toArray, List.set_cons_zero, List.set_cons_succ]
      refine wpAnyH_take (i := 5) (oi := ⟨some 24, _, _, _, _, _⟩) (v := (.int .u64 a)) rfl (by kernel_rfl) (by kernel_rfl) (by kernel_rfl) (fun _ _ _ h => h) (Or.inl ⟨by rfl, fun w hSw => by (try dsimp only at hSw); go_simp⟩) (by assumption) ?_
      simp only [Act.put, List.setIfInBounds_toArray, List.set_cons_zero, List.set_cons_succ]
      refine wpAnyH_take (i := 6) (oi := ⟨some 25, _, _, _, _, _⟩) (v := (.slice (some ⟨Q, 0, none⟩) l.length cq)) rfl (by kernel_rfl) (by kernel_rfl) (by kernel_rfl) (fun _ _ _ h => h) (Or.inl ⟨by rfl, fun w hSw => by (try dsimp only at hSw); go_simp⟩) (by assumption) ?_
      simp only [Act.put, List.setIfInBounds_toArray, List.set_cons_zero, List.set_cons_succ]
      refine wpAnyH_take (i := 7) (oi := ⟨some 26, _, _, _, _, _⟩) (v := (.int .i64 k)) rfl (by kernel_rfl) (by kernel_rfl) (by kernel_rfl) (fun _ _ _ h => h) (Or.inl ⟨by rfl, fun w hSw => by (try dsimp only at hSw); go_simp⟩) (by assumption) ?_
      simp only [Act.put, List.setIfInBounds_toArray, List.set_cons_zero, List.set_cons_succ]
      refine wpAnyH_take (i := 8) (oi := ⟨some 27, _, _, _, _, _⟩) (v := (.pointer (some ⟨Q, k, none⟩))) rfl (by kernel_rfl) (by kernel_rfl) (by kernel_rfl) (fun _ _ _ h => h) (Or.inl ⟨by rfl, fun w hSw => by (try dsimp only at hSw); go_simp⟩) (by assumption) ?_
      simp only [Act.put, List.setIfInBounds_toArray, List.set_cons_zero, List.set_cons_succ]
      refine wpAnyH_take (i := 9) (oi := ⟨some 28, _, _, _, _, _⟩) (v := (.int .i64 b)) rfl (by kernel_rfl) (by kernel_rfl) (by kernel_rfl) (fun _ _ _ h => h) (Or.inl ⟨by rfl, fun w hSw => by (try dsimp only at hSw); go_simp⟩) (by assumption) ?_
      simp only [Act.put, List.setIfInBounds_toArray, List.set_cons_zero, List.set_cons_succ]
      refine wpAnyH_take (i := 10) (oi := ⟨some 29, _, _, _, _, _⟩) (v := (.int .u64 b)) rfl (by kernel_rfl) (by kernel_rfl) (by kernel_rfl) (fun _ _ _ h => h) (Or.inl ⟨by rfl, fun w hSw => by (try dsimp only at hSw); go_simp⟩) (by assumption) ?_
      simp only [Act.put, List.setIfInBounds_toArray, List.set_cons_zero, List.set_cons_succ]
      refine wpAnyH_ready (rs := [0, 11]) (by kernel_rfl) (by simp) ?_
      refine AllReadyH.cons (o := ⟨some 19, .load 239 (.tmp 5), _, _, _, _⟩) rfl (fun K hK => ?_) (AllReadyH.cons (o := ⟨some 30, _, _, _, _, _⟩) rfl (fun K hK => ?_) AllReadyH.nil)
      ·
        refine step_load_blk (by rfl) 239 _ (by rfl) w.heap.size (by rfl) _ _ HS.out _ Try.underlying239 rfl (by kernel_rfl) ?_
        refine hK.out _ _ HC.out (fun hHeld => ?_)
        clear hK; try clear KK
        try simp only [Act.put, List.setIfInBounds_toArray, List.set_cons_zero, List.set_cons_succ]
        refine wpAnyH_ready (rs := [11]) (by kernel_rfl) (by simp) ?_
        refine AllReadyH.cons (o := ⟨some 30, _, _, _, _, _⟩) rfl (fun KK hK => ?_) AllReadyH.nil
        go_simp
        refine (HMUL.out _).mono ?_
        rintro e w2 ⟨rfl, hb⟩
        replace HS := Lib.hid (HS.out.below hb HS.out.lt)
        replace HC := Lib.hid (And.intro ((World.cell?_of_block (a := ⟨P, k, none⟩) (hb.block P hPr)).trans HC.out.1) ((World.cell?_of_block (a := ⟨Q, k, none⟩) (hb.block Q hQr)).trans HC.out.2))
        replace HL := Lib.hid (HL.out.trans (hb.mono HL.out.size))
        replace hPr := Nat.lt_of_lt_of_le hPr hb.size
        replace hQr := Nat.lt_of_lt_of_le hQr hb.size
        clear hb
        go_wp2_with fail
        refine hK.out _ _ HC.out (fun hHeld => ?_)
        clear hK; try clear KK
        try simp only [Act.put, List.setIfInBounds_toArray, List.set_cons_zero, List.set_cons_succ]
        refine wpAnyH_ready (rs := [12]) (by kernel_rfl) (by simp) ?_
        refine AllReadyH.cons (o := ⟨some 31, _, _, _, _, _⟩) rfl (fun KK hK => ?_) AllReadyH.nil
        go_simp
        refine (add_any _ _ _).mono ?_
        rintro e w3 ⟨rfl, hb⟩
        rw [← BitVec.ofNat_add, ← HWN.out]
        replace HS := Lib.hid (HS.out.below hb HS.out.lt)
        replace HC := Lib.hid (And.intro ((World.cell?_of_block (a := ⟨P, k, none⟩) (hb.block P hPr)).trans HC.out.1) ((World.cell?_of_block (a := ⟨Q, k, none⟩) (hb.block Q hQr)).trans HC.out.2))
        replace HL := Lib.hid (HL.out.trans (hb.mono HL.out.size))
        replace hPr := Nat.lt_of_lt_of_le hPr hb.size
        replace hQr := Nat.lt_of_lt_of_le hQr hb.size
        clear hb
        generalize (!BitVec.carry 128 _ _ false) = cc
        generalize hY : BitVec.ofNat 128 (worth (List.take (k + 1) l)) = Y
        have HY := Lib.hid hY
        clear hY
        go_wp2_with fail
        refine hK.out _ _ HC.out (fun hHeld => ?_)
        clear hK; try clear KK
        try simp only [Act.put, List.setIfInBounds_toArray, List.set_cons_zero, List.set_cons_succ]
        refine wpAnyH_take (i := 13) (oi := ⟨some 18, _, _, _, _, _⟩) (v := (.tuple #[.agg (bitsB Y), .bool cc])) rfl (by kernel_rfl) (by kernel_rfl) (by kernel_rfl) (fun _ _ _ h => h) (Or.inl ⟨by rfl, fun w hSw => by (try dsimp only at hSw); go_simp⟩) (by assumption) ?_
        simp only [Act.put, List.setIfInBounds_toArray, List.set_cons_zero, List.set_cons_succ]
        refine wpAnyH_take (i := 14) (oi := ⟨some 32, _, _, _, _, _⟩) (v := (.agg (bitsB Y))) rfl (by kernel_rfl) (by kernel_rfl) (by kernel_rfl) (fun _ _ _ h => h) (Or.inl ⟨by rfl, fun w hSw => by (try dsimp only at hSw); go_simp⟩) (by assumption) ?_
        simp only [Act.put, List.setIfInBounds_toArray, List.set_cons_zero, List.set_cons_succ]
        refine wpAnyH_take (i := 15) (oi := ⟨some 33, _, _, _, _, _⟩) (v := (.bool cc)) rfl (by kernel_rfl) (by kernel_rfl) (by kernel_rfl) (fun _ _ _ h => h) (Or.inl ⟨by rfl, fun w hSw => by (try dsimp only at hSw); go_simp⟩) (by assumption) ?_
        simp only [Act.put, List.setIfInBounds_toArray, List.set_cons_zero, List.set_cons_succ]
        refine wpAnyH_ready (rs := [16]) (by kernel_rfl) (by simp) ?_
        refine AllReadyH.cons (o := ⟨none, _, _, _, _, _⟩) rfl (fun KK hK => ?_) AllReadyH.nil
        refine step_store_blk (by rfl) 239 _ _ (by rfl) w.heap.size (by rfl) _ (bitsB Y) 239 HS.out (by rfl) (by rw [bits_size, bits_size]) (by kernel_rfl) (row_one _) ?_
        replace HL := Lib.hid (Blk.Below.setCells (B := w.heap.size) (bitsB Y).toList 0 _ HL.out (by omega))
        replace HS := Lib.hid (HS.out.setCells (bitsB Y) (by rw [bits_size, bits_size]))
        refine hK.out _ _ ⟨(hR.below HL.out hP hQ).p' k hlt HA.out, (hR.below HL.out hP hQ).q' k hlt HB.out⟩ (fun hHeld => ?_)
        clear hK; try clear KK
        refine wpAnyH_done (by kernel_rfl) ?_ _
        go_wp2
        go_roundw
        case rel => exact ⟨k + 1, by omega, by go_num, by rw [HVN.out]; rfl, by rw [HY.out]; exact HS.out, HL.out⟩
        case measure => simp [intOf]; omega
      ·
        go_simp
        refine (HMUL.out _).mono ?_
        rintro e w2 ⟨rfl, hb⟩
        replace HS := Lib.hid (HS.out.below hb HS.out.lt)
        replace HC := Lib.hid (And.intro ((World.cell?_of_block (a := ⟨P, k, none⟩) (hb.block P hPr)).trans HC.out.1) ((World.cell?_of_block (a := ⟨Q, k, none⟩) (hb.block Q hQr)).trans HC.out.2))
        replace HL := Lib.hid (HL.out.trans (hb.mono HL.out.size))
        replace hPr := Nat.lt_of_lt_of_le hPr hb.size
        replace hQr := Nat.lt_of_lt_of_le hQr hb.size
        clear hb
        go_wp2_with fail
        refine hK.out _ _ HC.out (fun hHeld => ?_)
        clear hK; try clear KK
        try simp only [Act.put, List.setIfInBounds_toArray, List.set_cons_zero, List.set_cons_succ]
        refine wpAnyH_ready (rs := [0]) (by kernel_rfl) (by simp) ?_
        refine AllReadyH.cons (o := ⟨some 19, .load 239 (.tmp 5), _, _, _, _⟩) rfl (fun K hK => ?_) AllReadyH.nil
        refine step_load_blk (by rfl) 239 _ (by rfl) w.heap.size (by rfl) _ _ HS.out _ Try.underlying239 rfl (by kernel_rfl) ?_
        refine hK.out _ _ HC.out (fun hHeld => ?_)
        clear hK; try clear KK
        try simp only [Act.put, List.setIfInBounds_toArray, List.set_cons_zero, List.set_cons_succ]
        refine wpAnyH_ready (rs := [12]) (by kernel_rfl) (by simp) ?_
        refine AllReadyH.cons (o := ⟨some 31, _, _, _, _, _⟩) rfl (fun KK hK => ?_) AllReadyH.nil
        go_simp
        refine (add_any _ _ _).mono ?_
        rintro e w3 ⟨rfl, hb⟩
        rw [← BitVec.ofNat_add, ← HWN.out]
        replace HS := Lib.hid (HS.out.below hb HS.out.lt)
        replace HC := Lib.hid (And.intro ((World.cell?_of_block (a := ⟨P, k, none⟩) (hb.block P hPr)).trans HC.out.1) ((World.cell?_of_block (a := ⟨Q, k, none⟩) (hb.block Q hQr)).trans HC.out.2))
        replace HL := Lib.hid (HL.out.trans (hb.mono HL.out.size))
        replace hPr := Nat.lt_of_lt_of_le hPr hb.size
        replace hQr := Nat.lt_of_lt_of_le hQr hb.size
        clear hb
        generalize (!BitVec.carry 128 _ _ false) = cc
        generalize hY : BitVec.ofNat 128 (worth (List.take (k + 1) l)) = Y
        have HY := Lib.hid hY
        clear hY
        go_wp2_with fail
        refine hK.out _ _ HC.out (fun hHeld => ?_)
        clear hK; try clear KK
        try simp only [Act.put, List.setIfInBounds_toArray, List.set_cons_zero, List.set_cons_succ]
        refine wpAnyH_take (i := 13) (oi := ⟨some 18, _, _, _, _, _⟩) (v := (.tuple #[.agg (bitsB Y), .bool cc])) rfl (by kernel_rfl) (by kernel_rfl) (by kernel_rfl) (fun _ _ _ h => h) (Or.inl ⟨by rfl, fun w hSw => by (try dsimp only at hSw); go_simp⟩) (by assumption) ?_
        simp only [Act.put, List.setIfInBounds_toArray, List.set_cons_zero, List.set_cons_succ]
        refine wpAnyH_take (i := 14) (oi := ⟨some 32, _, _, _, _, _⟩) (v := (.agg (bitsB Y))) rfl (by kernel_rfl) (by kernel_rfl) (by kernel_rfl) (fun _ _ _ h => h) (Or.inl ⟨by rfl, fun w hSw => by (try dsimp only at hSw); go_simp⟩) (by assumption) ?_
        simp only [Act.put, List.setIfInBounds_toArray, List.set_cons_zero, List.set_cons_succ]
        refine wpAnyH_take (i := 15) (oi := ⟨some 33, _, _, _, _, _⟩) (v := (.bool cc)) rfl (by kernel_rfl) (by kernel_rfl) (by kernel_rfl) (fun _ _ _ h => h) (Or.inl ⟨by rfl, fun w hSw => by (try dsimp only at hSw); go_simp⟩) (by assumption) ?_
        simp only [Act.put, List.setIfInBounds_toArray, List.set_cons_zero, List.set_cons_succ]
        refine wpAnyH_ready (rs := [16]) (by kernel_rfl) (by simp) ?_
        refine AllReadyH.cons (o := ⟨none, _, _, _, _, _⟩) rfl (fun KK hK => ?_) AllReadyH.nil
        refine step_store_blk (by rfl) 239 _ _ (by rfl) w.heap.size (by rfl) _ (bitsB Y) 239 HS.out (by rfl) (by rw [bits_size, bits_size]) (by kernel_rfl) (row_one _) ?_
        replace HL := Lib.hid (Blk.Below.setCells (B := w.heap.size) (bitsB Y).toList 0 _ HL.out (by omega))
        replace HS := Lib.hid (HS.out.setCells (bitsB Y) (by rw [bits_size, bits_size]))
        refine hK.out _ _ ⟨(hR.below HL.out hP hQ).p' k hlt HA.out, (hR.below HL.out hP hQ).q' k hlt HB.out⟩ (fun hHeld => ?_)
        clear hK; try clear KK
        refine wpAnyH_done (by kernel_rfl) ?_ _
        go_wp2
        go_roundw
        case rel => exact ⟨k + 1, by omega, by go_num, by rw [HVN.out]; rfl, by rw [HY.out]; exact HS.out, HL.out⟩
        case measure => simp [intOf]; omega
    · obtain rfl : k = l.length := by omega
      rw [List.take_length] at HS
      rw [List.take_length]
      have g1 : (l.length : Int) ≤ (l.length : Int) := by omega
      have hA : worth l < 2 ^ 128 := by
        have h := worth_le l (2 ^ 63 * 2 ^ 33) (fun x hx => Nat.mul_le_mul (Nat.le_of_lt (hpq x hx).1) (Nat.le_of_lt (hpq x hx).2))
        have h2 : l.length * (2 ^ 63 * 2 ^ 33) ≤ 1000 * (2 ^ 63 * 2 ^ 33) := Nat.mul_le_mul_right _ hl
        exact Nat.lt_of_le_of_lt (Nat.le_trans h h2) (by decide)
      have hV : volume l < 2 ^ 64 := by
        have h := volume_le l (2 ^ 33) (fun x hx => Nat.le_of_lt (hpq x hx).2)
        have h2 : l.length * 2 ^ 33 ≤ 1000 * 2 ^ 33 := Nat.mul_le_mul_right _ hl
        exact Nat.lt_of_le_of_lt (Nat.le_trans h h2) (by decide)
      have HDIV := Lib.hid (fun w => div_any (worth l) (volume l) hA hv hV w)
      have HHALF := Lib.hid (fun w => halves_any (worth l / volume l) w)
      have hm2 : worth l / volume l % 2 ^ 64 = worth l / volume l := Nat.mod_eq_of_lt (Nat.lt_trans hm (by decide))
      rw [hm2] at HHALF
      have ei : IntKind.i64.wrap ((worth l / volume l : Nat) : Int) = ((worth l / volume l : Nat) : Int) := IntWalk.i64_in _ ⟨by omega, by omega⟩
      clear hpq hR hA hV hm2 hm hv
      generalize BitVec.ofNat 128 (worth l % volume l) = xl at *
      generalize worth l / volume l / 2 ^ 64 % 2 ^ 64 = qh at *
      generalize hqq : worth l / volume l = q at *
      have HQ := Lib.hid hqq
      clear hqq
      generalize BitVec.ofNat 128 (worth l) = xw at *
      generalize BitVec.ofNat 128 q = xq at *
      generalize hvv : volume l = vv at *
      have HVV := Lib.hid hvv
      clear hvv
      go_wp2_with (refine load_blk rfl 239 _ rfl _ rfl _ _ HS.out _ Try.underlying239 rfl (by kernel_rfl) ?_)
      refine (HDIV.out _).mono ?_
      rintro e w1 ⟨rfl, hb⟩
      replace HL := Lib.hid (HL.out.trans (hb.mono HL.out.size))
      clear hb HS HDIV
      have B1 : Blk ((w1.alloc (.cells (row fun _ => false) 239)).alloc (.cells (row fun _ => false) 239)) w1.heap.size (row fun _ => false) 239 := (Blk.new w1 (row fun _ => false) 239 w1.heap.size rfl).old (.cells (row fun _ => false) 239)
      have B2 : Blk ((w1.alloc (.cells (row fun _ => false) 239)).alloc (.cells (row fun _ => false) 239)) (w1.heap.size + 1) (row fun _ => false) 239 := Blk.new (w1.alloc (.cells (row fun _ => false) 239)) (row fun _ => false) 239 (w1.heap.size + 1) (by simp)
      have B3 : Blk (World.setCells ((w1.alloc (.cells (row fun _ => false) 239)).alloc (.cells (row fun _ => false) 239)) w1.heap.size 0 (bitsB xq).toList) (w1.heap.size + 1) (row fun _ => false) 239 := Blk.apartAll (B := w1.heap.size) (bitsB xq).toList 0 _ B2 (by omega)
      have B4 := (B1.setCells (bitsB xq) (by rw [bits_size, row_size]))
      have HB1 := Lib.hid B1
      have HB3 := Lib.hid B3
      have HB4 := Lib.hid (Blk.apartAll (B := w1.heap.size + 1) (bitsB xl).toList 0 _ B4 (by omega))
      have HW := Lib.hid (Blk.Below.setCells (B := w1.heap.size + 1) (bitsB xl).toList 0 _ (Blk.Below.setCells (B := w1.heap.size) (bitsB xq).toList 0 _ (((HL.out.alloc HL.out.size (.cells (row fun _ => false) 239)).alloc (Nat.le_trans HL.out.size (by simp)) (.cells (row fun _ => false) 239))) HL.out.size) (Nat.le_trans HL.out.size (by omega)))
      clear B1 B2 B3 B4
      go_upto_region 9 with (first
        | (refine alloc_big rfl 239 rfl i0 hi0 _ hz0 ?_)
        | (refine store_blk (by rfl) 239 _ _ (by rfl) w1.heap.size (by rfl) (row fun _ => false) (bitsB xq) 239 HB1.out (by rfl) (by rw [bits_size, row_size]) (by kernel_rfl) (row_one _) ?_; change wpList _ _ _ _ _ (World.setCells ((w1.alloc (.cells (row fun _ => false) 239)).alloc (.cells (row fun _ => false) 239)) w1.heap.size 0 (bitsB xq).toList); generalize World.setCells ((w1.alloc (.cells (row fun _ => false) 239)).alloc (.cells (row fun _ => false) 239)) w1.heap.size 0 (bitsB xq).toList = w5 at HB3 HB4 HW ⊢; clear HB1)
        | (refine store_blk (by rfl) 239 _ _ (by rfl) (w1.heap.size + 1) (by show Value.pointer (some ⟨(w1.alloc (.cells (Value.agg (row fun _ => false)).cells 239)).heap.size, 0, none⟩) = _; rw [World.size_alloc]) (row fun _ => false) (bitsB xl) 239 HB3.out (by rfl) (by rw [bits_size, row_size]) (by kernel_rfl) (row_one _) ?_; generalize World.setCells w5 (w1.heap.size + 1) 0 (bitsB xl).toList = w2 at HB4 HW ⊢; clear HB3))
      go_wp2_with (refine load_blk rfl 239 _ rfl _ rfl _ _ HB4.out _ Try.underlying239 rfl (by kernel_rfl) ?_)
      refine (HHALF.out _).mono ?_
      rintro e w3 ⟨rfl, hb⟩
      replace HW := Lib.hid (HW.out.trans (hb.mono HW.out.size))
      clear hb HB4 HHALF
      go_wp2
      refine bodyPost_ret (v := .int .i64 q) (by simp [results, Try.results115, go_sem]) rfl ?_
      exact ⟨by rw [HVV.out, HQ.out], HW.out⟩
end Go.Proofs.Ytogjgpiddjmpiaa.Ref01
