/- The document's numbers of 128 bits: Sub, Mul, Div. -/
import Derived.Test.YtogjgpiddjmpiaaRef01A
import Derived.Deep.RegionHeld3
namespace Go.Proofs.Ytogjgpiddjmpiaa.Ref01
set_option linter.unusedVariables false
open Go.RowKit Go.Proofs.Ytogjgpiddjmpiaa.Kit Go.Proofs.Ytogjgpiddjmpiaa.Blk Go.Proofs.Ytogjgpiddjmpiaa.B128
attribute [local go_sem ↓] Go.wp_at_zero Go.wp_at_succ


theorem info128 (x : B) : (Try.prog.info? 239).map (·.size) = some (bitsB x).toList.length := by rw [Array.length_toList, bits_size]; kernel_rfl

set_option maxRecDepth 20000 in
set_option maxHeartbeats 4000000 in
theorem sub_any (a b : B) (w : World) : Calls Try.prog 192 #[.agg (bitsB a), .agg (bitsB b)] w fun e w' => e = .returned (.tuple #[.agg (bitsB (a - b)), .bool (decide (b.toNat ≤ a.toNat))]) ∧ Below w.heap.size w w' := by
  obtain ⟨i0, hi0, hz0, hz1, -⟩ := info_parts infoB
  have HX := Lib.hid (sub_as a b)
  generalize hx : a - b = X at HX
  clear hx
  have HG := Lib.hid (cmp_ge a b)
  generalize hg : decide (b.toNat ≤ a.toNat) = g at HG
  clear hg
  go_enter Try.func192, Try.ntmps192
  go_upto_region 1 with (refine alloc_big rfl 239 rfl i0 hi0 _ hz0 ?_)
  have HA := Lib.hid (((Blk.new w (bitsB a) 239 w.heap.size rfl).old (.cells (bitsB b) 239)).old (.cells zero128 239))
  have HB := Lib.hid ((Blk.new (w.alloc (.cells (bitsB a) 239)) (bitsB b) 239 (w.heap.size + 1) (by simp)).old (.cells zero128 239))
  have HR := Lib.hid (Blk.new ((w.alloc (.cells (bitsB a) 239)).alloc (.cells (bitsB b) 239)) zero128 239 (w.heap.size + 1 + 1) (by simp))
  have HL := Lib.hid ((((Below.refl w.heap.size w).alloc (Nat.le_refl _) (.cells (bitsB a) 239)).alloc (by simp) (.cells (bitsB b) 239)).alloc (by simp; omega) (.cells zero128 239))
  change Code.wp _ _ _ _ (((w.alloc (.cells (bitsB a) 239)).alloc (.cells (bitsB b) 239)).alloc (.cells zero128 239))
  generalize ((w.alloc (.cells (bitsB a) 239)).alloc (.cells (bitsB b) 239)).alloc (.cells zero128 239) = W at HA HB HR HL ⊢
  go_wp2_with (refine load_blk rfl 239 _ rfl _ rfl _ _ HB.out _ Try.underlying239 rfl (by kernel_rfl) ?_)
  refine (not_any b _).mono ?_
  rintro e w1 ⟨rfl, hb⟩
  replace HA := Lib.hid (HA.out.below hb HA.out.lt)
  replace HB := Lib.hid (HB.out.below hb HB.out.lt)
  replace HR := Lib.hid (HR.out.below hb HR.out.lt)
  replace HL := Lib.hid (HL.out.trans (hb.mono HL.out.size))
  clear hb
  go_wp2_with fail
  refine (of_any 0 1 (by decide) (by decide) _).mono ?_
  rintro e w2 ⟨rfl, hb⟩
  replace HA := Lib.hid (HA.out.below hb HA.out.lt)
  replace HB := Lib.hid (HB.out.below hb HB.out.lt)
  replace HR := Lib.hid (HR.out.below hb HR.out.lt)
  replace HL := Lib.hid (HL.out.trans (hb.mono HL.out.size))
  clear hb
  generalize hone : BitVec.ofNat 128 (0 * 2 ^ 64 + 1) = one at HX
  clear hone
  go_wp2_with fail
  refine (add_any _ _ _).mono ?_
  rintro e w3 ⟨rfl, hb⟩
  replace HA := Lib.hid (HA.out.below hb HA.out.lt)
  replace HB := Lib.hid (HB.out.below hb HB.out.lt)
  replace HR := Lib.hid (HR.out.below hb HR.out.lt)
  replace HL := Lib.hid (HL.out.trans (hb.mono HL.out.size))
  clear hb
  generalize hd : ~~~b + one = d at HX
  clear hd
  generalize (!BitVec.carry 128 (~~~b) one false) = c1
  go_upto_region 2 with (first | (refine alloc_big rfl 239 rfl i0 hi0 _ hz0 ?_) | (refine store_blk rfl 239 _ _ rfl w3.heap.size rfl zero128 (bitsB d) 239 (Blk.new _ _ _ _ rfl) rfl (by rw [bits_size, row_size]) (by kernel_rfl) (row_one _) ?_))
  have hx4 := (Blk.new w3 zero128 239 w3.heap.size rfl).setCells (bitsB d) (by rw [bits_size, row_size])
  have hb : Below w3.heap.size w3 (World.setCells (w3.alloc (.cells zero128 239)) w3.heap.size 0 (bitsB d).toList) := Blk.Below.setCells _ _ _ ((Below.refl _ _).alloc (Nat.le_refl _) _) (Nat.le_refl _)
  change Code.wp _ _ _ _ (World.setCells (w3.alloc (.cells zero128 239)) w3.heap.size 0 (bitsB d).toList)
  generalize World.setCells (w3.alloc (.cells zero128 239)) w3.heap.size 0 (bitsB d).toList = w4 at hx4 hb ⊢
  have HD := Lib.hid hx4
  clear hx4
  replace HA := Lib.hid (HA.out.below hb HA.out.lt)
  replace HB := Lib.hid (HB.out.below hb HB.out.lt)
  replace HR := Lib.hid (HR.out.below hb HR.out.lt)
  replace HL := Lib.hid (HL.out.trans (hb.mono HL.out.size))
  clear hb
  go_wp2_with (first | (refine load_blk rfl 239 _ rfl _ rfl _ _ HA.out _ Try.underlying239 rfl (by kernel_rfl) ?_) | (refine load_blk rfl 239 _ rfl _ rfl _ _ HD.out _ Try.underlying239 rfl (by kernel_rfl) ?_))
  refine (add_any _ _ _).mono ?_
  rintro e w5 ⟨rfl, hb⟩
  rw [HX.out]
  replace HA := Lib.hid (HA.out.below hb HA.out.lt)
  replace HB := Lib.hid (HB.out.below hb HB.out.lt)
  replace HR := Lib.hid (HR.out.below hb HR.out.lt)
  replace HL := Lib.hid (HL.out.trans (hb.mono HL.out.size))
  clear hb
  have hw5 := HR.out.lt
  clear HD
  generalize (!BitVec.carry 128 a d false) = c2
  go_upto_region 3 with (first | (refine alloc_big rfl 239 rfl i0 hi0 _ hz0 ?_) | (refine store_blk rfl 239 _ _ rfl w5.heap.size rfl zero128 (bitsB X) 239 (Blk.new _ _ _ _ rfl) rfl (by rw [bits_size, row_size]) (by kernel_rfl) (row_one _) ?_))
  have hx4 := (Blk.new w5 zero128 239 w5.heap.size rfl).setCells (bitsB X) (by rw [bits_size, row_size])
  have hb : Below w5.heap.size w5 (World.setCells (w5.alloc (.cells zero128 239)) w5.heap.size 0 (bitsB X).toList) := Blk.Below.setCells _ _ _ ((Below.refl _ _).alloc (Nat.le_refl _) _) (Nat.le_refl _)
  change Code.wp _ _ _ _ (World.setCells (w5.alloc (.cells zero128 239)) w5.heap.size 0 (bitsB X).toList)
  generalize World.setCells (w5.alloc (.cells zero128 239)) w5.heap.size 0 (bitsB X).toList = w6 at hx4 hb ⊢
  have HD := Lib.hid hx4
  clear hx4
  replace HA := Lib.hid (HA.out.below hb HA.out.lt)
  replace HB := Lib.hid (HB.out.below hb HB.out.lt)
  replace HR := Lib.hid (HR.out.below hb HR.out.lt)
  replace HL := Lib.hid (HL.out.trans (hb.mono HL.out.size))
  clear hb
  go_wp2_with fail
  replace HL := Lib.hid (show Below w.heap.size w w6.drew from HL.out.drew)
  replace HA := Lib.hid (show Blk w6.drew w.heap.size (bitsB a) 239 from HA.out)
  replace HB := Lib.hid (show Blk w6.drew (w.heap.size + 1) (bitsB b) 239 from HB.out)
  replace HD := Lib.hid (show Blk w6.drew w5.heap.size (bitsB X) 239 from HD.out)
  replace HR := Lib.hid (show Blk w6.drew (w.heap.size + 1 + 1) zero128 239 from HR.out)
  refine wp_region_held_drew (S := fun w' => w'.rangeAt w5.heap.size 0 (bitsB X).toList ∧ w'.rangeAt w.heap.size 0 (bitsB a).toList ∧ w'.rangeAt (w.heap.size + 1) 0 (bitsB b).toList) (by kernel_rfl) ⟨HD.out.range, HA.out.range, HB.out.range⟩ (fun hHeld => ?_)
  refine wpAnyH_take (i := 0) (oi := ⟨some 23, .load 239 (.tmp 8), _, _, _, _⟩) (v := _) rfl (by kernel_rfl) (by kernel_rfl) (by kernel_rfl) (fun _ _ _ h => h) (yieldsIf_load_mid (by rfl) _ _ rfl _ _ rfl _ _ (fun w h => h.1) Try.underlying239 rfl (info128 X)) (by assumption) ?_
  simp only [Act.put, List.setIfInBounds_toArray, List.set_cons_zero, List.set_cons_succ]
  refine wpAnyH_take (i := 1) (oi := ⟨some 24, .load 239 (.tmp 2), _, _, _, _⟩) (v := _) rfl (by kernel_rfl) (by kernel_rfl) (by kernel_rfl) (fun _ _ _ h => h) (yieldsIf_load_mid (by rfl) _ _ rfl _ _ rfl _ _ (fun w h => h.2.1) Try.underlying239 rfl (info128 a)) (by assumption) ?_
  simp only [Act.put, List.setIfInBounds_toArray, List.set_cons_zero, List.set_cons_succ]
  refine wpAnyH_take (i := 2) (oi := ⟨some 25, .load 239 (.tmp 3), _, _, _, _⟩) (v := _) rfl (by kernel_rfl) (by kernel_rfl) (by kernel_rfl) (fun _ _ _ h => h) (yieldsIf_load_mid (by rfl) _ _ rfl _ _ rfl _ _ (fun w h => h.2.2) Try.underlying239 rfl (info128 b)) (by assumption) ?_
  simp only [Act.put, List.setIfInBounds_toArray, List.set_cons_zero, List.set_cons_succ]
  refine wpAnyH_ready (rs := [3]) (by kernel_rfl) (by simp) ?_
  refine AllReadyH.cons (o := ⟨some 26, _, _, _, _, _⟩) rfl (fun K hK => ?_) AllReadyH.nil
  go_simp
  refine (cmp_any a b _).mono ?_
  rintro e w7 ⟨rfl, hb⟩
  replace HD := Lib.hid (HD.out.below hb HD.out.lt)
  replace HA := Lib.hid (HA.out.below hb HA.out.lt)
  replace HB := Lib.hid (HB.out.below hb HB.out.lt)
  replace HR := Lib.hid (HR.out.below hb HR.out.lt)
  replace HL := Lib.hid (HL.out.trans (hb.mono HL.out.size))
  clear hb
  go_wp2_with fail
  refine hK.out _ _ ⟨HD.out.range, HA.out.range, HB.out.range⟩ (fun hHeld => ?_)
  clear hK K
  try simp only [Act.put, List.setIfInBounds_toArray, List.set_cons_zero, List.set_cons_succ]
  refine wpAnyH_take (i := 4) (oi := ⟨some 27, _, _, _, _, _⟩) (v := .bool (decide (0 ≤ cmp a b))) rfl (by kernel_rfl) (by kernel_rfl) (by kernel_rfl) (fun _ _ _ h => h) (Or.inl ⟨by rfl, fun w _ => by go_simp⟩) (by assumption) ?_
  simp only [Act.put, List.setIfInBounds_toArray, List.set_cons_zero, List.set_cons_succ]
  refine wpAnyH_ready (rs := [5]) (by kernel_rfl) (by simp) ?_
  refine AllReadyH.cons (o := ⟨none, _, _, _, _, _⟩) rfl (fun K hK => ?_) AllReadyH.nil
  refine step_store_blk (by rfl) 239 _ _ (by rfl) (w.heap.size + 1 + 1) (by rfl) zero128 (bitsB X) 239 HR.out (by rfl) (by rw [bits_size, row_size]) (by kernel_rfl) (row_one _) ?_
  have HRR := Lib.hid (HR.out.setCells (bitsB X) (by rw [bits_size, row_size]))
  have hD4 := HR.out.lt
  replace HA := Lib.hid (Blk.apartAll (B := w.heap.size + 1 + 1) (bitsB X).toList 0 _ HA.out (by omega))
  replace HB := Lib.hid (Blk.apartAll (B := w.heap.size + 1 + 1) (bitsB X).toList 0 _ HB.out (by omega))
  replace HD := Lib.hid (Blk.apartAll (B := w.heap.size + 1 + 1) (bitsB X).toList 0 _ HD.out (by omega))
  replace HL := Lib.hid (Blk.Below.setCells (B := w.heap.size + 1 + 1) (bitsB X).toList 0 _ HL.out (by omega))
  clear HR
  refine hK.out _ _ ⟨HD.out.range, HA.out.range, HB.out.range⟩ (fun hHeld => ?_)
  clear hK K
  refine wpAnyH_ready (rs := [6]) (by kernel_rfl) (by simp) ?_
  refine AllReadyH.cons (o := ⟨some 5, _, _, _, _, _⟩) rfl (fun K hK => ?_) AllReadyH.nil
  go_simp
  refine hK.out _ _ ⟨HD.out.range, HA.out.range, HB.out.range⟩ (fun hHeld => ?_)
  clear hK K
  refine wpAnyH_done (by kernel_rfl) ?_ _
  go_wp2
  refine bodyPost_ret (results_blk_tmp rfl rfl HRR.out Try.underlying239 rfl (by kernel_rfl)) rfl ?_
  exact ⟨by rw [← HG.out]; rfl, HL.out⟩
end Go.Proofs.Ytogjgpiddjmpiaa.Ref01
