/- The document's numbers of 128 bits: Div, Halves. -/
import Derived.Test.YtogjgpiddjmpiaaRef01M
namespace Go.Proofs.Ytogjgpiddjmpiaa.Ref01
set_option linter.unusedVariables false
open Go.RowKit Go.Proofs.Ytogjgpiddjmpiaa.Kit Go.Proofs.Ytogjgpiddjmpiaa.Blk Go.Proofs.Ytogjgpiddjmpiaa.B128
attribute [local go_sem ↓] Go.wp_at_zero Go.wp_at_succ

theorem toNat_small (n : Nat) (h : n < 2 ^ 128) : (BitVec.ofNat 128 n).toNat = n := by
  rw [BitVec.toNat_ofNat, Nat.mod_eq_of_lt h]

/-- What lies in memory while a number is divided: the quotient's row q, the left's row l. -/
structure DT (w wr : World) (A d D : Nat) (q l : Array Value) (z1 : Array Value := zero128) (z2 : Array Value := zero128) : Prop where
  num : Blk wr w.heap.size (bitsB (BitVec.ofNat 128 A)) 239
  r1 : Blk wr (w.heap.size + 1) z1 239
  r2 : Blk wr (w.heap.size + 1 + 1) z2 239
  q : Blk wr (w.heap.size + 1 + 1 + 1) q 239
  left : Blk wr (w.heap.size + 1 + 1 + 1 + 1) l 239
  by_ : Blk wr D (bitsB (BitVec.ofNat 128 d)) 239
  below : Below w.heap.size w wr
  hD : w.heap.size + 1 + 1 + 1 + 1 < D
section
variable {w wr wx : World} {A d D : Nat} {q l : Array Value}
theorem DT.step (h : DT w wr A d D q l) (hb : Below wr.heap.size wr wx) : DT w wx A d D q l :=
  ⟨h.num.below hb h.num.lt, h.r1.below hb h.r1.lt, h.r2.below hb h.r2.lt, h.q.below hb h.q.lt, h.left.below hb h.left.lt, h.by_.below hb h.by_.lt, h.below.trans (hb.mono h.below.size), h.hD⟩
theorem DT.setL (h : DT w wr A d D q l) (vs : Array Value) (hs : vs.size = l.size) : DT w (wr.setCells (w.heap.size + 1 + 1 + 1 + 1) 0 vs.toList) A d D q vs :=
  have hD := h.hD
  ⟨Blk.apartAll _ 0 _ h.num (by omega), Blk.apartAll _ 0 _ h.r1 (by omega), Blk.apartAll _ 0 _ h.r2 (by omega), Blk.apartAll _ 0 _ h.q (by omega), h.left.setCells vs hs, Blk.apartAll _ 0 _ h.by_ (by omega), Blk.Below.setCells _ 0 _ h.below (by omega), hD⟩
theorem DT.setL0 (h : DT w wr A d D q l) (v : Value) : DT w (wr.setCell ⟨w.heap.size + 1 + 1 + 1 + 1, 0, none⟩ v) A d D q (l.setIfInBounds 0 v) :=
  have hD := h.hD
  ⟨h.num.apart _ _ (by show w.heap.size + 1 + 1 + 1 + 1 ≠ _; omega), h.r1.apart _ _ (by show w.heap.size + 1 + 1 + 1 + 1 ≠ _; omega), h.r2.apart _ _ (by show w.heap.size + 1 + 1 + 1 + 1 ≠ _; omega), h.q.apart _ _ (by show w.heap.size + 1 + 1 + 1 + 1 ≠ _; omega), h.left.set 0 v, h.by_.apart _ _ (by show w.heap.size + 1 + 1 + 1 + 1 ≠ _; omega), h.below.setCell (p := ⟨w.heap.size + 1 + 1 + 1 + 1, 0, none⟩) (by show w.heap.size ≤ w.heap.size + 1 + 1 + 1 + 1; omega) v, hD⟩
theorem DT.setQ (h : DT w wr A d D q l) (k : Nat) (v : Value) : DT w (wr.setCell ⟨w.heap.size + 1 + 1 + 1, k, none⟩ v) A d D (q.setIfInBounds k v) l :=
  have hD := h.hD
  ⟨h.num.apart _ _ (by show w.heap.size + 1 + 1 + 1 ≠ _; omega), h.r1.apart _ _ (by show w.heap.size + 1 + 1 + 1 ≠ _; omega), h.r2.apart _ _ (by show w.heap.size + 1 + 1 + 1 ≠ _; omega), h.q.set k v, h.left.apart _ _ (by show w.heap.size + 1 + 1 + 1 ≠ _; omega), h.by_.apart _ _ (by show w.heap.size + 1 + 1 + 1 ≠ _; omega), h.below.setCell (p := ⟨w.heap.size + 1 + 1 + 1, k, none⟩) (by show w.heap.size ≤ w.heap.size + 1 + 1 + 1; omega) v, hD⟩
variable {z1 z2 : Array Value}
theorem DT.setR1 (h : DT w wr A d D q l z1 z2) (vs : Array Value) (hs : vs.size = z1.size) : DT w (wr.setCells (w.heap.size + 1) 0 vs.toList) A d D q l vs z2 :=
  have hD := h.hD
  ⟨Blk.apartAll _ 0 _ h.num (by omega), h.r1.setCells vs hs, Blk.apartAll _ 0 _ h.r2 (by omega), Blk.apartAll _ 0 _ h.q (by omega), Blk.apartAll _ 0 _ h.left (by omega), Blk.apartAll _ 0 _ h.by_ (by omega), Blk.Below.setCells _ 0 _ h.below (by omega), hD⟩
theorem DT.setR2 (h : DT w wr A d D q l z1 z2) (vs : Array Value) (hs : vs.size = z2.size) : DT w (wr.setCells (w.heap.size + 1 + 1) 0 vs.toList) A d D q l z1 vs :=
  have hD := h.hD
  ⟨Blk.apartAll _ 0 _ h.num (by omega), Blk.apartAll _ 0 _ h.r1 (by omega), h.r2.setCells vs hs, Blk.apartAll _ 0 _ h.q (by omega), Blk.apartAll _ 0 _ h.left (by omega), Blk.apartAll _ 0 _ h.by_ (by omega), Blk.Below.setCells _ 0 _ h.below (by omega), hD⟩
end
def qrow (A d n : Nat) : Array Value := row (fun j => decide (n ≤ j) && (A / d).testBit j)
def lrow (A d n : Nat) : Array Value := bitsB (BitVec.ofNat 128 (A / 2 ^ n % d))
theorem qrow_set (A d k : Nat) (h : (A / d).testBit k = true) : (qrow A d (k + 1)).setIfInBounds k (.bool true) = qrow A d k := by
  unfold qrow
  rw [row_set]
  refine row_ext (fun j hj => ?_)
  by_cases h1 : j = k
  · subst h1; simp [h]
  · rw [if_neg h1]; congr 1; simp; omega
theorem qrow_skip (A d k : Nat) (h : (A / d).testBit k = false) : qrow A d (k + 1) = qrow A d k := by
  unfold qrow
  refine row_ext (fun j hj => ?_)
  by_cases h1 : j = k
  · subst h1; simp [h]
  · congr 1; simp; omega
theorem qrow_zero (A d : Nat) : qrow A d 0 = bitsB (BitVec.ofNat 128 (A / d)) := row_ext (fun j hj => by
  rw [BitVec.getLsbD_ofNat]; simp [hj])
theorem qrow_size (A d n : Nat) : (qrow A d n).size = 128 := row_size _
theorem lrow_size (A d n : Nat) : (lrow A d n).size = 128 := row_size _


set_option maxRecDepth 20000 in
set_option maxHeartbeats 8000000 in
theorem div_any (A d : Nat) (hA : A < 2 ^ 128) (hd0 : 0 < d) (hd : d < 2 ^ 64) (w : World) :
    Calls Try.prog 152 #[.agg (bitsB (BitVec.ofNat 128 A)), .int .u64 d] w fun e w' => e = .returned (.tuple #[.agg (bitsB (BitVec.ofNat 128 (A / d))), .agg (bitsB (BitVec.ofNat 128 (A % d)))]) ∧ Below w.heap.size w w' := by
  obtain ⟨i0, hi0, hz0, hz1, -⟩ := info_parts infoB
  have HOF := Lib.hid (fun w => of_any 0 d (by decide) hd w)
  have HX := Lib.hid (show BitVec.ofNat 128 (0 * 2 ^ 64 + d) = BitVec.ofNat 128 d by rw [Nat.zero_mul, Nat.zero_add])
  rw [HX.out] at HOF
  clear HX
  generalize hba : bitsB (BitVec.ofNat 128 A) = ba
  have HBA := Lib.hid hba
  clear hba
  go_enter Try.func152, Try.ntmps152
  go_upto_region 2 with (refine alloc_big rfl 239 rfl i0 hi0 _ hz0 ?_)
  have HN := Lib.hid (((((Blk.new w ba 239 w.heap.size rfl).old (.cells zero128 239)).old (.cells zero128 239)).old (.cells zero128 239)).old (.cells zero128 239))
  have H1 := Lib.hid ((((Blk.new (w.alloc (.cells ba 239)) zero128 239 (w.heap.size + 1) (by simp)).old (.cells zero128 239)).old (.cells zero128 239)).old (.cells zero128 239))
  have H2 := Lib.hid (((Blk.new ((w.alloc (.cells ba 239)).alloc (.cells zero128 239)) zero128 239 (w.heap.size + 1 + 1) (by simp)).old (.cells zero128 239)).old (.cells zero128 239))
  have H3 := Lib.hid ((Blk.new (((w.alloc (.cells ba 239)).alloc (.cells zero128 239)).alloc (.cells zero128 239)) zero128 239 (w.heap.size + 1 + 1 + 1) (by simp)).old (.cells zero128 239))
  have H4 := Lib.hid (Blk.new ((((w.alloc (.cells ba 239)).alloc (.cells zero128 239)).alloc (.cells zero128 239)).alloc (.cells zero128 239)) zero128 239 (w.heap.size + 1 + 1 + 1 + 1) (by simp))
  have HL := Lib.hid ((((((Below.refl w.heap.size w).alloc (Nat.le_refl _) (.cells ba 239)).alloc (by simp) (.cells zero128 239)).alloc (by simp; omega) (.cells zero128 239)).alloc (by simp; omega) (.cells zero128 239)).alloc (by simp; omega) (.cells zero128 239))
  change Code.wp _ _ _ _ (((((w.alloc (.cells ba 239)).alloc (.cells zero128 239)).alloc (.cells zero128 239)).alloc (.cells zero128 239)).alloc (.cells zero128 239))
  generalize ((((w.alloc (.cells ba 239)).alloc (.cells zero128 239)).alloc (.cells zero128 239)).alloc (.cells zero128 239)).alloc (.cells zero128 239) = W at HN H1 H2 H3 H4 HL ⊢
  go_wp2_with fail
  refine (HOF.out _).mono ?_
  rintro e w1 ⟨rfl, hb⟩
  replace HN := Lib.hid (HN.out.below hb HN.out.lt)
  replace H1 := Lib.hid (H1.out.below hb H1.out.lt)
  replace H2 := Lib.hid (H2.out.below hb H2.out.lt)
  replace H3 := Lib.hid (H3.out.below hb H3.out.lt)
  replace H4 := Lib.hid (H4.out.below hb H4.out.lt)
  replace HL := Lib.hid (HL.out.trans (hb.mono HL.out.size))
  clear hb
  clear HOF
  go_upto_region 3 with (first | (refine alloc_big rfl 239 rfl i0 hi0 _ hz0 ?_) | (refine store_blk rfl 239 _ _ rfl w1.heap.size rfl zero128 (bitsB (BitVec.ofNat 128 d)) 239 (Blk.new _ _ _ _ rfl) rfl (by rw [bits_size, row_size]) (by kernel_rfl) (row_one _) ?_))
  have hx4 := (Blk.new w1 zero128 239 w1.heap.size rfl).setCells (bitsB (BitVec.ofNat 128 d)) (by rw [bits_size, row_size])
  have hb : Below w1.heap.size w1 (World.setCells (w1.alloc (.cells zero128 239)) w1.heap.size 0 (bitsB (BitVec.ofNat 128 d)).toList) := Blk.Below.setCells _ _ _ ((Below.refl _ _).alloc (Nat.le_refl _) _) (Nat.le_refl _)
  change Code.wp _ _ _ _ (World.setCells (w1.alloc (.cells zero128 239)) w1.heap.size 0 (bitsB (BitVec.ofNat 128 d)).toList)
  generalize World.setCells (w1.alloc (.cells zero128 239)) w1.heap.size 0 (bitsB (BitVec.ofNat 128 d)).toList = w4 at hx4 hb ⊢
  have hD := H4.out.lt
  replace HN := Lib.hid (HN.out.below hb HN.out.lt)
  replace H1 := Lib.hid (H1.out.below hb H1.out.lt)
  replace H2 := Lib.hid (H2.out.below hb H2.out.lt)
  replace H3 := Lib.hid (H3.out.below hb H3.out.lt)
  replace H4 := Lib.hid (H4.out.below hb H4.out.lt)
  replace HL := Lib.hid (HL.out.trans (hb.mono HL.out.size))
  clear hb
  have HDS := Lib.hid (show DT w w4 A d w1.heap.size (qrow A d 128) (lrow A d 128) from ⟨by rw [HBA.out]; exact HN.out, H1.out, H2.out,
    by have e : qrow A d 128 = zero128 := row_ext (fun j hj => by simp [show ¬ 128 ≤ j by omega])
       rw [e]; exact H3.out,
    by have e : lrow A d 128 = zero128 := by unfold lrow; rw [Nat.div_eq_of_lt hA, Nat.zero_mod]; exact bits_zero
       rw [e]; exact H4.out, hx4, HL.out, hD⟩)
  clear hx4 HN H1 H2 H3 H4 HL
  generalize w1.heap.size = D at HDS hD ⊢
  go_wp2_with fail
  go_loopw [9] (fun i wr => ∃ m : Int, -1 ≤ m ∧ m < 128 ∧ i = .int .i64 m ∧ DT w wr A d D (qrow A d (m + 1).toNat) (lrow A d (m + 1).toNat)) (fun i _ => (intOf i + 1).toNat)
  case atStart => exact ⟨127, by omega, by omega, rfl, HDS.out⟩
  case round =>
    clear HDS
    obtain ⟨m, h1, h2, rfl, hds⟩ := hrel
    by_cases h0 : 0 ≤ m
    · obtain ⟨k, rfl⟩ := Int.eq_ofNat_of_zero_le h0
      have e1 : ((k : Int) + 1).toNat = k + 1 := by omega
      rw [e1] at hds
      have HDS := Lib.hid hds
      clear hds e1
      have g1 : (0 : Int) ≤ (k : Int) := by omega
      have g2 : (k : Int) < 128 := by omega
      have hk : k < 128 := by omega
      clear h1 h2 h0
      obtain ⟨hst1, hst2⟩ := div_step A d k hd0
      have HLF := Lib.hid (show ∀ wx, Calls Try.prog 190 #[.agg (lrow A d (k + 1)), .int .i64 1] wx fun e w' => e = .returned (.agg (bitsB (BitVec.ofNat 128 (2 * (A / 2 ^ (k + 1) % d))))) ∧ Below wx.heap.size wx w' from fun wx => by
        rw [← shl_one]; exact left_any _ 1 (by omega) wx)
      have HSL := Lib.hid (set_low (A / 2 ^ (k + 1) % d) (A.testBit k))
      have hLd : A / 2 ^ (k + 1) % d < d := Nat.mod_lt _ hd0
      have hx2 : 2 * (A / 2 ^ (k + 1) % d) + (A.testBit k).toNat < 2 ^ 66 := by
        have : (A.testBit k).toNat ≤ 1 := by cases A.testBit k <;> decide
        have : (2 : Nat) ^ 66 = 4 * 2 ^ 64 := by decide
        omega
      have HQ := Lib.hid (fun h => qrow_set A d k h)
      have HQS := Lib.hid (fun h => qrow_skip A d k h)
      have cn0 : (bitsB (BitVec.ofNat 128 A))[k]? = some (.bool (A.testBit k)) := by
        have h := row_at (fun i => (BitVec.ofNat 128 A).getLsbD i) k hk
        rw [BitVec.getLsbD_ofNat] at h
        simp only [hk, decide_true, Bool.true_and] at h
        exact h
      have hlr : lrow A d k = bitsB (BitVec.ofNat 128 (A / 2 ^ k % d)) := rfl
      rw [hst1] at hlr
      clear hst1
      generalize A.testBit k = b at *
      generalize hL2 : 2 * (A / 2 ^ (k + 1) % d) + b.toNat = L2 at *
      have HLR := Lib.hid hlr
      clear hlr
      generalize 2 * (A / 2 ^ (k + 1) % d) = LL at *
      have HL2 := Lib.hid hL2
      clear hL2 hLd
      have HST2 := Lib.hid hst2
      clear hst2
      have hxs := lrow_size A d (k + 1)
      have hqs := qrow_size A d (k + 1)
      generalize lrow A d (k + 1) = lr at *
      generalize hqq : qrow A d (k + 1) = qr at *
      clear hqq
      go_wp2_with (refine load_blk rfl 239 _ rfl _ rfl _ _ HDS.out.left _ Try.underlying239 rfl (by kernel_rfl) ?_)
      refine (HLF.out _).mono ?_
      rintro e w1 ⟨rfl, hb⟩
      replace HDS := Lib.hid (HDS.out.step hb)
      clear hb HLF
      go_upto_region 7 with (refine store_blk rfl 239 _ _ rfl (w.heap.size + 1 + 1 + 1 + 1) rfl lr (bitsB (BitVec.ofNat 128 LL)) 239 HDS.out.left rfl (by rw [bits_size, hxs]) (by kernel_rfl) (row_one _) ?_)
      replace HDS := Lib.hid (HDS.out.setL (bitsB (BitVec.ofNat 128 LL)) (by rw [bits_size, hxs]))
      clear hxs
      generalize w1.setCells (w.heap.size + 1 + 1 + 1 + 1) 0 (bitsB (BitVec.ofNat 128 LL)).toList = w2 at HDS ⊢
      have cn : w2.cell? ⟨w.heap.size, k, none⟩ = some (.bool b) := HDS.out.num.cell k cn0
      have fl : w2.frozen? ⟨w.heap.size + 1 + 1 + 1 + 1, 0, none⟩ = false := HDS.out.left.free _
      have cl : w2.cell? ⟨w.heap.size + 1 + 1 + 1 + 1, 0, none⟩ = some (.bool ((BitVec.ofNat 128 LL).getLsbD 0)) := HDS.out.left.cell 0 (row_at _ _ (by omega))
      go_upto_region 8 with fail
      replace HDS := Lib.hid (HDS.out.setL0 (.bool b))
      clear cn fl cl cn0
      have hl0 : (bitsB (BitVec.ofNat 128 LL)).setIfInBounds 0 (.bool b) = bitsB (BitVec.ofNat 128 L2) := by rw [← HSL.out]; exact row_set _ _ _
      rw [hl0] at HDS
      clear hl0 HSL HL2
      generalize w2.setCell ⟨w.heap.size + 1 + 1 + 1 + 1, 0, none⟩ (.bool b) = w3 at HDS ⊢
      go_wp2_with (first | (refine load_blk rfl 239 _ rfl _ rfl _ _ HDS.out.left _ Try.underlying239 rfl (by kernel_rfl) ?_) | (refine load_blk rfl 239 _ rfl _ rfl _ _ HDS.out.by_ _ Try.underlying239 rfl (by kernel_rfl) ?_))
      refine (cmp_any _ _ _).mono ?_
      rintro e w4 ⟨rfl, hb⟩
      replace HDS := Lib.hid (HDS.out.step hb)
      clear hb
      have hcmp := cmp_ge (BitVec.ofNat 128 L2) (BitVec.ofNat 128 d)
      rw [toNat_small d (by omega), toNat_small L2 (by omega)] at hcmp
      generalize cmp (BitVec.ofNat 128 L2) (BitVec.ofNat 128 d) = c at hcmp ⊢
      by_cases hge : d ≤ L2
      · have hc : 0 ≤ c := by simpa [hge] using hcmp
        have HQ1 := Lib.hid (HQ.out (by rw [HST2.out]; simp [hge]))
        have HSUB := Lib.hid (show BitVec.ofNat 128 L2 - BitVec.ofNat 128 d = BitVec.ofNat 128 (L2 - d) by
          apply BitVec.eq_of_toNat_eq
          rw [BitVec.toNat_sub_of_le (by rw [BitVec.le_def, toNat_small d (by omega), toNat_small L2 (by omega)]; exact hge), toNat_small d (by omega), toNat_small L2 (by omega), toNat_small (L2 - d) (by omega)])
        rw [if_pos hge] at HLR
        clear hcmp hge HST2 HQ HQS hx2
        go_wp2_with (first | (refine load_blk rfl 239 _ rfl _ rfl _ _ HDS.out.left _ Try.underlying239 rfl (by kernel_rfl) ?_) | (refine load_blk rfl 239 _ rfl _ rfl _ _ HDS.out.by_ _ Try.underlying239 rfl (by kernel_rfl) ?_))
        refine (sub_any _ _ _).mono ?_
        rintro e w5 ⟨rfl, hb⟩
        replace HDS := Lib.hid (HDS.out.step hb)
        clear hb
        rw [HSUB.out]
        clear HSUB
        generalize decide ((BitVec.ofNat 128 d).toNat ≤ (BitVec.ofNat 128 L2).toNat) = tt
        generalize hll : bitsB (BitVec.ofNat 128 (L2 - d)) = ll at *
        go_upto_region 10 with (refine store_blk rfl 239 _ _ rfl (w.heap.size + 1 + 1 + 1 + 1) rfl (bitsB (BitVec.ofNat 128 L2)) ll 239 HDS.out.left rfl (by rw [← hll, bits_size, bits_size]) (by rw [← hll, bits_size]; kernel_rfl) (by rw [← hll]; exact row_one _) ?_)
        replace HDS := Lib.hid (HDS.out.setL ll (by rw [← hll, bits_size, bits_size]))
        generalize w5.setCells (w.heap.size + 1 + 1 + 1 + 1) 0 ll.toList = w6 at HDS ⊢
        obtain ⟨vq, hvq⟩ : ∃ v, qr[k]? = some v := ⟨_, Array.getElem?_eq_getElem (by omega)⟩
        have cq : w6.cell? ⟨w.heap.size + 1 + 1 + 1, k, none⟩ = some vq := HDS.out.q.cell k hvq
        have fq : w6.frozen? ⟨w.heap.size + 1 + 1 + 1, k, none⟩ = false := HDS.out.q.free _
        replace HDS := Lib.hid (HDS.out.setQ k (.bool true))
        rw [HQ1.out] at HDS
        clear hvq
        go_wp2
        go_roundw
        case rel => exact ⟨(k : Int) - 1, by omega, by omega, by go_num, by
          have e1 : ((k : Int) - 1 + 1).toNat = k := by omega
          rw [e1, HLR.out]; exact HDS.out⟩
        case measure => simp [intOf]
      · have hc : c < 0 := by
          have h : ¬ (0 ≤ c) := by simpa [hge] using hcmp
          omega
        have HQ1 := Lib.hid (HQS.out (by rw [HST2.out]; simp [hge]))
        rw [if_neg hge] at HLR
        rw [HQ1.out] at HDS
        clear hcmp hge HST2 HQ HQS hx2 hqs HQ1
        go_wp2
        go_roundw
        case rel => exact ⟨(k : Int) - 1, by omega, by omega, by go_num, by
          have e1 : ((k : Int) - 1 + 1).toNat = k := by omega
          rw [e1, HLR.out]; exact HDS.out⟩
        case measure => simp [intOf]
    · obtain rfl : m = -1 := by omega
      have hds2 : DT w wr A d D (bitsB (BitVec.ofNat 128 (A / d))) (bitsB (BitVec.ofNat 128 (A % d))) := by
        have h := hds
        rw [show ((-1 : Int) + 1).toNat = 0 from rfl, qrow_zero] at h
        unfold lrow at h
        rw [Nat.pow_zero, Nat.div_one] at h
        exact h
      clear hds h1 h2 h0
      have HDS := Lib.hid hds2
      clear hds2
      generalize hxq : BitVec.ofNat 128 (A / d) = xq at *
      generalize hxl : BitVec.ofNat 128 (A % d) = xl at *
      have HXQ := Lib.hid hxq
      have HXL := Lib.hid hxl
      clear hxq hxl
      go_upto_region 11 with fail
      replace HDS := Lib.hid (show DT w wr.drew A d D (bitsB xq) (bitsB xl) from ⟨HDS.out.num, HDS.out.r1, HDS.out.r2, HDS.out.q, HDS.out.left, HDS.out.by_, HDS.out.below.drew, HDS.out.hD⟩)
      refine wp_region_held_drew (S := (fun w' => w'.rangeAt (w.heap.size + 1 + 1 + 1) 0 (bitsB xq).toList ∧ w'.rangeAt (w.heap.size + 1 + 1 + 1 + 1) 0 (bitsB xl).toList)) (by kernel_rfl) ⟨HDS.out.q.range, HDS.out.left.range⟩ (fun hHeld => ?_)
      refine wpAnyH_take (i := 0) (oi := ⟨some 34, .load 239 (.tmp 6), _, _, _, _⟩) (v := _) rfl (by kernel_rfl) (by kernel_rfl) (by kernel_rfl) (fun _ _ _ h => h) (yieldsIf_load_mid (by rfl) _ _ rfl _ _ rfl _ _ (fun w h => h.1) Try.underlying239 rfl (info128 xq)) (by assumption) ?_
      simp only [Act.put, List.setIfInBounds_toArray, List.set_cons_zero, List.set_cons_succ]
      refine wpAnyH_take (i := 1) (oi := ⟨some 35, .load 239 (.tmp 7), _, _, _, _⟩) (v := _) rfl (by kernel_rfl) (by kernel_rfl) (by kernel_rfl) (fun _ _ _ h => h) (yieldsIf_load_mid (by rfl) _ _ rfl _ _ rfl _ _ (fun w h => h.2) Try.underlying239 rfl (info128 xl)) (by assumption) ?_
      simp only [Act.put, List.setIfInBounds_toArray, List.set_cons_zero, List.set_cons_succ]
      refine wpAnyH_ready (rs := [2]) (by kernel_rfl) (by simp) ?_
      refine AllReadyH.cons (o := ⟨none, _, _, _, _, _⟩) rfl (fun KK hK => ?_) AllReadyH.nil
      refine step_store_blk (by rfl) 239 _ _ (by rfl) (w.heap.size + 1) (by rfl) zero128 (bitsB xq) 239 HDS.out.r1 (by rfl) (by rw [bits_size, row_size]) (by kernel_rfl) (row_one _) ?_
      replace HDS := Lib.hid (HDS.out.setR1 (bitsB xq) (by rw [bits_size, row_size]))
      refine hK.out _ _ ⟨HDS.out.q.range, HDS.out.left.range⟩ (fun hHeld => ?_)
      clear hK; try clear KK
      refine wpAnyH_ready (rs := [3]) (by kernel_rfl) (by simp) ?_
      refine AllReadyH.cons (o := ⟨none, _, _, _, _, _⟩) rfl (fun KK hK => ?_) AllReadyH.nil
      refine step_store_blk (by rfl) 239 _ _ (by rfl) (w.heap.size + 1 + 1) (by rfl) zero128 (bitsB xl) 239 HDS.out.r2 (by rfl) (by rw [bits_size, row_size]) (by kernel_rfl) (row_one _) ?_
      replace HDS := Lib.hid (HDS.out.setR2 (bitsB xl) (by rw [bits_size, row_size]))
      refine hK.out _ _ ⟨HDS.out.q.range, HDS.out.left.range⟩ (fun hHeld => ?_)
      clear hK; try clear KK
      refine wpAnyH_done (by kernel_rfl) ?_ _
      go_wp2
      refine bodyPost_ret (results_blk_blk rfl rfl rfl HDS.out.r1 HDS.out.r2 Try.underlying239 rfl (by kernel_rfl) (by kernel_rfl)) rfl ?_
      exact ⟨by rw [HXQ.out, HXL.out], HDS.out.below⟩
end Go.Proofs.Ytogjgpiddjmpiaa.Ref01
