/- Parts of the proof: Ref01. -/
import Derived.Test.YtogjgpiddjmpiaaPart1
import Derived.Test.YtogjgpiddjmpiaaPart2
import Derived.Test.YtogjgpiddjmpiaaPart3
import Derived.Deep.CutBlock
import Derived.Deep.DeepCutAuto
import Derived.Laws.Rows
import Derived.Laws.BitsAllLaws

/- The document's numbers of 128 bits: Of, Left, not, Add, Cmp. -/
namespace Go.Proofs.Ytogjgpiddjmpiaa.Ref01
set_option linter.unusedVariables false
open Go.RowKit Go.Proofs.Ytogjgpiddjmpiaa.Kit Go.Proofs.Ytogjgpiddjmpiaa.Blk Go.Proofs.Ytogjgpiddjmpiaa.B128

theorem infoB : (Try.prog.info? 239).map (fun i => (i.zero, i.size, i.bytes)) = some (some (.agg (row fun _ => false)), 128, 128) := by kernel_rfl

def fOf (hi lo : Nat) (k j : Nat) : Bool := if j < 64 then decide (j < k) && lo.testBit j else decide (j - 64 < k) && hi.testBit (j - 64)

set_option maxRecDepth 20000 in
set_option maxHeartbeats 2000000 in
theorem of_any (hi lo : Nat) (hhi : hi < 2 ^ 64) (hlo : lo < 2 ^ 64) (w : World) : Calls Try.prog 189 #[.int .u64 hi, .int .u64 lo] w fun e w' => e = .returned (.agg (bitsB (BitVec.ofNat 128 (hi * 2 ^ 64 + lo)))) ∧ Below w.heap.size w w' := by
  obtain ⟨i0, hi0, hz0, hz1, -⟩ := info_parts infoB
  generalize hx : BitVec.ofNat 128 (hi * 2 ^ 64 + lo) = X
  have HXX := Lib.hid hx
  clear hx
  go_enter Try.func189, Try.ntmps189
  go_upto_region 2 with (refine alloc_big rfl 239 rfl i0 hi0 _ hz0 ?_)
  have HA := Lib.hid ((Blk.new w (row fun _ => false) 239 w.heap.size rfl).old (.cells (row fun _ => false) 239))
  have HB := Lib.hid (Blk.new (w.alloc (.cells (row fun _ => false) 239)) (row fun _ => false) 239 (w.heap.size + 1) (by simp))
  have HL := Lib.hid (((Below.refl w.heap.size w).alloc (Nat.le_refl _) (.cells (row fun _ => false) 239)).alloc (by simp) (.cells (row fun _ => false) 239))
  change Code.wp _ _ _ _ ((w.alloc (.cells (row fun _ => false) 239)).alloc (.cells (row fun _ => false) 239))
  generalize (w.alloc (.cells (row fun _ => false) 239)).alloc (.cells (row fun _ => false) 239) = W at HA HB HL ⊢
  go_wp2_with fail
  go_loopw [6] (fun i wr => ∃ k : Nat, k ≤ 64 ∧ i = .int .i64 k ∧ Blk wr w.heap.size (row fun _ => false) 239 ∧ Blk wr (w.heap.size + 1) (row (fOf hi lo k)) 239 ∧ Below w.heap.size w wr) (fun i _ => 64 - (intOf i).toNat)
  case atStart => exact ⟨0, by omega, rfl, HA.out, by have h := HB.out; have e : row (fOf hi lo 0) = row (fun _ => false) := row_ext (fun j _ => by unfold fOf; simp); rw [e]; exact h, HL.out⟩
  case round =>
    clear HA HB HL
    obtain ⟨k, hk, rfl, ha, hb, hl⟩ := hrel
    have HA := Lib.hid ha
    have HB := Lib.hid hb
    have HL := Lib.hid hl
    clear ha hb hl
    by_cases hlt : k < 64
    · have g0 : (0 : Int) ≤ (k : Int) := by omega
      have g1 : (k : Int) < 64 := by omega
      have c1 : wr.cell? ⟨w.heap.size + 1, k, none⟩ = some (.bool (fOf hi lo k k)) := HB.out.cell k (row_at _ _ (by omega))
      have f1 : wr.frozen? ⟨w.heap.size + 1, k, none⟩ = false := HB.out.free _
      have hb1 := Lib.hid (bit_int lo k hlo)
      have hb2 := Lib.hid (bit_int hi k hhi)
      have HB1 := Lib.hid (HB.out.set k (.bool (Go.bits .and .u64 ((lo : Int) / 2 ^ k) 1 == 1)))
      have HB2 := Lib.hid (HB1.out.set (k + 64) (.bool (Go.bits .and .u64 ((hi : Int) / 2 ^ k) 1 == 1)))
      have HA2 := Lib.hid ((HA.out.apart ⟨w.heap.size + 1, k, none⟩ (.bool (Go.bits .and .u64 ((lo : Int) / 2 ^ k) 1 == 1)) (by show w.heap.size + 1 ≠ w.heap.size; omega)).apart ⟨w.heap.size + 1, k + 64, none⟩ (.bool (Go.bits .and .u64 ((hi : Int) / 2 ^ k) 1 == 1)) (by show w.heap.size + 1 ≠ w.heap.size; omega))
      have HL2 := Lib.hid ((HL.out.setCell (p := ⟨w.heap.size + 1, k, none⟩) (by show w.heap.size ≤ w.heap.size + 1; omega) (.bool (Go.bits .and .u64 ((lo : Int) / 2 ^ k) 1 == 1))).setCell (p := ⟨w.heap.size + 1, k + 64, none⟩) (by show w.heap.size ≤ w.heap.size + 1; omega) (.bool (Go.bits .and .u64 ((hi : Int) / 2 ^ k) 1 == 1)))
      go_upto_region 6 with fail
      have c2 : (wr.setCell ⟨w.heap.size + 1, k, none⟩ (.bool (Go.bits .and .u64 ((lo : Int) / 2 ^ k) 1 == 1))).cell? ⟨w.heap.size + 1, k + 64, none⟩ = some (.bool (fOf hi lo k (k + 64))) := by
        rw [World.cell?_setCell_other _ _ _ _ (by intro e; injection e with _ e2 _; omega)]; exact HB.out.cell _ (row_at _ _ (by omega))
      have f2 : (wr.setCell ⟨w.heap.size + 1, k, none⟩ (.bool (Go.bits .and .u64 ((lo : Int) / 2 ^ k) 1 == 1))).frozen? ⟨w.heap.size + 1, k + 64, none⟩ = false := by rw [World.frozen?_setCell]; exact HB.out.free _
      generalize wr.setCell ⟨w.heap.size + 1, k, none⟩ (.bool (Go.bits .and .u64 ((lo : Int) / 2 ^ k) 1 == 1)) = w2 at HB1 HB2 HA2 HL2 c2 f2 ⊢
      have g2 : (0 : Int) ≤ (k : Int) + 64 := by omega
      have g3 : (k : Int) + 64 < 128 := by omega
      have e1 : ((k : Int) + 64).toNat = k + 64 := by omega
      clear c1 f1
      go_wp2
      go_roundw
      case rel =>
        refine ⟨k + 1, by omega, by go_num, HA2.out, ?_, HL2.out⟩
        have h := HB2.out
        rw [row_set, row_set] at h
        have e : row (fun j => if j = k + 64 then (Go.bits .and .u64 ((hi : Int) / 2 ^ k) 1 == 1) else if j = k then (Go.bits .and .u64 ((lo : Int) / 2 ^ k) 1 == 1) else fOf hi lo k j) = row (fOf hi lo (k + 1)) := row_ext (fun j hj => by
          rw [hb1.out, hb2.out]
          unfold fOf
          by_cases h1 : j = k + 64
          · subst h1; simp
          · rw [if_neg h1]
            by_cases h2 : j = k
            · subst h2; simp [hlt]
            · rw [if_neg h2]
              by_cases h3 : j < 64
              · rw [if_pos h3, if_pos h3]; congr 1; simp; omega
              · rw [if_neg h3, if_neg h3]; congr 1; simp; omega)
        rw [e] at h
        exact h
      case measure => simp [intOf]; omega
    · have hk64 : k = 64 := by omega
      have g1 : (64 : Int) ≤ (k : Int) := by omega
      have HE := Lib.hid (show row (fOf hi lo 64) = bitsB X from row_ext (fun j hj => by
        rw [← HXX.out, of_bit hi lo hlo]
        unfold fOf
        by_cases h : j < 64
        · simp [h]
        · have h2 : j - 64 < 64 := by omega
          simp [h, h2, hj]))
      have HB2 := Lib.hid (show Blk wr (w.heap.size + 1) (bitsB X) 239 by rw [← HE.out]; rw [← hk64]; exact HB.out)
      clear HB hk64
      go_wp2_with (first | (refine load_blk rfl 239 _ rfl _ rfl _ _ HB2.out _ Try.underlying239 rfl (by kernel_rfl) ?_) | (refine store_blk rfl 239 _ _ rfl w.heap.size rfl (row fun _ => false) (bitsB X) 239 HA.out rfl (by rw [bits_size, row_size]) (by kernel_rfl) (row_one _) ?_))
      refine bodyPost_ret (results_cell_row rfl _ _ _ _ _ (0, 0) _ rfl (HA.out.setCells (bitsB X) (by rw [bits_size, row_size])) Try.underlying239 rfl (by kernel_rfl)) rfl ?_
      exact ⟨rfl, Blk.Below.setCells _ _ _ HL.out (Nat.le_refl _)⟩
end Go.Proofs.Ytogjgpiddjmpiaa.Ref01
