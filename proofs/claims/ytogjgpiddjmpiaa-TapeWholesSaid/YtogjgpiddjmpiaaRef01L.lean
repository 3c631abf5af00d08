/- The document's numbers of 128 bits: Left, not, Add, Cmp. -/
import Derived.Test.YtogjgpiddjmpiaaRef01
import Derived.Deep.DrawnRows
namespace Go.Proofs.Ytogjgpiddjmpiaa.Ref01
set_option linter.unusedVariables false
open Go.RowKit Go.Proofs.Ytogjgpiddjmpiaa.Kit Go.Proofs.Ytogjgpiddjmpiaa.Blk Go.Proofs.Ytogjgpiddjmpiaa.B128
attribute [local go_sem ↓] Go.wp_at_zero Go.wp_at_succ

abbrev zero128 : Array Value := row fun _ => false

set_option maxRecDepth 20000 in
set_option maxHeartbeats 2000000 in
theorem left_any (a : B) (n : Nat) (hn : n ≤ 9223372036854775807) (w : World) : Calls Try.prog 190 #[.agg (bitsB a), .int .i64 n] w fun e w' => e = .returned (.agg (bitsB (a <<< n))) ∧ Below w.heap.size w w' := by
  obtain ⟨i0, hi0, hz0, hz1, -⟩ := info_parts infoB
  have HZ := Lib.hid (show ∀ k, k ≤ 128 → (¬ k < 128 ∨ ¬ n < 128) → row (fun j => decide (j < k) && (decide (n ≤ j) && a.getLsbD (j - n))) = bitsB (a <<< n) from fun k hk hx => row_ext (fun j hj => by
    rw [BitVec.getLsbD_shiftLeft]
    by_cases h1 : j < n
    · have : ¬ n ≤ j := by omega
      simp [h1, this]
    · have h2 : j < k := by omega
      have h3 : n ≤ j := by omega
      simp [h1, h2, h3, hj]))
  generalize hx : a <<< n = X at HZ
  clear hx
  have h0 : (0 : Int) ≤ (n : Int) := by omega
  go_enter Try.func190, Try.ntmps190
  go_upto_region 2 with (refine alloc_big rfl 239 rfl i0 hi0 _ hz0 ?_)
  have HA := Lib.hid (((Blk.new w (bitsB a) 239 w.heap.size rfl).old (.cells zero128 239)).old (.cells zero128 239))
  have HB := Lib.hid ((Blk.new (w.alloc (.cells (bitsB a) 239)) zero128 239 (w.heap.size + 1) (by simp)).old (.cells zero128 239))
  have HC := Lib.hid (Blk.new ((w.alloc (.cells (bitsB a) 239)).alloc (.cells zero128 239)) zero128 239 (w.heap.size + 1 + 1) (by simp))
  have HL := Lib.hid ((((Below.refl w.heap.size w).alloc (Nat.le_refl _) (.cells (bitsB a) 239)).alloc (by simp) (.cells zero128 239)).alloc (by simp; omega) (.cells zero128 239))
  change Code.wp _ _ _ _ (((w.alloc (.cells (bitsB a) 239)).alloc (.cells zero128 239)).alloc (.cells zero128 239))
  generalize ((w.alloc (.cells (bitsB a) 239)).alloc (.cells zero128 239)).alloc (.cells zero128 239) = W at HA HB HC HL ⊢
  go_wp2_with fail
  go_loopw [6] (fun i wr => ∃ k : Nat, k ≤ 128 ∧ i = .int .i64 k ∧ Blk wr w.heap.size (bitsB a) 239 ∧ Blk wr (w.heap.size + 1) zero128 239 ∧ Blk wr (w.heap.size + 1 + 1) (row (fun j => decide (j < k) && (decide (n ≤ j) && a.getLsbD (j - n)))) 239 ∧ Below w.heap.size w wr) (fun i _ => 128 - (intOf i).toNat)
  case atStart => exact ⟨0, by omega, rfl, HA.out, HB.out, by have h := HC.out; have e : row (fun j => decide (j < 0) && (decide (n ≤ j) && a.getLsbD (j - n))) = zero128 := row_ext (fun j _ => by simp); rw [e]; exact h, HL.out⟩
  case round =>
    clear HA HB HC HL
    obtain ⟨k, hk, rfl, ha, hb, hc, hl⟩ := hrel
    have HA := Lib.hid ha
    have HB := Lib.hid hb
    have HC := Lib.hid hc
    have HL := Lib.hid hl
    clear ha hb hc hl
    by_cases hlt : k < 128 ∧ n < 128
    · obtain ⟨hlt, hn1⟩ := hlt
      have g0 : (0 : Int) ≤ (k : Int) := by omega
      have g1 : (k : Int) < 128 := by omega
      have g2 : (n : Int) < 128 := by omega
      by_cases hkn : n ≤ k
      · have g3 : (n : Int) ≤ (k : Int) := by omega
        have g4 : (0 : Int) ≤ (k : Int) - (n : Int) := by omega
        have g5 : (k : Int) - (n : Int) < 128 := by omega
        have e1 : ((k : Int) - (n : Int)).toNat = k - n := by omega
        have ca : wr.cell? ⟨w.heap.size, k - n, none⟩ = some (.bool (a.getLsbD (k - n))) := HA.out.cell _ (row_at _ _ (by omega))
        have cc : wr.cell? ⟨w.heap.size + 1 + 1, k, none⟩ = some (.bool (decide (k < k) && (decide (n ≤ k) && a.getLsbD (k - n)))) := HC.out.cell _ (row_at _ _ (by omega))
        have fc : wr.frozen? ⟨w.heap.size + 1 + 1, k, none⟩ = false := HC.out.free _
        have HC2 := Lib.hid (HC.out.set k (.bool (a.getLsbD (k - n))))
        have HA2 := Lib.hid (HA.out.apart ⟨w.heap.size + 1 + 1, k, none⟩ (.bool (a.getLsbD (k - n))) (by show w.heap.size + 1 + 1 ≠ w.heap.size; omega))
        have HB2 := Lib.hid (HB.out.apart ⟨w.heap.size + 1 + 1, k, none⟩ (.bool (a.getLsbD (k - n))) (by show w.heap.size + 1 + 1 ≠ w.heap.size + 1; omega))
        have HL2 := Lib.hid (HL.out.setCell (p := ⟨w.heap.size + 1 + 1, k, none⟩) (by show w.heap.size ≤ w.heap.size + 1 + 1; omega) (.bool (a.getLsbD (k - n))))
        go_wp2
        go_roundw
        case rel =>
          refine ⟨k + 1, by omega, by go_num, HA2.out, HB2.out, ?_, HL2.out⟩
          have h := HC2.out
          rw [row_set] at h
          have e : row (fun j => if j = k then a.getLsbD (k - n) else (decide (j < k) && (decide (n ≤ j) && a.getLsbD (j - n)))) = row (fun j => decide (j < k + 1) && (decide (n ≤ j) && a.getLsbD (j - n))) := row_ext (fun j hj => by
            by_cases h1 : j = k
            · subst h1; simp [hkn]
            · rw [if_neg h1]; congr 1; simp; omega)
          rw [e] at h
          exact h
        case measure => simp [intOf]; omega
      · have g3 : (k : Int) < (n : Int) := by omega
        go_wp2
        go_roundw
        case rel =>
          refine ⟨k + 1, by omega, by go_num, HA.out, HB.out, ?_, HL.out⟩
          have e : row (fun j => decide (j < k) && (decide (n ≤ j) && a.getLsbD (j - n))) = row (fun j => decide (j < k + 1) && (decide (n ≤ j) && a.getLsbD (j - n))) := row_ext (fun j hj => by
            by_cases h1 : j = k
            · subst h1; simp [hkn]
            · congr 1; simp; omega)
          rw [← e]
          exact HC.out
        case measure => simp [intOf]; omega
    · have HC2 := Lib.hid (show Blk wr (w.heap.size + 1 + 1) (bitsB X) 239 by rw [← HZ.out k hk (by omega)]; exact HC.out)
      have HD : (128 : Int) ≤ (k : Int) ∨ ((k : Int) < 128 ∧ (128 : Int) ≤ (n : Int)) := by omega
      clear HC
      rcases HD with hd | ⟨hd, hd2⟩
      all_goals
        go_wp2_with (first | (refine load_blk rfl 239 _ rfl _ rfl _ _ HC2.out _ Try.underlying239 rfl (by kernel_rfl) ?_) | (refine store_blk rfl 239 _ _ rfl (w.heap.size + 1) rfl zero128 (bitsB X) 239 HB.out rfl (by rw [bits_size, row_size]) (by kernel_rfl) (row_one _) ?_))
        refine bodyPost_ret (results_cell_row rfl _ _ _ _ _ (0, 0) _ rfl (HB.out.setCells (bitsB X) (by rw [bits_size, row_size])) Try.underlying239 rfl (by kernel_rfl)) rfl ?_
        exact ⟨rfl, Blk.Below.setCells _ _ _ HL.out (by omega)⟩
end Go.Proofs.Ytogjgpiddjmpiaa.Ref01
