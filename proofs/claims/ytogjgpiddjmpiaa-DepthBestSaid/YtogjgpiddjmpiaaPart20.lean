/- Parts of the proof: Ref01L, Ref01A. -/
import Derived.Test.YtogjgpiddjmpiaaPart19
import Derived.Deep.DrawnRows

/- The document's numbers of 128 bits: Left, not, Add, Cmp. -/
namespace Go.Proofs.Ytogjgpiddjmpiaa.Ref01
set_option linter.unusedVariables false
open Go.RowKit Go.Proofs.Ytogjgpiddjmpiaa.Kit Go.Proofs.Ytogjgpiddjmpiaa.Blk Go.Proofs.Ytogjgpiddjmpiaa.B128
attribute [local go_sem ↓] Go.wp_at_zero Go.wp_at_succ

abbrev zero128 : Array Value := row fun _ => false

set_option maxRecDepth 20000 in
set_option maxHeartbeats 2000000 in
theorem left_any (a : B) (n : Nat) (hn : n ≤ 9223372036854775807) (w : World) : Calls Try.prog 190 #[.agg (bitsB a), .int .i64 n] w fun e w' => e = .returned (.agg (bitsB (a <<< n))) ∧ Below w.heap.size w w' := by
  obtain ⟨i0, hi0, hz0, hz1, -⟩ := info_parts infoB
  have HZ := Lib.hid (show ∀ k, k ≤ 128 → (¬ k < 128 ∨ ¬ n < 128) → row (fun j => decide (j < k) && (decide (n ≤ j) && a.getLsbD (j - n))) = bitsB (a <<< n) from fun k hk hx => row_ext (fun j hj => by
    rw [BitVec.getLsbD_shiftLeft]
    by_cases h1 : j < n
    · have : ¬ n ≤ j := by omega
      simp [h1, this]
    · have h2 : j < k := by omega
      have h3 : n ≤ j := by omega
      simp [h1, h2, h3, hj]))
  generalize hx : a <<< n = X at HZ
  clear hx
  have h0 : (0 : Int) ≤ (n : Int) := by omega
  go_enter Try.func190, Try.ntmps190
  go_upto_region 2 with (refine alloc_big rfl 239 rfl i0 hi0 _ hz0 ?_)
  have HA := Lib.hid (((Blk.new w (bitsB a) 239 w.heap.size rfl).old (.cells zero128 239)).old (.cells zero128 239))
  have HB := Lib.hid ((Blk.new (w.alloc (.cells (bitsB a) 239)) zero128 239 (w.heap.size + 1) (by simp)).old (.cells zero128 239))
  have HC := Lib.hid (Blk.new ((w.alloc (.cells (bitsB a) 239)).alloc (.cells zero128 239)) zero128 239 (w.heap.size + 1 + 1) (by simp))
  have HL := Lib.hid ((((Below.refl w.heap.size w).alloc (Nat.le_refl _) (.cells (bitsB a) 239)).alloc (by simp) (.cells zero128 239)).alloc (by simp; omega) (.cells zero128 239))
  change Code.wp _ _ _ _ (((w.alloc (.cells (bitsB a) 239)).alloc (.cells zero128 239)).alloc (.cells zero128 239))
  generalize ((w.alloc (.cells (bitsB a) 239)).alloc (.cells zero128 239)).alloc (.cells zero128 239) = W at HA HB HC HL ⊢
  go_wp2_with fail
  go_loopw [6] (fun i wr => ∃ k : Nat, k ≤ 128 ∧ i = .int .i64 k ∧ Blk wr w.heap.size (bitsB a) 239 ∧ Blk wr (w.heap.size + 1) zero128 239 ∧ Blk wr (w.heap.size + 1 + 1) (row (fun j => decide (j < k) && (decide (n ≤ j) && a.getLsbD (j - n)))) 239 ∧ Below w.heap.size w wr) (fun i _ => 128 - (intOf i).toNat)
  case atStart => exact ⟨0, by omega, rfl, HA.out, HB.out, by have h := HC.out; have e : row (fun j => decide (j < 0) && (decide (n ≤ j) && a.getLsbD (j - n))) = zero128 := row_ext (fun j _ => by simp); rw [e]; exact h, HL.out⟩
  case round =>
    clear HA HB HC HL
    obtain ⟨k, hk, rfl, ha, hb, hc, hl⟩ := hrel
    have HA := Lib.hid ha
    have HB := Lib.hid hb
    have HC := Lib.hid hc
    have HL := Lib.hid hl
    clear ha hb hc hl
    by_cases hlt : k < 128 ∧ n < 128
    · obtain ⟨hlt, hn1⟩ := hlt
      have g0 : (0 : Int) ≤ (k : Int) := by omega
      have g1 : (k : Int) < 128 := by omega
      have g2 : (n : Int) < 128 := by omega
      by_cases hkn : n ≤ k
      · have g3 : (n : Int) ≤ (k : Int) := by omega
        have g4 : (0 : Int) ≤ (k : Int) - (n : Int) := by omega
        have g5 : (k : Int) - (n : Int) < 128 := by omega
        have e1 : ((k : Int) - (n : Int)).toNat = k - n := by omega
        have ca : wr.cell? ⟨w.heap.size, k - n, none⟩ = some (.bool (a.getLsbD (k - n))) := HA.out.cell _ (row_at _ _ (by omega))
        have cc : wr.cell? ⟨w.heap.size + 1 + 1, k, none⟩ = some (.bool (decide (k < k) && (decide (n ≤ k) && a.getLsbD (k - n)))) := HC.out.cell _ (row_at _ _ (by omega))
        have fc : wr.frozen? ⟨w.heap.size + 1 + 1, k, none⟩ = false := HC.out.free _
        have HC2 := Lib.hid (HC.out.set k (.bool (a.getLsbD (k - n))))
        have HA2 := Lib.hid (HA.out.apart ⟨w.heap.size + 1 + 1, k, none⟩ (.bool (a.getLsbD (k - n))) (by show w.heap.size + 1 + 1 ≠ w.heap.size; omega))
        have HB2 := Lib.hid (HB.out.apart ⟨w.heap.size + 1 + 1, k, none⟩ (.bool (a.getLsbD (k - n))) (by show w.heap.size + 1 + 1 ≠ w.heap.size + 1; omega))
        have HL2 := Lib.hid (HL.out.setCell (p := ⟨w.heap.size + 1 + 1, k, none⟩) (by show w.heap.size ≤ w.heap.size + 1 + 1; omega) (.bool (a.getLsbD (k - n))))
        go_wp2
        go_roundw
        case rel =>
          refine ⟨k + 1, by omega, by go_num, HA2.out, HB2.out, ?_, HL2.out⟩
          have h := HC2.out
          rw [row_set] at h
          have e : row (fun j => if j = k then a.getLsbD (k - n) else (decide (j < k) && (decide (n ≤ j) && a.getLsbD (j - n)))) = row (fun j => decide (j < k + 1) && (decide (n ≤ j) && a.getLsbD (j - n))) := row_ext (fun j hj => by
            by_cases h1 : j = k
            · subst h1; simp [hkn]
            · rw [if_neg h1]; congr 1; simp; omega)
          rw [e] at h
          exact h
        case measure => simp [intOf]; omega
      · have g3 : (k : Int) < (n : Int) := by omega
        go_wp2
        go_roundw
        case rel =>
          refine ⟨k + 1, by omega, by go_num, HA.out, HB.out, ?_, HL.out⟩
          have e : row (fun j => decide (j < k) && (decide (n ≤ j) && a.getLsbD (j - n))) = row (fun j => decide (j < k + 1) && (decide (n ≤ j) && a.getLsbD (j - n))) := row_ext (fun j hj => by
            by_cases h1 : j = k
            · subst h1; simp [hkn]
            · congr 1; simp; omega)
          rw [← e]
          exact HC.out
        case measure => simp [intOf]; omega
    · have HC2 := Lib.hid (show Blk wr (w.heap.size + 1 + 1) (bitsB X) 239 by rw [← HZ.out k hk (by omega)]; exact HC.out)
      have HD : (128 : Int) ≤ (k : Int) ∨ ((k : Int) < 128 ∧ (128 : Int) ≤ (n : Int)) := by omega
      clear HC
      rcases HD with hd | ⟨hd, hd2⟩
      all_goals
        go_wp2_with (first | (refine load_blk rfl 239 _ rfl _ rfl _ _ HC2.out _ Try.underlying239 rfl (by kernel_rfl) ?_) | (refine store_blk rfl 239 _ _ rfl (w.heap.size + 1) rfl zero128 (bitsB X) 239 HB.out rfl (by rw [bits_size, row_size]) (by kernel_rfl) (row_one _) ?_))
        refine bodyPost_ret (results_cell_row rfl _ _ _ _ _ (0, 0) _ rfl (HB.out.setCells (bitsB X) (by rw [bits_size, row_size])) Try.underlying239 rfl (by kernel_rfl)) rfl ?_
        exact ⟨rfl, Blk.Below.setCells _ _ _ HL.out (by omega)⟩
end Go.Proofs.Ytogjgpiddjmpiaa.Ref01

/- The document's numbers of 128 bits: not, Add, Cmp. -/
namespace Go.Proofs.Ytogjgpiddjmpiaa.Ref01
set_option linter.unusedVariables false
open Go.RowKit Go.Proofs.Ytogjgpiddjmpiaa.Kit Go.Proofs.Ytogjgpiddjmpiaa.Blk Go.Proofs.Ytogjgpiddjmpiaa.B128
attribute [local go_sem ↓] Go.wp_at_zero Go.wp_at_succ

set_option maxRecDepth 20000 in
set_option maxHeartbeats 2000000 in
theorem not_any (a : B) (w : World) : Calls Try.prog 204 #[.agg (bitsB a)] w fun e w' => e = .returned (.agg (bitsB (~~~a))) ∧ Below w.heap.size w w' := by
  obtain ⟨i0, hi0, hz0, hz1, -⟩ := info_parts infoB
  have HZ := Lib.hid (show ∀ k, k = 128 → row (fun j => if j < k then !a.getLsbD j else a.getLsbD j) = bitsB (~~~a) from fun k hk => row_ext (fun j hj => by
    rw [if_pos (by omega), BitVec.getLsbD_not]; simp [hj]))
  generalize hx : ~~~a = X at HZ
  clear hx
  go_enter Try.func204, Try.ntmps204
  go_upto_region 1 with (refine alloc_big rfl 239 rfl i0 hi0 _ hz0 ?_)
  have HA := Lib.hid ((Blk.new w (bitsB a) 239 w.heap.size rfl).old (.cells zero128 239))
  have HB := Lib.hid (Blk.new (w.alloc (.cells (bitsB a) 239)) zero128 239 (w.heap.size + 1) (by simp))
  have HL := Lib.hid (((Below.refl w.heap.size w).alloc (Nat.le_refl _) (.cells (bitsB a) 239)).alloc (by simp) (.cells zero128 239))
  change Code.wp _ _ _ _ ((w.alloc (.cells (bitsB a) 239)).alloc (.cells zero128 239))
  generalize (w.alloc (.cells (bitsB a) 239)).alloc (.cells zero128 239) = W at HA HB HL ⊢
  go_wp2_with fail
  go_loopw [3] (fun i wr => ∃ k : Nat, k ≤ 128 ∧ i = .int .i64 k ∧ Blk wr w.heap.size (row (fun j => if j < k then !a.getLsbD j else a.getLsbD j)) 239 ∧ Blk wr (w.heap.size + 1) zero128 239 ∧ Below w.heap.size w wr) (fun i _ => 128 - (intOf i).toNat)
  case atStart => exact ⟨0, by omega, rfl, by have h := HA.out; have e : row (fun j => if j < 0 then !a.getLsbD j else a.getLsbD j) = bitsB a := row_ext (fun j _ => by simp); rw [e]; exact h, HB.out, HL.out⟩
  case round =>
    clear HA HB HL
    obtain ⟨k, hk, rfl, ha, hb, hl⟩ := hrel
    have HA := Lib.hid ha
    have HB := Lib.hid hb
    have HL := Lib.hid hl
    clear ha hb hl
    by_cases hlt : k < 128
    · have g0 : (0 : Int) ≤ (k : Int) := by omega
      have g1 : (k : Int) < 128 := by omega
      have ca : wr.cell? ⟨w.heap.size, k, none⟩ = some (.bool (a.getLsbD k)) := by have h := HA.out.cell k (row_at _ _ (by omega)); simpa using h
      have fc : wr.frozen? ⟨w.heap.size, k, none⟩ = false := HA.out.free _
      have HA2 := Lib.hid (HA.out.set k (.bool (!a.getLsbD k)))
      have HB2 := Lib.hid (HB.out.apart ⟨w.heap.size, k, none⟩ (.bool (!a.getLsbD k)) (by show w.heap.size ≠ w.heap.size + 1; omega))
      have HL2 := Lib.hid (HL.out.setCell (p := ⟨w.heap.size, k, none⟩) (Nat.le_refl _) (.bool (!a.getLsbD k)))
      go_wp2
      go_roundw
      case rel =>
        refine ⟨k + 1, by omega, by go_num, ?_, HB2.out, HL2.out⟩
        have h := HA2.out
        rw [row_set] at h
        have e : row (fun j => if j = k then !a.getLsbD k else (if j < k then !a.getLsbD j else a.getLsbD j)) = row (fun j => if j < k + 1 then !a.getLsbD j else a.getLsbD j) := row_ext (fun j hj => by
          by_cases h1 : j = k
          · subst h1; simp
          · rw [if_neg h1]
            by_cases h2 : j < k
            · rw [if_pos h2, if_pos (by omega)]
            · rw [if_neg h2, if_neg (by omega)])
        rw [e] at h
        exact h
      case measure => simp [intOf]; omega
    · have hk1 : k = 128 := by omega
      have g1 : (128 : Int) ≤ (k : Int) := by omega
      have HA2 := Lib.hid (show Blk wr w.heap.size (bitsB X) 239 by rw [← HZ.out k hk1]; exact HA.out)
      clear HA hk1
      go_wp2_with (first | (refine load_blk rfl 239 _ rfl _ rfl _ _ HA2.out _ Try.underlying239 rfl (by kernel_rfl) ?_) | (refine store_blk rfl 239 _ _ rfl (w.heap.size + 1) rfl zero128 (bitsB X) 239 HB.out rfl (by rw [bits_size, row_size]) (by kernel_rfl) (row_one _) ?_))
      refine bodyPost_ret (results_cell_row rfl _ _ _ _ _ (0, 0) _ rfl (HB.out.setCells (bitsB X) (by rw [bits_size, row_size])) Try.underlying239 rfl (by kernel_rfl)) rfl ?_
      exact ⟨rfl, Blk.Below.setCells _ _ _ HL.out (by omega)⟩

set_option maxRecDepth 20000 in
set_option maxHeartbeats 4000000 in
theorem add_any (a b : B) (w : World) : Calls Try.prog 150 #[.agg (bitsB a), .agg (bitsB b)] w fun e w' => e = .returned (.tuple #[.agg (bitsB (a + b)), .bool (!BitVec.carry 128 a b false)]) ∧ Below w.heap.size w w' := by
  obtain ⟨i0, hi0, hz0, hz1, -⟩ := info_parts infoB
  have HZ := Lib.hid (show ∀ k, k = 128 → row (fun j => decide (j < k) && (a + b).getLsbD j) = bitsB (a + b) from fun k hk => row_ext (fun j hj => by simp [show j < k by omega]))
  have HS := Lib.hid (fun (k : Nat) (h : k < 128) => add_bit a b k h)
  have HN := Lib.hid (fun (k : Nat) => carry_next a b k)
  have HC0 := Lib.hid (carry_zero a b)
  generalize hx : a + b = X at HZ HS
  generalize hy : (fun k => BitVec.carry k a b false) = cr
  have HY := Lib.hid (fun k => congrFun hy k)
  have H128 := Lib.hid (show BitVec.carry 128 a b false = cr 128 from congrFun hy 128)
  clear hx hy
  go_enter Try.func150, Try.ntmps150
  go_upto_region 2 with (refine alloc_big rfl 239 rfl i0 hi0 _ hz0 ?_)
  have HA := Lib.hid ((((Blk.new w (bitsB a) 239 w.heap.size rfl).old (.cells (bitsB b) 239)).old (.cells zero128 239)).old (.cells zero128 239))
  have HB := Lib.hid (((Blk.new (w.alloc (.cells (bitsB a) 239)) (bitsB b) 239 (w.heap.size + 1) (by simp)).old (.cells zero128 239)).old (.cells zero128 239))
  have HR := Lib.hid ((Blk.new ((w.alloc (.cells (bitsB a) 239)).alloc (.cells (bitsB b) 239)) zero128 239 (w.heap.size + 1 + 1) (by simp)).old (.cells zero128 239))
  have HO := Lib.hid (Blk.new (((w.alloc (.cells (bitsB a) 239)).alloc (.cells (bitsB b) 239)).alloc (.cells zero128 239)) zero128 239 (w.heap.size + 1 + 1 + 1) (by simp))
  have HL := Lib.hid (((((Below.refl w.heap.size w).alloc (Nat.le_refl _) (.cells (bitsB a) 239)).alloc (by simp) (.cells (bitsB b) 239)).alloc (by simp; omega) (.cells zero128 239)).alloc (by simp; omega) (.cells zero128 239))
  change Code.wp _ _ _ _ ((((w.alloc (.cells (bitsB a) 239)).alloc (.cells (bitsB b) 239)).alloc (.cells zero128 239)).alloc (.cells zero128 239))
  generalize (((w.alloc (.cells (bitsB a) 239)).alloc (.cells (bitsB b) 239)).alloc (.cells zero128 239)).alloc (.cells zero128 239) = W at HA HB HR HO HL ⊢
  go_wp2_with fail
  go_loopw [7, 8] (fun c i wr => ∃ k : Nat, k ≤ 128 ∧ i = .int .i64 k ∧ c = .bool (cr k) ∧ Blk wr w.heap.size (bitsB a) 239 ∧ Blk wr (w.heap.size + 1) (bitsB b) 239 ∧ Blk wr (w.heap.size + 1 + 1) zero128 239 ∧ Blk wr (w.heap.size + 1 + 1 + 1) (row (fun j => decide (j < k) && X.getLsbD j)) 239 ∧ Below w.heap.size w wr) (fun _ i _ => 128 - (intOf i).toNat)
  case atStart => exact ⟨0, by omega, rfl, by rw [← HY.out 0, HC0.out], HA.out, HB.out, HR.out, by have h := HO.out; have e : row (fun j => decide (j < 0) && X.getLsbD j) = zero128 := row_ext (fun j _ => by simp); rw [e]; exact h, HL.out⟩
  case round =>
    clear HA HB HR HO HL
    obtain ⟨k, hk, rfl, rfl, ha, hb, hr, ho, hl⟩ := hrel
    have HA := Lib.hid ha
    have HB := Lib.hid hb
    have HR := Lib.hid hr
    have HO := Lib.hid ho
    have HL := Lib.hid hl
    clear ha hb hr ho hl
    by_cases hlt : k < 128
    · have g0 : (0 : Int) ≤ (k : Int) := by omega
      have g1 : (k : Int) < 128 := by omega
      have HS1 := Lib.hid (HS.out k hlt)
      have HN1 := Lib.hid (HN.out k)
      rw [HY.out k] at HS1
      rw [HY.out k, HY.out (k + 1)] at HN1
      have ca : wr.cell? ⟨w.heap.size, k, none⟩ = some (.bool (a.getLsbD k)) := HA.out.cell k (row_at _ _ (by omega))
      have cb : wr.cell? ⟨w.heap.size + 1, k, none⟩ = some (.bool (b.getLsbD k)) := HB.out.cell k (row_at _ _ (by omega))
      have co : wr.cell? ⟨w.heap.size + 1 + 1 + 1, k, none⟩ = some (.bool (decide (k < k) && X.getLsbD k)) := HO.out.cell k (row_at _ _ (by omega))
      have fo : wr.frozen? ⟨w.heap.size + 1 + 1 + 1, k, none⟩ = false := HO.out.free _
      have HEND := Lib.hid (fun (v : Bool) (hv : X.getLsbD k = v) => (show Blk (wr.setCell ⟨w.heap.size + 1 + 1 + 1, k, none⟩ (.bool v)) w.heap.size (bitsB a) 239 ∧ Blk (wr.setCell ⟨w.heap.size + 1 + 1 + 1, k, none⟩ (.bool v)) (w.heap.size + 1) (bitsB b) 239 ∧ Blk (wr.setCell ⟨w.heap.size + 1 + 1 + 1, k, none⟩ (.bool v)) (w.heap.size + 1 + 1) zero128 239 ∧
          Blk (wr.setCell ⟨w.heap.size + 1 + 1 + 1, k, none⟩ (.bool v)) (w.heap.size + 1 + 1 + 1) (row (fun j => decide (j < k + 1) && X.getLsbD j)) 239 ∧ Below w.heap.size w (wr.setCell ⟨w.heap.size + 1 + 1 + 1, k, none⟩ (.bool v)) from by
        refine ⟨HA.out.apart _ _ (by show w.heap.size + 1 + 1 + 1 ≠ w.heap.size; omega), HB.out.apart _ _ (by show w.heap.size + 1 + 1 + 1 ≠ w.heap.size + 1; omega), HR.out.apart _ _ (by show w.heap.size + 1 + 1 + 1 ≠ w.heap.size + 1 + 1; omega), ?_, HL.out.setCell (p := ⟨w.heap.size + 1 + 1 + 1, k, none⟩) (by show w.heap.size ≤ w.heap.size + 1 + 1 + 1; omega) _⟩
        have h := HO.out.set k (.bool v)
        rw [row_set] at h
        have e : row (fun j => if j = k then v else (decide (j < k) && X.getLsbD j)) = row (fun j => decide (j < k + 1) && X.getLsbD j) := row_ext (fun j hj => by
          by_cases h1 : j = k
          · subst h1; simp [hv]
          · rw [if_neg h1]; congr 1; simp; omega)
        rw [e] at h
        exact h))
      clear HA HB HR HO HL HS HN
      generalize a.getLsbD k = x at ca HS1 HN1
      generalize b.getLsbD k = y at cb HS1 HN1
      generalize hc : cr k = c at HS1 HN1
      clear hc
      cases x <;> cases y <;> cases c
      all_goals
        go_wp2
        go_roundw
        case rel => exact ⟨k + 1, by omega, by go_num, by rw [HN1.out]; rfl, HEND.out _ (by rw [HS1.out]; rfl)⟩
        case measure => simp [intOf]; omega
    · have hk1 : k = 128 := by omega
      have g1 : (128 : Int) ≤ (k : Int) := by omega
      have HO2 := Lib.hid (show Blk wr (w.heap.size + 1 + 1 + 1) (bitsB X) 239 by rw [← HZ.out k hk1]; exact HO.out)
      have HK := Lib.hid (show cr 128 = cr k by rw [hk1])
      clear HO hk1
      go_wp2_with (first | (refine load_blk rfl 239 _ rfl _ rfl _ _ HO2.out _ Try.underlying239 rfl (by kernel_rfl) ?_) | (refine store_blk rfl 239 _ _ rfl (w.heap.size + 1 + 1) rfl zero128 (bitsB X) 239 HR.out rfl (by rw [bits_size, row_size]) (by kernel_rfl) (row_one _) ?_))
      refine bodyPost_ret (results_blk_tmp rfl rfl (HR.out.setCells (bitsB X) (by rw [bits_size, row_size])) Try.underlying239 rfl (by kernel_rfl)) rfl ?_
      exact ⟨by rw [H128.out, HK.out]; rfl, Blk.Below.setCells _ _ _ HL.out (by omega)⟩

set_option maxRecDepth 20000 in
set_option maxHeartbeats 4000000 in
theorem cmp_any (a b : B) (w : World) : Calls Try.prog 191 #[.agg (bitsB a), .agg (bitsB b)] w fun e w' => e = .returned (.int .i64 (cmp a b)) ∧ Below w.heap.size w w' := by
  have HA := Lib.hid ((Blk.new w (bitsB a) 239 w.heap.size rfl).old (.cells (bitsB b) 239))
  have HB := Lib.hid (Blk.new (w.alloc (.cells (bitsB a) 239)) (bitsB b) 239 (w.heap.size + 1) (by simp))
  have HL := Lib.hid (((Below.refl w.heap.size w).alloc (Nat.le_refl _) (.cells (bitsB a) 239)).alloc (by simp) (.cells (bitsB b) 239))
  have HLT := Lib.hid (fun (k : Nat) (h : ∀ j, k < j → j < 128 → a.getLsbD j = b.getLsbD j) (ha : a.getLsbD k = false) (hb : b.getLsbD k = true) => (show cmp a b = -1 from by
    have := cmp_lt a b k (fun j hj => by
      by_cases h1 : j < 128
      · exact h j hj h1
      · rw [BitVec.getLsbD_of_ge a j (by omega), BitVec.getLsbD_of_ge b j (by omega)]) ha hb
    unfold cmp; rw [if_pos this]))
  have HGT := Lib.hid (fun (k : Nat) (h : ∀ j, k < j → j < 128 → a.getLsbD j = b.getLsbD j) (ha : a.getLsbD k = true) (hb : b.getLsbD k = false) => (show cmp a b = 1 from by
    have := cmp_lt b a k (fun j hj => by
      by_cases h1 : j < 128
      · exact (h j hj h1).symm
      · rw [BitVec.getLsbD_of_ge a j (by omega), BitVec.getLsbD_of_ge b j (by omega)]) hb ha
    unfold cmp; rw [if_neg (by omega), if_neg (by omega)]))
  have HEQ := Lib.hid (fun (h : ∀ j, j < 128 → a.getLsbD j = b.getLsbD j) => (show cmp a b = 0 from by
    have := cmp_eq a b h
    unfold cmp; rw [this]; simp))
  generalize hcm : cmp a b = cm at HLT HGT HEQ
  clear hcm
  go_enter Try.func191, Try.ntmps191
  go_upto_region 1 with fail
  generalize (w.alloc (.cells (bitsB a) 239)).alloc (.cells (bitsB b) 239) = W at HA HB HL ⊢
  go_wp2_with fail
  go_loopw [5] (fun i wr => ∃ m : Int, -1 ≤ m ∧ m < 128 ∧ i = .int .i64 m ∧ Blk wr w.heap.size (bitsB a) 239 ∧ Blk wr (w.heap.size + 1) (bitsB b) 239 ∧ Below w.heap.size w wr ∧ ∀ j : Nat, m < j → j < 128 → a.getLsbD j = b.getLsbD j) (fun i _ => (intOf i + 1).toNat)
  case atStart => exact ⟨127, by omega, by omega, rfl, HA.out, HB.out, HL.out, fun j h1 h2 => by omega⟩
  case round =>
    clear HA HB HL
    obtain ⟨m, h1, h2, rfl, ha, hb, hl, he⟩ := hrel
    have HA := Lib.hid ha
    have HB := Lib.hid hb
    have HL := Lib.hid hl
    have HE := Lib.hid he
    clear ha hb hl he
    by_cases h0 : 0 ≤ m
    · obtain ⟨k, rfl⟩ := Int.eq_ofNat_of_zero_le h0
      have ca : wr.cell? ⟨w.heap.size, k, none⟩ = some (.bool (a.getLsbD k)) := HA.out.cell k (row_at _ _ (by omega))
      have cb : wr.cell? ⟨w.heap.size + 1, k, none⟩ = some (.bool (b.getLsbD k)) := HB.out.cell k (row_at _ _ (by omega))
      cases hx : a.getLsbD k with
      | true =>
        cases hy : b.getLsbD k with
        | true =>
          have HE2 := Lib.hid (show ∀ j : Nat, (k : Int) - 1 < j → j < 128 → a.getLsbD j = b.getLsbD j from fun j hj hj2 => by
            by_cases e : j = k
            · subst e; rw [hx, hy]
            · exact HE.out j (by omega) hj2)
          rw [hx] at ca
          rw [hy] at cb
          clear hx hy
          go_wp2_with fail
          go_quiet (fail)
          replace HA := Lib.hid ((HA.out).drewN nq)
          replace HB := Lib.hid ((HB.out).drewN nq)
          replace HL := Lib.hid ((HL.out).drewN nq)
          generalize wr.drewN nq = w2 at HA HB HL ⊢
          go_wp2
          go_roundw
          case rel => exact ⟨(k : Int) - 1, by omega, by omega, rfl, HA.out, HB.out, HL.out, HE2.out⟩
          case measure => first | (simp [intOf]; done) | (simp [intOf]; omega)
        | false =>
          have HV := Lib.hid (HGT.out k (fun j hj hj2 => HE.out j (by omega) hj2) hx hy)
          have HXB := Lib.hid hx
          rw [hx] at ca
          rw [hy] at cb
          clear hx hy
          go_wp2_with fail
          go_quiet (fail)
          replace HA := Lib.hid ((HA.out).drewN nq)
          replace HB := Lib.hid ((HB.out).drewN nq)
          replace HL := Lib.hid ((HL.out).drewN nq)
          generalize wr.drewN nq = w2 at HA HB HL ⊢
          clear ca cb
          have ca : w2.cell? ⟨w.heap.size, k, none⟩ = some (.bool true) := by rw [← HXB.out]; exact HA.out.cell k (row_at _ _ (by omega))
          go_wp2
          go_ret
          exact ⟨ret_int (by rw [HV.out]), HL.out⟩
      | false =>
        cases hy : b.getLsbD k with
        | true =>
          have HV := Lib.hid (HLT.out k (fun j hj hj2 => HE.out j (by omega) hj2) hx hy)
          have HXB := Lib.hid hx
          rw [hx] at ca
          rw [hy] at cb
          clear hx hy
          go_wp2_with fail
          go_quiet (fail)
          replace HA := Lib.hid ((HA.out).drewN nq)
          replace HB := Lib.hid ((HB.out).drewN nq)
          replace HL := Lib.hid ((HL.out).drewN nq)
          generalize wr.drewN nq = w2 at HA HB HL ⊢
          clear ca cb
          have ca : w2.cell? ⟨w.heap.size, k, none⟩ = some (.bool false) := by rw [← HXB.out]; exact HA.out.cell k (row_at _ _ (by omega))
          go_wp2
          go_ret
          exact ⟨ret_int (by rw [HV.out]), HL.out⟩
        | false =>
          have HE2 := Lib.hid (show ∀ j : Nat, (k : Int) - 1 < j → j < 128 → a.getLsbD j = b.getLsbD j from fun j hj hj2 => by
            by_cases e : j = k
            · subst e; rw [hx, hy]
            · exact HE.out j (by omega) hj2)
          rw [hx] at ca
          rw [hy] at cb
          clear hx hy
          go_wp2_with fail
          go_quiet (fail)
          replace HA := Lib.hid ((HA.out).drewN nq)
          replace HB := Lib.hid ((HB.out).drewN nq)
          replace HL := Lib.hid ((HL.out).drewN nq)
          generalize wr.drewN nq = w2 at HA HB HL ⊢
          go_wp2
          go_roundw
          case rel => exact ⟨(k : Int) - 1, by omega, by omega, rfl, HA.out, HB.out, HL.out, HE2.out⟩
          case measure => first | (simp [intOf]; done) | (simp [intOf]; omega)
    · have HV := Lib.hid (HEQ.out (fun j hj => HE.out j (by omega) hj))
      have h0' : m < 0 := by omega
      go_wp2
      go_ret
      exact ⟨ret_int (by rw [HV.out]), HL.out⟩
end Go.Proofs.Ytogjgpiddjmpiaa.Ref01
