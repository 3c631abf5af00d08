/- damperref35.decimal, and Line at a tick; damperref36.text. -/
import Derived.Test.YtmkcooamgojbpaaDoorRepNum
import Derived.Deep.DeepCutAuto
import Derived.Deep.CutBlock
namespace Go.Proofs.YtmkcooamgojbpaaDoor.Lines
open Go.RowKit Go.Proofs.YtmkcooamgojbpaaDoor.Kit Go.Proofs.YtmkcooamgojbpaaDoor.Blk Go.Proofs.YtmkcooamgojbpaaDoor.Dec Go.Proofs.YtmkcooamgojbpaaDoor.Words Go.Proofs.YtmkcooamgojbpaaDoor.Octets
attribute [local go_sem ↓] Go.wp_at_zero Go.wp_at_succ
set_option linter.unusedVariables false

theorem strB_app (a b : List UInt8) : strB a ++ strB b = strB (a ++ b) := by
  apply ByteArray.ext
  simp [strB]
/-- One digit's text. -/
theorem digit_text (w : World) (n : Nat) (h : n < 10) : (convert 40 9 (.slice (some ⟨w.heap.size, 0, none⟩) 1 1)).run Tryd.prog (w.alloc (.cells #[.int .u8 (48 + (n : Int))] 5)) = .ok (.string (strB (decN n))) (w.alloc (.cells #[.int .u8 (48 + (n : Int))] 5)) := by
  rw [decN_small h]
  refine run_convert_bytes_back _ _ _ 5 ⟨w.heap.size, 0, none⟩ 1 [dg n] Tryd.underlying40 Tryd.underlying5 Tryd.underlying9 fun j hj => ?_
  have hj : j = 0 := by simpa using hj
  subst hj
  rw [Addr.add_mid, Nat.zero_add]
  refine cell_new _ _ _ _ _ _ rfl ?_
  show some _ = some _
  rw [List.getElem_cons_zero, dg_nat h]
  congr 2
set_option maxRecDepth 20000 in
set_option maxHeartbeats 2000000 in
theorem rdec_pos : ∀ (n : Nat), n ≤ 9223372036854775807 → ∀ (w : World),
    Calls Tryd.prog 83 #[.int .i64 (n : Int)] w fun e w' => e = .returned (.string (strB (decN n))) ∧ Below w.heap.size w w' := by
  intro n
  induction n using Nat.strongRecOn with
  | _ n ih =>
    intro hn w
    have b1 : ((n : Int) == -9223372036854775808) = false := by rw [beq_eq_false_iff_ne]; omega
    have b2 : ¬ (n : Int) < 0 := by omega
    by_cases h : n < 10
    · have HT := digit_text w n h
      have b3 : (n : Int) < 10 := by omega
      clear ih
      go_enter Tryd.func83, Tryd.ntmps83
      go_wp2_with fail
      go_ret
      exact ⟨rfl, (Below.refl _ _).alloc (Nat.le_refl _) _⟩
    · have H1 := Lib.hid (ih (n / 10) (by omega) (by omega))
      have H2 := Lib.hid (ih (n % 10) (by omega) (by omega))
      have HD := Lib.hid (show strB (decN (n / 10)) ++ strB (decN (n % 10)) = strB (decN n) by rw [strB_app, decN_big h, decN_small (Nat.mod_lt n (by decide))])
      have b3 : ¬ (n : Int) < 10 := by omega
      have hz : (strB (decN (n / 10))).size + (strB (decN (n % 10))).size ≤ 9223372036854775807 := by
        rw [strB_size, strB_size]
        have h1 := decN_long (n := n / 10) (by omega)
        have h2 := decN_long (n := n % 10) (by omega)
        omega
      clear ih
      go_enter Tryd.func83, Tryd.ntmps83
      go_wp2_with fail
      refine (H1.out w).mono ?_
      rintro e w1 ⟨rfl, hb1⟩
      have HB1 := Lib.hid hb1
      clear hb1
      go_wp2_with fail
      refine (H2.out w1).mono ?_
      rintro e w2 ⟨rfl, hb2⟩
      have HB2 := Lib.hid (HB1.out.trans (hb2.mono HB1.out.size))
      clear hb2
      go_wp2_with fail
      go_ret
      exact ⟨by rw [← HD.out]; rfl, HB2.out⟩
theorem dec_pos {n : Int} (h : ¬ n < 0) : decB n = decN n.toNat := by rw [decB, if_neg h]; congr 1; omega
theorem dec_neg {n : Int} (h : n < 0) : decB n = 45 :: decN (-n).toNat := by rw [decB, if_pos h]; congr 2; omega
set_option maxRecDepth 20000 in
set_option maxHeartbeats 2000000 in
theorem rdecimal_any (n : Int) (h0 : -9223372036854775808 ≤ n) (h1 : n ≤ 9223372036854775807) (w : World) :
    Calls Tryd.prog 83 #[.int .i64 n] w fun e w' => e = .returned (.string (strB (decB n))) ∧ Below w.heap.size w w' := by
  by_cases hn : n < 0
  · by_cases hl : n = -9223372036854775808
    · subst hl
      have HE := Lib.hid (show decB (-9223372036854775808) = [45, 57, 50, 50, 51, 51, 55, 50, 48, 51, 54, 56, 53, 52, 55, 55, 53, 56, 48, 56] from by decide +kernel)
      go_enter Tryd.func83, Tryd.ntmps83
      go_wp2_with fail
      go_ret
      exact ⟨by rw [HE.out]; rfl, Below.refl _ _⟩
    · have b1 : (n == -9223372036854775808) = false := by rw [beq_eq_false_iff_ne]; exact hl
      have HC := Lib.hid (rdec_pos (-n).toNat (by omega) w)
      have HD := Lib.hid (dec_neg hn)
      have e1 : ((-n).toNat : Int) = -n := by omega
      rw [e1] at HC
      have hz : (strB (decN (-n).toNat)).size ≤ 100 := by
        rw [strB_size]
        have h1 := decN_long (n := (-n).toNat) (by omega)
        omega
      have h2 : -n ≤ 9223372036854775807 := by omega
      have HS := Lib.hid (show (⟨#[45]⟩ : ByteArray) ++ strB (decN (-n).toNat) = strB (decB n) from by rw [HD.out]; exact strB_app [45] _)
      generalize decN (-n).toNat = d at HC HS hz
      clear e1 hl
      go_enter Tryd.func83, Tryd.ntmps83
      go_wp2_with fail
      refine HC.out.mono ?_
      rintro e w1 ⟨rfl, hb1⟩
      have HB1 := Lib.hid hb1
      clear hb1
      go_wp2_with fail
      go_ret
      exact ⟨by rw [← HS.out]; rfl, HB1.out⟩
  · have HC := rdec_pos n.toNat (by omega) w
    rw [show ((n.toNat : Nat) : Int) = n by omega] at HC
    rw [dec_pos hn]
    exact HC
end Go.Proofs.YtmkcooamgojbpaaDoor.Lines
