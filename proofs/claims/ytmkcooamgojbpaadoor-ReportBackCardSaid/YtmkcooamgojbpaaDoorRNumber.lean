/- damperref35.Number. -/
import Derived.Test.YtmkcooamgojbpaaDoorRSplit
namespace Go.Proofs.YtmkcooamgojbpaaDoor.Lines
open Go.RowKit Go.Proofs.YtmkcooamgojbpaaDoor.Kit Go.Proofs.YtmkcooamgojbpaaDoor.Blk Go.Proofs.YtmkcooamgojbpaaDoor.Dec Go.Proofs.YtmkcooamgojbpaaDoor.Words Go.Proofs.YtmkcooamgojbpaaDoor.Octets
attribute [local go_sem ↓] Go.wp_at_zero Go.wp_at_succ
set_option linter.unusedVariables false

theorem tdiv_ten (d : Int) (h : 0 ≤ d ∧ d ≤ 9) : (-9223372036854775808 + d).tdiv 10 = -((9223372036854775808 - d) / 10) := by
  have e : (-9223372036854775808 + d) = -(9223372036854775808 - d) := by omega
  rw [e, Int.neg_tdiv, Int.tdiv_eq_ediv_of_nonneg (by omega)]
set_option maxRecDepth 20000 in
set_option maxHeartbeats 4000000 in
theorem rnumber_long (l : List UInt8) (hl : l.length ≤ 100000) (h : l = [] ∨ 20 < l.length) (w : World) :
    Calls Tryd.prog 30 #[.string (strB l)] w (NumIs (numF l) w) := by
  have HN := Lib.hid (numF_long h)
  have z1 : (strB l).size = l.length := strB_size l
  rcases h with rfl | h
  · have b1 : (((strB []).size : Int) == 0) = true := by rw [strB_size]; rfl
    go_enter Tryd.func30, Tryd.ntmps30
    go_wp2_with fail
    go_ret2
    exact ⟨by rw [HN.out]; rfl, Below.refl _ _⟩
  · have b1 : ((l.length : Int) == 0) = false := by rw [beq_eq_false_iff_ne]; omega
    have b2 : (20 : Int) < (l.length : Int) := by omega
    go_enter Tryd.func30, Tryd.ntmps30
    go_wp2_with fail
    go_ret2
    exact ⟨by rw [HN.out]; rfl, Below.refl _ _⟩
set_option maxRecDepth 20000 in
set_option maxHeartbeats 4000000 in
theorem rnumber_minus (t : List UInt8) (hl : (45 :: t).length ≤ 20) (w : World) :
    Calls Tryd.prog 30 #[.string (strB (45 :: t))] w (NumIs (numF (45 :: t)) w) := by
  have HP : Hid (Part (45 :: t) true t) := Lib.hid ⟨fun _ => rfl, fun h => by cases h⟩
  have z1 : (strB (45 :: t)).size = 1 + t.length := by rw [strB_size, List.length_cons]; omega
  have hlt : t.length ≤ 19 := by simpa using hl
  have b1 : ((1 + (t.length : Int)) == 0) = false := by rw [beq_eq_false_iff_ne]; omega
  have b2 : ¬ (20 : Int) < 1 + (t.length : Int) := by omega
  have b3 : ∀ h, ((((strB (45 :: t))[0]'h).toNat : Int) == 45) = true := fun h => by rw [strB_at _ 0 h (by simp)]; rfl
  have HAT := Lib.hid (fun (k : Nat) (h : k < t.length) (h') => show ((strB (45 :: t))[1 + k]'h') = t[k] by rw [strB_at _ _ h' (by simp; omega)]; simp [show 1 + k = k + 1 by omega])
  have HSL := Lib.hid (show (strB (45 :: t)).toList = 45 :: t by rw [ByteArray.toList_eq, strB_list])
  generalize strB (45 :: t) = S at z1 b3 HAT HSL ⊢
  go_enter Tryd.func30, Tryd.ntmps30
  go_wp2_with fail
  go_loop [4, 6] (fun x i => ∃ k : Nat, k ≤ t.length ∧ i = .int .i64 ((1 : Int) + (k : Int)) ∧ x = .int .i64 (-(valN (t.take k) : Int)) ∧ Hid (DigsOk (t.take k))) (fun _ i => 1 + t.length - (intOf i).toNat)
  case atStart => exact ⟨0, by omega, rfl, by simp [valN], Lib.hid good_nil⟩
  case round =>
    obtain ⟨k, hk, rfl, rfl, HG⟩ := hrel
    by_cases hlt : k < t.length
    · have hat := HAT.out k hlt
      have hc255 : t[k].toNat ≤ 255 := by have := t[k].toNat_lt; omega
      have HND := Lib.hid (fun h => numF_bad HP.out (good_not_dig hlt h))
      have HNB := Lib.hid (fun h => numF_bad HP.out (good_not_big hlt h))
      have HNX := Lib.hid (fun h1 h2 h3 => good_next hlt HG.out h1 h2 h3)
      have HVN := Lib.hid (val_next hlt)
      have hvb : valN (t.take k) ≤ 9223372036854775808 := HG.out.2
      generalize hv : valN (t.take k) = v at hvb HND HNB HNX HVN
      have HV := Lib.hid hv
      clear hv
      generalize hc : t[k].toNat = c at hc255 HND HNB HNX HVN
      have ha : ∀ h', ((S[1 + k]'h').toNat : Int) = (c : Int) := fun h' => by rw [hat h', hc]
      have e0 : ((1 : Int) + (k : Int)).toNat = 1 + k := by omega
      have HC := Lib.hid hc
      clear hat hc
      by_cases g1 : c < 48
      · have HN := Lib.hid (HND.out (.inl g1))
        have d1 : (c : Int) < 48 := by omega
        go_wp2_with fail
        go_ret2
        exact ⟨by rw [HN.out]; rfl, Below.refl _ _⟩
      · by_cases g2 : 57 < c
        · have HN := Lib.hid (HND.out (.inr g2))
          have d1 : ¬ (c : Int) < 48 := by omega
          have d2 : (c : Int) > 57 := by omega
          go_wp2_with fail
          go_ret2
          exact ⟨by rw [HN.out]; rfl, Below.refl _ _⟩
        · have d1 : ¬ (c : Int) < 48 := by omega
          have d2 : ¬ (c : Int) > 57 := by omega
          have q := tdiv_ten ((c : Int) - 48) (by omega)
          by_cases g4 : 9223372036854775808 < v * 10 + (c - 48)
          · have HN := Lib.hid (HNB.out g4)
            have d4 : -(v : Int) < (-9223372036854775808 + ((c : Int) - 48)).tdiv 10 := by rw [q]; omega
            clear q
            go_wp2_with fail
            go_ret2
            exact ⟨by rw [HN.out]; rfl, Below.refl _ _⟩
          · have d4 : ¬ -(v : Int) < (-9223372036854775808 + ((c : Int) - 48)).tdiv 10 := by rw [q]; omega
            clear q
            have HG2 := Lib.hid (HNX.out (by omega) (by omega) (by omega))
            have HEQ : -(v : Int) * 10 - ((c : Int) - 48) = -(valN (t.take (k + 1)) : Int) := by rw [HVN.out]; omega
            go_wp2_with fail
            go_round
            case rel => exact ⟨k + 1, by omega, by simp; omega, by rw [← HEQ], HG2⟩
            case measure => simp [intOf]; omega
    · obtain rfl : k = t.length := by omega
      have HGS := Lib.hid (show DigsOk t by have := HG.out; rwa [List.take_length] at this)
      have hvb : valN t ≤ 9223372036854775808 := HGS.out.2
      have htk : t.take t.length = t := List.take_length
      rw [htk]
      clear htk
      go_wp2_with fail
      refine (rdecimal_any (-(valN t : Int)) (by omega) (by omega) _).mono ?_
      rintro e w2 ⟨rfl, hb2⟩
      have HB := Lib.hid hb2
      clear hb2
      by_cases hq : decB (-(valN t : Int)) = 45 :: t
      · have HN := Lib.hid (numF_again (by omega) (by omega) hq)
        have bq : ((strB (decB (-(valN t : Int)))).toList == S.toList) = true := by rw [ByteArray.toList_eq, strB_list, HSL.out, hq]; simp
        clear hq
        generalize strB (decB (-(valN t : Int))) = D at bq ⊢
        go_wp2_with fail
        go_ret2
        exact ⟨by rw [HN.out]; rfl, HB.out⟩
      · have HN := Lib.hid (numF_other HP.out (n := (-(valN t : Int))) (by simp) hq)
        have bq : ((strB (decB (-(valN t : Int)))).toList == S.toList) = false := by rw [ByteArray.toList_eq, strB_list, HSL.out]; simpa using hq
        clear hq
        generalize strB (decB (-(valN t : Int))) = D at bq ⊢
        go_wp2_with fail
        go_ret2
        exact ⟨by rw [HN.out]; rfl, HB.out⟩
set_option maxRecDepth 20000 in
set_option maxHeartbeats 4000000 in
theorem rnumber_plain (t : List UInt8) (hl : t.length ≤ 20) (h0 : t ≠ []) (h45 : t.head? ≠ some 45) (w : World) :
    Calls Tryd.prog 30 #[.string (strB t)] w (NumIs (numF t) w) := by
  have HP : Hid (Part t false t) := Lib.hid ⟨fun h => (by cases h), fun _ => ⟨rfl, h45⟩⟩
  have z1 : (strB t).size = t.length := strB_size t
  have hpos : 0 < t.length := List.length_pos_iff.2 h0
  have b1 : ((t.length : Int) == 0) = false := by rw [beq_eq_false_iff_ne]; omega
  have b2 : ¬ (20 : Int) < (t.length : Int) := by omega
  have b3 : ∀ h, ((((strB t)[0]'h).toNat : Int) == 45) = false := fun h => by
    rw [strB_at t 0 h hpos, beq_eq_false_iff_ne]
    intro e
    have e2 : t[0] = 45 := UInt8.toNat_inj.1 (by show t[0].toNat = 45; omega)
    refine h45 ?_
    rw [List.head?_eq_getElem?, List.getElem?_eq_getElem hpos]
    exact congrArg some e2
  have HAT := Lib.hid (fun (k : Nat) (h : k < t.length) (h') => show ((strB t)[0 + k]'h') = t[k] by rw [strB_at _ _ h' (by omega)]; simp)
  simp only [Nat.zero_add] at HAT
  have HSL := Lib.hid (show (strB t).toList = t by rw [ByteArray.toList_eq, strB_list])
  clear h0 h45
  generalize strB t = S at z1 b3 HAT HSL ⊢
  go_enter Tryd.func30, Tryd.ntmps30
  go_wp2_with fail
  go_loop [4, 6] (fun x i => ∃ k : Nat, k ≤ t.length ∧ i = .int .i64 (k : Int) ∧ x = .int .i64 (-(valN (t.take k) : Int)) ∧ Hid (DigsOk (t.take k))) (fun _ i => t.length - (intOf i).toNat)
  case atStart => exact ⟨0, by omega, rfl, by simp [valN], Lib.hid good_nil⟩
  case round =>
    obtain ⟨k, hk, rfl, rfl, HG⟩ := hrel
    by_cases hlt : k < t.length
    · have hat := HAT.out k hlt
      have hc255 : t[k].toNat ≤ 255 := by have := t[k].toNat_lt; omega
      have HND := Lib.hid (fun h => numF_bad HP.out (good_not_dig hlt h))
      have HNB := Lib.hid (fun h => numF_bad HP.out (good_not_big hlt h))
      have HNX := Lib.hid (fun h1 h2 h3 => good_next hlt HG.out h1 h2 h3)
      have HVN := Lib.hid (val_next hlt)
      have hvb : valN (t.take k) ≤ 9223372036854775808 := HG.out.2
      generalize hv : valN (t.take k) = v at hvb HND HNB HNX HVN
      have HV := Lib.hid hv
      clear hv
      generalize hc : t[k].toNat = c at hc255 HND HNB HNX HVN
      have ha : ∀ h', ((S[k]'h').toNat : Int) = (c : Int) := fun h' => by rw [hat h', hc]
      have HC := Lib.hid hc
      clear hat hc
      by_cases g1 : c < 48
      · have HN := Lib.hid (HND.out (.inl g1))
        have d1 : (c : Int) < 48 := by omega
        go_wp2_with fail
        go_ret2
        exact ⟨by rw [HN.out]; rfl, Below.refl _ _⟩
      · by_cases g2 : 57 < c
        · have HN := Lib.hid (HND.out (.inr g2))
          have d1 : ¬ (c : Int) < 48 := by omega
          have d2 : (c : Int) > 57 := by omega
          go_wp2_with fail
          go_ret2
          exact ⟨by rw [HN.out]; rfl, Below.refl _ _⟩
        · have d1 : ¬ (c : Int) < 48 := by omega
          have d2 : ¬ (c : Int) > 57 := by omega
          have q := tdiv_ten ((c : Int) - 48) (by omega)
          by_cases g4 : 9223372036854775808 < v * 10 + (c - 48)
          · have HN := Lib.hid (HNB.out g4)
            have d4 : -(v : Int) < (-9223372036854775808 + ((c : Int) - 48)).tdiv 10 := by rw [q]; omega
            clear q
            go_wp2_with fail
            go_ret2
            exact ⟨by rw [HN.out]; rfl, Below.refl _ _⟩
          · have d4 : ¬ -(v : Int) < (-9223372036854775808 + ((c : Int) - 48)).tdiv 10 := by rw [q]; omega
            clear q
            have HG2 := Lib.hid (HNX.out (by omega) (by omega) (by omega))
            have HEQ : -(v : Int) * 10 - ((c : Int) - 48) = -(valN (t.take (k + 1)) : Int) := by rw [HVN.out]; omega
            go_wp2_with fail
            go_round
            case rel => exact ⟨k + 1, by omega, by simp, by rw [← HEQ], HG2⟩
            case measure => simp [intOf]; omega
    · obtain rfl : k = t.length := by omega
      have HGS := Lib.hid (show DigsOk t by have := HG.out; rwa [List.take_length] at this)
      have hvb : valN t ≤ 9223372036854775808 := HGS.out.2
      have htk : t.take t.length = t := List.take_length
      rw [htk]
      clear htk
      by_cases g : valN t = 9223372036854775808
      · have HN := Lib.hid (numF_big HP.out g)
        rw [g]
        go_wp2_with fail
        go_ret2
        exact ⟨by rw [HN.out]; rfl, Below.refl _ _⟩
      · have g9 : valN t ≤ 9223372036854775807 := by omega
        have d1 : (-(valN t : Int) == -9223372036854775808) = false := by rw [beq_eq_false_iff_ne]; omega
        go_wp2_with fail
        refine (rdecimal_any (valN t : Int) (by omega) (by omega) _).mono ?_
        rintro e w2 ⟨rfl, hb2⟩
        have HB := Lib.hid hb2
        clear hb2
        by_cases hq : decB (valN t : Int) = t
        · have HN := Lib.hid (numF_again (by omega) (by omega) hq)
          have bq : ((strB (decB (valN t : Int))).toList == S.toList) = true := by rw [ByteArray.toList_eq, strB_list, HSL.out, hq]; simp
          clear hq
          generalize strB (decB (valN t : Int)) = D at bq ⊢
          go_wp2_with fail
          go_ret2
          exact ⟨by rw [HN.out]; rfl, HB.out⟩
        · have HN := Lib.hid (numF_other HP.out (n := (valN t : Int)) (by simp) hq)
          have bq : ((strB (decB (valN t : Int))).toList == S.toList) = false := by rw [ByteArray.toList_eq, strB_list, HSL.out]; simpa using hq
          clear hq
          generalize strB (decB (valN t : Int)) = D at bq ⊢
          go_wp2_with fail
          go_ret2
          exact ⟨by rw [HN.out]; rfl, HB.out⟩
theorem rnumber_any (l : List UInt8) (hl : l.length ≤ 100000) (w : World) :
    Calls Tryd.prog 30 #[.string (strB l)] w (NumIs (numF l) w) := by
  by_cases h : l = [] ∨ 20 < l.length
  · exact rnumber_long l hl h w
  · have h20 : l.length ≤ 20 := by omega
    have h0 : l ≠ [] := fun e => h (.inl e)
    cases l with
    | nil => exact absurd rfl h0
    | cons a t =>
      by_cases ha : a = 45
      · subst ha; exact rnumber_minus t h20 w
      · exact rnumber_plain (a :: t) h20 h0 (by simpa using ha) w
end Go.Proofs.YtmkcooamgojbpaaDoor.Lines
