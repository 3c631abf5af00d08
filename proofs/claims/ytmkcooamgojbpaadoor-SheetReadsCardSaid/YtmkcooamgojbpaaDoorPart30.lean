/- Parts of the proof: RSplit, RNumber, ShNumsR, ShSymR, ShRowR, ShLinesR. -/
import Derived.Test.YtmkcooamgojbpaaDoorPart17
import Derived.Test.YtmkcooamgojbpaaDoorPart29
import Derived.IntWalk
import Derived.Test.YtmkcooamgojbpaaDoorPart24
import Derived.Test.YtmkcooamgojbpaaDoorPart4
import Derived.Test.YtmkcooamgojbpaaDoorPart8
import Derived.Test.YtmkcooamgojbpaaDoorPart25
import Derived.Deep.RegionHeld3

/- damperref35.Split. -/
namespace Go.Proofs.YtmkcooamgojbpaaDoor.Lines
open Go.RowKit Go.Proofs.YtmkcooamgojbpaaDoor.Kit Go.Proofs.YtmkcooamgojbpaaDoor.Blk Go.Proofs.YtmkcooamgojbpaaDoor.Dec Go.Proofs.YtmkcooamgojbpaaDoor.Words Go.Proofs.YtmkcooamgojbpaaDoor.Octets
attribute [local go_sem ↓] Go.wp_at_zero Go.wp_at_succ
set_option linter.unusedVariables false

/-- The last of a row stored. -/
theorem GL.last {n0 n cap g : Nat} {w W : World} {xs : List Value} {u u' : Value} (h : GL n0 9 1 w W (.slice (some ⟨g, 0, none⟩) n cap) n (xs ++ [u])) (hn : n = xs.length + 1) (hge : n0 ≤ g) :
    GL n0 9 1 w (W.setCell ⟨g, n - 1, none⟩ u') (.slice (some ⟨g, 0, none⟩) n cap) n (xs ++ [u']) := by
  have hs := World.ownsRow.stored h.own (n - 1) u'
  have e : (xs ++ [u]).set (n - 1) u' = xs ++ [u'] := by
    subst hn
    rw [Nat.add_sub_cancel, List.set_append]
    simp
  rw [e] at hs
  exact ⟨hs.1, h.bel.setCell hge _, Nat.le_trans h.le hs.2.size, fun h0 => by omega⟩
theorem GL.ge {n0 n cap g s T : Nat} {w W : World} {xs : List Value} (h : GL n0 T s w W (.slice (some ⟨g, 0, none⟩) n cap) n xs) : n0 ≤ g ∧ g < W.heap.size := World.ownsRow.lt h.own g rfl
theorem one_char (l : List UInt8) (k : Nat) (h : k < l.length) : (strB l).extract k (k + 1) = strB [l[k]] := by
  apply ByteArray.ext
  simp [strB]
  rw [List.drop_eq_getElem_cons h]
  rfl
set_option maxRecDepth 20000 in
set_option maxHeartbeats 4000000 in
theorem rsplit_any (l : List UInt8) (hl : l.length ≤ 100000) (w : World) :
    Calls Tryd.prog 32 #[.string (strB l)] w (SplitIs l w) := by
  by_cases h : l = []
  · subst h
    have b1 : (strB []).toList = [] := by rw [ByteArray.toList_eq, strB_list]
    go_enter Tryd.func32, Tryd.ntmps32
    go_wp2_with fail
    go_ret
    exact ⟨_, rfl, .inl ⟨rfl, rfl⟩, Below.refl _ _⟩
  · obtain ⟨i0, hi0, hz0, hz1, hz2⟩ := info_parts infoStr
    have HSW := Lib.hid (show splitW l = cutW 32 l by unfold splitW; rw [if_neg h])
    have b1 : ((strB l).toList == []) = false := by rw [ByteArray.toList_eq, strB_list]; simpa using h
    have b2 : ((strB l).toList.isEmpty) = false := by rw [ByteArray.toList_eq, strB_list]; simpa using h
    have z1 : (strB l).size = l.length := strB_size l
    have hG0 := Lib.hid (show GL w.heap.size 9 1 w (w.alloc (.cells #[.string ⟨#[]⟩] 9)) (.slice (some ⟨w.heap.size, 0, none⟩) 1 1) 1 (strs (cutW 32 [])) from
      ⟨World.ownsRow_lit (base := w.heap.size) (size := 1) w #[.string ⟨#[]⟩] 1 (Nat.le_refl _) (by decide) rfl, (Below.refl _ _).alloc (Nat.le_refl _) _, by simp, fun h => by cases h⟩)
    clear h
    go_enter Tryd.func32, Tryd.ntmps32
    go_wp2_with fail
    go_loopw [3, 4] (fun o i wr => ∃ k g cap n : Nat, k ≤ l.length ∧ i = .int .i64 k ∧ o = .slice (some ⟨g, 0, none⟩) n cap ∧ n = (cutW 32 (l.take k)).length ∧ n ≤ cap ∧ GL w.heap.size 9 1 w wr (.slice (some ⟨g, 0, none⟩) n cap) n (strs (cutW 32 (l.take k)))) (fun _ i _ => l.length - (intOf i).toNat)
    case atStart => exact ⟨0, w.heap.size, 1, 1, by omega, rfl, rfl, rfl, Nat.le_refl _, hG0.out⟩
    case round =>
      obtain ⟨k, g, cap, n, hk, rfl, rfl, hn, hcap, hgl⟩ := hrel
      have HGL := Lib.hid hgl
      clear hgl hG0
      have hnb : n ≤ 100001 := by rw [hn, cut_len]; have := List.count_le_length (a := (32 : UInt8)) (l := l.take k); rw [List.length_take] at this; omega
      have HNN := Lib.hid hn
      clear hn
      by_cases hlt : k < l.length
      · have htk := List.take_succ_eq_append_getElem hlt
        have hat := strB_at l k (by omega) hlt
        by_cases hc : l[k] = 32
        · have HE := Lib.hid (show cutW 32 (l.take (k + 1)) = cutW 32 (l.take k) ++ [[]] by rw [htk, hc, cut_snoc_sep])
          have b3 : ∀ h, ((((strB l)[k]'h).toNat : Int) == 32) = true := fun h => by rw [hat, hc]; rfl
          have HN := Lib.hid (HGL.out.new #[.string ⟨#[]⟩])
          clear htk hat hc
          go_wp2_with (at_builtin; refine GN.wp HN.out rfl _ _ 33 (by rfl) i0 (.string ByteArray.empty) 16 Tryd.underlying33 hi0 hz0 hz1 hz2 rfl (by decide) (by rfl) (by rfl) rfl (by simp [Value.oneCell']) (by unfold maxLen; omega) (by omega) ?_; intro g5 cap5 w5 H5; replace H5 := Lib.hid H5)
          have HN5 : Hid (n + 1 = (cutW 32 (l.take (k + 1))).length) := Lib.hid (by rw [HE.out, List.length_append, ← HNN.out]; rfl)
          have hc5 : n + 1 ≤ cap5 := (by
            rcases H5.out.own.2 with ⟨h, _⟩ | ⟨_, _, _, h, _, _, h1, _⟩
            · cases h
            · injection h with _ _ h; subst h; exact h1)
          go_roundw
          case rel => exact ⟨k + 1, g5, cap5, n + 1, by omega, by go_num, rfl, HN5.out, hc5, by rw [HE.out, strs_app]; exact H5.out⟩
          case measure => simp [intOf]; omega
        · obtain ⟨us, u, hu1, hu2⟩ := cut_snoc hc (l.take k)
          have HE := Lib.hid (show cutW 32 (l.take (k + 1)) = us ++ [u ++ [l[k]]] by rw [htk, hu2])
          have b3 : ∀ h, ((((strB l)[k]'h).toNat : Int) == 32) = false := fun h => by
            rw [hat, beq_eq_false_iff_ne]
            intro e
            exact hc (UInt8.toNat_inj.1 (by show l[k].toNat = 32; omega))
          have hn1 : n = us.length + 1 := by rw [HNN.out, hu1]; simp
          have hgl := HGL.out
          rw [hu1, strs_app] at hgl
          have hge := (GL.ge hgl).1
          have cl : wr.cell? ⟨g, n - 1, none⟩ = some (.string (strB u)) := by
            rw [World.ownsRow.cellAt hgl.own (n - 1) (by omega), hn1, Nat.add_sub_cancel]
            have := strs_len us
            rw [List.getElem?_append_right (by omega), this]
            simp [strs]
          have fl : wr.frozen? ⟨g, n - 1, none⟩ = false := World.ownsRow.frozenAt hgl.own _
          have HST := Lib.hid (GL.last (u' := .string (strB u ++ (strB l).extract k (k + 1))) (show GL w.heap.size 9 1 w wr (.slice (some ⟨g, 0, none⟩) n cap) n (strs us ++ [.string (strB u)]) from hgl) (by rw [strs_len]; exact hn1) hge).drew
          clear htk hat hc hu2 hgl HGL hge
          obtain ⟨j, rfl⟩ : ∃ j, n = j + 1 := ⟨n - 1, by omega⟩
          rw [Nat.add_sub_cancel] at cl fl HST
          have he1 := one_char l k hlt
          have g1 : ¬ 9223372036854775807 < (strB u).size + (strB [l[k]]).size := by
            rw [strB_size, strB_size]
            have : u.length ≤ l.length := by
              have h1 := cut_bytes 32 (l.take k) u (by rw [hu1]; simp)
              rw [List.length_take] at h1
              omega
            simp; omega
          have HU := Lib.hid hu1
          have HN1 := Lib.hid hn1
          rw [he1] at HST
          have HSA := Lib.hid (strB_app u [l[k]])
          clear hu1 hn1
          generalize strB [l[k]] = C at he1 g1 HST HSA
          have v1 : IntKind.i64.wrap (j : Int) = (j : Int) := IntWalk.i64_in _ (by omega)
          have v2 : IntKind.i64.wrap ((k : Int) + 1) = (k : Int) + 1 := IntWalk.i64_in _ (by omega)
          have v3 : (j : Int) < (j : Int) + 1 := by omega
          have v5 : (k : Int) ≤ (k : Int) + 1 := by omega
          have v6 : (k : Int) + 1 ≤ (l.length : Int) := by omega
          have v7 : k + 1 ≤ l.length := hlt
          have v8 : k ≤ k + 1 := by omega
          have v4 : ((k : Int) + 1).toNat = k + 1 := by omega
          go_upto_region 9 with fail
          refine wp_region_still_tail 17 (by kernel_rfl) (by kernel_rfl) ?_
          simp only [List.take_succ_cons, List.take_zero, List.drop_succ_cons, List.drop_zero]
          repeat still_step
          refine wpStill_nil ?_
          change wpList _ _ _ _ _ wr.drew
          clear v1 v2 v3 v4 v5 v6 v7 v8
          have fl' : wr.drew.frozen? ⟨g, j, none⟩ = false := fl
          have cl' : wr.drew.cell? ⟨g, j, none⟩ = some (.string (strB u)) := cl
          go_wp2_with fail
          go_roundw
          case rel => exact ⟨k + 1, g, cap, j + 1, by omega, by go_num, rfl, by rw [HE.out, HN1.out]; simp, hcap, by rw [HE.out, strs_app]; show GL _ _ _ _ _ _ _ (strs us ++ [.string (strB (u ++ [l[k]]))]); rw [← HSA.out]; exact HST.out⟩
          case measure => simp [intOf]; omega
      · obtain rfl : k = l.length := by omega
        have HR := Lib.hid (show SplitIs l w (.returned (.slice (some ⟨g, 0, none⟩) n cap)) wr from by
          have hn := HNN.out
          have hg := HGL.out
          rw [List.take_length] at hn hg
          have hge := GL.ge hg
          refine ⟨_, rfl, .inr ⟨?_, g, cap, ?_, ?_, hge.2, fun j hj => ?_⟩, hg.bel⟩
          · rw [HSW.out]; exact List.length_pos_iff.2 (cutW_ne _ _)
          · rw [HSW.out, ← hn]
          · rw [HSW.out, ← hn]; exact hcap
          · rw [HSW.out] at hj
            rw [World.ownsRow.cellAt hg.own j (by omega)]
            simp [strs, hj, HSW.out])
        go_wp2_with fail
        go_ret
        exact HR.out
end Go.Proofs.YtmkcooamgojbpaaDoor.Lines

/- damperref35.Number. -/
namespace Go.Proofs.YtmkcooamgojbpaaDoor.Lines
open Go.RowKit Go.Proofs.YtmkcooamgojbpaaDoor.Kit Go.Proofs.YtmkcooamgojbpaaDoor.Blk Go.Proofs.YtmkcooamgojbpaaDoor.Dec Go.Proofs.YtmkcooamgojbpaaDoor.Words Go.Proofs.YtmkcooamgojbpaaDoor.Octets
attribute [local go_sem ↓] Go.wp_at_zero Go.wp_at_succ
set_option linter.unusedVariables false

theorem tdiv_ten (d : Int) (h : 0 ≤ d ∧ d ≤ 9) : (-9223372036854775808 + d).tdiv 10 = -((9223372036854775808 - d) / 10) := by
  have e : (-9223372036854775808 + d) = -(9223372036854775808 - d) := by omega
  rw [e, Int.neg_tdiv, Int.tdiv_eq_ediv_of_nonneg (by omega)]
set_option maxRecDepth 20000 in
set_option maxHeartbeats 4000000 in
theorem rnumber_long (l : List UInt8) (hl : l.length ≤ 100000) (h : l = [] ∨ 20 < l.length) (w : World) :
    Calls Tryd.prog 30 #[.string (strB l)] w (NumIs (numF l) w) := by
  have HN := Lib.hid (numF_long h)
  have z1 : (strB l).size = l.length := strB_size l
  rcases h with rfl | h
  · have b1 : (((strB []).size : Int) == 0) = true := by rw [strB_size]; rfl
    go_enter Tryd.func30, Tryd.ntmps30
    go_wp2_with fail
    go_ret2
    exact ⟨by rw [HN.out]; rfl, Below.refl _ _⟩
  · have b1 : ((l.length : Int) == 0) = false := by rw [beq_eq_false_iff_ne]; omega
    have b2 : (20 : Int) < (l.length : Int) := by omega
    go_enter Tryd.func30, Tryd.ntmps30
    go_wp2_with fail
    go_ret2
    exact ⟨by rw [HN.out]; rfl, Below.refl _ _⟩
set_option maxRecDepth 20000 in
set_option maxHeartbeats 4000000 in
theorem rnumber_minus (t : List UInt8) (hl : (45 :: t).length ≤ 20) (w : World) :
    Calls Tryd.prog 30 #[.string (strB (45 :: t))] w (NumIs (numF (45 :: t)) w) := by
  have HP : Hid (Part (45 :: t) true t) := Lib.hid ⟨fun _ => rfl, fun h => by cases h⟩
  have z1 : (strB (45 :: t)).size = 1 + t.length := by rw [strB_size, List.length_cons]; omega
  have hlt : t.length ≤ 19 := by simpa using hl
  have b1 : ((1 + (t.length : Int)) == 0) = false := by rw [beq_eq_false_iff_ne]; omega
  have b2 : ¬ (20 : Int) < 1 + (t.length : Int) := by omega
  have b3 : ∀ h, ((((strB (45 :: t))[0]'h).toNat : Int) == 45) = true := fun h => by rw [strB_at _ 0 h (by simp)]; rfl
  have HAT := Lib.hid (fun (k : Nat) (h : k < t.length) (h') => show ((strB (45 :: t))[1 + k]'h') = t[k] by rw [strB_at _ _ h' (by simp; omega)]; simp [show 1 + k = k + 1 by omega])
  have HSL := Lib.hid (show (strB (45 :: t)).toList = 45 :: t by rw [ByteArray.toList_eq, strB_list])
  generalize strB (45 :: t) = S at z1 b3 HAT HSL ⊢
  go_enter Tryd.func30, Tryd.ntmps30
  go_wp2_with fail
  go_loop [4, 6] (fun x i => ∃ k : Nat, k ≤ t.length ∧ i = .int .i64 ((1 : Int) + (k : Int)) ∧ x = .int .i64 (-(valN (t.take k) : Int)) ∧ Hid (DigsOk (t.take k))) (fun _ i => 1 + t.length - (intOf i).toNat)
  case atStart => exact ⟨0, by omega, rfl, by simp [valN], Lib.hid good_nil⟩
  case round =>
    obtain ⟨k, hk, rfl, rfl, HG⟩ := hrel
    by_cases hlt : k < t.length
    · have hat := HAT.out k hlt
      have hc255 : t[k].toNat ≤ 255 := by have := t[k].toNat_lt; omega
      have HND := Lib.hid (fun h => numF_bad HP.out (good_not_dig hlt h))
      have HNB := Lib.hid (fun h => numF_bad HP.out (good_not_big hlt h))
      have HNX := Lib.hid (fun h1 h2 h3 => good_next hlt HG.out h1 h2 h3)
      have HVN := Lib.hid (val_next hlt)
      have hvb : valN (t.take k) ≤ 9223372036854775808 := HG.out.2
      generalize hv : valN (t.take k) = v at hvb HND HNB HNX HVN
      have HV := Lib.hid hv
      clear hv
      generalize hc : t[k].toNat = c at hc255 HND HNB HNX HVN
      have ha : ∀ h', ((S[1 + k]'h').toNat : Int) = (c : Int) := fun h' => by rw [hat h', hc]
      have e0 : ((1 : Int) + (k : Int)).toNat = 1 + k := by omega
      have HC := Lib.hid hc
      clear hat hc
      by_cases g1 : c < 48
      · have HN := Lib.hid (HND.out (.inl g1))
        have d1 : (c : Int) < 48 := by omega
        go_wp2_with fail
        go_ret2
        exact ⟨by rw [HN.out]; rfl, Below.refl _ _⟩
      · by_cases g2 : 57 < c
        · have HN := Lib.hid (HND.out (.inr g2))
          have d1 : ¬ (c : Int) < 48 := by omega
          have d2 : (c : Int) > 57 := by omega
          go_wp2_with fail
          go_ret2
          exact ⟨by rw [HN.out]; rfl, Below.refl _ _⟩
        · have d1 : ¬ (c : Int) < 48 := by omega
          have d2 : ¬ (c : Int) > 57 := by omega
          have q := tdiv_ten ((c : Int) - 48) (by omega)
          by_cases g4 : 9223372036854775808 < v * 10 + (c - 48)
          · have HN := Lib.hid (HNB.out g4)
            have d4 : -(v : Int) < (-9223372036854775808 + ((c : Int) - 48)).tdiv 10 := by rw [q]; omega
            clear q
            go_wp2_with fail
            go_ret2
            exact ⟨by rw [HN.out]; rfl, Below.refl _ _⟩
          · have d4 : ¬ -(v : Int) < (-9223372036854775808 + ((c : Int) - 48)).tdiv 10 := by rw [q]; omega
            clear q
            have HG2 := Lib.hid (HNX.out (by omega) (by omega) (by omega))
            have HEQ : -(v : Int) * 10 - ((c : Int) - 48) = -(valN (t.take (k + 1)) : Int) := by rw [HVN.out]; omega
            go_wp2_with fail
            go_round
            case rel => exact ⟨k + 1, by omega, by simp; omega, by rw [← HEQ], HG2⟩
            case measure => simp [intOf]; omega
    · obtain rfl : k = t.length := by omega
      have HGS := Lib.hid (show DigsOk t by have := HG.out; rwa [List.take_length] at this)
      have hvb : valN t ≤ 9223372036854775808 := HGS.out.2
      have htk : t.take t.length = t := List.take_length
      rw [htk]
      clear htk
      go_wp2_with fail
      refine (rdecimal_any (-(valN t : Int)) (by omega) (by omega) _).mono ?_
      rintro e w2 ⟨rfl, hb2⟩
      have HB := Lib.hid hb2
      clear hb2
      by_cases hq : decB (-(valN t : Int)) = 45 :: t
      · have HN := Lib.hid (numF_again (by omega) (by omega) hq)
        have bq : ((strB (decB (-(valN t : Int)))).toList == S.toList) = true := by rw [ByteArray.toList_eq, strB_list, HSL.out, hq]; simp
        clear hq
        generalize strB (decB (-(valN t : Int))) = D at bq ⊢
        go_wp2_with fail
        go_ret2
        exact ⟨by rw [HN.out]; rfl, HB.out⟩
      · have HN := Lib.hid (numF_other HP.out (n := (-(valN t : Int))) (by simp) hq)
        have bq : ((strB (decB (-(valN t : Int)))).toList == S.toList) = false := by rw [ByteArray.toList_eq, strB_list, HSL.out]; simpa using hq
        clear hq
        generalize strB (decB (-(valN t : Int))) = D at bq ⊢
        go_wp2_with fail
        go_ret2
        exact ⟨by rw [HN.out]; rfl, HB.out⟩
set_option maxRecDepth 20000 in
set_option maxHeartbeats 4000000 in
theorem rnumber_plain (t : List UInt8) (hl : t.length ≤ 20) (h0 : t ≠ []) (h45 : t.head? ≠ some 45) (w : World) :
    Calls Tryd.prog 30 #[.string (strB t)] w (NumIs (numF t) w) := by
  have HP : Hid (Part t false t) := Lib.hid ⟨fun h => (by cases h), fun _ => ⟨rfl, h45⟩⟩
  have z1 : (strB t).size = t.length := strB_size t
  have hpos : 0 < t.length := List.length_pos_iff.2 h0
  have b1 : ((t.length : Int) == 0) = false := by rw [beq_eq_false_iff_ne]; omega
  have b2 : ¬ (20 : Int) < (t.length : Int) := by omega
  have b3 : ∀ h, ((((strB t)[0]'h).toNat : Int) == 45) = false := fun h => by
    rw [strB_at t 0 h hpos, beq_eq_false_iff_ne]
    intro e
    have e2 : t[0] = 45 := UInt8.toNat_inj.1 (by show t[0].toNat = 45; omega)
    refine h45 ?_
    rw [List.head?_eq_getElem?, List.getElem?_eq_getElem hpos]
    exact congrArg some e2
  have HAT := Lib.hid (fun (k : Nat) (h : k < t.length) (h') => show ((strB t)[0 + k]'h') = t[k] by rw [strB_at _ _ h' (by omega)]; simp)
  simp only [Nat.zero_add] at HAT
  have HSL := Lib.hid (show (strB t).toList = t by rw [ByteArray.toList_eq, strB_list])
  clear h0 h45
  generalize strB t = S at z1 b3 HAT HSL ⊢
  go_enter Tryd.func30, Tryd.ntmps30
  go_wp2_with fail
  go_loop [4, 6] (fun x i => ∃ k : Nat, k ≤ t.length ∧ i = .int .i64 (k : Int) ∧ x = .int .i64 (-(valN (t.take k) : Int)) ∧ Hid (DigsOk (t.take k))) (fun _ i => t.length - (intOf i).toNat)
  case atStart => exact ⟨0, by omega, rfl, by simp [valN], Lib.hid good_nil⟩
  case round =>
    obtain ⟨k, hk, rfl, rfl, HG⟩ := hrel
    by_cases hlt : k < t.length
    · have hat := HAT.out k hlt
      have hc255 : t[k].toNat ≤ 255 := by have := t[k].toNat_lt; omega
      have HND := Lib.hid (fun h => numF_bad HP.out (good_not_dig hlt h))
      have HNB := Lib.hid (fun h => numF_bad HP.out (good_not_big hlt h))
      have HNX := Lib.hid (fun h1 h2 h3 => good_next hlt HG.out h1 h2 h3)
      have HVN := Lib.hid (val_next hlt)
      have hvb : valN (t.take k) ≤ 9223372036854775808 := HG.out.2
      generalize hv : valN (t.take k) = v at hvb HND HNB HNX HVN
      have HV := Lib.hid hv
      clear hv
      generalize hc : t[k].toNat = c at hc255 HND HNB HNX HVN
      have ha : ∀ h', ((S[k]'h').toNat : Int) = (c : Int) := fun h' => by rw [hat h', hc]
      have HC := Lib.hid hc
      clear hat hc
      by_cases g1 : c < 48
      · have HN := Lib.hid (HND.out (.inl g1))
        have d1 : (c : Int) < 48 := by omega
        go_wp2_with fail
        go_ret2
        exact ⟨by rw [HN.out]; rfl, Below.refl _ _⟩
      · by_cases g2 : 57 < c
        · have HN := Lib.hid (HND.out (.inr g2))
          have d1 : ¬ (c : Int) < 48 := by omega
          have d2 : (c : Int) > 57 := by omega
          go_wp2_with fail
          go_ret2
          exact ⟨by rw [HN.out]; rfl, Below.refl _ _⟩
        · have d1 : ¬ (c : Int) < 48 := by omega
          have d2 : ¬ (c : Int) > 57 := by omega
          have q := tdiv_ten ((c : Int) - 48) (by omega)
          by_cases g4 : 9223372036854775808 < v * 10 + (c - 48)
          · have HN := Lib.hid (HNB.out g4)
            have d4 : -(v : Int) < (-9223372036854775808 + ((c : Int) - 48)).tdiv 10 := by rw [q]; omega
            clear q
            go_wp2_with fail
            go_ret2
            exact ⟨by rw [HN.out]; rfl, Below.refl _ _⟩
          · have d4 : ¬ -(v : Int) < (-9223372036854775808 + ((c : Int) - 48)).tdiv 10 := by rw [q]; omega
            clear q
            have HG2 := Lib.hid (HNX.out (by omega) (by omega) (by omega))
            have HEQ : -(v : Int) * 10 - ((c : Int) - 48) = -(valN (t.take (k + 1)) : Int) := by rw [HVN.out]; omega
            go_wp2_with fail
            go_round
            case rel => exact ⟨k + 1, by omega, by simp, by rw [← HEQ], HG2⟩
            case measure => simp [intOf]; omega
    · obtain rfl : k = t.length := by omega
      have HGS := Lib.hid (show DigsOk t by have := HG.out; rwa [List.take_length] at this)
      have hvb : valN t ≤ 9223372036854775808 := HGS.out.2
      have htk : t.take t.length = t := List.take_length
      rw [htk]
      clear htk
      by_cases g : valN t = 9223372036854775808
      · have HN := Lib.hid (numF_big HP.out g)
        rw [g]
        go_wp2_with fail
        go_ret2
        exact ⟨by rw [HN.out]; rfl, Below.refl _ _⟩
      · have g9 : valN t ≤ 9223372036854775807 := by omega
        have d1 : (-(valN t : Int) == -9223372036854775808) = false := by rw [beq_eq_false_iff_ne]; omega
        go_wp2_with fail
        refine (rdecimal_any (valN t : Int) (by omega) (by omega) _).mono ?_
        rintro e w2 ⟨rfl, hb2⟩
        have HB := Lib.hid hb2
        clear hb2
        by_cases hq : decB (valN t : Int) = t
        · have HN := Lib.hid (numF_again (by omega) (by omega) hq)
          have bq : ((strB (decB (valN t : Int))).toList == S.toList) = true := by rw [ByteArray.toList_eq, strB_list, HSL.out, hq]; simp
          clear hq
          generalize strB (decB (valN t : Int)) = D at bq ⊢
          go_wp2_with fail
          go_ret2
          exact ⟨by rw [HN.out]; rfl, HB.out⟩
        · have HN := Lib.hid (numF_other HP.out (n := (valN t : Int)) (by simp) hq)
          have bq : ((strB (decB (valN t : Int))).toList == S.toList) = false := by rw [ByteArray.toList_eq, strB_list, HSL.out]; simpa using hq
          clear hq
          generalize strB (decB (valN t : Int)) = D at bq ⊢
          go_wp2_with fail
          go_ret2
          exact ⟨by rw [HN.out]; rfl, HB.out⟩
theorem rnumber_any (l : List UInt8) (hl : l.length ≤ 100000) (w : World) :
    Calls Tryd.prog 30 #[.string (strB l)] w (NumIs (numF l) w) := by
  by_cases h : l = [] ∨ 20 < l.length
  · exact rnumber_long l hl h w
  · have h20 : l.length ≤ 20 := by omega
    have h0 : l ≠ [] := fun e => h (.inl e)
    cases l with
    | nil => exact absurd rfl h0
    | cons a t =>
      by_cases ha : a = 45
      · subst ha; exact rnumber_minus t h20 w
      · exact rnumber_plain (a :: t) h20 h0 (by simpa using ha) w
end Go.Proofs.YtmkcooamgojbpaaDoor.Lines

/- damperref40.numbers. -/
namespace Go.Proofs.YtmkcooamgojbpaaDoor.Sheet
open Go.RowKit Go.Proofs.YtmkcooamgojbpaaDoor.Kit Go.Proofs.YtmkcooamgojbpaaDoor.Blk Go.Proofs.YtmkcooamgojbpaaDoor.Words Go.Proofs.YtmkcooamgojbpaaDoor.Octets Go.Proofs.YtmkcooamgojbpaaDoor.Lines Go.Proofs.YtmkcooamgojbpaaDoor.Dec
attribute [local go_sem ↓] Go.wp_at_zero Go.wp_at_succ
set_option linter.unusedVariables false

def intsV (l : List Int) : List Value := l.map (Value.int .i64)
theorem intsV_len (l : List Int) : (intsV l).length = l.length := by simp [intsV]
theorem infoI64 : (Tryd.prog.info? 2).map (fun i => (i.zero, i.size, i.bytes)) = some (some (.int .i64 0), 1, 8) := by kernel_rfl
theorem gl_base {T s n : Nat} {w w2 W : World} {v : Value} {xs : List Value} (h : GL w2.heap.size T s w2 W v n xs) (hb : Below w.heap.size w w2) : GL w.heap.size T s w W v n xs :=
  ⟨⟨h.own.1, h.own.2.imp id fun ⟨g, cap, cur, h1, h2, h3⟩ => ⟨g, cap, cur, h1, Nat.le_trans hb.size h2, h3⟩⟩, hb.trans (h.bel.mono hb.size), Nat.le_trans hb.size h.le, h.nil⟩
/-- What a line's numbers are told as. -/
def NumsR (o : Option (List Int)) (w : World) (e : Ending) (w' : World) : Prop :=
  (o = none ∧ e = .returned (.tuple #[.slice none 0 0, .bool false]) ∧ Below w.heap.size w w') ∨
  ∃ ns v, o = some ns ∧ e = .returned (.tuple #[v, .bool true]) ∧ GL w.heap.size 2 1 w w' v ns.length (intsV ns)
theorem vals_next {r : List Txt} {k : Nat} (h : k < r.length) : intsV ((r.take (k + 1)).map valW) = intsV ((r.take k).map valW) ++ [.int .i64 (valW r[k])] := by
  rw [List.take_succ_eq_append_getElem h]
  unfold intsV
  rw [List.map_append, List.map_append]
  rfl
set_option maxRecDepth 20000 in
set_option maxHeartbeats 4000000 in
theorem numbers_any (x line : Txt) (hl : line.length ≤ 100000) (n : Nat) (hn : n ≤ 1000) (w : World) :
    Calls Tryd.prog 75 #[.string (strB line), .string (strB x), .int .i64 n] w (NumsR (partF x n line) w) := by
  obtain ⟨i0, hi0, hz0, hz1, hz2⟩ := info_parts infoI64
  have HSP := Lib.hid (rsplit_any line hl w)
  have HWL := Lib.hid (split_bytes line)
  have HL := Lib.hid hl
  go_enter Tryd.func75, Tryd.ntmps75
  go_wp2_with fail
  refine HSP.out.mono ?_
  clear HSP hl
  rintro e w2 ⟨v, rfl, hrow, hb2⟩
  have HBE := Lib.hid hb2
  rcases hrow with ⟨he, rfl⟩ | ⟨h0, b, c2, rfl, hcap, hlt, hws⟩
  · have HN := Lib.hid (part_no (x := x) (n := n) (by rw [he]; simp))
    have g1 : ((0 : Int) != (n : Int) + 1) = true := by simp; omega
    clear hb2
    go_wp2_with fail
    go_ret2
    exact .inl ⟨HN.out, rfl, HBE.out⟩
  · by_cases hlen : (splitW line).length = n + 1
    · obtain ⟨y, r, hyr⟩ : ∃ y r, splitW line = y :: r := by
        cases h : splitW line with
        | nil => rw [h] at h0; simp at h0
        | cons y r => exact ⟨y, r, rfl⟩
      have HE := Lib.hid hyr
      have hr : r.length = n := by rw [hyr] at hlen; simpa using hlen
      subst hr
      rw [hyr] at hws
      have k0 : w2.cell? ⟨b, 0, none⟩ = some (.string (strB y)) := hws 0 (by simp)
      rw [hlen]
      have g1 : (((r.length : Int) + 1) != (r.length : Int) + 1) = false := by simp
      have g2 : (0 : Int) < (r.length : Int) + 1 := by omega
      clear hb2 hlen hyr h0
      by_cases hxy : y = x
      · subst hxy
        have g3 : ((strB y).toList != (strB y).toList) = false := by simp
        have g4 : ((strB y).toList == (strB y).toList) = true := by simp
        have HWS := Lib.hid hws
        have HLT := Lib.hid hlt
        have HRL := Lib.hid (fun k (hk : k < r.length) => show r[k].length ≤ line.length from HWL.out _ (by rw [HE.out]; exact List.mem_cons_of_mem _ (List.getElem_mem hk)))
        clear hws hlt
        go_wp2_with fail
        go_loopw [9, 10] (fun o i wr => ∃ k : Nat, k ≤ r.length ∧ i = .int .i64 ((k : Int) + 1) ∧ (∀ j, (hj : j < r.length) → j < k → posW r[j] = true) ∧ GL w2.heap.size 2 1 w2 wr o k (intsV ((r.take k).map valW))) (fun _ i _ => r.length + 1 - (intOf i).toNat)
        case atStart => exact ⟨0, by omega, rfl, fun _ _ h => absurd h (by omega), GL.start _ _ _ (Below.refl _ _) (Nat.le_refl _)⟩
        case round =>
          obtain ⟨k, hk, rfl, hpos, hgl⟩ := hrel
          have HP := Lib.hid hpos
          have HG := Lib.hid hgl
          obtain ⟨a, cp, rfl⟩ : ∃ a c, u9 = .slice a k c := by
            rcases hgl.own.2 with ⟨rfl, h⟩ | ⟨g, cap, cur, rfl, _⟩
            · exact ⟨_, _, by rw [show k = 0 from h]⟩
            · exact ⟨_, _, rfl⟩
          clear hpos hgl
          by_cases hlt : k < r.length
          · have hkl : (k : Int) + 1 < (r.length : Int) + 1 := by omega
            have ck : wr.cell? ⟨b, k + 1, none⟩ = some (.string (strB r[k])) := by
              rw [HG.out.bel.cell (p := ⟨b, k + 1, none⟩) HLT.out]
              exact HWS.out (k + 1) (by simp; omega)
            have HNU := Lib.hid (rnumber_any r[k] (Nat.le_trans (HRL.out k hlt) HL.out) wr)
            have HVN := Lib.hid (vals_next hlt)
            have HB1 := Lib.hid (fun h => part_bad (x := y) (n := r.length) HE.out k hlt h)
            have HS := Lib.hid (fun (h : posW r[k] = true) j (hj : j < r.length) (hjk : j < k + 1) => show posW r[j] = true from if e : j = k then (by subst e; exact h) else HP.out j hj (by omega))
            generalize r[k] = z at ck HNU HVN HB1 HS
            go_wp2_with fail
            refine HNU.out.mono ?_
            clear HNU
            rintro e w3 ⟨rfl, hb3⟩
            have HG3 := Lib.hid (HG.out.below hb3)
            clear hb3 HG ck
            cases hz : numF z with
            | none =>
              have HN := Lib.hid (HB1.out (pos_none hz))
              simp only [Option.getD_none, Option.isSome_none]
              clear hz
              go_wp2_with fail
              go_ret2
              exact .inl ⟨HN.out, rfl, HBE.out.trans (HG3.out.bel.mono HBE.out.size)⟩
            | some m =>
              simp only [Option.getD_some, Option.isSome_some]
              by_cases hm0 : m < 0
              · have HN := Lib.hid (HB1.out (pos_neg hz hm0))
                clear hz
                go_wp2_with fail
                go_ret2
                exact .inl ⟨HN.out, rfl, HBE.out.trans (HG3.out.bel.mono HBE.out.size)⟩
              · obtain ⟨h1, h2⟩ := pos_yes hz (by omega)
                have HS2 := Lib.hid (HS.out h1)
                rw [h2] at HVN
                have g5 : decide (m < 0) = false := by simpa using hm0
                have HN := Lib.hid (HG3.out.new #[.int .i64 m])
                clear hz h1 h2 HS
                go_wp2_with (at_builtin; refine GN.wp HN.out rfl _ _ 37 (by rfl) i0 (.int .i64 0) 8 Tryd.underlying37 hi0 hz0 hz1 hz2 rfl (by decide) (by rfl) (by rfl) rfl (by simp [Value.oneCell']) (by unfold maxLen; omega) (by omega) ?_; intro g5 cap5 w5 H5; replace H5 := Lib.hid H5)
                go_roundw
                case rel => exact ⟨k + 1, by omega, by go_num, fun j hj hjk => HS2.out j hj hjk, by rw [HVN.out]; exact H5.out⟩
                case measure => simp [intOf]; omega
          · obtain rfl : k = r.length := by omega
            have HN := Lib.hid (part_all (x := y) (n := r.length) HE.out rfl (fun k hk => HP.out k hk hk))
            rw [List.take_length] at HG
            go_wp2_with fail
            go_ret2
            exact .inr ⟨_, _, HN.out, rfl, by rw [List.length_map]; exact gl_base HG.out HBE.out⟩
      · have g3 : ((strB y).toList != (strB x).toList) = true := by
          rw [ByteArray.toList_eq, ByteArray.toList_eq, strB_list, strB_list]; simpa using hxy
        have g4 : ((strB y).toList == (strB x).toList) = false := by
          rw [ByteArray.toList_eq, ByteArray.toList_eq, strB_list, strB_list]; simpa using hxy
        have HN := Lib.hid (part_word (x := x) (n := r.length) HE.out hxy)
        clear hws
        go_wp2_with fail
        go_ret2
        exact .inl ⟨HN.out, rfl, HBE.out⟩
    · have HN := Lib.hid (part_no (x := x) (n := n) hlen)
      have g1 : ((((splitW line).length : Int)) != (n : Int) + 1) = true := by simp; omega
      generalize (splitW line).length = m at g1
      clear hb2 hws
      go_wp2_with fail
      go_ret2
      exact .inl ⟨HN.out, rfl, HBE.out⟩
end Go.Proofs.YtmkcooamgojbpaaDoor.Sheet

/- damperref40.Symbol. -/
namespace Go.Proofs.YtmkcooamgojbpaaDoor.Sheet
open Go.RowKit Go.Proofs.YtmkcooamgojbpaaDoor.Kit Go.Proofs.YtmkcooamgojbpaaDoor.Blk Go.Proofs.YtmkcooamgojbpaaDoor.Words Go.Proofs.YtmkcooamgojbpaaDoor.Octets Go.Proofs.YtmkcooamgojbpaaDoor.Lines Go.Proofs.YtmkcooamgojbpaaDoor.Dec Go.Proofs.YtmkcooamgojbpaaDoor.Symbol
attribute [local go_sem ↓] Go.wp_at_zero Go.wp_at_succ
set_option linter.unusedVariables false

def zeroSym : Sym := ⟨0, 0, 0, 0, 0, 0, 0, 0, 0, 0, 0, 0, 0, 0, 0, 0⟩
def SymIs (o : Option Sym) (w : World) (e : Ending) (w' : World) : Prop :=
  e = .returned (.tuple #[.agg (o.getD zeroSym).cells, .int .i64 (if o.isSome = true then 0 else 4)]) ∧ Below w.heap.size w w'
theorem sym_one (s : Sym) : s.cells.all (·.oneCell') = true := by simp [Sym.cells, Value.oneCell']
set_option maxRecDepth 20000 in
set_option maxHeartbeats 4000000 in
theorem rsymbol_any (line : Txt) (hl : line.length ≤ 100000) (w : World) :
    Calls Tryd.prog 20 #[.string (strB line)] w (SymIs (symF line) w) := by
  have HX := Lib.hid (Blk.new w zeroSym.cells 29 w.heap.size rfl)
  have HBE := Lib.hid ((Below.refl w.heap.size w).alloc (Nat.le_refl _) (.cells zeroSym.cells 29))
  have HC := Lib.hid (show Calls Tryd.prog 75 #[.string (strB line), .string ⟨#[115, 121, 109, 98, 111, 108]⟩, .int .i64 16] (w.alloc (.cells zeroSym.cells 29)) (NumsR (partF wSymbol 16 line) (w.alloc (.cells zeroSym.cells 29))) from numbers_any wSymbol line hl 16 (by decide) _)
  unfold Sym.cells zeroSym at HC
  go_enter Tryd.func20, Tryd.ntmps20
  go_wp2_with fail
  refine HC.out.mono ?_
  clear HC hl
  change ∀ e w', NumsR _ (w.alloc (.cells zeroSym.cells 29)) e w' → _
  generalize w.alloc (.cells zeroSym.cells 29) = w1 at HX HBE ⊢
  rintro e w2 (⟨ho, rfl, hb⟩ | ⟨ns, v, ho, rfl, hgl⟩)
  · have HX2 := Lib.hid (HX.out.below hb HX.out.lt)
    have HBE2 := Lib.hid (HBE.out.trans (hb.mono HBE.out.size))
    have HN := Lib.hid (show symF line = none by unfold symF; rw [ho]; rfl)
    clear hb ho HX HBE
    go_wp2_with (refine store_blk (by rfl) 29 _ _ (by rfl) w.heap.size (by rfl) _ zeroSym.cells 29 HX2.out (by rfl) rfl (by kernel_rfl) (sym_one _) ?_)
    refine bodyPost_ret (results_blk_tmp rfl rfl (HX2.out.setCells zeroSym.cells rfl) Tryd.underlying29 rfl (by kernel_rfl)) rfl ?_
    exact ⟨by rw [HN.out]; rfl, Blk.Below.setCells _ _ _ HBE2.out (Nat.le_refl _)⟩
  · have hlen := part_len ho
    obtain ⟨g, cap, rfl, hg1, hg2⟩ := World.ownsRow.form hgl.own (by rw [hlen]; decide)
    have HX2 := Lib.hid (HX.out.below hgl.bel HX.out.lt)
    have HBE2 := Lib.hid (HBE.out.trans (hgl.bel.mono HBE.out.size))
    have HN := Lib.hid (show symF line = some (symL ns) by unfold symF; rw [ho]; rfl)
    match ns, hlen with
    | [n0, n1, n2, n3, n4, n5, n6, n7, n8, n9, n10, n11, n12, n13, n14, n15], _ =>
    have HCELL := Lib.hid (fun j (hj : j < 16) => World.ownsRow.cellAt hgl.own j hj)
    have HZ := Lib.hid (show ∀ v, w2.setCells w.heap.size 0 v = w2.setCells w.heap.size 0 v from fun _ => rfl)
    clear hgl ho HX HBE hg1 hg2
    have f0 : w2.cell? ⟨g, 0, none⟩ = some (.int .i64 n0) := HCELL.out 0 (by decide)
    have f1 : w2.cell? ⟨g, 1, none⟩ = some (.int .i64 n1) := HCELL.out 1 (by decide)
    have f2 : w2.cell? ⟨g, 2, none⟩ = some (.int .i64 n2) := HCELL.out 2 (by decide)
    have f3 : w2.cell? ⟨g, 3, none⟩ = some (.int .i64 n3) := HCELL.out 3 (by decide)
    have f4 : w2.cell? ⟨g, 4, none⟩ = some (.int .i64 n4) := HCELL.out 4 (by decide)
    have f5 : w2.cell? ⟨g, 5, none⟩ = some (.int .i64 n5) := HCELL.out 5 (by decide)
    have f6 : w2.cell? ⟨g, 6, none⟩ = some (.int .i64 n6) := HCELL.out 6 (by decide)
    have f7 : w2.cell? ⟨g, 7, none⟩ = some (.int .i64 n7) := HCELL.out 7 (by decide)
    have f8 : w2.cell? ⟨g, 8, none⟩ = some (.int .i64 n8) := HCELL.out 8 (by decide)
    have f9 : w2.cell? ⟨g, 9, none⟩ = some (.int .i64 n9) := HCELL.out 9 (by decide)
    have f10 : w2.cell? ⟨g, 10, none⟩ = some (.int .i64 n10) := HCELL.out 10 (by decide)
    have f11 : w2.cell? ⟨g, 11, none⟩ = some (.int .i64 n11) := HCELL.out 11 (by decide)
    have f12 : w2.cell? ⟨g, 12, none⟩ = some (.int .i64 n12) := HCELL.out 12 (by decide)
    have f13 : w2.cell? ⟨g, 13, none⟩ = some (.int .i64 n13) := HCELL.out 13 (by decide)
    have f14 : w2.cell? ⟨g, 14, none⟩ = some (.int .i64 n14) := HCELL.out 14 (by decide)
    have f15 : w2.cell? ⟨g, 15, none⟩ = some (.int .i64 n15) := HCELL.out 15 (by decide)
    clear HCELL HZ
    go_upto_region 4 with fail
    refine Go.Proofs.YtmkcooamgojbpaaDoor.Veil.start 49 (by kernel_rfl) (by kernel_rfl) ?_
    simp only [List.take_succ_cons, List.take_zero, List.drop_succ_cons, List.drop_zero]
    (refine Go.Proofs.YtmkcooamgojbpaaDoor.Veil.step (fun K hK => ?_); go_simp; refine hK _ ?_; clear hK K)
    (refine Go.Proofs.YtmkcooamgojbpaaDoor.Veil.step (fun K hK => ?_); go_simp; refine hK _ ?_; clear hK K)
    (refine Go.Proofs.YtmkcooamgojbpaaDoor.Veil.step (fun K hK => ?_); go_simp; refine hK _ ?_; clear hK K)
    (refine Go.Proofs.YtmkcooamgojbpaaDoor.Veil.step (fun K hK => ?_); go_simp; refine hK _ ?_; clear hK K)
    (refine Go.Proofs.YtmkcooamgojbpaaDoor.Veil.step (fun K hK => ?_); go_simp; refine hK _ ?_; clear hK K)
    (refine Go.Proofs.YtmkcooamgojbpaaDoor.Veil.step (fun K hK => ?_); go_simp; refine hK _ ?_; clear hK K)
    (refine Go.Proofs.YtmkcooamgojbpaaDoor.Veil.step (fun K hK => ?_); go_simp; refine hK _ ?_; clear hK K)
    (refine Go.Proofs.YtmkcooamgojbpaaDoor.Veil.step (fun K hK => ?_); go_simp; refine hK _ ?_; clear hK K)
    (refine Go.Proofs.YtmkcooamgojbpaaDoor.Veil.step (fun K hK => ?_); go_simp; refine hK _ ?_; clear hK K)
    (refine Go.Proofs.YtmkcooamgojbpaaDoor.Veil.step (fun K hK => ?_); go_simp; refine hK _ ?_; clear hK K)
    (refine Go.Proofs.YtmkcooamgojbpaaDoor.Veil.step (fun K hK => ?_); go_simp; refine hK _ ?_; clear hK K)
    (refine Go.Proofs.YtmkcooamgojbpaaDoor.Veil.step (fun K hK => ?_); go_simp; refine hK _ ?_; clear hK K)
    (refine Go.Proofs.YtmkcooamgojbpaaDoor.Veil.step (fun K hK => ?_); go_simp; refine hK _ ?_; clear hK K)
    (refine Go.Proofs.YtmkcooamgojbpaaDoor.Veil.step (fun K hK => ?_); go_simp; refine hK _ ?_; clear hK K)
    (refine Go.Proofs.YtmkcooamgojbpaaDoor.Veil.step (fun K hK => ?_); go_simp; refine hK _ ?_; clear hK K)
    (refine Go.Proofs.YtmkcooamgojbpaaDoor.Veil.step (fun K hK => ?_); go_simp; refine hK _ ?_; clear hK K)
    (refine Go.Proofs.YtmkcooamgojbpaaDoor.Veil.step (fun K hK => ?_); go_simp; refine hK _ ?_; clear hK K)
    (refine Go.Proofs.YtmkcooamgojbpaaDoor.Veil.step (fun K hK => ?_); go_simp; refine hK _ ?_; clear hK K)
    (refine Go.Proofs.YtmkcooamgojbpaaDoor.Veil.step (fun K hK => ?_); go_simp; refine hK _ ?_; clear hK K)
    (refine Go.Proofs.YtmkcooamgojbpaaDoor.Veil.step (fun K hK => ?_); go_simp; refine hK _ ?_; clear hK K)
    (refine Go.Proofs.YtmkcooamgojbpaaDoor.Veil.step (fun K hK => ?_); go_simp; refine hK _ ?_; clear hK K)
    (refine Go.Proofs.YtmkcooamgojbpaaDoor.Veil.step (fun K hK => ?_); go_simp; refine hK _ ?_; clear hK K)
    (refine Go.Proofs.YtmkcooamgojbpaaDoor.Veil.step (fun K hK => ?_); go_simp; refine hK _ ?_; clear hK K)
    (refine Go.Proofs.YtmkcooamgojbpaaDoor.Veil.step (fun K hK => ?_); go_simp; refine hK _ ?_; clear hK K)
    (refine Go.Proofs.YtmkcooamgojbpaaDoor.Veil.step (fun K hK => ?_); go_simp; refine hK _ ?_; clear hK K)
    (refine Go.Proofs.YtmkcooamgojbpaaDoor.Veil.step (fun K hK => ?_); go_simp; refine hK _ ?_; clear hK K)
    (refine Go.Proofs.YtmkcooamgojbpaaDoor.Veil.step (fun K hK => ?_); go_simp; refine hK _ ?_; clear hK K)
    (refine Go.Proofs.YtmkcooamgojbpaaDoor.Veil.step (fun K hK => ?_); go_simp; refine hK _ ?_; clear hK K)
    (refine Go.Proofs.YtmkcooamgojbpaaDoor.Veil.step (fun K hK => ?_); go_simp; refine hK _ ?_; clear hK K)
    (refine Go.Proofs.YtmkcooamgojbpaaDoor.Veil.step (fun K hK => ?_); go_simp; refine hK _ ?_; clear hK K)
    (refine Go.Proofs.YtmkcooamgojbpaaDoor.Veil.step (fun K hK => ?_); go_simp; refine hK _ ?_; clear hK K)
    (refine Go.Proofs.YtmkcooamgojbpaaDoor.Veil.step (fun K hK => ?_); go_simp; refine hK _ ?_; clear hK K)
    (refine Go.Proofs.YtmkcooamgojbpaaDoor.Veil.step (fun K hK => ?_); go_simp; refine hK _ ?_; clear hK K)
    (refine Go.Proofs.YtmkcooamgojbpaaDoor.Veil.step (fun K hK => ?_); go_simp; refine hK _ ?_; clear hK K)
    (refine Go.Proofs.YtmkcooamgojbpaaDoor.Veil.step (fun K hK => ?_); go_simp; refine hK _ ?_; clear hK K)
    (refine Go.Proofs.YtmkcooamgojbpaaDoor.Veil.step (fun K hK => ?_); go_simp; refine hK _ ?_; clear hK K)
    (refine Go.Proofs.YtmkcooamgojbpaaDoor.Veil.step (fun K hK => ?_); go_simp; refine hK _ ?_; clear hK K)
    (refine Go.Proofs.YtmkcooamgojbpaaDoor.Veil.step (fun K hK => ?_); go_simp; refine hK _ ?_; clear hK K)
    (refine Go.Proofs.YtmkcooamgojbpaaDoor.Veil.step (fun K hK => ?_); go_simp; refine hK _ ?_; clear hK K)
    (refine Go.Proofs.YtmkcooamgojbpaaDoor.Veil.step (fun K hK => ?_); go_simp; refine hK _ ?_; clear hK K)
    (refine Go.Proofs.YtmkcooamgojbpaaDoor.Veil.step (fun K hK => ?_); go_simp; refine hK _ ?_; clear hK K)
    (refine Go.Proofs.YtmkcooamgojbpaaDoor.Veil.step (fun K hK => ?_); go_simp; refine hK _ ?_; clear hK K)
    (refine Go.Proofs.YtmkcooamgojbpaaDoor.Veil.step (fun K hK => ?_); go_simp; refine hK _ ?_; clear hK K)
    (refine Go.Proofs.YtmkcooamgojbpaaDoor.Veil.step (fun K hK => ?_); go_simp; refine hK _ ?_; clear hK K)
    (refine Go.Proofs.YtmkcooamgojbpaaDoor.Veil.step (fun K hK => ?_); go_simp; refine hK _ ?_; clear hK K)
    (refine Go.Proofs.YtmkcooamgojbpaaDoor.Veil.step (fun K hK => ?_); go_simp; refine hK _ ?_; clear hK K)
    (refine Go.Proofs.YtmkcooamgojbpaaDoor.Veil.step (fun K hK => ?_); go_simp; refine hK _ ?_; clear hK K)
    (refine Go.Proofs.YtmkcooamgojbpaaDoor.Veil.step (fun K hK => ?_); go_simp; refine hK _ ?_; clear hK K)
    (refine Go.Proofs.YtmkcooamgojbpaaDoor.Veil.step (fun K hK => ?_); go_simp; refine hK _ ?_; clear hK K)
    refine Go.Proofs.YtmkcooamgojbpaaDoor.Veil.nil ?_
    change wpList _ _ _ _ _ w2.drew
    have HX3 := Lib.hid HX2.out.drew
    have HBE3 := Lib.hid HBE2.out.drew
    clear HX2 HBE2 f0 f1 f2 f3 f4 f5 f6 f7 f8 f9 f10 f11 f12 f13 f14 f15
    generalize w2.drew = w3 at HX3 HBE3 ⊢
    refine store_blk (by rfl) 29 _ _ (by rfl) w.heap.size (by rfl) _ (symL [n0, n1, n2, n3, n4, n5, n6, n7, n8, n9, n10, n11, n12, n13, n14, n15]).cells 29 HX3.out (by rfl) rfl (by kernel_rfl) (sym_one _) ?_
    go_wp2_with fail
    refine bodyPost_ret (results_blk_tmp rfl rfl (HX3.out.setCells (symL [n0, n1, n2, n3, n4, n5, n6, n7, n8, n9, n10, n11, n12, n13, n14, n15]).cells rfl) Tryd.underlying29 rfl (by kernel_rfl)) rfl ?_
    exact ⟨by rw [HN.out]; rfl, Blk.Below.setCells _ _ _ HBE3.out (Nat.le_refl _)⟩
end Go.Proofs.YtmkcooamgojbpaaDoor.Sheet

/- damperref40.Row. -/
namespace Go.Proofs.YtmkcooamgojbpaaDoor.Sheet
open Go.RowKit Go.Proofs.YtmkcooamgojbpaaDoor.Kit Go.Proofs.YtmkcooamgojbpaaDoor.Blk Go.Proofs.YtmkcooamgojbpaaDoor.Words Go.Proofs.YtmkcooamgojbpaaDoor.Octets Go.Proofs.YtmkcooamgojbpaaDoor.Lines Go.Proofs.YtmkcooamgojbpaaDoor.Dec Go.Proofs.YtmkcooamgojbpaaDoor.Symbol
attribute [local go_sem ↓] Go.wp_at_zero Go.wp_at_succ
set_option linter.unusedVariables false

def rowC (r : Int × Int) : Array Value := #[.int .i64 r.1, .int .i64 r.2]
def RowIs (o : Option (Int × Int)) (w : World) (e : Ending) (w' : World) : Prop :=
  e = .returned (.tuple #[.agg (rowC (o.getD (0, 0))), .int .i64 (if o.isSome = true then 0 else 4)]) ∧ Below w.heap.size w w'
def phF (k : Nat) : Txt := phaseT (k : Int)
theorem rphases_any (w : World) : Calls Tryd.prog 72 #[] w fun e w' => e = .returned (.slice (some ⟨w.heap.size, 0, none⟩) 3 3) ∧ (∀ k, k < 3 → w'.cell? ⟨w.heap.size, k, none⟩ = some (.string (strB (phF k)))) ∧ Below w.heap.size w w' := by
  have HX := Lib.hid (Blk.new w #[.string (strB (phF 0)), .string (strB (phF 1)), .string (strB (phF 2))] 9 w.heap.size rfl)
  have HB := Lib.hid ((Below.refl w.heap.size w).alloc (Nat.le_refl _) (.cells #[.string (strB (phF 0)), .string (strB (phF 1)), .string (strB (phF 2))] 9))
  go_enter Tryd.func72, Tryd.ntmps72
  go_wp2_with fail
  go_ret
  refine ⟨rfl, fun k hk => ?_, HB.out⟩
  have : k = 0 ∨ k = 1 ∨ k = 2 := by omega
  rcases this with rfl | rfl | rfl <;> exact HX.out.cell _ rfl
theorem row_len {l : Txt} (h : (splitW l).length ≠ 3) : rowF l = none := by
  unfold rowF
  match e : splitW l with
  | [] => rfl
  | [_] => rfl
  | [_, _] => rfl
  | _ :: _ :: _ :: _ :: _ => rfl
  | [a, b, c] => rw [e] at h; simp at h
theorem row_three {l a b c : Txt} (e : splitW l = [a, b, c]) : rowF l = if a = wRow ∧ posW b = true then (phaseI c).map fun p => (valW b, p) else none := by
  unfold rowF; rw [e, rowW]
theorem phase_hit {c : Txt} {k : Nat} (hk : k < 3) (h : phF k = c) : phaseI c = some (k : Int) := by
  rw [← h]; exact phase_T ⟨by omega, by omega⟩
theorem phase_miss {c : Txt} (h : ∀ k, k < 3 → phF k ≠ c) : phaseI c = none := by
  cases e : phaseI c with
  | none => rfl
  | some p =>
    have h0 := T_phase e
    have hp : p = 0 ∨ p = 1 ∨ p = 2 := by
      unfold phaseI at e
      split at e
      · injection e with e; omega
      · split at e
        · injection e with e; omega
        · split at e
          · injection e with e; omega
          · cases e
    rcases hp with rfl | rfl | rfl
    · exact absurd h0 (h 0 (by decide))
    · exact absurd h0 (h 1 (by decide))
    · exact absurd h0 (h 2 (by decide))
set_option maxRecDepth 20000 in
set_option maxHeartbeats 4000000 in
theorem rrow_any (line : Txt) (hl : line.length ≤ 100000) (w : World) :
    Calls Tryd.prog 18 #[.string (strB line)] w (RowIs (rowF line) w) := by
  have HX := Lib.hid (Blk.new w (rowC (0, 0)) 24 w.heap.size rfl)
  have HBE := Lib.hid ((Below.refl w.heap.size w).alloc (Nat.le_refl _) (.cells (rowC (0, 0)) 24))
  have HC := Lib.hid (rsplit_any line hl (w.alloc (.cells (rowC (0, 0)) 24)))
  have HWL := Lib.hid (split_bytes line)
  have HL := Lib.hid hl
  go_enter Tryd.func18, Tryd.ntmps18
  go_wp2_with fail
  refine HC.out.mono ?_
  clear HC hl
  change ∀ e w', SplitIs _ (w.alloc (.cells (rowC (0, 0)) 24)) e w' → _
  generalize w.alloc (.cells (rowC (0, 0)) 24) = w1 at HX HBE ⊢
  rintro e w2 ⟨v, rfl, hrow, hb⟩
  have HX2 := Lib.hid (HX.out.below hb HX.out.lt)
  have HBE2 := Lib.hid (HBE.out.trans (hb.mono HBE.out.size))
  have HROW := Lib.hid hrow
  clear hrow hb HX HBE
  rcases HROW.out with ⟨he, rfl⟩ | ⟨hpos, b, c2, rfl, hcap, hlt, hws⟩
  · have HN := Lib.hid (row_len (l := line) (by rw [he]; simp))
    clear he HROW
    go_wp2_with (refine store_blk (by rfl) 24 _ _ (by rfl) w.heap.size (by rfl) _ (rowC (0, 0)) 24 HX2.out (by rfl) rfl (by kernel_rfl) (by simp [rowC, Value.oneCell']) ?_)
    refine bodyPost_ret (results_blk_tmp rfl rfl (HX2.out.setCells (rowC (0, 0)) rfl) Tryd.underlying24 rfl (by kernel_rfl)) rfl ?_
    exact ⟨by rw [HN.out]; rfl, Blk.Below.setCells _ _ _ HBE2.out (Nat.le_refl _)⟩
  · by_cases hlen : (splitW line).length = 3
    · obtain ⟨x, y, z, hxyz⟩ : ∃ x y z, splitW line = [x, y, z] := by
        match h : splitW line with
        | [x, y, z] => exact ⟨x, y, z, rfl⟩
        | [] => rw [h] at hlen; simp at hlen
        | [_] => rw [h] at hlen; simp at hlen
        | [_, _] => rw [h] at hlen; simp at hlen
        | _ :: _ :: _ :: _ :: _ => rw [h] at hlen; simp at hlen
      have HE := Lib.hid (row_three hxyz)
      have HYL := Lib.hid (show y.length ≤ 100000 from Nat.le_trans (HWL.out y (by rw [hxyz]; simp)) HL.out)
      rw [hxyz] at hws
      rw [hlen]
      have k0 : w2.cell? ⟨b, 0, none⟩ = some (.string (strB x)) := hws 0 (by simp)
      have k1 : w2.cell? ⟨b, 1, none⟩ = some (.string (strB y)) := hws 1 (by simp)
      have k2 : w2.cell? ⟨b, 2, none⟩ = some (.string (strB z)) := hws 2 (by simp)
      have HLT := Lib.hid hlt
      clear hlen hxyz hpos hws hlt HROW hcap HWL HL
      by_cases hx : x = wRow
      · subst hx
        have g3 : ((strB wRow).toList == [114, 111, 119]) = true := by rw [ByteArray.toList_eq, strB_list]; rfl
        have HNU := Lib.hid (rnumber_any y HYL.out w2)
        go_wp2_with fail
        refine HNU.out.mono ?_
        clear HNU
        rintro e w3 ⟨rfl, hb3⟩
        have k2' : w3.cell? ⟨b, 2, none⟩ = some (.string (strB z)) := by rw [hb3.cell (p := ⟨b, 2, none⟩) HLT.out]; exact k2
        have HX3 := Lib.hid (HX2.out.below hb3 HX2.out.lt)
        have HBE3 := Lib.hid (HBE2.out.trans (hb3.mono HBE2.out.size))
        have HL3 := Lib.hid (Nat.lt_of_lt_of_le HLT.out hb3.size)
        clear hb3 k0 k1 k2 HX2 HBE2 HLT g3
        cases hz : numF y with
        | none =>
          have HN := Lib.hid (show rowF line = none by rw [HE.out, if_neg (fun h => by rw [pos_none hz] at h; exact absurd h.2 (by decide))])
          simp only [Option.getD_none, Option.isSome_none]
          clear hz
          go_wp2_with (refine store_blk (by rfl) 24 _ _ (by rfl) w.heap.size (by rfl) _ (rowC (0, 0)) 24 HX3.out (by rfl) rfl (by kernel_rfl) (by simp [rowC, Value.oneCell']) ?_)
          refine bodyPost_ret (results_blk_tmp rfl rfl (HX3.out.setCells (rowC (0, 0)) rfl) Tryd.underlying24 rfl (by kernel_rfl)) rfl ?_
          exact ⟨by rw [HN.out]; rfl, Blk.Below.setCells _ _ _ HBE3.out (Nat.le_refl _)⟩
        | some m =>
          simp only [Option.getD_some, Option.isSome_some]
          by_cases hm0 : m < 0
          · have HN := Lib.hid (show rowF line = none by rw [HE.out, if_neg (fun h => by rw [pos_neg hz hm0] at h; exact absurd h.2 (by decide))])
            clear hz
            go_wp2_with (refine store_blk (by rfl) 24 _ _ (by rfl) w.heap.size (by rfl) _ (rowC (0, 0)) 24 HX3.out (by rfl) rfl (by kernel_rfl) (by simp [rowC, Value.oneCell']) ?_)
            refine bodyPost_ret (results_blk_tmp rfl rfl (HX3.out.setCells (rowC (0, 0)) rfl) Tryd.underlying24 rfl (by kernel_rfl)) rfl ?_
            exact ⟨by rw [HN.out]; rfl, Blk.Below.setCells _ _ _ HBE3.out (Nat.le_refl _)⟩
          · obtain ⟨h1, h2⟩ := pos_yes hz (by omega)
            have HE2 := Lib.hid (show rowF line = (phaseI z).map fun p => (m, p) by rw [HE.out, if_pos (by simp [h1]), h2])
            have g5 : decide (m < 0) = false := by simpa using hm0
            clear hz h1 h2 hm0 HE
            go_wp2_with fail
            go_loopw [7] (fun i wr => ∃ k : Nat, k ≤ 3 ∧ i = .int .i64 (k : Int) ∧ (∀ j, j < k → phF j ≠ z) ∧ Below w3.heap.size w3 wr) (fun i _ => 3 - (intOf i).toNat)
            case atStart => exact ⟨0, by omega, rfl, fun _ h => absurd h (by omega), Below.refl _ _⟩
            case round =>
              obtain ⟨k, hk, rfl, hmiss, hbr⟩ := hrel
              have HM := Lib.hid hmiss
              have HBR := Lib.hid hbr
              clear hmiss hbr
              by_cases hlt : k < 3
              · have hkl : (k : Int) < 3 := by omega
                have kz : wr.cell? ⟨b, 2, none⟩ = some (.string (strB z)) := by rw [HBR.out.cell (p := ⟨b, 2, none⟩) HL3.out]; exact k2'
                have HX4 := Lib.hid (HX3.out.below HBR.out HX3.out.lt)
                have HBE4 := Lib.hid (HBE3.out.trans (HBR.out.mono HBE3.out.size))
                have hbl : b < wr.heap.size := Nat.lt_of_lt_of_le HL3.out HBR.out.size
                go_upto_region 10 with fail
                refine wp_region_held_drew (S := (fun w' => w'.cell? ⟨b, 2, none⟩ = some (.string (strB z)))) (by kernel_rfl) (kz) (fun hHeld => ?_)
                have HX5 := Lib.hid HX4.out.drew
                have HBE5 := Lib.hid HBE4.out.drew
                have HBR5 := Lib.hid HBR.out.drew
                have hbl5 : b < wr.drew.heap.size := hbl
                clear HX4 HBE4 hbl kz HBR
                generalize wr.drew = wd at HX5 HBE5 HBR5 hbl5 hHeld ⊢
                refine wpAnyH_take (i := 1) (oi := ⟨some 39, _, _, _, _, _⟩) (v := (.int .i64 (k : Int))) rfl (by kernel_rfl) (by kernel_rfl) (by kernel_rfl) (fun _ _ _ h => h) (Or.inl ⟨by rfl, fun w hSw => by (try dsimp only at hSw); go_simp⟩) (by assumption) ?_
                simp only [Act.put, List.setIfInBounds_toArray, List.set_cons_zero, List.set_cons_succ]
                refine wpAnyH_take (i := 4) (oi := ⟨some 42, _, _, _, _, _⟩) (v := (.slice (some ⟨b, 0, none⟩) 3 c2)) rfl (by kernel_rfl) (by kernel_rfl) (by kernel_rfl) (fun _ _ _ h => h) (Or.inl ⟨by rfl, fun w hSw => by (try dsimp only at hSw); go_simp⟩) (by assumption) ?_
                simp only [Act.put, List.setIfInBounds_toArray, List.set_cons_zero, List.set_cons_succ]
                refine wpAnyH_take (i := 5) (oi := ⟨some 43, _, _, _, _, _⟩) (v := (.pointer (some ⟨b, 2, none⟩))) rfl (by kernel_rfl) (by kernel_rfl) (by kernel_rfl) (fun _ _ _ h => h) (Or.inl ⟨by rfl, fun w hSw => by (try dsimp only at hSw); go_simp⟩) (by assumption) ?_
                simp only [Act.put, List.setIfInBounds_toArray, List.set_cons_zero, List.set_cons_succ]
                refine wpAnyH_take (i := 6) (oi := ⟨some 44, _, _, _, _, _⟩) (v := (.string (strB z))) rfl (by kernel_rfl) (by kernel_rfl) (by kernel_rfl) (fun _ _ _ h => h) (Or.inl ⟨by rfl, fun w hSw => by (try dsimp only at hSw); go_simp⟩) (by assumption) ?_
                simp only [Act.put, List.setIfInBounds_toArray, List.set_cons_zero, List.set_cons_succ]
                refine wpAnyH_ready (rs := [0]) (by kernel_rfl) (by simp) ?_
                refine AllReadyH.cons (o := ⟨some 38, _, _, _, _, _⟩) rfl (fun KK hK => ?_) AllReadyH.nil
                go_simp
                refine (rphases_any wd).mono ?_
                rintro e w6 ⟨rfl, hph, hb6⟩
                have HX6 := Lib.hid (HX5.out.below hb6 HX5.out.lt)
                have HBE6 := Lib.hid (HBE5.out.trans (hb6.mono HBE5.out.size))
                have HBR6 := Lib.hid (HBR5.out.trans (hb6.mono HBR5.out.size))
                have kp : w6.cell? ⟨wd.heap.size, k, none⟩ = some (.string (strB (phF k))) := hph k hlt
                have kz6 : w6.cell? ⟨b, 2, none⟩ = some (.string (strB z)) := by rw [hb6.cell (p := ⟨b, 2, none⟩) hbl5]; exact hHeld
                clear hph hb6 HX5 HBE5 HBR5 hHeld
                refine hK.out _ _ (kz6) (fun hHeld => ?_)
                clear hK; try clear KK
                try simp only [Act.put, List.setIfInBounds_toArray, List.set_cons_zero, List.set_cons_succ]
                refine wpAnyH_take (i := 2) (oi := ⟨some 40, _, _, _, _, _⟩) (v := (.pointer (some ⟨wd.heap.size, k, none⟩))) rfl (by kernel_rfl) (by kernel_rfl) (by kernel_rfl) (fun _ _ _ h => h) (Or.inl ⟨by rfl, fun w hSw => by (try dsimp only at hSw); go_simp⟩) (by assumption) ?_
                simp only [Act.put, List.setIfInBounds_toArray, List.set_cons_zero, List.set_cons_succ]
                refine wpAnyH_ready (rs := [3]) (by kernel_rfl) (by simp) ?_
                refine AllReadyH.cons (o := ⟨some 41, _, _, _, _, _⟩) rfl (fun KK hK => ?_) AllReadyH.nil
                go_simp
                refine hK.out _ _ (kz6) (fun hHeld => ?_)
                clear hK; try clear KK
                try simp only [Act.put, List.setIfInBounds_toArray, List.set_cons_zero, List.set_cons_succ]
                by_cases heq : phF k = z
                · have g6 : ((strB (phF k)).toList == (strB z).toList) = true := by rw [heq]; simp
                  have HN := Lib.hid (show rowF line = some (m, (k : Int)) by rw [HE2.out, phase_hit hlt heq]; rfl)
                  clear heq
                  refine wpAnyH_ready (rs := [7]) (by kernel_rfl) (by simp) ?_
                  refine AllReadyH.cons (o := ⟨some 45, _, _, _, _, _⟩) rfl (fun KK hK => ?_) AllReadyH.nil
                  go_simp
                  refine hK.out _ _ (kz6) (fun hHeld => ?_)
                  clear hK; try clear KK
                  try simp only [Act.put, List.setIfInBounds_toArray, List.set_cons_zero, List.set_cons_succ]
                  refine wpAnyH_done (by kernel_rfl) ?_ _
                  go_wp2_with (refine store_blk (by rfl) 24 _ _ (by rfl) w.heap.size (by rfl) _ (rowC (m, (k : Int))) 24 HX6.out (by rfl) rfl (by kernel_rfl) (by simp [rowC, Value.oneCell']) ?_)
                  refine bodyPost_ret (results_blk_tmp rfl rfl (HX6.out.setCells (rowC (m, (k : Int))) rfl) Tryd.underlying24 rfl (by kernel_rfl)) rfl ?_
                  exact ⟨by rw [HN.out]; rfl, Blk.Below.setCells _ _ _ HBE6.out (Nat.le_refl _)⟩
                · have g6 : ((strB (phF k)).toList == (strB z).toList) = false := by
                    rw [ByteArray.toList_eq, ByteArray.toList_eq, strB_list, strB_list]; exact beq_eq_false_iff_ne.2 heq
                  have HM2 := Lib.hid (fun j (hj : j < k + 1) => show phF j ≠ z from if e : j = k then (by subst e; exact heq) else HM.out j (by omega))
                  clear heq
                  refine wpAnyH_ready (rs := [7]) (by kernel_rfl) (by simp) ?_
                  refine AllReadyH.cons (o := ⟨some 45, _, _, _, _, _⟩) rfl (fun KK hK => ?_) AllReadyH.nil
                  go_simp
                  refine hK.out _ _ (kz6) (fun hHeld => ?_)
                  clear hK; try clear KK
                  try simp only [Act.put, List.setIfInBounds_toArray, List.set_cons_zero, List.set_cons_succ]
                  refine wpAnyH_done (by kernel_rfl) ?_ _
                  go_wp2_with fail
                  go_roundw
                  case rel => exact ⟨k + 1, by omega, by go_num, HM2.out, HBR6.out⟩
                  case measure => simp [intOf]; omega
              · obtain rfl : k = 3 := by omega
                have HN := Lib.hid (show rowF line = none by rw [HE2.out, phase_miss HM.out]; rfl)
                have HX4 := Lib.hid (HX3.out.below HBR.out HX3.out.lt)
                have HBE4 := Lib.hid (HBE3.out.trans (HBR.out.mono HBE3.out.size))
                go_wp2_with (refine store_blk (by rfl) 24 _ _ (by rfl) w.heap.size (by rfl) _ (rowC (0, 0)) 24 HX4.out (by rfl) rfl (by kernel_rfl) (by simp [rowC, Value.oneCell']) ?_)
                refine bodyPost_ret (results_blk_tmp rfl rfl (HX4.out.setCells (rowC (0, 0)) rfl) Tryd.underlying24 rfl (by kernel_rfl)) rfl ?_
                exact ⟨by rw [HN.out]; rfl, Blk.Below.setCells _ _ _ HBE4.out (Nat.le_refl _)⟩
      · have g3 : ((strB x).toList == [114, 111, 119]) = false := by
          rw [ByteArray.toList_eq, strB_list]; exact beq_eq_false_iff_ne.2 hx
        have HN := Lib.hid (show rowF line = none by rw [HE.out, if_neg (fun h => hx h.1)])
        clear hx k1 k2
        go_wp2_with (refine store_blk (by rfl) 24 _ _ (by rfl) w.heap.size (by rfl) _ (rowC (0, 0)) 24 HX2.out (by rfl) rfl (by kernel_rfl) (by simp [rowC, Value.oneCell']) ?_)
        refine bodyPost_ret (results_blk_tmp rfl rfl (HX2.out.setCells (rowC (0, 0)) rfl) Tryd.underlying24 rfl (by kernel_rfl)) rfl ?_
        exact ⟨by rw [HN.out]; rfl, Blk.Below.setCells _ _ _ HBE2.out (Nat.le_refl _)⟩
    · have HN := Lib.hid (row_len hlen)
      have g1 : (((splitW line).length : Int) != 3) = true := by simp; omega
      generalize (splitW line).length = m at g1
      clear hws hlen HROW
      go_wp2_with (refine store_blk (by rfl) 24 _ _ (by rfl) w.heap.size (by rfl) _ (rowC (0, 0)) 24 HX2.out (by rfl) rfl (by kernel_rfl) (by simp [rowC, Value.oneCell']) ?_)
      refine bodyPost_ret (results_blk_tmp rfl rfl (HX2.out.setCells (rowC (0, 0)) rfl) Tryd.underlying24 rfl (by kernel_rfl)) rfl ?_
      exact ⟨by rw [HN.out]; rfl, Blk.Below.setCells _ _ _ HBE2.out (Nat.le_refl _)⟩
end Go.Proofs.YtmkcooamgojbpaaDoor.Sheet

/- damperref40.lines: the lines of a text, and what has no line feed behind it. -/
namespace Go.Proofs.YtmkcooamgojbpaaDoor.Sheet
open Go.RowKit Go.Proofs.YtmkcooamgojbpaaDoor.Kit Go.Proofs.YtmkcooamgojbpaaDoor.Blk Go.Proofs.YtmkcooamgojbpaaDoor.Words Go.Proofs.YtmkcooamgojbpaaDoor.Octets Go.Proofs.YtmkcooamgojbpaaDoor.Lines Go.Proofs.YtmkcooamgojbpaaDoor.Dec
attribute [local go_sem ↓] Go.wp_at_zero Go.wp_at_succ
set_option linter.unusedVariables false

/-- What lines answers. -/
def LinesIs (l : Txt) (w : World) (e : Ending) (w' : World) : Prop := ∃ v ls x, cutW 10 l = ls ++ [x] ∧ e = .returned (.tuple #[v, .string (strB x)]) ∧ GL w.heap.size 9 1 w w' v ls.length (strs ls)
theorem ext_str (l : Txt) (a b : Nat) (hb : b ≤ l.length) : (strB l).extract a b = strB ((l.take b).drop a) := by
  apply ByteArray.ext
  apply Array.ext'
  simp [strB, List.extract_eq_take_drop, List.drop_take]
structure CutS (l : Txt) (k : Nat) (ls : List Txt) (fr : Nat) : Prop where
  cut : cutW 10 (l.take k) = ls ++ [(l.take k).drop fr]
  le : fr ≤ k
  len : ls.length ≤ k
theorem cutS_zero (l : Txt) : CutS l 0 [] 0 := ⟨by simp [cutW], Nat.le_refl _, Nat.le_refl _⟩
theorem cutS_sep {l : Txt} {k fr : Nat} {ls : List Txt} (h : CutS l k ls fr) (hk : k < l.length) (hc : l[k] = 10) : CutS l (k + 1) (ls ++ [(l.take k).drop fr]) (k + 1) := by
  refine ⟨?_, Nat.le_refl _, by have := h.len; simp; omega⟩
  rw [List.take_succ_eq_append_getElem hk, hc, cut_snoc_sep, h.cut]
  congr 2
  rw [List.drop_eq_nil_of_le]
  simp
  omega
theorem cutS_on {l : Txt} {k fr : Nat} {ls : List Txt} (h : CutS l k ls fr) (hk : k < l.length) (hc : l[k] ≠ 10) : CutS l (k + 1) ls fr := by
  refine ⟨?_, by have := h.le; omega, by have := h.len; omega⟩
  obtain ⟨us, u, h1, h2⟩ := cut_snoc hc (l.take k)
  rw [h.cut] at h1
  have h3 := List.append_inj' h1 rfl
  obtain ⟨e1, e2⟩ := h3
  injection e2 with e2 _
  rw [List.take_succ_eq_append_getElem hk, h2, ← e1, ← e2, List.drop_append_of_le_length (by simp; have := h.le; omega)]
set_option maxRecDepth 20000 in
set_option maxHeartbeats 4000000 in
theorem lines_any (l : Txt) (hl : l.length ≤ 90000) (w : World) : Calls Tryd.prog 93 #[.string (strB l)] w (LinesIs l w) := by
  obtain ⟨i0, hi0, hz0, hz1, hz2⟩ := info_parts infoStr
  have z1 : (strB l).size = l.length := strB_size l
  go_enter Tryd.func93, Tryd.ntmps93
  go_wp2_with fail
  go_loopw [4, 5, 6] (fun o f i wr => ∃ k fr ls, k ≤ l.length ∧ i = .int .i64 ((k : Nat) : Int) ∧ f = .int .i64 ((fr : Nat) : Int) ∧ CutS l k ls fr ∧ GL w.heap.size 9 1 w wr o ls.length (strs ls)) (fun _ _ i _ => l.length - (intOf i).toNat)
  case atStart => exact ⟨0, 0, [], by omega, rfl, rfl, cutS_zero l, GL.start _ _ _ (Below.refl _ _) (Nat.le_refl _)⟩
  case round =>
    obtain ⟨k, fr, ls, hk, rfl, rfl, hcs, hgl⟩ := hrel
    have HC := Lib.hid hcs
    have HG := Lib.hid hgl
    have hfr := hcs.le
    have hlen := hcs.len
    obtain ⟨a, cp, rfl⟩ : ∃ a c, u4 = .slice a ls.length c := by
      rcases hgl.own.2 with ⟨rfl, h0⟩ | ⟨g, cap, cur, rfl, _⟩
      · exact ⟨none, 0, by rw [show ls.length = 0 from h0]⟩
      · exact ⟨_, cap, rfl⟩
    clear hcs hgl
    by_cases hlt : k < l.length
    · have hat := strB_at l k (by omega) hlt
      by_cases hc : l[k] = 10
      · have HN := Lib.hid (cutS_sep HC.out hlt hc)
        have HX := Lib.hid (ext_str l fr k hk)
        have b3 : ∀ h, ((((strB l)[k]'h).toNat : Int) == 10) = true := fun h => by rw [hat, hc]; rfl
        have HNB := Lib.hid (HG.out.new #[.string (strB ((l.take k).drop fr))])
        have HSA := Lib.hid (show strs (ls ++ [(l.take k).drop fr]) = strs ls ++ [.string (strB ((l.take k).drop fr))] from strs_app ls [(l.take k).drop fr])
        clear hat hc
        have he := HX.out
        generalize strB ((l.take k).drop fr) = x at he HNB HSA
        go_wp2_with (at_builtin; refine GN.wp HNB.out rfl _ _ 33 (by rfl) i0 (.string ByteArray.empty) 16 Tryd.underlying33 hi0 hz0 hz1 hz2 rfl (by decide) (by rfl) (by rfl) rfl (by simp [Value.oneCell']) (by unfold maxLen; omega) (by omega) ?_; intro g5 cap5 w5 H5; replace H5 := Lib.hid H5)
        go_roundw
        case rel => exact ⟨k + 1, k + 1, ls ++ [(l.take k).drop fr], by omega, by go_num, by go_num, HN.out, by rw [List.length_append, HSA.out]; exact H5.out⟩
        case measure => simp [intOf]; omega
      · have HN := Lib.hid (cutS_on HC.out hlt hc)
        have b3 : ∀ h, ((((strB l)[k]'h).toNat : Int) == 10) = false := fun h => by
          rw [hat, beq_eq_false_iff_ne]
          intro e
          exact hc (UInt8.toNat_inj.1 (by show l[k].toNat = 10; omega))
        clear hat hc
        go_wp2_with fail
        go_roundw
        case rel => exact ⟨k + 1, fr, ls, by omega, by go_num, rfl, HN.out, HG.out⟩
        case measure => simp [intOf]; omega
    · obtain rfl : k = l.length := by omega
      have HX := Lib.hid (ext_str l fr l.length (Nat.le_refl _))
      have HE := Lib.hid (show cutW 10 l = ls ++ [l.drop fr] by have := HC.out.cut; rwa [List.take_length] at this)
      rw [List.take_length] at HX
      have he := HX.out
      generalize hx : strB (l.drop fr) = x at he
      have HXX := Lib.hid hx
      clear hx
      go_upto_region 9 with fail
      refine wp_region_held_drew (S := (fun _ => True)) (by kernel_rfl) (trivial) (fun hHeld => ?_)
      have HG2 := Lib.hid HG.out.drew
      refine wpAnyH_take (i := 0) (oi := ⟨some 26, _, _, _, _, _⟩) (v := ?_) rfl (by kernel_rfl) (by kernel_rfl) (by kernel_rfl) (fun _ _ _ h => h) (Or.inl ⟨by rfl, ?_⟩) (by assumption) ?_
      rotate_left
      · (intro w hSw; (try dsimp only at hSw); go_simp; (try with_reducible rfl))
      simp only [Act.put, List.setIfInBounds_toArray, List.set_cons_zero, List.set_cons_succ]
      refine wpAnyH_take (i := 1) (oi := ⟨some 27, _, _, _, _, _⟩) (v := ?_) rfl (by kernel_rfl) (by kernel_rfl) (by kernel_rfl) (fun _ _ _ h => h) (Or.inl ⟨by rfl, ?_⟩) (by assumption) ?_
      rotate_left
      · (intro w hSw; (try dsimp only at hSw); go_simp; (try with_reducible rfl))
      simp only [Act.put, List.setIfInBounds_toArray, List.set_cons_zero, List.set_cons_succ]
      refine wpAnyH_take (i := 2) (oi := ⟨some 28, _, _, _, _, _⟩) (v := ?_) rfl (by kernel_rfl) (by kernel_rfl) (by kernel_rfl) (fun _ _ _ h => h) (Or.inl ⟨by rfl, ?_⟩) (by assumption) ?_
      rotate_left
      · (intro w hSw; (try dsimp only at hSw); go_simp; (try with_reducible rfl))
      simp only [Act.put, List.setIfInBounds_toArray, List.set_cons_zero, List.set_cons_succ]
      refine wpAnyH_take (i := 3) (oi := ⟨some 29, _, _, _, _, _⟩) (v := (.string x)) rfl (by kernel_rfl) (by kernel_rfl) (by kernel_rfl) (fun _ _ _ h => h) (Or.inl ⟨by rfl, fun w hSw => by (try dsimp only at hSw); go_simp⟩) (by assumption) ?_
      simp only [Act.put, List.setIfInBounds_toArray, List.set_cons_zero, List.set_cons_succ]
      refine wpAnyH_take (i := 4) (oi := ⟨some 2, _, _, _, _, _⟩) (v := ?_) rfl (by kernel_rfl) (by kernel_rfl) (by kernel_rfl) (fun _ _ _ h => h) (Or.inl ⟨by rfl, ?_⟩) (by assumption) ?_
      rotate_left
      · (intro w hSw; (try dsimp only at hSw); go_simp; (try with_reducible rfl))
      simp only [Act.put, List.setIfInBounds_toArray, List.set_cons_zero, List.set_cons_succ]
      refine wpAnyH_take (i := 5) (oi := ⟨some 3, _, _, _, _, _⟩) (v := ?_) rfl (by kernel_rfl) (by kernel_rfl) (by kernel_rfl) (fun _ _ _ h => h) (Or.inl ⟨by rfl, ?_⟩) (by assumption) ?_
      rotate_left
      · (intro w hSw; (try dsimp only at hSw); go_simp; (try with_reducible rfl))
      simp only [Act.put, List.setIfInBounds_toArray, List.set_cons_zero, List.set_cons_succ]
      refine wpAnyH_done (by kernel_rfl) ?_ _
      go_wp2_with fail
      go_ret2
      exact ⟨.slice a ls.length cp, ls, l.drop fr, HE.out, by rw [HXX.out]; rfl, HG2.out⟩
end Go.Proofs.YtmkcooamgojbpaaDoor.Sheet
