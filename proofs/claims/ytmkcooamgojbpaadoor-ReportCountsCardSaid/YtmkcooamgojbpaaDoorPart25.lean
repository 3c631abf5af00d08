/- Parts of the proof: RSplit, RNumber. -/
import Derived.Test.YtmkcooamgojbpaaDoorPart24
import Derived.Test.YtmkcooamgojbpaaDoorPart10
import Derived.IntWalk

/- damperref35.Split. -/
namespace Go.Proofs.YtmkcooamgojbpaaDoor.Lines
open Go.RowKit Go.Proofs.YtmkcooamgojbpaaDoor.Kit Go.Proofs.YtmkcooamgojbpaaDoor.Blk Go.Proofs.YtmkcooamgojbpaaDoor.Dec Go.Proofs.YtmkcooamgojbpaaDoor.Words Go.Proofs.YtmkcooamgojbpaaDoor.Octets
attribute [local go_sem ↓] Go.wp_at_zero Go.wp_at_succ
set_option linter.unusedVariables false

/-- The last of a row stored. -/
theorem GL.last {n0 n cap g : Nat} {w W : World} {xs : List Value} {u u' : Value} (h : GL n0 9 1 w W (.slice (some ⟨g, 0, none⟩) n cap) n (xs ++ [u])) (hn : n = xs.length + 1) (hge : n0 ≤ g) :
    GL n0 9 1 w (W.setCell ⟨g, n - 1, none⟩ u') (.slice (some ⟨g, 0, none⟩) n cap) n (xs ++ [u']) := by
  have hs := World.ownsRow.stored h.own (n - 1) u'
  have e : (xs ++ [u]).set (n - 1) u' = xs ++ [u'] := by
    subst hn
    rw [Nat.add_sub_cancel, List.set_append]
    simp
  rw [e] at hs
  exact ⟨hs.1, h.bel.setCell hge _, Nat.le_trans h.le hs.2.size, fun h0 => by omega⟩
theorem GL.ge {n0 n cap g s T : Nat} {w W : World} {xs : List Value} (h : GL n0 T s w W (.slice (some ⟨g, 0, none⟩) n cap) n xs) : n0 ≤ g ∧ g < W.heap.size := World.ownsRow.lt h.own g rfl
theorem one_char (l : List UInt8) (k : Nat) (h : k < l.length) : (strB l).extract k (k + 1) = strB [l[k]] := by
  apply ByteArray.ext
  simp [strB]
  rw [List.drop_eq_getElem_cons h]
  rfl
set_option maxRecDepth 20000 in
set_option maxHeartbeats 4000000 in
theorem rsplit_any (l : List UInt8) (hl : l.length ≤ 100000) (w : World) :
    Calls Tryd.prog 32 #[.string (strB l)] w (SplitIs l w) := by
  by_cases h : l = []
  · subst h
    have b1 : (strB []).toList = [] := by rw [ByteArray.toList_eq, strB_list]
    go_enter Tryd.func32, Tryd.ntmps32
    go_wp2_with fail
    go_ret
    exact ⟨_, rfl, .inl ⟨rfl, rfl⟩, Below.refl _ _⟩
  · obtain ⟨i0, hi0, hz0, hz1, hz2⟩ := info_parts infoStr
    have HSW := Lib.hid (show splitW l = cutW 32 l by unfold splitW; rw [if_neg h])
    have b1 : ((strB l).toList == []) = false := by rw [ByteArray.toList_eq, strB_list]; simpa using h
    have b2 : ((strB l).toList.isEmpty) = false := by rw [ByteArray.toList_eq, strB_list]; simpa using h
    have z1 : (strB l).size = l.length := strB_size l
    have hG0 := Lib.hid (show GL w.heap.size 9 1 w (w.alloc (.cells #[.string ⟨#[]⟩] 9)) (.slice (some ⟨w.heap.size, 0, none⟩) 1 1) 1 (strs (cutW 32 [])) from
      ⟨World.ownsRow_lit (base := w.heap.size) (size := 1) w #[.string ⟨#[]⟩] 1 (Nat.le_refl _) (by decide) rfl, (Below.refl _ _).alloc (Nat.le_refl _) _, by simp, fun h => by cases h⟩)
    clear h
    go_enter Tryd.func32, Tryd.ntmps32
    go_wp2_with fail
    go_loopw [3, 4] (fun o i wr => ∃ k g cap n : Nat, k ≤ l.length ∧ i = .int .i64 k ∧ o = .slice (some ⟨g, 0, none⟩) n cap ∧ n = (cutW 32 (l.take k)).length ∧ n ≤ cap ∧ GL w.heap.size 9 1 w wr (.slice (some ⟨g, 0, none⟩) n cap) n (strs (cutW 32 (l.take k)))) (fun _ i _ => l.length - (intOf i).toNat)
    case atStart => exact ⟨0, w.heap.size, 1, 1, by omega, rfl, rfl, rfl, Nat.le_refl _, hG0.out⟩
    case round =>
      obtain ⟨k, g, cap, n, hk, rfl, rfl, hn, hcap, hgl⟩ := hrel
      have HGL := Lib.hid hgl
      clear hgl hG0
      have hnb : n ≤ 100001 := by rw [hn, cut_len]; have := List.count_le_length (a := (32 : UInt8)) (l := l.take k); rw [List.length_take] at this; omega
      have HNN := Lib.hid hn
      clear hn
      by_cases hlt : k < l.length
      · have htk := List.take_succ_eq_append_getElem hlt
        have hat := strB_at l k (by omega) hlt
        by_cases hc : l[k] = 32
        · have HE := Lib.hid (show cutW 32 (l.take (k + 1)) = cutW 32 (l.take k) ++ [[]] by rw [htk, hc, cut_snoc_sep])
          have b3 : ∀ h, ((((strB l)[k]'h).toNat : Int) == 32) = true := fun h => by rw [hat, hc]; rfl
          have HN := Lib.hid (HGL.out.new #[.string ⟨#[]⟩])
          clear htk hat hc
          go_wp2_with (at_builtin; refine GN.wp HN.out rfl _ _ 33 (by rfl) i0 (.string ByteArray.empty) 16 Tryd.underlying33 hi0 hz0 hz1 hz2 rfl (by decide) (by rfl) (by rfl) rfl (by simp [Value.oneCell']) (by unfold maxLen; omega) (by omega) ?_; intro g5 cap5 w5 H5; replace H5 := Lib.hid H5)
          have HN5 : Hid (n + 1 = (cutW 32 (l.take (k + 1))).length) := Lib.hid (by rw [HE.out, List.length_append, ← HNN.out]; rfl)
          have hc5 : n + 1 ≤ cap5 := (by
            rcases H5.out.own.2 with ⟨h, _⟩ | ⟨_, _, _, h, _, _, h1, _⟩
            · cases h
            · injection h with _ _ h; subst h; exact h1)
          go_roundw
          case rel => exact ⟨k + 1, g5, cap5, n + 1, by omega, by go_num, rfl, HN5.out, hc5, by rw [HE.out, strs_app]; exact H5.out⟩
          case measure => simp [intOf]; omega
        · obtain ⟨us, u, hu1, hu2⟩ := cut_snoc hc (l.take k)
          have HE := Lib.hid (show cutW 32 (l.take (k + 1)) = us ++ [u ++ [l[k]]] by rw [htk, hu2])
          have b3 : ∀ h, ((((strB l)[k]'h).toNat : Int) == 32) = false := fun h => by
            rw [hat, beq_eq_false_iff_ne]
            intro e
            exact hc (UInt8.toNat_inj.1 (by show l[k].toNat = 32; omega))
          have hn1 : n = us.length + 1 := by rw [HNN.out, hu1]; simp
          have hgl := HGL.out
          rw [hu1, strs_app] at hgl
          have hge := (GL.ge hgl).1
          have cl : wr.cell? ⟨g, n - 1, none⟩ = some (.string (strB u)) := by
            rw [World.ownsRow.cellAt hgl.own (n - 1) (by omega), hn1, Nat.add_sub_cancel]
            have := strs_len us
            rw [List.getElem?_append_right (by omega), this]
            simp [strs]
          have fl : wr.frozen? ⟨g, n - 1, none⟩ = false := World.ownsRow.frozenAt hgl.own _
          have HST := Lib.hid (GL.last (u' := .string (strB u ++ (strB l).extract k (k + 1))) (show GL w.heap.size 9 1 w wr (.slice (some ⟨g, 0, none⟩) n cap) n (strs us ++ [.string (strB u)]) from hgl) (by rw [strs_len]; exact hn1) hge).drew
          clear htk hat hc hu2 hgl HGL hge
          obtain ⟨j, rfl⟩ : ∃ j, n = j + 1 := ⟨n - 1, by omega⟩
          rw [Nat.add_sub_cancel] at cl fl HST
          have he1 := one_char l k hlt
          have g1 : ¬ 9223372036854775807 < (strB u).size + (strB [l[k]]).size := by
            rw [strB_size, strB_size]
            have : u.length ≤ l.length := by
              have h1 := cut_bytes 32 (l.take k) u (by rw [hu1]; simp)
              rw [List.length_take] at h1
              omega
            simp; omega
          have HU := Lib.hid hu1
          have HN1 := Lib.hid hn1
          rw [he1] at HST
          have HSA := Lib.hid (strB_app u [l[k]])
          clear hu1 hn1
          generalize strB [l[k]] = C at he1 g1 HST HSA
          have v1 : IntKind.i64.wrap (j : Int) = (j : Int) := IntWalk.i64_in _ (by omega)
          have v2 : IntKind.i64.wrap ((k : Int) + 1) = (k : Int) + 1 := IntWalk.i64_in _ (by omega)
          have v3 : (j : Int) < (j : Int) + 1 := by omega
          have v5 : (k : Int) ≤ (k : Int) + 1 := by omega
          have v6 : (k : Int) + 1 ≤ (l.length : Int) := by omega
          have v7 : k + 1 ≤ l.length := hlt
          have v8 : k ≤ k + 1 := by omega
          have v4 : ((k : Int) + 1).toNat = k + 1 := by omega
          go_upto_region 9 with fail
          refine wp_region_still_tail 17 (by kernel_rfl) (by kernel_rfl) ?_
          simp only [List.take_succ_cons, List.take_zero, List.drop_succ_cons, List.drop_zero]
          repeat still_step
          refine wpStill_nil ?_
          change wpList _ _ _ _ _ wr.drew
          clear v1 v2 v3 v4 v5 v6 v7 v8
          have fl' : wr.drew.frozen? ⟨g, j, none⟩ = false := fl
          have cl' : wr.drew.cell? ⟨g, j, none⟩ = some (.string (strB u)) := cl
          go_wp2_with fail
          go_roundw
          case rel => exact ⟨k + 1, g, cap, j + 1, by omega, by go_num, rfl, by rw [HE.out, HN1.out]; simp, hcap, by rw [HE.out, strs_app]; show GL _ _ _ _ _ _ _ (strs us ++ [.string (strB (u ++ [l[k]]))]); rw [← HSA.out]; exact HST.out⟩
          case measure => simp [intOf]; omega
      · obtain rfl : k = l.length := by omega
        have HR := Lib.hid (show SplitIs l w (.returned (.slice (some ⟨g, 0, none⟩) n cap)) wr from by
          have hn := HNN.out
          have hg := HGL.out
          rw [List.take_length] at hn hg
          have hge := GL.ge hg
          refine ⟨_, rfl, .inr ⟨?_, g, cap, ?_, ?_, hge.2, fun j hj => ?_⟩, hg.bel⟩
          · rw [HSW.out]; exact List.length_pos_iff.2 (cutW_ne _ _)
          · rw [HSW.out, ← hn]
          · rw [HSW.out, ← hn]; exact hcap
          · rw [HSW.out] at hj
            rw [World.ownsRow.cellAt hg.own j (by omega)]
            simp [strs, hj, HSW.out])
        go_wp2_with fail
        go_ret
        exact HR.out
end Go.Proofs.YtmkcooamgojbpaaDoor.Lines

/- damperref35.Number. -/
namespace Go.Proofs.YtmkcooamgojbpaaDoor.Lines
open Go.RowKit Go.Proofs.YtmkcooamgojbpaaDoor.Kit Go.Proofs.YtmkcooamgojbpaaDoor.Blk Go.Proofs.YtmkcooamgojbpaaDoor.Dec Go.Proofs.YtmkcooamgojbpaaDoor.Words Go.Proofs.YtmkcooamgojbpaaDoor.Octets
attribute [local go_sem ↓] Go.wp_at_zero Go.wp_at_succ
set_option linter.unusedVariables false

theorem tdiv_ten (d : Int) (h : 0 ≤ d ∧ d ≤ 9) : (-9223372036854775808 + d).tdiv 10 = -((9223372036854775808 - d) / 10) := by
  have e : (-9223372036854775808 + d) = -(9223372036854775808 - d) := by omega
  rw [e, Int.neg_tdiv, Int.tdiv_eq_ediv_of_nonneg (by omega)]
set_option maxRecDepth 20000 in
set_option maxHeartbeats 4000000 in
theorem rnumber_long (l : List UInt8) (hl : l.length ≤ 100000) (h : l = [] ∨ 20 < l.length) (w : World) :
    Calls Tryd.prog 30 #[.string (strB l)] w (NumIs (numF l) w) := by
  have HN := Lib.hid (numF_long h)
  have z1 : (strB l).size = l.length := strB_size l
  rcases h with rfl | h
  · have b1 : (((strB []).size : Int) == 0) = true := by rw [strB_size]; rfl
    go_enter Tryd.func30, Tryd.ntmps30
    go_wp2_with fail
    go_ret2
    exact ⟨by rw [HN.out]; rfl, Below.refl _ _⟩
  · have b1 : ((l.length : Int) == 0) = false := by rw [beq_eq_false_iff_ne]; omega
    have b2 : (20 : Int) < (l.length : Int) := by omega
    go_enter Tryd.func30, Tryd.ntmps30
    go_wp2_with fail
    go_ret2
    exact ⟨by rw [HN.out]; rfl, Below.refl _ _⟩
set_option maxRecDepth 20000 in
set_option maxHeartbeats 4000000 in
theorem rnumber_minus (t : List UInt8) (hl : (45 :: t).length ≤ 20) (w : World) :
    Calls Tryd.prog 30 #[.string (strB (45 :: t))] w (NumIs (numF (45 :: t)) w) := by
  have HP : Hid (Part (45 :: t) true t) := Lib.hid ⟨fun _ => rfl, fun h => by cases h⟩
  have z1 : (strB (45 :: t)).size = 1 + t.length := by rw [strB_size, List.length_cons]; omega
  have hlt : t.length ≤ 19 := by simpa using hl
  have b1 : ((1 + (t.length : Int)) == 0) = false := by rw [beq_eq_false_iff_ne]; omega
  have b2 : ¬ (20 : Int) < 1 + (t.length : Int) := by omega
  have b3 : ∀ h, ((((strB (45 :: t))[0]'h).toNat : Int) == 45) = true := fun h => by rw [strB_at _ 0 h (by simp)]; rfl
  have HAT := Lib.hid (fun (k : Nat) (h : k < t.length) (h') => show ((strB (45 :: t))[1 + k]'h') = t[k] by rw [strB_at _ _ h' (by simp; omega)]; simp [show 1 + k = k + 1 by omega])
  have HSL := Lib.hid (show (strB (45 :: t)).toList = 45 :: t by rw [ByteArray.toList_eq, strB_list])
  generalize strB (45 :: t) = S at z1 b3 HAT HSL ⊢
  go_enter Tryd.func30, Tryd.ntmps30
  go_wp2_with fail
  go_loop [4, 6] (fun x i => ∃ k : Nat, k ≤ t.length ∧ i = .int .i64 ((1 : Int) + (k : Int)) ∧ x = .int .i64 (-(valN (t.take k) : Int)) ∧ Hid (DigsOk (t.take k))) (fun _ i => 1 + t.length - (intOf i).toNat)
  case atStart => exact ⟨0, by omega, rfl, by simp [valN], Lib.hid good_nil⟩
  case round =>
    obtain ⟨k, hk, rfl, rfl, HG⟩ := hrel
    by_cases hlt : k < t.length
    · have hat := HAT.out k hlt
      have hc255 : t[k].toNat ≤ 255 := by have := t[k].toNat_lt; omega
      have HND := Lib.hid (fun h => numF_bad HP.out (good_not_dig hlt h))
      have HNB := Lib.hid (fun h => numF_bad HP.out (good_not_big hlt h))
      have HNX := Lib.hid (fun h1 h2 h3 => good_next hlt HG.out h1 h2 h3)
      have HVN := Lib.hid (val_next hlt)
      have hvb : valN (t.take k) ≤ 9223372036854775808 := HG.out.2
      generalize hv : valN (t.take k) = v at hvb HND HNB HNX HVN
      have HV := Lib.hid hv
      clear hv
      generalize hc : t[k].toNat = c at hc255 HND HNB HNX HVN
      have ha : ∀ h', ((S[1 + k]'h').toNat : Int) = (c : Int) := fun h' => by rw [hat h', hc]
      have e0 : ((1 : Int) + (k : Int)).toNat = 1 + k := by omega
      have HC := Lib.hid hc
      clear hat hc
      by_cases g1 : c < 48
      · have HN := Lib.hid (HND.out (.inl g1))
        have d1 : (c : Int) < 48 := by omega
        go_wp2_with fail
        go_ret2
        exact ⟨by rw [HN.out]; rfl, Below.refl _ _⟩
      · by_cases g2 : 57 < c
        · have HN := Lib.hid (HND.out (.inr g2))
          have d1 : ¬ (c : Int) < 48 := by omega
          have d2 : (c : Int) > 57 := by omega
          go_wp2_with fail
          go_ret2
          exact ⟨by rw [HN.out]; rfl, Below.refl _ _⟩
        · have d1 : ¬ (c : Int) < 48 := by omega
          have d2 : ¬ (c : Int) > 57 := by omega
          have q := tdiv_ten ((c : Int) - 48) (by omega)
          by_cases g4 : 9223372036854775808 < v * 10 + (c - 48)
          · have HN := Lib.hid (HNB.out g4)
            have d4 : -(v : Int) < (-9223372036854775808 + ((c : Int) - 48)).tdiv 10 := by rw [q]; omega
            clear q
            go_wp2_with fail
            go_ret2
            exact ⟨by rw [HN.out]; rfl, Below.refl _ _⟩
          · have d4 : ¬ -(v : Int) < (-9223372036854775808 + ((c : Int) - 48)).tdiv 10 := by rw [q]; omega
            clear q
            have HG2 := Lib.hid (HNX.out (by omega) (by omega) (by omega))
            have HEQ : -(v : Int) * 10 - ((c : Int) - 48) = -(valN (t.take (k + 1)) : Int) := by rw [HVN.out]; omega
            go_wp2_with fail
            go_round
            case rel => exact ⟨k + 1, by omega, by simp; omega, by rw [← HEQ], HG2⟩
            case measure => simp [intOf]; omega
    · obtain rfl : k = t.length := by omega
      have HGS := Lib.hid (show DigsOk t by have := HG.out; rwa [List.take_length] at this)
      have hvb : valN t ≤ 9223372036854775808 := HGS.out.2
      have htk : t.take t.length = t := List.take_length
      rw [htk]
      clear htk
      go_wp2_with fail
      refine (rdecimal_any (-(valN t : Int)) (by omega) (by omega) _).mono ?_
      rintro e w2 ⟨rfl, hb2⟩
      have HB := Lib.hid hb2
      clear hb2
      by_cases hq : decB (-(valN t : Int)) = 45 :: t
      · have HN := Lib.hid (numF_again (by omega) (by omega) hq)
        have bq : ((strB (decB (-(valN t : Int)))).toList == S.toList) = true := by rw [ByteArray.toList_eq, strB_list, HSL.out, hq]; simp
        clear hq
        generalize strB (decB (-(valN t : Int))) = D at bq ⊢
        go_wp2_with fail
        go_ret2
        exact ⟨by rw [HN.out]; rfl, HB.out⟩
      · have HN := Lib.hid (numF_other HP.out (n := (-(valN t : Int))) (by simp) hq)
        have bq : ((strB (decB (-(valN t : Int)))).toList == S.toList) = false := by rw [ByteArray.toList_eq, strB_list, HSL.out]; simpa using hq
        clear hq
        generalize strB (decB (-(valN t : Int))) = D at bq ⊢
        go_wp2_with fail
        go_ret2
        exact ⟨by rw [HN.out]; rfl, HB.out⟩
set_option maxRecDepth 20000 in
set_option maxHeartbeats 4000000 in
theorem rnumber_plain (t : List UInt8) (hl : t.length ≤ 20) (h0 : t ≠ []) (h45 : t.head? ≠ some 45) (w : World) :
    Calls Tryd.prog 30 #[.string (strB t)] w (NumIs (numF t) w) := by
  have HP : Hid (Part t false t) := Lib.hid ⟨fun h => (by cases h), fun _ => ⟨rfl, h45⟩⟩
  have z1 : (strB t).size = t.length := strB_size t
  have hpos : 0 < t.length := List.length_pos_iff.2 h0
  have b1 : ((t.length : Int) == 0) = false := by rw [beq_eq_false_iff_ne]; omega
  have b2 : ¬ (20 : Int) < (t.length : Int) := by omega
  have b3 : ∀ h, ((((strB t)[0]'h).toNat : Int) == 45) = false := fun h => by
    rw [strB_at t 0 h hpos, beq_eq_false_iff_ne]
    intro e
    have e2 : t[0] = 45 := UInt8.toNat_inj.1 (by show t[0].toNat = 45; omega)
    refine h45 ?_
    rw [List.head?_eq_getElem?, List.getElem?_eq_getElem hpos]
    exact congrArg some e2
  have HAT := Lib.hid (fun (k : Nat) (h : k < t.length) (h') => show ((strB t)[0 + k]'h') = t[k] by rw [strB_at _ _ h' (by omega)]; simp)
  simp only [Nat.zero_add] at HAT
  have HSL := Lib.hid (show (strB t).toList = t by rw [ByteArray.toList_eq, strB_list])
  clear h0 h45
  generalize strB t = S at z1 b3 HAT HSL ⊢
  go_enter Tryd.func30, Tryd.ntmps30
  go_wp2_with fail
  go_loop [4, 6] (fun x i => ∃ k : Nat, k ≤ t.length ∧ i = .int .i64 (k : Int) ∧ x = .int .i64 (-(valN (t.take k) : Int)) ∧ Hid (DigsOk (t.take k))) (fun _ i => t.length - (intOf i).toNat)
  case atStart => exact ⟨0, by omega, rfl, by simp [valN], Lib.hid good_nil⟩
  case round =>
    obtain ⟨k, hk, rfl, rfl, HG⟩ := hrel
    by_cases hlt : k < t.length
    · have hat := HAT.out k hlt
      have hc255 : t[k].toNat ≤ 255 := by have := t[k].toNat_lt; omega
      have HND := Lib.hid (fun h => numF_bad HP.out (good_not_dig hlt h))
      have HNB := Lib.hid (fun h => numF_bad HP.out (good_not_big hlt h))
      have HNX := Lib.hid (fun h1 h2 h3 => good_next hlt HG.out h1 h2 h3)
      have HVN := Lib.hid (val_next hlt)
      have hvb : valN (t.take k) ≤ 9223372036854775808 := HG.out.2
      generalize hv : valN (t.take k) = v at hvb HND HNB HNX HVN
      have HV := Lib.hid hv
      clear hv
      generalize hc : t[k].toNat = c at hc255 HND HNB HNX HVN
      have ha : ∀ h', ((S[k]'h').toNat : Int) = (c : Int) := fun h' => by rw [hat h', hc]
      have HC := Lib.hid hc
      clear hat hc
      by_cases g1 : c < 48
      · have HN := Lib.hid (HND.out (.inl g1))
        have d1 : (c : Int) < 48 := by omega
        go_wp2_with fail
        go_ret2
        exact ⟨by rw [HN.out]; rfl, Below.refl _ _⟩
      · by_cases g2 : 57 < c
        · have HN := Lib.hid (HND.out (.inr g2))
          have d1 : ¬ (c : Int) < 48 := by omega
          have d2 : (c : Int) > 57 := by omega
          go_wp2_with fail
          go_ret2
          exact ⟨by rw [HN.out]; rfl, Below.refl _ _⟩
        · have d1 : ¬ (c : Int) < 48 := by omega
          have d2 : ¬ (c : Int) > 57 := by omega
          have q := tdiv_ten ((c : Int) - 48) (by omega)
          by_cases g4 : 9223372036854775808 < v * 10 + (c - 48)
          · have HN := Lib.hid (HNB.out g4)
            have d4 : -(v : Int) < (-9223372036854775808 + ((c : Int) - 48)).tdiv 10 := by rw [q]; omega
            clear q
            go_wp2_with fail
            go_ret2
            exact ⟨by rw [HN.out]; rfl, Below.refl _ _⟩
          · have d4 : ¬ -(v : Int) < (-9223372036854775808 + ((c : Int) - 48)).tdiv 10 := by rw [q]; omega
            clear q
            have HG2 := Lib.hid (HNX.out (by omega) (by omega) (by omega))
            have HEQ : -(v : Int) * 10 - ((c : Int) - 48) = -(valN (t.take (k + 1)) : Int) := by rw [HVN.out]; omega
            go_wp2_with fail
            go_round
            case rel => exact ⟨k + 1, by omega, by simp, by rw [← HEQ], HG2⟩
            case measure => simp [intOf]; omega
    · obtain rfl : k = t.length := by omega
      have HGS := Lib.hid (show DigsOk t by have := HG.out; rwa [List.take_length] at this)
      have hvb : valN t ≤ 9223372036854775808 := HGS.out.2
      have htk : t.take t.length = t := List.take_length
      rw [htk]
      clear htk
      by_cases g : valN t = 9223372036854775808
      · have HN := Lib.hid (numF_big HP.out g)
        rw [g]
        go_wp2_with fail
        go_ret2
        exact ⟨by rw [HN.out]; rfl, Below.refl _ _⟩
      · have g9 : valN t ≤ 9223372036854775807 := by omega
        have d1 : (-(valN t : Int) == -9223372036854775808) = false := by rw [beq_eq_false_iff_ne]; omega
        go_wp2_with fail
        refine (rdecimal_any (valN t : Int) (by omega) (by omega) _).mono ?_
        rintro e w2 ⟨rfl, hb2⟩
        have HB := Lib.hid hb2
        clear hb2
        by_cases hq : decB (valN t : Int) = t
        · have HN := Lib.hid (numF_again (by omega) (by omega) hq)
          have bq : ((strB (decB (valN t : Int))).toList == S.toList) = true := by rw [ByteArray.toList_eq, strB_list, HSL.out, hq]; simp
          clear hq
          generalize strB (decB (valN t : Int)) = D at bq ⊢
          go_wp2_with fail
          go_ret2
          exact ⟨by rw [HN.out]; rfl, HB.out⟩
        · have HN := Lib.hid (numF_other HP.out (n := (valN t : Int)) (by simp) hq)
          have bq : ((strB (decB (valN t : Int))).toList == S.toList) = false := by rw [ByteArray.toList_eq, strB_list, HSL.out]; simpa using hq
          clear hq
          generalize strB (decB (valN t : Int)) = D at bq ⊢
          go_wp2_with fail
          go_ret2
          exact ⟨by rw [HN.out]; rfl, HB.out⟩
theorem rnumber_any (l : List UInt8) (hl : l.length ≤ 100000) (w : World) :
    Calls Tryd.prog 30 #[.string (strB l)] w (NumIs (numF l) w) := by
  by_cases h : l = [] ∨ 20 < l.length
  · exact rnumber_long l hl h w
  · have h20 : l.length ≤ 20 := by omega
    have h0 : l ≠ [] := fun e => h (.inl e)
    cases l with
    | nil => exact absurd rfl h0
    | cons a t =>
      by_cases ha : a = 45
      · subst ha; exact rnumber_minus t h20 w
      · exact rnumber_plain (a :: t) h20 h0 (by simpa using ha) w
end Go.Proofs.YtmkcooamgojbpaaDoor.Lines
