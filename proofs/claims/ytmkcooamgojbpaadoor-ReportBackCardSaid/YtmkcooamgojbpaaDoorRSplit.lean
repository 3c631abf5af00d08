/- damperref35.Split. -/
import Derived.Test.YtmkcooamgojbpaaDoorNumberW
import Derived.Test.YtmkcooamgojbpaaDoorRDecimal
import Derived.Test.YtmkcooamgojbpaaDoorGrow
import Derived.IntWalk
namespace Go.Proofs.YtmkcooamgojbpaaDoor.Lines
open Go.RowKit Go.Proofs.YtmkcooamgojbpaaDoor.Kit Go.Proofs.YtmkcooamgojbpaaDoor.Blk Go.Proofs.YtmkcooamgojbpaaDoor.Dec Go.Proofs.YtmkcooamgojbpaaDoor.Words Go.Proofs.YtmkcooamgojbpaaDoor.Octets
attribute [local go_sem ↓] Go.wp_at_zero Go.wp_at_succ
set_option linter.unusedVariables false

/-- The last of a row stored. -/
theorem GL.last {n0 n cap g : Nat} {w W : World} {xs : List Value} {u u' : Value} (h : GL n0 9 1 w W (.slice (some ⟨g, 0, none⟩) n cap) n (xs ++ [u])) (hn : n = xs.length + 1) (hge : n0 ≤ g) :
    GL n0 9 1 w (W.setCell ⟨g, n - 1, none⟩ u') (.slice (some ⟨g, 0, none⟩) n cap) n (xs ++ [u']) := by
  have hs := World.ownsRow.stored h.own (n - 1) u'
  have e : (xs ++ [u]).set (n - 1) u' = xs ++ [u'] := by
    subst hn
    rw [Nat.add_sub_cancel, List.set_append]
    simp
  rw [e] at hs
  exact ⟨hs.1, h.bel.setCell hge _, Nat.le_trans h.le hs.2.size, fun h0 => by omega⟩
theorem GL.ge {n0 n cap g s T : Nat} {w W : World} {xs : List Value} (h : GL n0 T s w W (.slice (some ⟨g, 0, none⟩) n cap) n xs) : n0 ≤ g ∧ g < W.heap.size := World.ownsRow.lt h.own g rfl
theorem one_char (l : List UInt8) (k : Nat) (h : k < l.length) : (strB l).extract k (k + 1) = strB [l[k]] := by
  apply ByteArray.ext
  simp [strB]
  rw [List.drop_eq_getElem_cons h]
  rfl
set_option maxRecDepth 20000 in
set_option maxHeartbeats 4000000 in
theorem rsplit_any (l : List UInt8) (hl : l.length ≤ 100000) (w : World) :
    Calls Tryd.prog 32 #[.string (strB l)] w (SplitIs l w) := by
  by_cases h : l = []
  · subst h
    have b1 : (strB []).toList = [] := by rw [ByteArray.toList_eq, strB_list]
    go_enter Tryd.func32, Tryd.ntmps32
    go_wp2_with fail
    go_ret
    exact ⟨_, rfl, .inl ⟨rfl, rfl⟩, Below.refl _ _⟩
  · obtain ⟨i0, hi0, hz0, hz1, hz2⟩ := info_parts infoStr
    have HSW := Lib.hid (show splitW l = cutW 32 l by unfold splitW; rw [if_neg h])
    have b1 : ((strB l).toList == []) = false := by rw [ByteArray.toList_eq, strB_list]; simpa using h
    have b2 : ((strB l).toList.isEmpty) = false := by rw [ByteArray.toList_eq, strB_list]; simpa using h
    have z1 : (strB l).size = l.length := strB_size l
    have hG0 := Lib.hid (show GL w.heap.size 9 1 w (w.alloc (.cells #[.string ⟨#[]⟩] 9)) (.slice (some ⟨w.heap.size, 0, none⟩) 1 1) 1 (strs (cutW 32 [])) from
      ⟨World.ownsRow_lit (base := w.heap.size) (size := 1) w #[.string ⟨#[]⟩] 1 (Nat.le_refl _) (by decide) rfl, (Below.refl _ _).alloc (Nat.le_refl _) _, by simp, fun h => by cases h⟩)
    clear h
    go_enter Tryd.func32, Tryd.ntmps32
    go_wp2_with fail
    go_loopw [3, 4] (fun o i wr => ∃ k g cap n : Nat, k ≤ l.length ∧ i = .int .i64 k ∧ o = .slice (some ⟨g, 0, none⟩) n cap ∧ n = (cutW 32 (l.take k)).length ∧ n ≤ cap ∧ GL w.heap.size 9 1 w wr (.slice (some ⟨g, 0, none⟩) n cap) n (strs (cutW 32 (l.take k)))) (fun _ i _ => l.length - (intOf i).toNat)
    case atStart => exact ⟨0, w.heap.size, 1, 1, by omega, rfl, rfl, rfl, Nat.le_refl _, hG0.out⟩
    case round =>
      obtain ⟨k, g, cap, n, hk, rfl, rfl, hn, hcap, hgl⟩ := hrel
      have HGL := Lib.hid hgl
      clear hgl hG0
      have hnb : n ≤ 100001 := by rw [hn, cut_len]; have := List.count_le_length (a := (32 : UInt8)) (l := l.take k); rw [List.length_take] at this; omega
      have HNN := Lib.hid hn
      clear hn
      by_cases hlt : k < l.length
      · have htk := List.take_succ_eq_append_getElem hlt
        have hat := strB_at l k (by omega) hlt
        by_cases hc : l[k] = 32
        · have HE := Lib.hid (show cutW 32 (l.take (k + 1)) = cutW 32 (l.take k) ++ [[]] by rw [htk, hc, cut_snoc_sep])
          have b3 : ∀ h, ((((strB l)[k]'h).toNat : Int) == 32) = true := fun h => by rw [hat, hc]; rfl
          have HN := Lib.hid (HGL.out.new #[.string ⟨#[]⟩])
          clear htk hat hc
          go_wp2_with (at_builtin; refine GN.wp HN.out rfl _ _ 33 (by rfl) i0 (.string ByteArray.empty) 16 Tryd.underlying33 hi0 hz0 hz1 hz2 rfl (by decide) (by rfl) (by rfl) rfl (by simp [Value.oneCell']) (by unfold maxLen; omega) (by omega) ?_; intro g5 cap5 w5 H5; replace H5 := Lib.hid H5)
          have HN5 : Hid (n + 1 = (cutW 32 (l.take (k + 1))).length) := Lib.hid (by rw [HE.out, List.length_append, ← HNN.out]; rfl)
          have hc5 : n + 1 ≤ cap5 := (by
            rcases H5.out.own.2 with ⟨h, _⟩ | ⟨_, _, _, h, _, _, h1, _⟩
            · cases h
            · injection h with _ _ h; subst h; exact h1)
          go_roundw
          case rel => exact ⟨k + 1, g5, cap5, n + 1, by omega, by go_num, rfl, HN5.out, hc5, by rw [HE.out, strs_app]; exact H5.out⟩
          case measure => simp [intOf]; omega
        · obtain ⟨us, u, hu1, hu2⟩ := cut_snoc hc (l.take k)
          have HE := Lib.hid (show cutW 32 (l.take (k + 1)) = us ++ [u ++ [l[k]]] by rw [htk, hu2])
          have b3 : ∀ h, ((((strB l)[k]'h).toNat : Int) == 32) = false := fun h => by
            rw [hat, beq_eq_false_iff_ne]
            intro e
            exact hc (UInt8.toNat_inj.1 (by show l[k].toNat = 32; omega))
          have hn1 : n = us.length + 1 := by rw [HNN.out, hu1]; simp
          have hgl := HGL.out
          rw [hu1, strs_app] at hgl
          have hge := (GL.ge hgl).1
          have cl : wr.cell? ⟨g, n - 1, none⟩ = some (.string (strB u)) := by
            rw [World.ownsRow.cellAt hgl.own (n - 1) (by omega), hn1, Nat.add_sub_cancel]
            have := strs_len us
            rw [List.getElem?_append_right (by omega), this]
            simp [strs]
          have fl : wr.frozen? ⟨g, n - 1, none⟩ = false := World.ownsRow.frozenAt hgl.own _
          have HST := Lib.hid (GL.last (u' := .string (strB u ++ (strB l).extract k (k + 1))) (show GL w.heap.size 9 1 w wr (.slice (some ⟨g, 0, none⟩) n cap) n (strs us ++ [.string (strB u)]) from hgl) (by rw [strs_len]; exact hn1) hge).drew
          clear htk hat hc hu2 hgl HGL hge
          obtain ⟨j, rfl⟩ : ∃ j, n = j + 1 := ⟨n - 1, by omega⟩
          rw [Nat.add_sub_cancel] at cl fl HST
          have he1 := one_char l k hlt
          have g1 : ¬ 9223372036854775807 < (strB u).size + (strB [l[k]]).size := by
            rw [strB_size, strB_size]
            have : u.length ≤ l.length := by
              have h1 := cut_bytes 32 (l.take k) u (by rw [hu1]; simp)
              rw [List.length_take] at h1
              omega
            simp; omega
          have HU := Lib.hid hu1
          have HN1 := Lib.hid hn1
          rw [he1] at HST
          have HSA := Lib.hid (strB_app u [l[k]])
          clear hu1 hn1
          generalize strB [l[k]] = C at he1 g1 HST HSA
          have v1 : IntKind.i64.wrap (j : Int) = (j : Int) := IntWalk.i64_in _ (by omega)
          have v2 : IntKind.i64.wrap ((k : Int) + 1) = (k : Int) + 1 := IntWalk.i64_in _ (by omega)
          have v3 : (j : Int) < (j : Int) + 1 := by omega
          have v5 : (k : Int) ≤ (k : Int) + 1 := by omega
          have v6 : (k : Int) + 1 ≤ (l.length : Int) := by omega
          have v7 : k + 1 ≤ l.length := hlt
          have v8 : k ≤ k + 1 := by omega
          have v4 : ((k : Int) + 1).toNat = k + 1 := by omega
          go_upto_region 9 with fail
          refine wp_region_still_tail 17 (by kernel_rfl) (by kernel_rfl) ?_
          simp only [List.take_succ_cons, List.take_zero, List.drop_succ_cons, List.drop_zero]
          repeat still_step
          refine wpStill_nil ?_
          change wpList _ _ _ _ _ wr.drew
          clear v1 v2 v3 v4 v5 v6 v7 v8
          have fl' : wr.drew.frozen? ⟨g, j, none⟩ = false := fl
          have cl' : wr.drew.cell? ⟨g, j, none⟩ = some (.string (strB u)) := cl
          go_wp2_with fail
          go_roundw
          case rel => exact ⟨k + 1, g, cap, j + 1, by omega, by go_num, rfl, by rw [HE.out, HN1.out]; simp, hcap, by rw [HE.out, strs_app]; show GL _ _ _ _ _ _ _ (strs us ++ [.string (strB (u ++ [l[k]]))]); rw [← HSA.out]; exact HST.out⟩
          case measure => simp [intOf]; omega
      · obtain rfl : k = l.length := by omega
        have HR := Lib.hid (show SplitIs l w (.returned (.slice (some ⟨g, 0, none⟩) n cap)) wr from by
          have hn := HNN.out
          have hg := HGL.out
          rw [List.take_length] at hn hg
          have hge := GL.ge hg
          refine ⟨_, rfl, .inr ⟨?_, g, cap, ?_, ?_, hge.2, fun j hj => ?_⟩, hg.bel⟩
          · rw [HSW.out]; exact List.length_pos_iff.2 (cutW_ne _ _)
          · rw [HSW.out, ← hn]
          · rw [HSW.out, ← hn]; exact hcap
          · rw [HSW.out] at hj
            rw [World.ownsRow.cellAt hg.own j (by omega)]
            simp [strs, hj, HSW.out])
        go_wp2_with fail
        go_ret
        exact HR.out
end Go.Proofs.YtmkcooamgojbpaaDoor.Lines
