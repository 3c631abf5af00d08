/- Parts of the proof: RParse, RepAlive. -/
import Derived.Test.YtmkcooamgojbpaaDoorPart25
import Derived.Test.YtmkcooamgojbpaaDoorPart24
import Derived.Test.YtmkcooamgojbpaaDoorPart26

/- damperref36.Parse. -/
namespace Go.Proofs.YtmkcooamgojbpaaDoor.Reports
open Go.RowKit Go.Proofs.YtmkcooamgojbpaaDoor.Kit Go.Proofs.YtmkcooamgojbpaaDoor.Blk Go.Proofs.YtmkcooamgojbpaaDoor.Dec Go.Proofs.YtmkcooamgojbpaaDoor.Words Go.Proofs.YtmkcooamgojbpaaDoor.Octets Go.Proofs.YtmkcooamgojbpaaDoor.Lines Go.Proofs.YtmkcooamgojbpaaDoor.Msgs Go.Proofs.YtmkcooamgojbpaaDoor.Open
attribute [local go_sem ↓] Go.wp_at_zero Go.wp_at_succ
set_option linter.unusedVariables false

structure QS (w : World) (rb A T : Nat) (ws : List (List UInt8)) (cs : Array Value) (W : World) : Prop where
  m : Blk W w.heap.size zeroM 62
  a : Blk W A cs T
  row : ∀ j, (h : j < ws.length) → W.cell? ⟨rb, j, none⟩ = some (.string (strB ws[j]))
  bel : Below w.heap.size w W
  ra : rb < A
  ma : w.heap.size < A
section
variable {w W W' : World} {rb A T : Nat} {ws : List (List UInt8)} {cs : Array Value}
theorem QS.below (h : QS w rb A T ws cs W) (hb : Below W.heap.size W W') : QS w rb A T ws cs W' :=
  ⟨h.m.below hb h.m.lt, h.a.below hb h.a.lt, fun j hj => by rw [hb.cell (p := ⟨rb, j, none⟩) (Nat.lt_trans h.ra h.a.lt)]; exact h.row j hj, h.bel.trans (hb.mono h.bel.size), h.ra, h.ma⟩
theorem QS.drew (h : QS w rb A T ws cs W) : QS w rb A T ws cs W.drew := h.below (Below.refl _ _).drew
theorem QS.put (h : QS w rb A T ws cs W) (i : Nat) (v : Value) : QS w rb A T ws (cs.setIfInBounds i v) (W.setCell ⟨A, i, none⟩ v) :=
  have h1 := h.ra; have h2 := h.ma
  ⟨h.m.apart _ _ (by show A ≠ _; omega), h.a.set i v, fun j hj => by
    rw [World.cell?_of_block (w := W) (w' := W.setCell ⟨A, i, none⟩ v) (a := ⟨rb, j, none⟩) (Below.heap_setCell _ _ _ _ (by show rb ≠ A; omega))]; exact h.row j hj, h.bel.setCell (by show _ ≤ A; omega) _, h.ra, h.ma⟩
end
/-- The numbers read so far. -/
def numsK (ws : List (List UInt8)) (k : Nat) (cs : Array Value) : Prop := cs.size = 9 ∧ ∀ j, j < 9 → cs[j]? = some (.int .i64 (if j < k then numAt ws j else 0))
theorem numsK_put {ws : List (List UInt8)} {k : Nat} {cs : Array Value} (h : numsK ws k cs) (hk : k < 9) : numsK ws (k + 1) (cs.setIfInBounds k (.int .i64 (numAt ws k))) := by
  refine ⟨by simpa using h.1, fun j hj => ?_⟩
  by_cases e : j = k
  · subst e
    rw [Array.getElem?_setIfInBounds_self_of_lt (by rw [h.1]; omega), if_pos (Nat.lt_succ_self _)]
  · rw [Array.getElem?_setIfInBounds_ne (by omega), h.2 j hj]
    by_cases e2 : j < k
    · rw [if_pos e2, if_pos (by omega)]
    · rw [if_neg e2, if_neg (by omega)]
/-- The kind, as far as it was looked for. -/
def kindUp (x : List UInt8) (k : Nat) : Int := if kindF x < k then kindF x else 0
theorem word_is {x : List UInt8} {k : Nat} (h1 : 1 ≤ k) (h9 : k ≤ 9) : wordK k = x ↔ kindF x = k := by
  constructor
  · intro h; rw [← h]; exact word_kind (by omega)
  · intro h; rw [← h]; exact kind_word x (by omega)
theorem guess_nine {l : List UInt8} {ws : List (List UInt8)} (h : ws.length = 9) : guessW l ws = if rightM (msgOfW ws) = true ∧ lineM (msgOfW ws) = l then some (msgOfW ws) else none := by
  obtain ⟨a, b, c, d, e, f, g, x, y, rfl⟩ := list_nine h
  rfl
theorem numAt_in (ws : List (List UInt8)) (j : Nat) : -9223372036854775808 ≤ numAt ws j ∧ numAt ws j ≤ 9223372036854775807 := by
  unfold numAt
  cases e : numF ((ws[j]?).getD []) with
  | none => simp
  | some n => have := (numF_iff _ n).1 e; simp; omega
theorem fits_ofW (ws : List (List UInt8)) : Fits (msgOfW ws) := by
  have hk := kind_le ((ws[3]?).getD [])
  refine ⟨?_, numAt_in ws 2, numAt_in ws 0, numAt_in ws 1, numAt_in ws 4, numAt_in ws 5, numAt_in ws 6, numAt_in ws 7, numAt_in ws 8⟩
  simp only [msgOfW, in64]; omega
def kcells (ws : List (List UInt8)) (z : Int) : Array Value := #[.int .i64 z, .int .i64 (numAt ws 2), .int .i64 (numAt ws 0), .int .i64 (numAt ws 1), .int .i64 (numAt ws 4), .int .i64 (numAt ws 5), .int .i64 (numAt ws 6), .int .i64 (numAt ws 7), .int .i64 (numAt ws 8)]
theorem kcells_msg (ws : List (List UInt8)) : kcells ws (kindF ((ws[3]?).getD [])) = (msgOfW ws).cells := rfl
theorem kindUp_one (x : List UInt8) : kindUp x 1 = 0 := by
  unfold kindUp
  have := kind_le x
  split
  · have : kindF x < ((1 : Nat) : Int) := by assumption
    omega
  · rfl
theorem kindUp_yes {x : List UInt8} {k : Nat} (h : kindF x = k) : kindUp x (k + 1) = k := by
  unfold kindUp
  rw [if_pos (by omega), h]
theorem kindUp_no {x : List UInt8} {k : Nat} (h : kindF x ≠ k) : kindUp x (k + 1) = kindUp x k := by
  unfold kindUp
  by_cases e : kindF x < k
  · rw [if_pos e, if_pos (by omega)]
  · rw [if_neg e, if_neg (by omega)]
theorem kindUp_all (x : List UInt8) : kindUp x 10 = kindF x := by
  unfold kindUp
  have := kind_le x
  exact if_pos (by show _ < ((10 : Nat) : Int); omega)
set_option maxRecDepth 20000 in
set_option maxHeartbeats 8000000 in
theorem rparse_short (l : List UInt8) (hl : l.length ≤ 100000) (w : World) (h9 : (splitW l).length ≠ 9) :
    Calls Tryd.prog 41 #[.string (strB l)] w (ParseIs (parseM l) w) := by
  have HP := Lib.hid (show parseM l = none from parseW_len h9)
  have HS := Lib.hid (rsplit_any l hl (w.alloc (.cells zeroM 62)))
  have h9' : (((splitW l).length : Int) != 9) = true := by simpa using (fun h => h9 (by omega))
  go_enter Tryd.func41, Tryd.ntmps41
  go_wp2_with fail
  refine HS.out.mono ?_
  rintro e w1 ⟨v, rfl, hrow, hb⟩
  have HB := Lib.hid (((Below.refl w.heap.size w).alloc (Nat.le_refl _) (.cells zeroM 62)).trans (hb.mono (by simp)))
  have HM := Lib.hid ((Blk.new w zeroM 62 w.heap.size rfl).below hb (by simp))
  clear hb
  obtain ⟨a, c, rfl⟩ : ∃ a c, v = .slice a (splitW l).length c := by
    rcases hrow with ⟨h1, h2⟩ | ⟨_, b, c, h1, _⟩
    · exact ⟨_, _, by rw [h1]; exact h2⟩
    · exact ⟨_, _, h1⟩
  clear hrow h9
  go_wp2_with (refine store_blk (by rfl) 62 _ _ (by rfl) w.heap.size (by rfl) zeroM zeroM 62 HM.out (by rfl) rfl (by kernel_rfl) one_zeroM ?_)
  refine bodyPost_ret (results_blk_tmp (cs := zeroM) rfl rfl (HM.out.setCells zeroM rfl) Tryd.underlying62 rfl (by kernel_rfl)) rfl ⟨by rw [HP.out]; rfl, Below.setCells _ _ _ HB.out (Nat.le_refl _)⟩
set_option maxRecDepth 20000 in
set_option maxHeartbeats 8000000 in
theorem rparse_nine (l : List UInt8) (hl : l.length ≤ 100000) (w : World) (h9 : (splitW l).length = 9) :
    Calls Tryd.prog 41 #[.string (strB l)] w (ParseIs (parseM l) w) := by
  have HS := Lib.hid (rsplit_any l hl (w.alloc (.cells zeroM 62)))
  have HWL := Lib.hid (split_bytes l)
  have HPM := Lib.hid (guess_eq l)
  unfold SplitIs at HS
  generalize splitW l = ws at HS h9 HWL HPM
  go_enter Tryd.func41, Tryd.ntmps41
  go_wp2_with fail
  refine HS.out.mono ?_
  rintro e w1 ⟨v, rfl, hrow, hb⟩
  have hM := (Blk.new w zeroM 62 w.heap.size rfl).below hb (by simp)
  have hB := (((Below.refl w.heap.size w).alloc (Nat.le_refl _) (.cells zeroM 62)).trans (hb.mono (by simp)))
  obtain ⟨rb, cap, rfl, hcap, hrb, hcells⟩ : ∃ b c, v = .slice (some ⟨b, 0, none⟩) 9 c ∧ 9 ≤ c ∧ b < w1.heap.size ∧ ∀ j, (h : j < ws.length) → w1.cell? ⟨b, j, none⟩ = some (.string (strB ws[j])) := by
    rcases hrow with ⟨h1, h2⟩ | ⟨_, b, c, h1, h2, h3, h4⟩
    · rw [h1] at h9; cases h9
    · exact ⟨b, c, by rw [h1, h9], by omega, h3, h4⟩
  have HQ := Lib.hid (show QS w rb w1.heap.size 145 ws zeroM (w1.alloc (.cells zeroM 145)) from
    ⟨hM.old _, Blk.new w1 _ _ _ rfl, fun j hj => by rw [cell_old _ _ _ hrb]; exact hcells j hj, hB.alloc hB.size _, hrb, hM.lt⟩)
  have hsz := hM.lt
  clear hb hM hB hrow hcells HS
  go_wp2_with fail
  unfold zeroM at HQ
  generalize w1.alloc _ = w2 at HQ ⊢
  generalize w1.heap.size = A at HQ hsz hrb ⊢
  go_loopw [6] (fun i wr => ∃ (k : Nat) (cs : Array Value), k ≤ 9 ∧ i = .int .i64 k ∧ QS w rb A 145 ws cs wr ∧ numsK ws k cs) (fun i _ => 9 - (intOf i).toNat)
  case atStart => exact ⟨0, _, by omega, rfl, HQ.out, rfl, fun j hj => by
    have : j = 0 ∨ j = 1 ∨ j = 2 ∨ j = 3 ∨ j = 4 ∨ j = 5 ∨ j = 6 ∨ j = 7 ∨ j = 8 := by omega
    rcases this with rfl | rfl | rfl | rfl | rfl | rfl | rfl | rfl | rfl <;> rfl⟩
  case round =>
    obtain ⟨k, cs, hk, rfl, hq, hnk⟩ := hrel
    clear HQ
    have HQ := Lib.hid hq
    have HNK := Lib.hid hnk
    clear hq hnk
    by_cases hlt : k < 9
    · have ck : wr.cell? ⟨rb, k, none⟩ = some (.string (strB (ws[k]'(by omega)))) := HQ.out.row k (by omega)
      have HW := Lib.hid (rnumber_any (ws[k]'(by omega)) (Nat.le_trans (HWL.out _ (List.getElem_mem _)) hl) wr)
      have HX : Hid ((numF (ws[k]'(by omega))).getD 0 = numAt ws k) := Lib.hid (by unfold numAt; rw [List.getElem?_eq_getElem (by omega)]; rfl)
      unfold NumIs at HW
      rw [HX.out] at HW
      generalize hxx : ws[k]'(by omega) = x at ck HW HX
      clear hxx
      go_wp2_with fail
      refine HW.out.mono ?_
      rintro e w3 ⟨rfl, hb3⟩
      have HQ3 := Lib.hid (HQ.out.below hb3)
      have HQ4 := Lib.hid (HQ3.out.put k (.int .i64 (numAt ws k)))
      have ca := HQ3.out.a.cell k (HNK.out.2 k hlt)
      have fa := HQ3.out.a.free k
      clear hb3 ck HQ HW HX
      go_wp2_with fail
      go_roundw
      case rel => exact ⟨k + 1, _, by omega, by go_num, HQ4.out, numsK_put HNK.out hlt⟩
      case measure => simp [intOf]; omega
    · obtain rfl : k = 9 := by omega
      rw [show ((9 : Nat) : Int) = 9 from rfl]
      have hnum : ∀ j, j < 9 → wr.cell? ⟨A, j, none⟩ = some (.int .i64 (numAt ws j)) := fun j hj => by
        have := HQ.out.a.cell j (HNK.out.2 j hj)
        rwa [if_pos hj] at this
      have d0 := hnum 0 (by decide)
      have d1 := hnum 1 (by decide)
      have d2 := hnum 2 (by decide)
      have d4 := hnum 4 (by decide)
      have d5 := hnum 5 (by decide)
      have d6 := hnum 6 (by decide)
      have d7 := hnum 7 (by decide)
      have d8 := hnum 8 (by decide)
      have HB := Lib.hid (show QS w rb wr.heap.size 62 ws (kcells ws 0) (wr.alloc (.cells (kcells ws 0) 62)) from
        ⟨HQ.out.m.old _, Blk.new wr _ _ _ rfl, fun j hj => by rw [cell_old _ _ _ (Nat.lt_trans HQ.out.ra HQ.out.a.lt)]; exact HQ.out.row j hj, HQ.out.bel.alloc HQ.out.bel.size _, Nat.lt_trans HQ.out.ra HQ.out.a.lt, Nat.lt_trans HQ.out.ma HQ.out.a.lt⟩)
      have HGN := Lib.hid (guess_nine (l := l) h9)
      obtain ⟨x, hx⟩ : ∃ x, ws[3]'(by omega) = x := ⟨_, rfl⟩
      have hx2 : (ws[3]?).getD [] = x := by rw [List.getElem?_eq_getElem (by omega), ← hx]; rfl
      have HX := Lib.hid hx
      have HKM := Lib.hid (kcells_msg ws)
      rw [hx2] at HKM
      clear hx hx2 hnum HNK HQ hk hlt
      unfold kcells at HB
      go_wp2_with fail
      generalize wr.alloc _ = w5 at HB ⊢
      generalize wr.heap.size = Q at HB ⊢
      go_loopw [8] (fun i wr => ∃ k : Nat, 1 ≤ k ∧ k ≤ 10 ∧ i = .int .i64 k ∧ QS w rb Q 62 ws (kcells ws (kindUp x k)) wr) (fun i _ => 10 - (intOf i).toNat)
      case atStart => exact ⟨1, by omega, by omega, rfl, by rw [kindUp_one]; exact HB.out⟩
      case round =>
        obtain ⟨k, hk1, hk, rfl, hq⟩ := hrel
        clear HB
        have HQ := Lib.hid hq
        clear hq
        by_cases hlt : k < 10
        · have ck : wr.cell? ⟨rb, 3, none⟩ = some (.string (strB x)) := by rw [← HX.out]; exact HQ.out.row 3 (by omega)
          have hk9 : (k : Int) < 10 := by omega
          have hw := word_is (x := x) hk1 (by omega)
          by_cases hq : wordK (k : Int) = x
          · have HU := Lib.hid (kindUp_yes (hw.1 hq))
            have bq : ((strB (wordK (k : Int))).toList == (strB x).toList) = true := by rw [hq]; simp
            clear hq hw
            go_upto_region 13 with fail
            refine wp_region_held_drew (S := (fun w' => w'.cell? ⟨rb, 3, none⟩ = some (.string (strB x)))) (by kernel_rfl) ck (fun hHeld => ?_)
            replace HQ := Lib.hid HQ.out.drew
            clear ck
            generalize wr.drew = wd at HQ hHeld ⊢
            refine wpAnyH_take (i := 0) (oi := ⟨some 52, _, _, _, _, _⟩) (v := ?_) rfl (by kernel_rfl) (by kernel_rfl) (by kernel_rfl) (fun _ _ _ h => h) (Or.inl ⟨by rfl, ?_⟩) (by assumption) ?_
            rotate_left
            · (intro w hSw; (try dsimp only at hSw); go_simp; (try with_reducible rfl))
            simp only [Act.put, List.setIfInBounds_toArray, List.set_cons_zero, List.set_cons_succ]
            refine wpAnyH_take (i := 2) (oi := ⟨some 54, _, _, _, _, _⟩) (v := ?_) rfl (by kernel_rfl) (by kernel_rfl) (by kernel_rfl) (fun _ _ _ h => h) (Or.inl ⟨by rfl, ?_⟩) (by assumption) ?_
            rotate_left
            · (intro w hSw; (try dsimp only at hSw); go_simp; (try with_reducible rfl))
            simp only [Act.put, List.setIfInBounds_toArray, List.set_cons_zero, List.set_cons_succ]
            refine wpAnyH_take (i := 3) (oi := ⟨some 55, _, _, _, _, _⟩) (v := ?_) rfl (by kernel_rfl) (by kernel_rfl) (by kernel_rfl) (fun _ _ _ h => h) (Or.inl ⟨by rfl, ?_⟩) (by assumption) ?_
            rotate_left
            · (intro w hSw; (try dsimp only at hSw); go_simp; (try with_reducible rfl))
            simp only [Act.put, List.setIfInBounds_toArray, List.set_cons_zero, List.set_cons_succ]
            refine wpAnyH_take (i := 4) (oi := ⟨some 56, _, _, _, _, _⟩) (v := ?_) rfl (by kernel_rfl) (by kernel_rfl) (by kernel_rfl) (fun _ _ _ h => h) (Or.inl ⟨by rfl, ?_⟩) (by assumption) ?_
            rotate_left
            · (intro w hSw; (try dsimp only at hSw); go_simp; (try with_reducible rfl))
            simp only [Act.put, List.setIfInBounds_toArray, List.set_cons_zero, List.set_cons_succ]
            refine wpAnyH_ready (rs := [1]) (by kernel_rfl) (by simp) ?_
            refine AllReadyH.cons (o := ⟨some 53, _, _, _, _, _⟩) rfl (fun KK hK => ?_) AllReadyH.nil
            go_simp
            refine (rword_any _ _).mono ?_
            rintro e WX1 ⟨rfl, hb⟩
            replace HQ := Lib.hid (HQ.out.below hb)
            clear hb
            refine hK.out _ _ (by rw [← HX.out]; exact HQ.out.row 3 (by omega)) (fun hHeld => ?_)
            clear hK; try clear KK
            try simp only [Act.put, List.setIfInBounds_toArray, List.set_cons_zero, List.set_cons_succ]
            refine wpAnyH_take (i := 5) (oi := ⟨some 57, _, _, _, _, _⟩) (v := ?_) rfl (by kernel_rfl) (by kernel_rfl) (by kernel_rfl) (fun _ _ _ h => h) (Or.inl ⟨by rfl, ?_⟩) (by assumption) ?_
            rotate_left
            · (intro w hSw; (try dsimp only at hSw); go_simp; (try with_reducible rfl))
            simp only [Act.put, List.setIfInBounds_toArray, List.set_cons_zero, List.set_cons_succ]
            refine wpAnyH_done (by kernel_rfl) ?_ _
            clear hHeld
            have HQ4 := Lib.hid (HQ.out.put 0 (.int .i64 (k : Int)))
            have ca := HQ.out.a.cell 0 rfl
            have fa := HQ.out.a.free 0
            go_wp2_with fail
            go_roundw
            case rel => exact ⟨k + 1, by omega, by omega, by go_num, by rw [HU.out]; exact HQ4.out⟩
            case measure => simp [intOf]; omega
          · have HU := Lib.hid (kindUp_no (fun e => hq (hw.2 e)))
            have bq : ((strB (wordK (k : Int))).toList == (strB x).toList) = false := by rw [ByteArray.toList_eq, ByteArray.toList_eq, strB_list, strB_list]; simpa using hq
            clear hq hw
            go_upto_region 13 with fail
            refine wp_region_held_drew (S := (fun w' => w'.cell? ⟨rb, 3, none⟩ = some (.string (strB x)))) (by kernel_rfl) ck (fun hHeld => ?_)
            replace HQ := Lib.hid HQ.out.drew
            clear ck
            generalize wr.drew = wd at HQ hHeld ⊢
            refine wpAnyH_take (i := 0) (oi := ⟨some 52, _, _, _, _, _⟩) (v := ?_) rfl (by kernel_rfl) (by kernel_rfl) (by kernel_rfl) (fun _ _ _ h => h) (Or.inl ⟨by rfl, ?_⟩) (by assumption) ?_
            rotate_left
            · (intro w hSw; (try dsimp only at hSw); go_simp; (try with_reducible rfl))
            simp only [Act.put, List.setIfInBounds_toArray, List.set_cons_zero, List.set_cons_succ]
            refine wpAnyH_take (i := 2) (oi := ⟨some 54, _, _, _, _, _⟩) (v := ?_) rfl (by kernel_rfl) (by kernel_rfl) (by kernel_rfl) (fun _ _ _ h => h) (Or.inl ⟨by rfl, ?_⟩) (by assumption) ?_
            rotate_left
            · (intro w hSw; (try dsimp only at hSw); go_simp; (try with_reducible rfl))
            simp only [Act.put, List.setIfInBounds_toArray, List.set_cons_zero, List.set_cons_succ]
            refine wpAnyH_take (i := 3) (oi := ⟨some 55, _, _, _, _, _⟩) (v := ?_) rfl (by kernel_rfl) (by kernel_rfl) (by kernel_rfl) (fun _ _ _ h => h) (Or.inl ⟨by rfl, ?_⟩) (by assumption) ?_
            rotate_left
            · (intro w hSw; (try dsimp only at hSw); go_simp; (try with_reducible rfl))
            simp only [Act.put, List.setIfInBounds_toArray, List.set_cons_zero, List.set_cons_succ]
            refine wpAnyH_take (i := 4) (oi := ⟨some 56, _, _, _, _, _⟩) (v := ?_) rfl (by kernel_rfl) (by kernel_rfl) (by kernel_rfl) (fun _ _ _ h => h) (Or.inl ⟨by rfl, ?_⟩) (by assumption) ?_
            rotate_left
            · (intro w hSw; (try dsimp only at hSw); go_simp; (try with_reducible rfl))
            simp only [Act.put, List.setIfInBounds_toArray, List.set_cons_zero, List.set_cons_succ]
            refine wpAnyH_ready (rs := [1]) (by kernel_rfl) (by simp) ?_
            refine AllReadyH.cons (o := ⟨some 53, _, _, _, _, _⟩) rfl (fun KK hK => ?_) AllReadyH.nil
            go_simp
            refine (rword_any _ _).mono ?_
            rintro e WX1 ⟨rfl, hb⟩
            replace HQ := Lib.hid (HQ.out.below hb)
            clear hb
            refine hK.out _ _ (by rw [← HX.out]; exact HQ.out.row 3 (by omega)) (fun hHeld => ?_)
            clear hK; try clear KK
            try simp only [Act.put, List.setIfInBounds_toArray, List.set_cons_zero, List.set_cons_succ]
            refine wpAnyH_take (i := 5) (oi := ⟨some 57, _, _, _, _, _⟩) (v := ?_) rfl (by kernel_rfl) (by kernel_rfl) (by kernel_rfl) (fun _ _ _ h => h) (Or.inl ⟨by rfl, ?_⟩) (by assumption) ?_
            rotate_left
            · (intro w hSw; (try dsimp only at hSw); go_simp; (try with_reducible rfl))
            simp only [Act.put, List.setIfInBounds_toArray, List.set_cons_zero, List.set_cons_succ]
            refine wpAnyH_done (by kernel_rfl) ?_ _
            clear hHeld
            go_wp2_with fail
            go_roundw
            case rel => exact ⟨k + 1, by omega, by omega, by go_num, by rw [HU.out]; exact HQ.out⟩
            case measure => simp [intOf]; omega
        · obtain rfl : k = 10 := by omega
          have hq := HQ.out
          rw [kindUp_all, HKM.out] at hq
          replace HQ := Lib.hid hq
          have HF := Lib.hid (fits_ofW ws)
          clear hq HKM
          generalize msgOfW ws = m at HQ HF HGN
          go_wp2_with (refine load_blk (by rfl) 62 _ (by rfl) Q (by rfl) m.cells 62 HQ.out.a _ Tryd.underlying62 rfl (by kernel_rfl) ?_)
          refine (rrepLine_any m HF.out wr).mono ?_
          rintro e w6 ⟨rfl, hb6⟩
          have HQ6 := Lib.hid (HQ.out.below hb6)
          clear hb6 HQ
          have HSL := Lib.hid (show (strB l).toList = l by rw [ByteArray.toList_eq, strB_list])
          have HLM := Lib.hid (show (strB (lineM m)).toList = lineM m by rw [ByteArray.toList_eq, strB_list])
          by_cases hr : rightM m = true
          · rw [if_pos hr]
            simp only [Option.getD_some, Option.isSome_some, if_true]
            by_cases hq : lineM m = l
            · have HPN := Lib.hid (show parseM l = some m by rw [← HPM.out, HGN.out, if_pos ⟨hr, hq⟩])
              have bq : ((strB (lineM m)).toList == (strB l).toList) = true := by rw [HSL.out, HLM.out, hq]; simp
              clear hr hq
              generalize strB (lineM m) = SL at bq ⊢
              go_wp2_with (first
                | (refine load_blk (by rfl) 62 _ (by rfl) Q (by rfl) m.cells 62 HQ6.out.a _ Tryd.underlying62 rfl (by kernel_rfl) ?_)
                | (refine store_blk (by rfl) 62 _ _ (by rfl) w.heap.size (by rfl) _ m.cells 62 HQ6.out.m (by rfl) rfl (by kernel_rfl) (one_msg m) ?_))
              refine bodyPost_ret (results_blk_tmp (cs := m.cells) rfl rfl (HQ6.out.m.setCells m.cells rfl) Tryd.underlying62 rfl (by kernel_rfl)) rfl ⟨by rw [HPN.out]; rfl, Below.setCells _ _ _ HQ6.out.bel (Nat.le_refl _)⟩
            · have HPN := Lib.hid (show parseM l = none by rw [← HPM.out, HGN.out, if_neg (fun h => hq h.2)])
              have bq : ((strB (lineM m)).toList == (strB l).toList) = false := by rw [HSL.out, HLM.out]; simpa using hq
              clear hr hq
              generalize strB (lineM m) = SL at bq ⊢
              go_wp2_with (refine store_blk (by rfl) 62 _ _ (by rfl) w.heap.size (by rfl) _ zeroM 62 HQ6.out.m (by rfl) rfl (by kernel_rfl) one_zeroM ?_)
              refine bodyPost_ret (results_blk_tmp (cs := zeroM) rfl rfl (HQ6.out.m.setCells zeroM rfl) Tryd.underlying62 rfl (by kernel_rfl)) rfl ⟨by rw [HPN.out]; rfl, Below.setCells _ _ _ HQ6.out.bel (Nat.le_refl _)⟩
          · rw [if_neg hr]
            have HPN := Lib.hid (show parseM l = none by rw [← HPM.out, HGN.out, if_neg (fun h => hr h.1)])
            clear hr
            go_wp2_with (refine store_blk (by rfl) 62 _ _ (by rfl) w.heap.size (by rfl) _ zeroM 62 HQ6.out.m (by rfl) rfl (by kernel_rfl) one_zeroM ?_)
            refine bodyPost_ret (results_blk_tmp (cs := zeroM) rfl rfl (HQ6.out.m.setCells zeroM rfl) Tryd.underlying62 rfl (by kernel_rfl)) rfl ⟨by rw [HPN.out]; rfl, Below.setCells _ _ _ HQ6.out.bel (Nat.le_refl _)⟩
theorem rparse_any (l : List UInt8) (hl : l.length ≤ 100000) (w : World) : Calls Tryd.prog 41 #[.string (strB l)] w (ParseIs (parseM l) w) := by
  by_cases h9 : (splitW l).length = 9
  · exact rparse_nine l hl w h9
  · exact rparse_short l hl w h9
end Go.Proofs.YtmkcooamgojbpaaDoor.Reports

/- damperlaw36.alive. -/
namespace Go.Proofs.YtmkcooamgojbpaaDoor.Reports
open Go.RowKit Go.Proofs.YtmkcooamgojbpaaDoor.Kit Go.Proofs.YtmkcooamgojbpaaDoor.Blk Go.Proofs.YtmkcooamgojbpaaDoor.Dec Go.Proofs.YtmkcooamgojbpaaDoor.Words Go.Proofs.YtmkcooamgojbpaaDoor.Octets Go.Proofs.YtmkcooamgojbpaaDoor.Lines Go.Proofs.YtmkcooamgojbpaaDoor.Msgs Go.Proofs.YtmkcooamgojbpaaDoor.Open
attribute [local go_sem ↓] Go.wp_at_zero Go.wp_at_succ
set_option linter.unusedVariables false

def m0 : Msg := ⟨3, 0, 2, 5, 3, 7, 10, 1, 1⟩
def l0 : List UInt8 := [50, 32, 53, 32, 48, 32, 116, 114, 97, 100, 101, 32, 51, 32, 55, 32, 49, 48, 32, 49, 32, 49]
theorem m0_right : rightM m0 = true := by decide
theorem m0_fits : Fits m0 := by simp [Fits, m0, in64]
theorem m0_line : lineM m0 = l0 := by decide +kernel
theorem m0_parse : parseM l0 = some m0 := by rw [← m0_line]; exact parse_line m0_right m0_fits
def AliveIs (w : World) (e : Ending) (w' : World) : Prop := e = .returned (.bool true) ∧ Below w.heap.size w w'
set_option maxRecDepth 20000 in
set_option maxHeartbeats 4000000 in
theorem alive_any (w : World) (hm : MX w) : Calls Tryd.prog 39 #[] w (AliveIs w) := by
  have HM := Lib.hid hm
  have H1 := Lib.hid (repLine_any m0 m0_fits w hm)
  unfold RLineIs at H1
  rw [m0_right, if_pos rfl, m0_line] at H1
  have H2 := Lib.hid (fun W h => repParse_any l0 (by decide) W h)
  rw [m0_parse] at H2
  clear hm
  unfold Msg.cells m0 at H1
  go_enter Tryd.func39, Tryd.ntmps39
  go_wp2_with fail
  refine H1.out.mono ?_
  rintro e w1 ⟨rfl, hb1⟩
  have HB1 := Lib.hid hb1
  have HM1 := Lib.hid (HM.out.below (n := 0) hb1)
  clear hb1
  simp only [Option.getD_some, Option.isSome_some, if_true]
  go_wp2_with fail
  refine (H2.out w1 HM1.out).mono ?_
  rintro e w2 ⟨rfl, hb2⟩
  have HB2 := Lib.hid (HB1.out.trans (hb2.mono HB1.out.size))
  clear hb2
  simp only [Option.getD_some, Option.isSome_some, if_true]
  unfold Msg.cells m0
  have bq : ((strB l0).toList == [50, 32, 53, 32, 48, 32, 116, 114, 97, 100, 101, 32, 51, 32, 55, 32, 49, 48, 32, 49, 32, 49]) = true := by rw [ByteArray.toList_eq, strB_list]; decide
  generalize strB l0 = S at bq ⊢
  go_wp2_with fail
  refine (word_any 9 _).mono ?_
  rintro e w3 ⟨rfl, hb3⟩
  have HB3 := Lib.hid ((HB2.out.alloc HB2.out.size _).trans (hb3.mono (by have := HB2.out.size; simp; omega)))
  clear hb3
  have bw : ((strB (wordK 9)).toList == [108, 101, 118, 101, 108]) = true := by rw [ByteArray.toList_eq, strB_list]; decide
  generalize strB (wordK 9) = S9 at bw ⊢
  go_wp2_with fail
  go_ret
  exact ⟨rfl, HB3.out⟩
end Go.Proofs.YtmkcooamgojbpaaDoor.Reports
