/- Parts of the proof: RWNum, RCmdL, RCmdN, LineC. -/
import Derived.Test.YtmkcooamgojbpaaDoorPart23
import Derived.Test.YtmkcooamgojbpaaDoorPart14
import Derived.Test.YtmkcooamgojbpaaDoorPart21
import Derived.Test.YtmkcooamgojbpaaDoorPart13
import Derived.IntWalk
import Derived.Deep.DeepCutAuto
import Derived.Deep.CutBlock
import Derived.Deep.RegionHeld3
import Derived.Deep.DrawnRows

/- damperref35: num, place, sides, types, flags. -/
namespace Go.Proofs.YtmkcooamgojbpaaDoor.Lines
open Go.RowKit Go.Proofs.YtmkcooamgojbpaaDoor.Kit Go.Proofs.YtmkcooamgojbpaaDoor.Blk Go.Proofs.YtmkcooamgojbpaaDoor.Dec Go.Proofs.YtmkcooamgojbpaaDoor.Words Go.Proofs.YtmkcooamgojbpaaDoor.Octets
attribute [local go_sem ↓] Go.wp_at_zero Go.wp_at_succ
set_option linter.unusedVariables false

theorem nAt_out {ws : List Tok} {j : Nat} (h : ws.length ≤ j) : nAt ws j = 0 := by
  unfold nAt
  rw [List.getElem?_eq_none h, show (Option.getD (none : Option Tok) []) = [] from rfl, numF_long (.inl rfl)]
  rfl
theorem nAt_at {ws : List Tok} {j : Nat} (h : j < ws.length) : nAt ws j = (numF ws[j]).getD 0 := by
  unfold nAt
  rw [List.getElem?_eq_getElem h]
  rfl
set_option maxRecDepth 20000 in
theorem rnum_any (v : Value) (ws : List Tok) (hl : ∀ x ∈ ws, x.length ≤ 100000) (j : Nat) (hj : j ≤ 100000) (w : World) (h : StrRow v ws w) :
    Calls Tryd.prog 136 #[v, .int .i64 (j : Int)] w fun e w' => e = .returned (.int .i64 (nAt ws j)) ∧ Below w.heap.size w w' := by
  rcases h with ⟨rfl, rfl⟩ | ⟨h0, b, c, rfl, h2, h3, h4⟩
  · have HE := Lib.hid (nAt_out (ws := []) (j := j) (Nat.zero_le _))
    have g1 : (0 : Int) ≤ (j : Int) := by omega
    go_enter Tryd.func136, Tryd.ntmps136
    go_wp2_with fail
    go_ret
    exact ⟨by rw [HE.out]; rfl, Below.refl _ _⟩
  · by_cases hlt : j < ws.length
    · have HE := Lib.hid (nAt_at hlt)
      have g1 : ¬ (ws.length : Int) ≤ (j : Int) := by omega
      have cj : w.cell? ⟨b, j, none⟩ = some (.string (strB ws[j])) := h4 j hlt
      have HN := Lib.hid (rnumber_any ws[j] (hl _ (List.getElem_mem hlt)) w)
      generalize ws[j] = x at HE cj HN
      clear h4 hl
      go_enter Tryd.func136, Tryd.ntmps136
      go_wp2_with fail
      refine HN.out.mono ?_
      rintro e w1 ⟨rfl, hb⟩
      have HB := Lib.hid hb
      clear hb
      go_wp2_with fail
      go_ret
      exact ⟨by rw [HE.out]; rfl, HB.out⟩
    · have HE := Lib.hid (nAt_out (ws := ws) (j := j) (by omega))
      have g1 : (ws.length : Int) ≤ (j : Int) := by omega
      clear h4 hl
      go_enter Tryd.func136, Tryd.ntmps136
      go_wp2_with fail
      go_ret
      exact ⟨by rw [HE.out]; rfl, Below.refl _ _⟩
set_option maxRecDepth 20000 in
set_option maxHeartbeats 1000000 in
theorem rplace_any (B cap : Nat) (toks : List Tok) (x : Tok) (htl : toks.length ≤ 100) (w : World) (hcell : ∀ j, (h : j < toks.length) → w.cell? ⟨B, j, none⟩ = some (.string (strB toks[j]))) :
    Calls Tryd.prog 138 #[.slice (some ⟨B, 0, none⟩) toks.length cap, .string (strB x)] w fun e w' => e = .returned (.int .i64 (placeD toks x)) ∧ w' = w := by
  have HC := Lib.hid hcell
  clear hcell
  go_enter Tryd.func138, Tryd.ntmps138
  go_wp2_with fail
  go_loop [5] (fun i => ∃ k : Nat, k ≤ toks.length ∧ i = .int .i64 k ∧ Hid (placeF toks x = (placeF (toks.drop k) x).map (· + k))) (fun i => toks.length - (intOf i).toNat)
  case atStart => exact ⟨0, by omega, rfl, Lib.hid (by simp)⟩
  case round =>
    obtain ⟨k, hk, rfl, HPL⟩ := hrel
    by_cases hlt : k < toks.length
    · have ck : w.cell? ⟨B, k, none⟩ = some (.string (strB toks[k])) := HC.out k hlt
      have hkl : (k : Int) < (toks.length : Int) := by omega
      have HPD := Lib.hid (place_drop toks x k hlt)
      by_cases hx : toks[k] = x
      · have HN := Lib.hid (show placeD toks x = (k : Int) by unfold placeD; rw [HPL.out, HPD.out, if_pos hx]; simp)
        have e1 : ((strB x).toList == (strB x).toList) = true := by simp
        rw [hx] at ck
        clear HPL HPD hx
        generalize hS : strB x = S at ck e1 ⊢
        go_wp2_with fail
        go_ret
        exact ⟨by rw [HN.out]; rfl, rfl⟩
      · have e1 := strB_ne hx
        have HPL2 := Lib.hid (show placeF toks x = (placeF (toks.drop (k + 1)) x).map (· + (k + 1)) by rw [HPL.out, HPD.out, if_neg hx, Option.map_map]; congr 1; funext n; simp; omega)
        clear HPL HPD hx
        generalize strB toks[k] = T at ck e1
        go_wp2_with fail
        go_round
        case rel => exact ⟨k + 1, by omega, by go_num, HPL2⟩
        case measure => simp [intOf]; omega
    · have HN := Lib.hid (show placeD toks x = -1 by unfold placeD; rw [HPL.out, List.drop_of_length_le (by omega)]; rfl)
      clear HPL
      go_wp2_with fail
      go_ret
      exact ⟨by rw [HN.out]; rfl, rfl⟩
/-- A table of words, in a block of its own. -/
def TabIs (ws : List Tok) (w : World) (e : Ending) (w' : World) : Prop :=
  ∃ b c, e = .returned (.slice (some ⟨b, 0, none⟩) ws.length c) ∧ w.heap.size ≤ b ∧ ws.length ≤ c ∧ (∀ j, (h : j < ws.length) → w'.cell? ⟨b, j, none⟩ = some (.string (strB ws[j]))) ∧ Below w.heap.size w w'
set_option maxRecDepth 20000 in
theorem dsides_any (w : World) : Calls Tryd.prog 139 #[] w (TabIs sidesF w) := by
  go_enter Tryd.func139, Tryd.ntmps139
  go_wp2_with fail
  go_ret
  refine ⟨w.heap.size, _, rfl, Nat.le_refl _, Nat.le_refl _, fun j hj => ?_, (Below.refl _ _).alloc (Nat.le_refl _) _⟩
  refine cell_new _ _ _ _ _ _ rfl ?_
  revert j
  intro j hj
  have : j = 0 ∨ j = 1 := by simp [sidesF] at hj; omega
  rcases this with rfl | rfl <;> rfl
set_option maxRecDepth 20000 in
theorem dtypes_any (w : World) : Calls Tryd.prog 140 #[] w (TabIs typesF w) := by
  go_enter Tryd.func140, Tryd.ntmps140
  go_wp2_with fail
  go_ret
  refine ⟨w.heap.size, _, rfl, Nat.le_refl _, Nat.le_refl _, fun j hj => ?_, (Below.refl _ _).alloc (Nat.le_refl _) _⟩
  refine cell_new _ _ _ _ _ _ rfl ?_
  revert j
  intro j hj
  have : j = 0 ∨ j = 1 ∨ j = 2 ∨ j = 3 ∨ j = 4 := by simp [typesF] at hj; omega
  rcases this with rfl | rfl | rfl | rfl | rfl <;> rfl
set_option maxRecDepth 20000 in
theorem dflags_any (w : World) : Calls Tryd.prog 141 #[] w (TabIs flagsD w) := by
  go_enter Tryd.func141, Tryd.ntmps141
  go_wp2_with fail
  go_ret
  refine ⟨w.heap.size, _, rfl, Nat.le_refl _, Nat.le_refl _, fun j hj => ?_, (Below.refl _ _).alloc (Nat.le_refl _) _⟩
  refine cell_new _ _ _ _ _ _ rfl ?_
  revert j
  intro j hj
  have : j = 0 ∨ j = 1 ∨ j = 2 := by simp [flagsD] at hj; omega
  rcases this with rfl | rfl | rfl <;> rfl
end Go.Proofs.YtmkcooamgojbpaaDoor.Lines

/- damperref35.command: the line of a command that is right (printed by gen_rcmd.py). -/
namespace Go.Proofs.YtmkcooamgojbpaaDoor.Lines
open Go.RowKit Go.Proofs.YtmkcooamgojbpaaDoor.Kit Go.Proofs.YtmkcooamgojbpaaDoor.Blk Go.Proofs.YtmkcooamgojbpaaDoor.Dec Go.Proofs.YtmkcooamgojbpaaDoor.Words Go.Proofs.YtmkcooamgojbpaaDoor.Octets Go.Proofs.YtmkcooamgojbpaaDoor.Cmds
attribute [local go_sem ↓] Go.wp_at_zero Go.wp_at_succ
set_option linter.unusedVariables false

theorem cell_kept {w w' : World} {p : Addr} {v : Value} (hb : Below w.heap.size w w') (h : w.cell? p = some v) : w'.cell? p = some v := by
  rw [hb.cell (p := p) (World.block_lt_of_cell? _ _ h)]
  exact h
def TxtIs (t : Tok) (w : World) (e : Ending) (w' : World) : Prop := e = .returned (.string (strB t)) ∧ Below w.heap.size w w'
set_option maxRecDepth 20000 in
set_option maxHeartbeats 8000000 in
theorem rcommand_cancel (k s i a b t p q f : Int) (hk : k = 2) (hr : rightC ⟨k, s, i, a, b, t, p, q, f⟩ = true) (hp : -9223372036854775808 ≤ p ∧ p ≤ 9223372036854775807) (hq : -9223372036854775808 ≤ q ∧ q ≤ 9223372036854775807) (w : World) :
    Calls Tryd.prog 116 #[.agg (Cmd.cells ⟨k, s, i, a, b, t, p, q, f⟩)] w (TxtIs (joinW 32 (wordsC ⟨k, s, i, a, b, t, p, q, f⟩)) w) := by
  have HX := Lib.hid (Blk.new w (Cmd.cells ⟨k, s, i, a, b, t, p, q, f⟩) 164 w.heap.size rfl)
  have HB := Lib.hid ((Below.refl w.heap.size w).alloc (Nat.le_refl _) (.cells (Cmd.cells ⟨k, s, i, a, b, t, p, q, f⟩) 164))
  obtain ⟨hkk, hs, hi, hn⟩ := right_in hr
  dsimp only at hkk hs hi hn
  have HR := Lib.hid hr
  have HK := Lib.hid hk
  clear hr hkk hk
  dsimp only [Cmd.cells] at HX HB ⊢
  have tT00 : (strB (decB s)).size ≤ 20 := by rw [strB_size]; exact dec_len (by omega) (by omega)
  obtain ⟨T0, qT0⟩ : ∃ T, strB (decB s) = T := ⟨_, rfl⟩
  rw [qT0] at tT00
  have tT0 : T0.size ≤ 20 := tT00
  have tT10 : (strB (decB i)).size ≤ 20 := by rw [strB_size]; exact dec_len (by omega) (by omega)
  obtain ⟨T1, qT1⟩ : ∃ T, strB (decB i) = T := ⟨_, rfl⟩
  rw [qT1] at tT10
  have tT1 : T1.size ≤ 20 := tT10
  clear tT00 tT10
  obtain ⟨P1, rP1⟩ : ∃ P, (⟨#[32]⟩ : ByteArray) ++ T0 = P := ⟨_, rfl⟩
  have gP1 : ¬ 9223372036854775807 < 1 + T0.size := by omega
  have tP1 : P1.size ≤ 21 := by rw [← rP1, ByteArray.size_append]; show 1 + _ ≤ _; omega
  obtain ⟨P2, rP2⟩ : ∃ P, P1 ++ (⟨#[32]⟩ : ByteArray) = P := ⟨_, rfl⟩
  have gP2 : ¬ 9223372036854775807 < P1.size + 1 := by omega
  have tP2 : P2.size ≤ 22 := by rw [← rP2, ByteArray.size_append]; show _ + 1 ≤ _; omega
  obtain ⟨P3, rP3⟩ : ∃ P, P2 ++ T1 = P := ⟨_, rfl⟩
  have gP3 : ¬ 9223372036854775807 < P2.size + T1.size := by omega
  have tP3 : P3.size ≤ 42 := by rw [← rP3, ByteArray.size_append]; omega
  obtain ⟨R1, rR1⟩ : ∃ P, (⟨#[99, 97, 110, 99, 101, 108]⟩ : ByteArray) ++ P3 = P := ⟨_, rfl⟩
  have gR1 : ¬ 9223372036854775807 < 6 + P3.size := by omega
  have tR1 : R1.size ≤ 48 := by rw [← rR1, ByteArray.size_append]; show 6 + _ ≤ _; omega
  have HLN : Hid (R1 = strB (joinW 32 (wordsC ⟨k, s, i, a, b, t, p, q, f⟩))) := Lib.hid (by have hk := HK.out; subst hk; rw [← rR1, ← rP3, ← rP2, ← rP1, ← qT0, ← qT1, show (⟨#[32]⟩ : ByteArray) = strB [32] from rfl, show (⟨#[99, 97, 110, 99, 101, 108]⟩ : ByteArray) = strB [99, 97, 110, 99, 101, 108] from rfl]; simp only [strB_app]; congr 1; simp [wordsC, joinW, tCancel])
  clear tT0 tT1 tP1 tP2 tP3 tR1
  go_enter Tryd.func116, Tryd.ntmps116
  go_upto_region 1 with fail
  generalize w.alloc (.cells #[.int .i64 k, .int .i64 s, .int .i64 i, .int .i64 a, .int .i64 b, .int .i64 t, .int .i64 p, .int .i64 q, .int .i64 f] 164) = w1 at HX HB ⊢
  refine wp_region_held_drew (S := (fun w' => w'.cell? ⟨w.heap.size, 0, none⟩ = some (.int .i64 k) ∧ w'.cell? ⟨w.heap.size, 1, none⟩ = some (.int .i64 s) ∧ w'.cell? ⟨w.heap.size, 2, none⟩ = some (.int .i64 i) ∧ w'.cell? ⟨w.heap.size, 3, none⟩ = some (.int .i64 a) ∧ w'.cell? ⟨w.heap.size, 4, none⟩ = some (.int .i64 b) ∧ w'.cell? ⟨w.heap.size, 5, none⟩ = some (.int .i64 t) ∧ w'.cell? ⟨w.heap.size, 6, none⟩ = some (.int .i64 p) ∧ w'.cell? ⟨w.heap.size, 7, none⟩ = some (.int .i64 q) ∧ w'.cell? ⟨w.heap.size, 8, none⟩ = some (.int .i64 f))) (by kernel_rfl) ⟨HX.out.cell 0 rfl, HX.out.cell 1 rfl, HX.out.cell 2 rfl, HX.out.cell 3 rfl, HX.out.cell 4 rfl, HX.out.cell 5 rfl, HX.out.cell 6 rfl, HX.out.cell 7 rfl, HX.out.cell 8 rfl⟩ (fun hHeld => ?_)
  replace HX := Lib.hid HX.out.drew
  replace HB := Lib.hid HB.out.drew
  generalize w1.drew = w2 at HX HB hHeld ⊢
  refine wpAnyH_take (i := 0) (oi := ⟨some 5, _, _, _, _, _⟩) (v := ?_) rfl (by kernel_rfl) (by kernel_rfl) (by kernel_rfl) (fun _ _ _ h => h) (Or.inl ⟨by rfl, ?_⟩) (by assumption) ?_
  rotate_left
  · (intro w hSw; (try dsimp only at hSw); go_simp; (try with_reducible rfl))
  simp only [Act.put, List.setIfInBounds_toArray, List.set_cons_zero, List.set_cons_succ]
  refine wpAnyH_take (i := 1) (oi := ⟨some 6, _, _, _, _, _⟩) (v := ?_) rfl (by kernel_rfl) (by kernel_rfl) (by kernel_rfl) (fun _ _ _ h => h) (Or.inl ⟨by rfl, ?_⟩) (by assumption) ?_
  rotate_left
  · (intro w hSw; (try dsimp only at hSw); go_simp; (try with_reducible rfl))
  simp only [Act.put, List.setIfInBounds_toArray, List.set_cons_zero, List.set_cons_succ]
  refine wpAnyH_take (i := 5) (oi := ⟨some 10, _, _, _, _, _⟩) (v := ?_) rfl (by kernel_rfl) (by kernel_rfl) (by kernel_rfl) (fun _ _ _ h => h) (Or.inl ⟨by rfl, ?_⟩) (by assumption) ?_
  rotate_left
  · (intro w hSw; (try dsimp only at hSw); go_simp; (try with_reducible rfl))
  simp only [Act.put, List.setIfInBounds_toArray, List.set_cons_zero, List.set_cons_succ]
  refine wpAnyH_take (i := 6) (oi := ⟨some 11, _, _, _, _, _⟩) (v := ?_) rfl (by kernel_rfl) (by kernel_rfl) (by kernel_rfl) (fun _ _ _ h => h) (Or.inl ⟨by rfl, ?_⟩) (by assumption) ?_
  rotate_left
  · (intro w hSw; (try dsimp only at hSw); go_simp; (try with_reducible rfl))
  simp only [Act.put, List.setIfInBounds_toArray, List.set_cons_zero, List.set_cons_succ]
  refine wpAnyH_ready (rs := [2]) (by kernel_rfl) (by simp) ?_
  refine AllReadyH.cons (o := ⟨some 7, _, _, _, _, _⟩) rfl (fun KK hK => ?_) AllReadyH.nil
  go_simp
  refine (rdecimal_any _ (by omega) (by omega) _).mono ?_
  rintro e WX1 ⟨rfl, hb⟩
  try replace HTA := Lib.hid (cell_kept hb HTA.out)
  try replace HTB := Lib.hid (cell_kept hb HTB.out)
  replace HX := Lib.hid (HX.out.below hb HX.out.lt)
  replace HB := Lib.hid (HB.out.trans (hb.mono HB.out.size))
  clear hb
  refine hK.out _ _ ⟨HX.out.cell 0 rfl, HX.out.cell 1 rfl, HX.out.cell 2 rfl, HX.out.cell 3 rfl, HX.out.cell 4 rfl, HX.out.cell 5 rfl, HX.out.cell 6 rfl, HX.out.cell 7 rfl, HX.out.cell 8 rfl⟩ (fun hHeld => ?_)
  clear hK; try clear KK
  try simp only [Act.put, List.setIfInBounds_toArray, List.set_cons_zero, List.set_cons_succ]
  refine wpAnyH_take (i := 3) (oi := ⟨some 8, _, _, _, _, _⟩) (v := ?_) rfl (by kernel_rfl) (by kernel_rfl) (by kernel_rfl) (fun _ _ _ h => h) (Or.inl ⟨by rfl, ?_⟩) (by assumption) ?_
  rotate_left
  · (intro w hSw; (try dsimp only at hSw); go_simp; (try with_reducible rfl))
  simp only [Act.put, List.setIfInBounds_toArray, List.set_cons_zero, List.set_cons_succ]
  refine wpAnyH_take (i := 4) (oi := ⟨some 9, _, _, _, _, _⟩) (v := ?_) rfl (by kernel_rfl) (by kernel_rfl) (by kernel_rfl) (fun _ _ _ h => h) (Or.inl ⟨by rfl, ?_⟩) (by assumption) ?_
  rotate_left
  · (intro w hSw; (try dsimp only at hSw); go_simp; (try with_reducible rfl))
  simp only [Act.put, List.setIfInBounds_toArray, List.set_cons_zero, List.set_cons_succ]
  refine wpAnyH_ready (rs := [7]) (by kernel_rfl) (by simp) ?_
  refine AllReadyH.cons (o := ⟨some 12, _, _, _, _, _⟩) rfl (fun KK hK => ?_) AllReadyH.nil
  go_simp
  refine (rdecimal_any _ (by omega) (by omega) _).mono ?_
  rintro e WX2 ⟨rfl, hb⟩
  try replace HTA := Lib.hid (cell_kept hb HTA.out)
  try replace HTB := Lib.hid (cell_kept hb HTB.out)
  replace HX := Lib.hid (HX.out.below hb HX.out.lt)
  replace HB := Lib.hid (HB.out.trans (hb.mono HB.out.size))
  clear hb
  refine hK.out _ _ ⟨HX.out.cell 0 rfl, HX.out.cell 1 rfl, HX.out.cell 2 rfl, HX.out.cell 3 rfl, HX.out.cell 4 rfl, HX.out.cell 5 rfl, HX.out.cell 6 rfl, HX.out.cell 7 rfl, HX.out.cell 8 rfl⟩ (fun hHeld => ?_)
  clear hK; try clear KK
  try simp only [Act.put, List.setIfInBounds_toArray, List.set_cons_zero, List.set_cons_succ]
  refine wpAnyH_take (i := 8) (oi := ⟨some 13, _, _, _, _, _⟩) (v := ?_) rfl (by kernel_rfl) (by kernel_rfl) (by kernel_rfl) (fun _ _ _ h => h) (Or.inl ⟨by rfl, ?_⟩) (by assumption) ?_
  rotate_left
  · (intro w hSw; (try dsimp only at hSw); go_simp; (try with_reducible rfl))
  simp only [Act.put, List.setIfInBounds_toArray, List.set_cons_zero, List.set_cons_succ]
  refine wpAnyH_take (i := 9) (oi := ⟨some 3, _, _, _, _, _⟩) (v := ?_) rfl (by kernel_rfl) (by kernel_rfl) (by kernel_rfl) (fun _ _ _ h => h) (Or.inl ⟨by rfl, ?_⟩) (by assumption) ?_
  rotate_left
  · (intro w hSw; (try dsimp only at hSw); go_simp; (try with_reducible rfl))
  simp only [Act.put, List.setIfInBounds_toArray, List.set_cons_zero, List.set_cons_succ]
  refine wpAnyH_done (by kernel_rfl) ?_ _
  skip
  have c0 : WX2.cell? ⟨w.heap.size, 0, none⟩ = some (.int .i64 k) := HX.out.cell 0 rfl
  rw [HK.out] at c0
  clear hHeld
  go_wp2_with fail
  go_ret
  exact ⟨by rw [HLN.out]; rfl, HB.out⟩
set_option maxRecDepth 20000 in
set_option maxHeartbeats 8000000 in
theorem rcommand_replace (k s i a b t p q f : Int) (hk : k = 3) (hr : rightC ⟨k, s, i, a, b, t, p, q, f⟩ = true) (hp : -9223372036854775808 ≤ p ∧ p ≤ 9223372036854775807) (hq : -9223372036854775808 ≤ q ∧ q ≤ 9223372036854775807) (w : World) :
    Calls Tryd.prog 116 #[.agg (Cmd.cells ⟨k, s, i, a, b, t, p, q, f⟩)] w (TxtIs (joinW 32 (wordsC ⟨k, s, i, a, b, t, p, q, f⟩)) w) := by
  have HX := Lib.hid (Blk.new w (Cmd.cells ⟨k, s, i, a, b, t, p, q, f⟩) 164 w.heap.size rfl)
  have HB := Lib.hid ((Below.refl w.heap.size w).alloc (Nat.le_refl _) (.cells (Cmd.cells ⟨k, s, i, a, b, t, p, q, f⟩) 164))
  obtain ⟨hkk, hs, hi, hn⟩ := right_in hr
  dsimp only at hkk hs hi hn
  have HR := Lib.hid hr
  have HK := Lib.hid hk
  clear hr hkk hk
  dsimp only [Cmd.cells] at HX HB ⊢
  have tT00 : (strB (decB s)).size ≤ 20 := by rw [strB_size]; exact dec_len (by omega) (by omega)
  obtain ⟨T0, qT0⟩ : ∃ T, strB (decB s) = T := ⟨_, rfl⟩
  rw [qT0] at tT00
  have tT0 : T0.size ≤ 20 := tT00
  have tT10 : (strB (decB i)).size ≤ 20 := by rw [strB_size]; exact dec_len (by omega) (by omega)
  obtain ⟨T1, qT1⟩ : ∃ T, strB (decB i) = T := ⟨_, rfl⟩
  rw [qT1] at tT10
  have tT1 : T1.size ≤ 20 := tT10
  clear tT00 tT10
  have tT20 : (strB (decB p)).size ≤ 20 := by rw [strB_size]; exact dec_len hp.1 hp.2
  obtain ⟨T2, qT2⟩ : ∃ T, strB (decB p) = T := ⟨_, rfl⟩
  rw [qT2] at tT20
  have tT2 : T2.size ≤ 20 := tT20
  have tT30 : (strB (decB q)).size ≤ 20 := by rw [strB_size]; exact dec_len hq.1 hq.2
  obtain ⟨T3, qT3⟩ : ∃ T, strB (decB q) = T := ⟨_, rfl⟩
  rw [qT3] at tT30
  have tT3 : T3.size ≤ 20 := tT30
  clear tT20 tT30
  obtain ⟨P1, rP1⟩ : ∃ P, (⟨#[32]⟩ : ByteArray) ++ T0 = P := ⟨_, rfl⟩
  have gP1 : ¬ 9223372036854775807 < 1 + T0.size := by omega
  have tP1 : P1.size ≤ 21 := by rw [← rP1, ByteArray.size_append]; show 1 + _ ≤ _; omega
  obtain ⟨P2, rP2⟩ : ∃ P, P1 ++ (⟨#[32]⟩ : ByteArray) = P := ⟨_, rfl⟩
  have gP2 : ¬ 9223372036854775807 < P1.size + 1 := by omega
  have tP2 : P2.size ≤ 22 := by rw [← rP2, ByteArray.size_append]; show _ + 1 ≤ _; omega
  obtain ⟨P3, rP3⟩ : ∃ P, P2 ++ T1 = P := ⟨_, rfl⟩
  have gP3 : ¬ 9223372036854775807 < P2.size + T1.size := by omega
  have tP3 : P3.size ≤ 42 := by rw [← rP3, ByteArray.size_append]; omega
  obtain ⟨R1, rR1⟩ : ∃ P, (⟨#[114, 101, 112, 108, 97, 99, 101]⟩ : ByteArray) ++ P3 = P := ⟨_, rfl⟩
  have gR1 : ¬ 9223372036854775807 < 7 + P3.size := by omega
  have tR1 : R1.size ≤ 49 := by rw [← rR1, ByteArray.size_append]; show 7 + _ ≤ _; omega
  obtain ⟨R2, rR2⟩ : ∃ P, R1 ++ (⟨#[32]⟩ : ByteArray) = P := ⟨_, rfl⟩
  have gR2 : ¬ 9223372036854775807 < R1.size + 1 := by omega
  have tR2 : R2.size ≤ 50 := by rw [← rR2, ByteArray.size_append]; show _ + 1 ≤ _; omega
  obtain ⟨R3, rR3⟩ : ∃ P, R2 ++ T2 = P := ⟨_, rfl⟩
  have gR3 : ¬ 9223372036854775807 < R2.size + T2.size := by omega
  have tR3 : R3.size ≤ 70 := by rw [← rR3, ByteArray.size_append]; omega
  obtain ⟨R4, rR4⟩ : ∃ P, R3 ++ (⟨#[32]⟩ : ByteArray) = P := ⟨_, rfl⟩
  have gR4 : ¬ 9223372036854775807 < R3.size + 1 := by omega
  have tR4 : R4.size ≤ 71 := by rw [← rR4, ByteArray.size_append]; show _ + 1 ≤ _; omega
  obtain ⟨R5, rR5⟩ : ∃ P, R4 ++ T3 = P := ⟨_, rfl⟩
  have gR5 : ¬ 9223372036854775807 < R4.size + T3.size := by omega
  have tR5 : R5.size ≤ 91 := by rw [← rR5, ByteArray.size_append]; omega
  have HLN : Hid (R5 = strB (joinW 32 (wordsC ⟨k, s, i, a, b, t, p, q, f⟩))) := Lib.hid (by have hk := HK.out; subst hk; rw [← rR5, ← rR4, ← rR3, ← rR2, ← rR1, ← rP3, ← rP2, ← rP1, ← qT0, ← qT1, ← qT2, ← qT3, show (⟨#[32]⟩ : ByteArray) = strB [32] from rfl, show (⟨#[114, 101, 112, 108, 97, 99, 101]⟩ : ByteArray) = strB [114, 101, 112, 108, 97, 99, 101] from rfl]; simp only [strB_app]; congr 1; simp [wordsC, joinW, tReplace])
  clear tT0 tT1 tT2 tT3 tP1 tP2 tP3 tR1 tR2 tR3 tR4 tR5
  go_enter Tryd.func116, Tryd.ntmps116
  go_upto_region 1 with fail
  generalize w.alloc (.cells #[.int .i64 k, .int .i64 s, .int .i64 i, .int .i64 a, .int .i64 b, .int .i64 t, .int .i64 p, .int .i64 q, .int .i64 f] 164) = w1 at HX HB ⊢
  refine wp_region_held_drew (S := (fun w' => w'.cell? ⟨w.heap.size, 0, none⟩ = some (.int .i64 k) ∧ w'.cell? ⟨w.heap.size, 1, none⟩ = some (.int .i64 s) ∧ w'.cell? ⟨w.heap.size, 2, none⟩ = some (.int .i64 i) ∧ w'.cell? ⟨w.heap.size, 3, none⟩ = some (.int .i64 a) ∧ w'.cell? ⟨w.heap.size, 4, none⟩ = some (.int .i64 b) ∧ w'.cell? ⟨w.heap.size, 5, none⟩ = some (.int .i64 t) ∧ w'.cell? ⟨w.heap.size, 6, none⟩ = some (.int .i64 p) ∧ w'.cell? ⟨w.heap.size, 7, none⟩ = some (.int .i64 q) ∧ w'.cell? ⟨w.heap.size, 8, none⟩ = some (.int .i64 f))) (by kernel_rfl) ⟨HX.out.cell 0 rfl, HX.out.cell 1 rfl, HX.out.cell 2 rfl, HX.out.cell 3 rfl, HX.out.cell 4 rfl, HX.out.cell 5 rfl, HX.out.cell 6 rfl, HX.out.cell 7 rfl, HX.out.cell 8 rfl⟩ (fun hHeld => ?_)
  replace HX := Lib.hid HX.out.drew
  replace HB := Lib.hid HB.out.drew
  generalize w1.drew = w2 at HX HB hHeld ⊢
  refine wpAnyH_take (i := 0) (oi := ⟨some 5, _, _, _, _, _⟩) (v := ?_) rfl (by kernel_rfl) (by kernel_rfl) (by kernel_rfl) (fun _ _ _ h => h) (Or.inl ⟨by rfl, ?_⟩) (by assumption) ?_
  rotate_left
  · (intro w hSw; (try dsimp only at hSw); go_simp; (try with_reducible rfl))
  simp only [Act.put, List.setIfInBounds_toArray, List.set_cons_zero, List.set_cons_succ]
  refine wpAnyH_take (i := 1) (oi := ⟨some 6, _, _, _, _, _⟩) (v := ?_) rfl (by kernel_rfl) (by kernel_rfl) (by kernel_rfl) (fun _ _ _ h => h) (Or.inl ⟨by rfl, ?_⟩) (by assumption) ?_
  rotate_left
  · (intro w hSw; (try dsimp only at hSw); go_simp; (try with_reducible rfl))
  simp only [Act.put, List.setIfInBounds_toArray, List.set_cons_zero, List.set_cons_succ]
  refine wpAnyH_take (i := 5) (oi := ⟨some 10, _, _, _, _, _⟩) (v := ?_) rfl (by kernel_rfl) (by kernel_rfl) (by kernel_rfl) (fun _ _ _ h => h) (Or.inl ⟨by rfl, ?_⟩) (by assumption) ?_
  rotate_left
  · (intro w hSw; (try dsimp only at hSw); go_simp; (try with_reducible rfl))
  simp only [Act.put, List.setIfInBounds_toArray, List.set_cons_zero, List.set_cons_succ]
  refine wpAnyH_take (i := 6) (oi := ⟨some 11, _, _, _, _, _⟩) (v := ?_) rfl (by kernel_rfl) (by kernel_rfl) (by kernel_rfl) (fun _ _ _ h => h) (Or.inl ⟨by rfl, ?_⟩) (by assumption) ?_
  rotate_left
  · (intro w hSw; (try dsimp only at hSw); go_simp; (try with_reducible rfl))
  simp only [Act.put, List.setIfInBounds_toArray, List.set_cons_zero, List.set_cons_succ]
  refine wpAnyH_ready (rs := [2]) (by kernel_rfl) (by simp) ?_
  refine AllReadyH.cons (o := ⟨some 7, _, _, _, _, _⟩) rfl (fun KK hK => ?_) AllReadyH.nil
  go_simp
  refine (rdecimal_any _ (by omega) (by omega) _).mono ?_
  rintro e WX1 ⟨rfl, hb⟩
  try replace HTA := Lib.hid (cell_kept hb HTA.out)
  try replace HTB := Lib.hid (cell_kept hb HTB.out)
  replace HX := Lib.hid (HX.out.below hb HX.out.lt)
  replace HB := Lib.hid (HB.out.trans (hb.mono HB.out.size))
  clear hb
  refine hK.out _ _ ⟨HX.out.cell 0 rfl, HX.out.cell 1 rfl, HX.out.cell 2 rfl, HX.out.cell 3 rfl, HX.out.cell 4 rfl, HX.out.cell 5 rfl, HX.out.cell 6 rfl, HX.out.cell 7 rfl, HX.out.cell 8 rfl⟩ (fun hHeld => ?_)
  clear hK; try clear KK
  try simp only [Act.put, List.setIfInBounds_toArray, List.set_cons_zero, List.set_cons_succ]
  refine wpAnyH_take (i := 3) (oi := ⟨some 8, _, _, _, _, _⟩) (v := ?_) rfl (by kernel_rfl) (by kernel_rfl) (by kernel_rfl) (fun _ _ _ h => h) (Or.inl ⟨by rfl, ?_⟩) (by assumption) ?_
  rotate_left
  · (intro w hSw; (try dsimp only at hSw); go_simp; (try with_reducible rfl))
  simp only [Act.put, List.setIfInBounds_toArray, List.set_cons_zero, List.set_cons_succ]
  refine wpAnyH_take (i := 4) (oi := ⟨some 9, _, _, _, _, _⟩) (v := ?_) rfl (by kernel_rfl) (by kernel_rfl) (by kernel_rfl) (fun _ _ _ h => h) (Or.inl ⟨by rfl, ?_⟩) (by assumption) ?_
  rotate_left
  · (intro w hSw; (try dsimp only at hSw); go_simp; (try with_reducible rfl))
  simp only [Act.put, List.setIfInBounds_toArray, List.set_cons_zero, List.set_cons_succ]
  refine wpAnyH_ready (rs := [7]) (by kernel_rfl) (by simp) ?_
  refine AllReadyH.cons (o := ⟨some 12, _, _, _, _, _⟩) rfl (fun KK hK => ?_) AllReadyH.nil
  go_simp
  refine (rdecimal_any _ (by omega) (by omega) _).mono ?_
  rintro e WX2 ⟨rfl, hb⟩
  try replace HTA := Lib.hid (cell_kept hb HTA.out)
  try replace HTB := Lib.hid (cell_kept hb HTB.out)
  replace HX := Lib.hid (HX.out.below hb HX.out.lt)
  replace HB := Lib.hid (HB.out.trans (hb.mono HB.out.size))
  clear hb
  refine hK.out _ _ ⟨HX.out.cell 0 rfl, HX.out.cell 1 rfl, HX.out.cell 2 rfl, HX.out.cell 3 rfl, HX.out.cell 4 rfl, HX.out.cell 5 rfl, HX.out.cell 6 rfl, HX.out.cell 7 rfl, HX.out.cell 8 rfl⟩ (fun hHeld => ?_)
  clear hK; try clear KK
  try simp only [Act.put, List.setIfInBounds_toArray, List.set_cons_zero, List.set_cons_succ]
  refine wpAnyH_take (i := 8) (oi := ⟨some 13, _, _, _, _, _⟩) (v := ?_) rfl (by kernel_rfl) (by kernel_rfl) (by kernel_rfl) (fun _ _ _ h => h) (Or.inl ⟨by rfl, ?_⟩) (by assumption) ?_
  rotate_left
  · (intro w hSw; (try dsimp only at hSw); go_simp; (try with_reducible rfl))
  simp only [Act.put, List.setIfInBounds_toArray, List.set_cons_zero, List.set_cons_succ]
  refine wpAnyH_take (i := 9) (oi := ⟨some 3, _, _, _, _, _⟩) (v := ?_) rfl (by kernel_rfl) (by kernel_rfl) (by kernel_rfl) (fun _ _ _ h => h) (Or.inl ⟨by rfl, ?_⟩) (by assumption) ?_
  rotate_left
  · (intro w hSw; (try dsimp only at hSw); go_simp; (try with_reducible rfl))
  simp only [Act.put, List.setIfInBounds_toArray, List.set_cons_zero, List.set_cons_succ]
  refine wpAnyH_done (by kernel_rfl) ?_ _
  skip
  have c0 : WX2.cell? ⟨w.heap.size, 0, none⟩ = some (.int .i64 k) := HX.out.cell 0 rfl
  rw [HK.out] at c0
  clear hHeld
  go_upto_region 6 with fail
  refine wp_region_held_drew (S := (fun w' => w'.cell? ⟨w.heap.size, 0, none⟩ = some (.int .i64 k) ∧ w'.cell? ⟨w.heap.size, 1, none⟩ = some (.int .i64 s) ∧ w'.cell? ⟨w.heap.size, 2, none⟩ = some (.int .i64 i) ∧ w'.cell? ⟨w.heap.size, 3, none⟩ = some (.int .i64 a) ∧ w'.cell? ⟨w.heap.size, 4, none⟩ = some (.int .i64 b) ∧ w'.cell? ⟨w.heap.size, 5, none⟩ = some (.int .i64 t) ∧ w'.cell? ⟨w.heap.size, 6, none⟩ = some (.int .i64 p) ∧ w'.cell? ⟨w.heap.size, 7, none⟩ = some (.int .i64 q) ∧ w'.cell? ⟨w.heap.size, 8, none⟩ = some (.int .i64 f))) (by kernel_rfl) ⟨HX.out.cell 0 rfl, HX.out.cell 1 rfl, HX.out.cell 2 rfl, HX.out.cell 3 rfl, HX.out.cell 4 rfl, HX.out.cell 5 rfl, HX.out.cell 6 rfl, HX.out.cell 7 rfl, HX.out.cell 8 rfl⟩ (fun hHeld => ?_)
  replace HX := Lib.hid HX.out.drew
  replace HB := Lib.hid HB.out.drew
  clear c0
  generalize WX2.drew = w5 at HX HB hHeld ⊢
  refine wpAnyH_take (i := 0) (oi := ⟨some 22, _, _, _, _, _⟩) (v := ?_) rfl (by kernel_rfl) (by kernel_rfl) (by kernel_rfl) (fun _ _ _ h => h) (Or.inl ⟨by rfl, ?_⟩) (by assumption) ?_
  rotate_left
  · (intro w hSw; (try dsimp only at hSw); go_simp; (try with_reducible rfl))
  simp only [Act.put, List.setIfInBounds_toArray, List.set_cons_zero, List.set_cons_succ]
  refine wpAnyH_take (i := 1) (oi := ⟨some 23, _, _, _, _, _⟩) (v := ?_) rfl (by kernel_rfl) (by kernel_rfl) (by kernel_rfl) (fun _ _ _ h => h) (Or.inl ⟨by rfl, ?_⟩) (by assumption) ?_
  rotate_left
  · (intro w hSw; (try dsimp only at hSw); go_simp; (try with_reducible rfl))
  simp only [Act.put, List.setIfInBounds_toArray, List.set_cons_zero, List.set_cons_succ]
  refine wpAnyH_take (i := 2) (oi := ⟨some 24, _, _, _, _, _⟩) (v := ?_) rfl (by kernel_rfl) (by kernel_rfl) (by kernel_rfl) (fun _ _ _ h => h) (Or.inl ⟨by rfl, ?_⟩) (by assumption) ?_
  rotate_left
  · (intro w hSw; (try dsimp only at hSw); go_simp; (try with_reducible rfl))
  simp only [Act.put, List.setIfInBounds_toArray, List.set_cons_zero, List.set_cons_succ]
  refine wpAnyH_take (i := 3) (oi := ⟨some 25, _, _, _, _, _⟩) (v := ?_) rfl (by kernel_rfl) (by kernel_rfl) (by kernel_rfl) (fun _ _ _ h => h) (Or.inl ⟨by rfl, ?_⟩) (by assumption) ?_
  rotate_left
  · (intro w hSw; (try dsimp only at hSw); go_simp; (try with_reducible rfl))
  simp only [Act.put, List.setIfInBounds_toArray, List.set_cons_zero, List.set_cons_succ]
  refine wpAnyH_take (i := 4) (oi := ⟨some 26, _, _, _, _, _⟩) (v := ?_) rfl (by kernel_rfl) (by kernel_rfl) (by kernel_rfl) (fun _ _ _ h => h) (Or.inl ⟨by rfl, ?_⟩) (by assumption) ?_
  rotate_left
  · (intro w hSw; (try dsimp only at hSw); go_simp; (try with_reducible rfl))
  simp only [Act.put, List.setIfInBounds_toArray, List.set_cons_zero, List.set_cons_succ]
  refine wpAnyH_take (i := 8) (oi := ⟨some 30, _, _, _, _, _⟩) (v := ?_) rfl (by kernel_rfl) (by kernel_rfl) (by kernel_rfl) (fun _ _ _ h => h) (Or.inl ⟨by rfl, ?_⟩) (by assumption) ?_
  rotate_left
  · (intro w hSw; (try dsimp only at hSw); go_simp; (try with_reducible rfl))
  simp only [Act.put, List.setIfInBounds_toArray, List.set_cons_zero, List.set_cons_succ]
  refine wpAnyH_take (i := 9) (oi := ⟨some 31, _, _, _, _, _⟩) (v := ?_) rfl (by kernel_rfl) (by kernel_rfl) (by kernel_rfl) (fun _ _ _ h => h) (Or.inl ⟨by rfl, ?_⟩) (by assumption) ?_
  rotate_left
  · (intro w hSw; (try dsimp only at hSw); go_simp; (try with_reducible rfl))
  simp only [Act.put, List.setIfInBounds_toArray, List.set_cons_zero, List.set_cons_succ]
  refine wpAnyH_ready (rs := [5]) (by kernel_rfl) (by simp) ?_
  refine AllReadyH.cons (o := ⟨some 27, _, _, _, _, _⟩) rfl (fun KK hK => ?_) AllReadyH.nil
  go_simp
  refine (rdecimal_any _ (by omega) (by omega) _).mono ?_
  rintro e WX1 ⟨rfl, hb⟩
  try replace HTA := Lib.hid (cell_kept hb HTA.out)
  try replace HTB := Lib.hid (cell_kept hb HTB.out)
  replace HX := Lib.hid (HX.out.below hb HX.out.lt)
  replace HB := Lib.hid (HB.out.trans (hb.mono HB.out.size))
  clear hb
  refine hK.out _ _ ⟨HX.out.cell 0 rfl, HX.out.cell 1 rfl, HX.out.cell 2 rfl, HX.out.cell 3 rfl, HX.out.cell 4 rfl, HX.out.cell 5 rfl, HX.out.cell 6 rfl, HX.out.cell 7 rfl, HX.out.cell 8 rfl⟩ (fun hHeld => ?_)
  clear hK; try clear KK
  try simp only [Act.put, List.setIfInBounds_toArray, List.set_cons_zero, List.set_cons_succ]
  refine wpAnyH_take (i := 6) (oi := ⟨some 28, _, _, _, _, _⟩) (v := ?_) rfl (by kernel_rfl) (by kernel_rfl) (by kernel_rfl) (fun _ _ _ h => h) (Or.inl ⟨by rfl, ?_⟩) (by assumption) ?_
  rotate_left
  · (intro w hSw; (try dsimp only at hSw); go_simp; (try with_reducible rfl))
  simp only [Act.put, List.setIfInBounds_toArray, List.set_cons_zero, List.set_cons_succ]
  refine wpAnyH_take (i := 7) (oi := ⟨some 29, _, _, _, _, _⟩) (v := ?_) rfl (by kernel_rfl) (by kernel_rfl) (by kernel_rfl) (fun _ _ _ h => h) (Or.inl ⟨by rfl, ?_⟩) (by assumption) ?_
  rotate_left
  · (intro w hSw; (try dsimp only at hSw); go_simp; (try with_reducible rfl))
  simp only [Act.put, List.setIfInBounds_toArray, List.set_cons_zero, List.set_cons_succ]
  refine wpAnyH_ready (rs := [10]) (by kernel_rfl) (by simp) ?_
  refine AllReadyH.cons (o := ⟨some 32, _, _, _, _, _⟩) rfl (fun KK hK => ?_) AllReadyH.nil
  go_simp
  refine (rdecimal_any _ (by omega) (by omega) _).mono ?_
  rintro e WX2 ⟨rfl, hb⟩
  try replace HTA := Lib.hid (cell_kept hb HTA.out)
  try replace HTB := Lib.hid (cell_kept hb HTB.out)
  replace HX := Lib.hid (HX.out.below hb HX.out.lt)
  replace HB := Lib.hid (HB.out.trans (hb.mono HB.out.size))
  clear hb
  refine hK.out _ _ ⟨HX.out.cell 0 rfl, HX.out.cell 1 rfl, HX.out.cell 2 rfl, HX.out.cell 3 rfl, HX.out.cell 4 rfl, HX.out.cell 5 rfl, HX.out.cell 6 rfl, HX.out.cell 7 rfl, HX.out.cell 8 rfl⟩ (fun hHeld => ?_)
  clear hK; try clear KK
  try simp only [Act.put, List.setIfInBounds_toArray, List.set_cons_zero, List.set_cons_succ]
  refine wpAnyH_take (i := 11) (oi := ⟨some 33, _, _, _, _, _⟩) (v := ?_) rfl (by kernel_rfl) (by kernel_rfl) (by kernel_rfl) (fun _ _ _ h => h) (Or.inl ⟨by rfl, ?_⟩) (by assumption) ?_
  rotate_left
  · (intro w hSw; (try dsimp only at hSw); go_simp; (try with_reducible rfl))
  simp only [Act.put, List.setIfInBounds_toArray, List.set_cons_zero, List.set_cons_succ]
  refine wpAnyH_take (i := 12) (oi := ⟨some 2, _, _, _, _, _⟩) (v := ?_) rfl (by kernel_rfl) (by kernel_rfl) (by kernel_rfl) (fun _ _ _ h => h) (Or.inl ⟨by rfl, ?_⟩) (by assumption) ?_
  rotate_left
  · (intro w hSw; (try dsimp only at hSw); go_simp; (try with_reducible rfl))
  simp only [Act.put, List.setIfInBounds_toArray, List.set_cons_zero, List.set_cons_succ]
  refine wpAnyH_done (by kernel_rfl) ?_ _
  skip
  go_wp2_with fail
  go_ret
  exact ⟨by rw [HLN.out]; rfl, HB.out⟩
end Go.Proofs.YtmkcooamgojbpaaDoor.Lines

/- damperref35.command: of a new order (printed by gen_rcmd.py). -/
namespace Go.Proofs.YtmkcooamgojbpaaDoor.Lines
open Go.RowKit Go.Proofs.YtmkcooamgojbpaaDoor.Kit Go.Proofs.YtmkcooamgojbpaaDoor.Blk Go.Proofs.YtmkcooamgojbpaaDoor.Dec Go.Proofs.YtmkcooamgojbpaaDoor.Words Go.Proofs.YtmkcooamgojbpaaDoor.Octets Go.Proofs.YtmkcooamgojbpaaDoor.Cmds
attribute [local go_sem ↓] Go.wp_at_zero Go.wp_at_succ
set_option linter.unusedVariables false

theorem join_app (b : UInt8) : ∀ (xs ys : List Tok), xs ≠ [] → joinW b (xs ++ ys) = joinW b xs ++ ys.flatMap (fun y => b :: y) := by
  intro xs
  induction xs with
  | nil => intro ys h; exact absurd rfl h
  | cons x xs ih =>
    intro ys _
    cases xs with
    | nil =>
      induction ys generalizing x with
      | nil => simp [joinW]
      | cons y ys ihy =>
        show joinW b (x :: y :: ys) = _
        rw [join_cons (by simp)]
        have := ihy y (by simp)
        rw [List.singleton_append] at this
        rw [this]
        simp [joinW]
    | cons v xs =>
      rw [List.cons_append, join_cons (by simp), join_cons (by simp), ih ys (by simp)]
      simp
def flS (f : Nat) : Nat → Tok
  | 0 => []
  | k + 1 => flS f k ++ if f / 2 ^ k % 2 = 1 then 32 :: ((flagsD[k]?).getD []) else []
theorem flS_all (f : Nat) (h : f ≤ 7) : (flagW f).flatMap (fun y => 32 :: y) = flS f 3 := by
  have : ∀ f : Fin 8, (flagW f.1).flatMap (fun y => 32 :: y) = flS f.1 3 := by decide
  exact this ⟨f, by omega⟩
theorem flS_len (f k : Nat) (hf : f ≤ 7) (hk : k ≤ 3) : (flS f k).length ≤ 30 := by
  have : ∀ f : Fin 8, ∀ k : Fin 4, (flS f.1 k.1).length ≤ 30 := by decide
  exact this ⟨f, by omega⟩ ⟨k, by omega⟩
theorem bit_of (f k : Nat) (hf : f ≤ 7) (hk : k < 3) : (bits .and .i64 ((f : Int) / 2 ^ k) 1 == 1) = decide (f / 2 ^ k % 2 = 1) := by
  have : ∀ f : Fin 8, ∀ k : Fin 3, (bits .and .i64 (((f.1 : Nat) : Int) / 2 ^ k.1) 1 == 1) = decide (f.1 / 2 ^ k.1 % 2 = 1) := by decide +kernel
  exact this ⟨f, by omega⟩ ⟨k, hk⟩
theorem flag_len {k : Nat} {y : Tok} (h : flagsD[k]? = some y) : y.length ≤ 20 := by
  have : ∀ y ∈ flagsD, y.length ≤ 20 := by decide
  exact this y (List.mem_of_getElem? h)
theorem side_len (k : Nat) (h : k ≤ 1) : (sideW k).length ≤ 20 := by
  have : ∀ k : Fin 2, (sideW k.1).length ≤ 20 := by decide
  exact this ⟨k, by omega⟩
theorem type_len (k : Nat) (h : k ≤ 4) : (typeW k).length ≤ 20 := by
  have : ∀ k : Fin 5, (typeW k.1).length ≤ 20 := by decide
  exact this ⟨k, by omega⟩
theorem side_at (k : Nat) (h : k < sidesF.length) : sidesF[k] = sideW k := by unfold sideW; rw [List.getElem?_eq_getElem h]; rfl
theorem type_at (k : Nat) (h : k < typesF.length) : typesF[k] = typeW k := by unfold typeW; rw [List.getElem?_eq_getElem h]; rfl
set_option maxRecDepth 20000 in
set_option maxHeartbeats 8000000 in
theorem rcommand_new (s i a p q : Int) (bn tn fn : Nat) (hs : 0 ≤ s ∧ s ≤ 255) (hi : 0 ≤ i ∧ i ≤ 4611686018427387904) (ha : 0 ≤ a ∧ a ≤ 1073741824) (hbn : bn ≤ 1) (htn : tn ≤ 4) (hfn : fn ≤ 7) (hp : -9223372036854775808 ≤ p ∧ p ≤ 9223372036854775807) (hq : -9223372036854775808 ≤ q ∧ q ≤ 9223372036854775807) (w : World) :
    Calls Tryd.prog 116 #[.agg (Cmd.cells ⟨1, s, i, a, bn, (tn : Int) + 1, p, q, fn⟩)] w (TxtIs (joinW 32 [tNew, decB s, decB i, decB a, sideW bn, typeW tn, decB p, decB q] ++ flS fn 3) w) := by
  have HX := Lib.hid (Blk.new w (Cmd.cells ⟨1, s, i, a, bn, (tn : Int) + 1, p, q, fn⟩) 164 w.heap.size rfl)
  have HB := Lib.hid ((Below.refl w.heap.size w).alloc (Nat.le_refl _) (.cells (Cmd.cells ⟨1, s, i, a, bn, (tn : Int) + 1, p, q, fn⟩) 164))
  dsimp only [Cmd.cells] at HX HB ⊢
  have tT00 : (strB (decB s)).size ≤ 20 := by rw [strB_size]; exact dec_len (by omega) (by omega)
  obtain ⟨T0, qT0⟩ : ∃ T, strB (decB s) = T := ⟨_, rfl⟩
  rw [qT0] at tT00
  have tT0 : T0.size ≤ 20 := tT00
  have tT10 : (strB (decB i)).size ≤ 20 := by rw [strB_size]; exact dec_len (by omega) (by omega)
  obtain ⟨T1, qT1⟩ : ∃ T, strB (decB i) = T := ⟨_, rfl⟩
  rw [qT1] at tT10
  have tT1 : T1.size ≤ 20 := tT10
  clear tT00 tT10
  have tT20 : (strB (decB a)).size ≤ 20 := by rw [strB_size]; exact dec_len (by omega) (by omega)
  obtain ⟨T2, qT2⟩ : ∃ T, strB (decB a) = T := ⟨_, rfl⟩
  rw [qT2] at tT20
  have tT2 : T2.size ≤ 20 := tT20
  clear tT20
  have tT30 : (strB (sideW bn)).size ≤ 20 := by rw [strB_size]; exact side_len bn hbn
  obtain ⟨T3, qT3⟩ : ∃ T, strB (sideW bn) = T := ⟨_, rfl⟩
  rw [qT3] at tT30
  have tT3 : T3.size ≤ 20 := tT30
  clear tT30
  have tT40 : (strB (typeW tn)).size ≤ 20 := by rw [strB_size]; exact type_len tn htn
  obtain ⟨T4, qT4⟩ : ∃ T, strB (typeW tn) = T := ⟨_, rfl⟩
  rw [qT4] at tT40
  have tT4 : T4.size ≤ 20 := tT40
  clear tT40
  have tT50 : (strB (decB p)).size ≤ 20 := by rw [strB_size]; exact dec_len hp.1 hp.2
  obtain ⟨T5, qT5⟩ : ∃ T, strB (decB p) = T := ⟨_, rfl⟩
  rw [qT5] at tT50
  have tT5 : T5.size ≤ 20 := tT50
  clear tT50
  have tT60 : (strB (decB q)).size ≤ 20 := by rw [strB_size]; exact dec_len hq.1 hq.2
  obtain ⟨T6, qT6⟩ : ∃ T, strB (decB q) = T := ⟨_, rfl⟩
  rw [qT6] at tT60
  have tT6 : T6.size ≤ 20 := tT60
  clear tT60
  obtain ⟨P1, rP1⟩ : ∃ P, (⟨#[32]⟩ : ByteArray) ++ T0 = P := ⟨_, rfl⟩
  have gP1 : ¬ 9223372036854775807 < 1 + T0.size := by omega
  have tP1 : P1.size ≤ 21 := by rw [← rP1, ByteArray.size_append]; show 1 + _ ≤ _; omega
  obtain ⟨P2, rP2⟩ : ∃ P, P1 ++ (⟨#[32]⟩ : ByteArray) = P := ⟨_, rfl⟩
  have gP2 : ¬ 9223372036854775807 < P1.size + 1 := by omega
  have tP2 : P2.size ≤ 22 := by rw [← rP2, ByteArray.size_append]; show _ + 1 ≤ _; omega
  obtain ⟨P3, rP3⟩ : ∃ P, P2 ++ T1 = P := ⟨_, rfl⟩
  have gP3 : ¬ 9223372036854775807 < P2.size + T1.size := by omega
  have tP3 : P3.size ≤ 42 := by rw [← rP3, ByteArray.size_append]; omega
  obtain ⟨R1, rR1⟩ : ∃ P, (⟨#[110, 101, 119]⟩ : ByteArray) ++ P3 = P := ⟨_, rfl⟩
  have gR1 : ¬ 9223372036854775807 < 3 + P3.size := by omega
  have tR1 : R1.size ≤ 45 := by rw [← rR1, ByteArray.size_append]; show 3 + _ ≤ _; omega
  obtain ⟨R2, rR2⟩ : ∃ P, R1 ++ (⟨#[32]⟩ : ByteArray) = P := ⟨_, rfl⟩
  have gR2 : ¬ 9223372036854775807 < R1.size + 1 := by omega
  have tR2 : R2.size ≤ 46 := by rw [← rR2, ByteArray.size_append]; show _ + 1 ≤ _; omega
  obtain ⟨R3, rR3⟩ : ∃ P, R2 ++ T2 = P := ⟨_, rfl⟩
  have gR3 : ¬ 9223372036854775807 < R2.size + T2.size := by omega
  have tR3 : R3.size ≤ 66 := by rw [← rR3, ByteArray.size_append]; omega
  obtain ⟨R4, rR4⟩ : ∃ P, R3 ++ (⟨#[32]⟩ : ByteArray) = P := ⟨_, rfl⟩
  have gR4 : ¬ 9223372036854775807 < R3.size + 1 := by omega
  have tR4 : R4.size ≤ 67 := by rw [← rR4, ByteArray.size_append]; show _ + 1 ≤ _; omega
  obtain ⟨R5, rR5⟩ : ∃ P, R4 ++ T3 = P := ⟨_, rfl⟩
  have gR5 : ¬ 9223372036854775807 < R4.size + T3.size := by omega
  have tR5 : R5.size ≤ 87 := by rw [← rR5, ByteArray.size_append]; omega
  obtain ⟨R6, rR6⟩ : ∃ P, R5 ++ (⟨#[32]⟩ : ByteArray) = P := ⟨_, rfl⟩
  have gR6 : ¬ 9223372036854775807 < R5.size + 1 := by omega
  have tR6 : R6.size ≤ 88 := by rw [← rR6, ByteArray.size_append]; show _ + 1 ≤ _; omega
  obtain ⟨R7, rR7⟩ : ∃ P, R6 ++ T4 = P := ⟨_, rfl⟩
  have gR7 : ¬ 9223372036854775807 < R6.size + T4.size := by omega
  have tR7 : R7.size ≤ 108 := by rw [← rR7, ByteArray.size_append]; omega
  obtain ⟨R8, rR8⟩ : ∃ P, R7 ++ (⟨#[32]⟩ : ByteArray) = P := ⟨_, rfl⟩
  have gR8 : ¬ 9223372036854775807 < R7.size + 1 := by omega
  have tR8 : R8.size ≤ 109 := by rw [← rR8, ByteArray.size_append]; show _ + 1 ≤ _; omega
  obtain ⟨R9, rR9⟩ : ∃ P, R8 ++ T5 = P := ⟨_, rfl⟩
  have gR9 : ¬ 9223372036854775807 < R8.size + T5.size := by omega
  have tR9 : R9.size ≤ 129 := by rw [← rR9, ByteArray.size_append]; omega
  obtain ⟨R10, rR10⟩ : ∃ P, R9 ++ (⟨#[32]⟩ : ByteArray) = P := ⟨_, rfl⟩
  have gR10 : ¬ 9223372036854775807 < R9.size + 1 := by omega
  have tR10 : R10.size ≤ 130 := by rw [← rR10, ByteArray.size_append]; show _ + 1 ≤ _; omega
  obtain ⟨R11, rR11⟩ : ∃ P, R10 ++ T6 = P := ⟨_, rfl⟩
  have gR11 : ¬ 9223372036854775807 < R10.size + T6.size := by omega
  have tR11 : R11.size ≤ 150 := by rw [← rR11, ByteArray.size_append]; omega
  have HLN : Hid (R11 = strB (joinW 32 [tNew, decB s, decB i, decB a, sideW bn, typeW tn, decB p, decB q])) := Lib.hid (by rw [← rR11, ← rR10, ← rR9, ← rR8, ← rR7, ← rR6, ← rR5, ← rR4, ← rR3, ← rR2, ← rR1, ← rP3, ← rP2, ← rP1, ← qT0, ← qT1, ← qT2, ← qT3, ← qT4, ← qT5, ← qT6, show (⟨#[32]⟩ : ByteArray) = strB [32] from rfl, show (⟨#[110, 101, 119]⟩ : ByteArray) = strB [110, 101, 119] from rfl]; simp only [strB_app]; congr 1; simp [joinW, tNew])
  have HQ3 := Lib.hid qT3
  have HQ4 := Lib.hid qT4
  have HRS := Lib.hid tR11
  clear tT0 tT1 tT2 tT3 tT4 tT5 tT6 tP1 tP2 tP3 tR1 tR2 tR3 tR4 tR5 tR6 tR7 tR8 tR9 tR10 tR11
  have ib0 : (0 : Int) ≤ (bn : Int) := by omega
  have hbs : bn < sidesF.length := by show bn < 2; omega
  have hts : tn < typesF.length := by show tn < 5; omega
  have ib1 : (bn : Int) < 2 := by omega
  have it1 : (tn : Int) < 5 := by omega
  have hwt : IntKind.i64.wrap ((tn : Int) + 1 - 1) = (tn : Int) := by rw [show (tn : Int) + 1 - 1 = (tn : Int) by omega]; exact IntWalk.i64_in _ (by omega)
  have hwt2 : IntKind.i64.wrap (tn : Int) = (tn : Int) := IntWalk.i64_in _ (by omega)
  go_enter Tryd.func116, Tryd.ntmps116
  go_upto_region 1 with fail
  generalize w.alloc (.cells #[.int .i64 1, .int .i64 s, .int .i64 i, .int .i64 a, .int .i64 (bn : Int), .int .i64 ((tn : Int) + 1), .int .i64 p, .int .i64 q, .int .i64 (fn : Int)] 164) = w1 at HX HB ⊢
  refine wp_region_held_drew (S := (fun w' => w'.cell? ⟨w.heap.size, 0, none⟩ = some (.int .i64 1) ∧ w'.cell? ⟨w.heap.size, 1, none⟩ = some (.int .i64 s) ∧ w'.cell? ⟨w.heap.size, 2, none⟩ = some (.int .i64 i) ∧ w'.cell? ⟨w.heap.size, 3, none⟩ = some (.int .i64 a) ∧ w'.cell? ⟨w.heap.size, 4, none⟩ = some (.int .i64 (bn : Int)) ∧ w'.cell? ⟨w.heap.size, 5, none⟩ = some (.int .i64 ((tn : Int) + 1)) ∧ w'.cell? ⟨w.heap.size, 6, none⟩ = some (.int .i64 p) ∧ w'.cell? ⟨w.heap.size, 7, none⟩ = some (.int .i64 q) ∧ w'.cell? ⟨w.heap.size, 8, none⟩ = some (.int .i64 (fn : Int)))) (by kernel_rfl) ⟨HX.out.cell 0 rfl, HX.out.cell 1 rfl, HX.out.cell 2 rfl, HX.out.cell 3 rfl, HX.out.cell 4 rfl, HX.out.cell 5 rfl, HX.out.cell 6 rfl, HX.out.cell 7 rfl, HX.out.cell 8 rfl⟩ (fun hHeld => ?_)
  replace HX := Lib.hid HX.out.drew
  replace HB := Lib.hid HB.out.drew
  generalize w1.drew = w2 at HX HB hHeld ⊢
  refine wpAnyH_take (i := 0) (oi := ⟨some 5, _, _, _, _, _⟩) (v := ?_) rfl (by kernel_rfl) (by kernel_rfl) (by kernel_rfl) (fun _ _ _ h => h) (Or.inl ⟨by rfl, ?_⟩) (by assumption) ?_
  rotate_left
  · (intro w hSw; (try dsimp only at hSw); go_simp; (try with_reducible rfl))
  simp only [Act.put, List.setIfInBounds_toArray, List.set_cons_zero, List.set_cons_succ]
  refine wpAnyH_take (i := 1) (oi := ⟨some 6, _, _, _, _, _⟩) (v := ?_) rfl (by kernel_rfl) (by kernel_rfl) (by kernel_rfl) (fun _ _ _ h => h) (Or.inl ⟨by rfl, ?_⟩) (by assumption) ?_
  rotate_left
  · (intro w hSw; (try dsimp only at hSw); go_simp; (try with_reducible rfl))
  simp only [Act.put, List.setIfInBounds_toArray, List.set_cons_zero, List.set_cons_succ]
  refine wpAnyH_take (i := 5) (oi := ⟨some 10, _, _, _, _, _⟩) (v := ?_) rfl (by kernel_rfl) (by kernel_rfl) (by kernel_rfl) (fun _ _ _ h => h) (Or.inl ⟨by rfl, ?_⟩) (by assumption) ?_
  rotate_left
  · (intro w hSw; (try dsimp only at hSw); go_simp; (try with_reducible rfl))
  simp only [Act.put, List.setIfInBounds_toArray, List.set_cons_zero, List.set_cons_succ]
  refine wpAnyH_take (i := 6) (oi := ⟨some 11, _, _, _, _, _⟩) (v := ?_) rfl (by kernel_rfl) (by kernel_rfl) (by kernel_rfl) (fun _ _ _ h => h) (Or.inl ⟨by rfl, ?_⟩) (by assumption) ?_
  rotate_left
  · (intro w hSw; (try dsimp only at hSw); go_simp; (try with_reducible rfl))
  simp only [Act.put, List.setIfInBounds_toArray, List.set_cons_zero, List.set_cons_succ]
  refine wpAnyH_ready (rs := [2]) (by kernel_rfl) (by simp) ?_
  refine AllReadyH.cons (o := ⟨some 7, _, _, _, _, _⟩) rfl (fun KK hK => ?_) AllReadyH.nil
  go_simp
  refine (rdecimal_any _ (by omega) (by omega) _).mono ?_
  rintro e WX1 ⟨rfl, hb⟩
  try replace HTA := Lib.hid (cell_kept hb HTA.out)
  try replace HTB := Lib.hid (cell_kept hb HTB.out)
  replace HX := Lib.hid (HX.out.below hb HX.out.lt)
  replace HB := Lib.hid (HB.out.trans (hb.mono HB.out.size))
  clear hb
  refine hK.out _ _ ⟨HX.out.cell 0 rfl, HX.out.cell 1 rfl, HX.out.cell 2 rfl, HX.out.cell 3 rfl, HX.out.cell 4 rfl, HX.out.cell 5 rfl, HX.out.cell 6 rfl, HX.out.cell 7 rfl, HX.out.cell 8 rfl⟩ (fun hHeld => ?_)
  clear hK; try clear KK
  try simp only [Act.put, List.setIfInBounds_toArray, List.set_cons_zero, List.set_cons_succ]
  refine wpAnyH_take (i := 3) (oi := ⟨some 8, _, _, _, _, _⟩) (v := ?_) rfl (by kernel_rfl) (by kernel_rfl) (by kernel_rfl) (fun _ _ _ h => h) (Or.inl ⟨by rfl, ?_⟩) (by assumption) ?_
  rotate_left
  · (intro w hSw; (try dsimp only at hSw); go_simp; (try with_reducible rfl))
  simp only [Act.put, List.setIfInBounds_toArray, List.set_cons_zero, List.set_cons_succ]
  refine wpAnyH_take (i := 4) (oi := ⟨some 9, _, _, _, _, _⟩) (v := ?_) rfl (by kernel_rfl) (by kernel_rfl) (by kernel_rfl) (fun _ _ _ h => h) (Or.inl ⟨by rfl, ?_⟩) (by assumption) ?_
  rotate_left
  · (intro w hSw; (try dsimp only at hSw); go_simp; (try with_reducible rfl))
  simp only [Act.put, List.setIfInBounds_toArray, List.set_cons_zero, List.set_cons_succ]
  refine wpAnyH_ready (rs := [7]) (by kernel_rfl) (by simp) ?_
  refine AllReadyH.cons (o := ⟨some 12, _, _, _, _, _⟩) rfl (fun KK hK => ?_) AllReadyH.nil
  go_simp
  refine (rdecimal_any _ (by omega) (by omega) _).mono ?_
  rintro e WX2 ⟨rfl, hb⟩
  try replace HTA := Lib.hid (cell_kept hb HTA.out)
  try replace HTB := Lib.hid (cell_kept hb HTB.out)
  replace HX := Lib.hid (HX.out.below hb HX.out.lt)
  replace HB := Lib.hid (HB.out.trans (hb.mono HB.out.size))
  clear hb
  refine hK.out _ _ ⟨HX.out.cell 0 rfl, HX.out.cell 1 rfl, HX.out.cell 2 rfl, HX.out.cell 3 rfl, HX.out.cell 4 rfl, HX.out.cell 5 rfl, HX.out.cell 6 rfl, HX.out.cell 7 rfl, HX.out.cell 8 rfl⟩ (fun hHeld => ?_)
  clear hK; try clear KK
  try simp only [Act.put, List.setIfInBounds_toArray, List.set_cons_zero, List.set_cons_succ]
  refine wpAnyH_take (i := 8) (oi := ⟨some 13, _, _, _, _, _⟩) (v := ?_) rfl (by kernel_rfl) (by kernel_rfl) (by kernel_rfl) (fun _ _ _ h => h) (Or.inl ⟨by rfl, ?_⟩) (by assumption) ?_
  rotate_left
  · (intro w hSw; (try dsimp only at hSw); go_simp; (try with_reducible rfl))
  simp only [Act.put, List.setIfInBounds_toArray, List.set_cons_zero, List.set_cons_succ]
  refine wpAnyH_take (i := 9) (oi := ⟨some 3, _, _, _, _, _⟩) (v := ?_) rfl (by kernel_rfl) (by kernel_rfl) (by kernel_rfl) (fun _ _ _ h => h) (Or.inl ⟨by rfl, ?_⟩) (by assumption) ?_
  rotate_left
  · (intro w hSw; (try dsimp only at hSw); go_simp; (try with_reducible rfl))
  simp only [Act.put, List.setIfInBounds_toArray, List.set_cons_zero, List.set_cons_succ]
  refine wpAnyH_done (by kernel_rfl) ?_ _
  skip
  have c0 : WX2.cell? ⟨w.heap.size, 0, none⟩ = some (.int .i64 1) := HX.out.cell 0 rfl
  clear hHeld
  go_upto_region 7 with fail
  clear c0
  go_cut [3] (fun sv wx => sv = .string R11 ∧ Blk wx w.heap.size #[.int .i64 1, .int .i64 s, .int .i64 i, .int .i64 a, .int .i64 (bn : Int), .int .i64 ((tn : Int) + 1), .int .i64 p, .int .i64 q, .int .i64 (fn : Int)] 164 ∧ Below w.heap.size w wx)
  case first =>
    refine wp_region_held_drew (S := (fun w' => w'.cell? ⟨w.heap.size, 0, none⟩ = some (.int .i64 1) ∧ w'.cell? ⟨w.heap.size, 1, none⟩ = some (.int .i64 s) ∧ w'.cell? ⟨w.heap.size, 2, none⟩ = some (.int .i64 i) ∧ w'.cell? ⟨w.heap.size, 3, none⟩ = some (.int .i64 a) ∧ w'.cell? ⟨w.heap.size, 4, none⟩ = some (.int .i64 (bn : Int)) ∧ w'.cell? ⟨w.heap.size, 5, none⟩ = some (.int .i64 ((tn : Int) + 1)) ∧ w'.cell? ⟨w.heap.size, 6, none⟩ = some (.int .i64 p) ∧ w'.cell? ⟨w.heap.size, 7, none⟩ = some (.int .i64 q) ∧ w'.cell? ⟨w.heap.size, 8, none⟩ = some (.int .i64 (fn : Int)))) (by kernel_rfl) ⟨HX.out.cell 0 rfl, HX.out.cell 1 rfl, HX.out.cell 2 rfl, HX.out.cell 3 rfl, HX.out.cell 4 rfl, HX.out.cell 5 rfl, HX.out.cell 6 rfl, HX.out.cell 7 rfl, HX.out.cell 8 rfl⟩ (fun hHeld => ?_)
    replace HX := Lib.hid HX.out.drew
    replace HB := Lib.hid HB.out.drew
    generalize WX2.drew = w5 at HX HB hHeld ⊢
    refine wpAnyH_take (i := 0) (oi := ⟨some 34, _, _, _, _, _⟩) (v := ?_) rfl (by kernel_rfl) (by kernel_rfl) (by kernel_rfl) (fun _ _ _ h => h) (Or.inl ⟨by rfl, ?_⟩) (by assumption) ?_
    rotate_left
    · (intro w hSw; (try dsimp only at hSw); go_simp; (try with_reducible rfl))
    simp only [Act.put, List.setIfInBounds_toArray, List.set_cons_zero, List.set_cons_succ]
    refine wpAnyH_take (i := 1) (oi := ⟨some 35, _, _, _, _, _⟩) (v := ?_) rfl (by kernel_rfl) (by kernel_rfl) (by kernel_rfl) (fun _ _ _ h => h) (Or.inl ⟨by rfl, ?_⟩) (by assumption) ?_
    rotate_left
    · (intro w hSw; (try dsimp only at hSw); go_simp; (try with_reducible rfl))
    simp only [Act.put, List.setIfInBounds_toArray, List.set_cons_zero, List.set_cons_succ]
    refine wpAnyH_take (i := 2) (oi := ⟨some 36, _, _, _, _, _⟩) (v := ?_) rfl (by kernel_rfl) (by kernel_rfl) (by kernel_rfl) (fun _ _ _ h => h) (Or.inl ⟨by rfl, ?_⟩) (by assumption) ?_
    rotate_left
    · (intro w hSw; (try dsimp only at hSw); go_simp; (try with_reducible rfl))
    simp only [Act.put, List.setIfInBounds_toArray, List.set_cons_zero, List.set_cons_succ]
    refine wpAnyH_take (i := 3) (oi := ⟨some 37, _, _, _, _, _⟩) (v := ?_) rfl (by kernel_rfl) (by kernel_rfl) (by kernel_rfl) (fun _ _ _ h => h) (Or.inl ⟨by rfl, ?_⟩) (by assumption) ?_
    rotate_left
    · (intro w hSw; (try dsimp only at hSw); go_simp; (try with_reducible rfl))
    simp only [Act.put, List.setIfInBounds_toArray, List.set_cons_zero, List.set_cons_succ]
    refine wpAnyH_take (i := 4) (oi := ⟨some 38, _, _, _, _, _⟩) (v := ?_) rfl (by kernel_rfl) (by kernel_rfl) (by kernel_rfl) (fun _ _ _ h => h) (Or.inl ⟨by rfl, ?_⟩) (by assumption) ?_
    rotate_left
    · (intro w hSw; (try dsimp only at hSw); go_simp; (try with_reducible rfl))
    simp only [Act.put, List.setIfInBounds_toArray, List.set_cons_zero, List.set_cons_succ]
    refine wpAnyH_take (i := 9) (oi := ⟨some 43, _, _, _, _, _⟩) (v := ?_) rfl (by kernel_rfl) (by kernel_rfl) (by kernel_rfl) (fun _ _ _ h => h) (Or.inl ⟨by rfl, ?_⟩) (by assumption) ?_
    rotate_left
    · (intro w hSw; (try dsimp only at hSw); go_simp; (try with_reducible rfl))
    simp only [Act.put, List.setIfInBounds_toArray, List.set_cons_zero, List.set_cons_succ]
    refine wpAnyH_take (i := 10) (oi := ⟨some 44, _, _, _, _, _⟩) (v := ?_) rfl (by kernel_rfl) (by kernel_rfl) (by kernel_rfl) (fun _ _ _ h => h) (Or.inl ⟨by rfl, ?_⟩) (by assumption) ?_
    rotate_left
    · (intro w hSw; (try dsimp only at hSw); go_simp; (try with_reducible rfl))
    simp only [Act.put, List.setIfInBounds_toArray, List.set_cons_zero, List.set_cons_succ]
    refine wpAnyH_take (i := 16) (oi := ⟨some 50, _, _, _, _, _⟩) (v := ?_) rfl (by kernel_rfl) (by kernel_rfl) (by kernel_rfl) (fun _ _ _ h => h) (Or.inl ⟨by rfl, ?_⟩) (by assumption) ?_
    rotate_left
    · (intro w hSw; (try dsimp only at hSw); go_simp; (try with_reducible rfl))
    simp only [Act.put, List.setIfInBounds_toArray, List.set_cons_zero, List.set_cons_succ]
    refine wpAnyH_take (i := 17) (oi := ⟨some 51, _, _, _, _, _⟩) (v := ?_) rfl (by kernel_rfl) (by kernel_rfl) (by kernel_rfl) (fun _ _ _ h => h) (Or.inl ⟨by rfl, ?_⟩) (by assumption) ?_
    rotate_left
    · (intro w hSw; (try dsimp only at hSw); go_simp; (try with_reducible rfl))
    simp only [Act.put, List.setIfInBounds_toArray, List.set_cons_zero, List.set_cons_succ]
    refine wpAnyH_take (i := 18) (oi := ⟨some 52, _, _, _, _, _⟩) (v := ?_) rfl (by kernel_rfl) (by kernel_rfl) (by kernel_rfl) (fun _ _ _ h => h) (Or.inl ⟨by rfl, ?_⟩) (by assumption) ?_
    rotate_left
    · (intro w hSw; (try dsimp only at hSw); go_simp; (try with_reducible rfl))
    simp only [Act.put, List.setIfInBounds_toArray, List.set_cons_zero, List.set_cons_succ]
    refine wpAnyH_take (i := 23) (oi := ⟨some 57, _, _, _, _, _⟩) (v := ?_) rfl (by kernel_rfl) (by kernel_rfl) (by kernel_rfl) (fun _ _ _ h => h) (Or.inl ⟨by rfl, ?_⟩) (by assumption) ?_
    rotate_left
    · (intro w hSw; (try dsimp only at hSw); go_simp; (try with_reducible rfl))
    simp only [Act.put, List.setIfInBounds_toArray, List.set_cons_zero, List.set_cons_succ]
    refine wpAnyH_take (i := 24) (oi := ⟨some 58, _, _, _, _, _⟩) (v := ?_) rfl (by kernel_rfl) (by kernel_rfl) (by kernel_rfl) (fun _ _ _ h => h) (Or.inl ⟨by rfl, ?_⟩) (by assumption) ?_
    rotate_left
    · (intro w hSw; (try dsimp only at hSw); go_simp; (try with_reducible rfl))
    simp only [Act.put, List.setIfInBounds_toArray, List.set_cons_zero, List.set_cons_succ]
    refine wpAnyH_take (i := 28) (oi := ⟨some 62, _, _, _, _, _⟩) (v := ?_) rfl (by kernel_rfl) (by kernel_rfl) (by kernel_rfl) (fun _ _ _ h => h) (Or.inl ⟨by rfl, ?_⟩) (by assumption) ?_
    rotate_left
    · (intro w hSw; (try dsimp only at hSw); go_simp; (try with_reducible rfl))
    simp only [Act.put, List.setIfInBounds_toArray, List.set_cons_zero, List.set_cons_succ]
    refine wpAnyH_take (i := 29) (oi := ⟨some 63, _, _, _, _, _⟩) (v := ?_) rfl (by kernel_rfl) (by kernel_rfl) (by kernel_rfl) (fun _ _ _ h => h) (Or.inl ⟨by rfl, ?_⟩) (by assumption) ?_
    rotate_left
    · (intro w hSw; (try dsimp only at hSw); go_simp; (try with_reducible rfl))
    simp only [Act.put, List.setIfInBounds_toArray, List.set_cons_zero, List.set_cons_succ]
    refine wpAnyH_ready (rs := [5]) (by kernel_rfl) (by simp) ?_
    refine AllReadyH.cons (o := ⟨some 39, _, _, _, _, _⟩) rfl (fun KK hK => ?_) AllReadyH.nil
    go_simp
    refine (rdecimal_any _ (by omega) (by omega) _).mono ?_
    rintro e WX1 ⟨rfl, hb⟩
    try replace HTA := Lib.hid (cell_kept hb HTA.out)
    try replace HTB := Lib.hid (cell_kept hb HTB.out)
    replace HX := Lib.hid (HX.out.below hb HX.out.lt)
    replace HB := Lib.hid (HB.out.trans (hb.mono HB.out.size))
    clear hb
    refine hK.out _ _ ⟨HX.out.cell 0 rfl, HX.out.cell 1 rfl, HX.out.cell 2 rfl, HX.out.cell 3 rfl, HX.out.cell 4 rfl, HX.out.cell 5 rfl, HX.out.cell 6 rfl, HX.out.cell 7 rfl, HX.out.cell 8 rfl⟩ (fun hHeld => ?_)
    clear hK; try clear KK
    try simp only [Act.put, List.setIfInBounds_toArray, List.set_cons_zero, List.set_cons_succ]
    refine wpAnyH_take (i := 6) (oi := ⟨some 40, _, _, _, _, _⟩) (v := ?_) rfl (by kernel_rfl) (by kernel_rfl) (by kernel_rfl) (fun _ _ _ h => h) (Or.inl ⟨by rfl, ?_⟩) (by assumption) ?_
    rotate_left
    · (intro w hSw; (try dsimp only at hSw); go_simp; (try with_reducible rfl))
    simp only [Act.put, List.setIfInBounds_toArray, List.set_cons_zero, List.set_cons_succ]
    refine wpAnyH_take (i := 7) (oi := ⟨some 41, _, _, _, _, _⟩) (v := ?_) rfl (by kernel_rfl) (by kernel_rfl) (by kernel_rfl) (fun _ _ _ h => h) (Or.inl ⟨by rfl, ?_⟩) (by assumption) ?_
    rotate_left
    · (intro w hSw; (try dsimp only at hSw); go_simp; (try with_reducible rfl))
    simp only [Act.put, List.setIfInBounds_toArray, List.set_cons_zero, List.set_cons_succ]
    refine wpAnyH_ready (rs := [8]) (by kernel_rfl) (by simp) ?_
    refine AllReadyH.cons (o := ⟨some 42, _, _, _, _, _⟩) rfl (fun KK hK => ?_) AllReadyH.nil
    go_simp
    refine (dsides_any _).mono ?_
    rintro e WX2 ⟨tb, tc, rfl, -, htc, h3, hb⟩
    have HTA : Hid (WX2.cell? ⟨tb, bn, none⟩ = some (.string T3)) := Lib.hid (by rw [← HQ3.out, ← side_at bn (by show bn < 2; omega)]; exact h3 bn (by show bn < 2; omega))
    replace HX := Lib.hid (HX.out.below hb HX.out.lt)
    replace HB := Lib.hid (HB.out.trans (hb.mono HB.out.size))
    clear hb h3 htc
    refine hK.out _ _ ⟨HX.out.cell 0 rfl, HX.out.cell 1 rfl, HX.out.cell 2 rfl, HX.out.cell 3 rfl, HX.out.cell 4 rfl, HX.out.cell 5 rfl, HX.out.cell 6 rfl, HX.out.cell 7 rfl, HX.out.cell 8 rfl⟩ (fun hHeld => ?_)
    clear hK; try clear KK
    try simp only [Act.put, List.setIfInBounds_toArray, List.set_cons_zero, List.set_cons_succ]
    refine wpAnyH_take (i := 11) (oi := ⟨some 45, _, _, _, _, _⟩) (v := ?_) rfl (by kernel_rfl) (by kernel_rfl) (by kernel_rfl) (fun _ _ _ h => h) (Or.inl ⟨by rfl, ?_⟩) (by assumption) ?_
    rotate_left
    · (intro w hSw; (try dsimp only at hSw); go_simp; (try with_reducible rfl))
    simp only [Act.put, List.setIfInBounds_toArray, List.set_cons_zero, List.set_cons_succ]
    refine wpAnyH_ready (rs := [12, 15]) (by kernel_rfl) (by simp) ?_
    refine AllReadyH.cons (o := ⟨some 46, _, _, _, _, _⟩) rfl (fun KK hK => ?_) (AllReadyH.cons (o := ⟨some 49, _, _, _, _, _⟩) rfl (fun KK hK => ?_) (AllReadyH.nil))
    · have hta := HTA.out
      go_simp
      refine hK.out _ _ ⟨HX.out.cell 0 rfl, HX.out.cell 1 rfl, HX.out.cell 2 rfl, HX.out.cell 3 rfl, HX.out.cell 4 rfl, HX.out.cell 5 rfl, HX.out.cell 6 rfl, HX.out.cell 7 rfl, HX.out.cell 8 rfl⟩ (fun hHeld => ?_)
      clear hK; try clear KK
      try simp only [Act.put, List.setIfInBounds_toArray, List.set_cons_zero, List.set_cons_succ]
      refine wpAnyH_take (i := 13) (oi := ⟨some 47, _, _, _, _, _⟩) (v := ?_) rfl (by kernel_rfl) (by kernel_rfl) (by kernel_rfl) (fun _ _ _ h => h) (Or.inl ⟨by rfl, ?_⟩) (by assumption) ?_
      rotate_left
      · (intro w hSw; (try dsimp only at hSw); go_simp; (try with_reducible rfl))
      simp only [Act.put, List.setIfInBounds_toArray, List.set_cons_zero, List.set_cons_succ]
      refine wpAnyH_take (i := 14) (oi := ⟨some 48, _, _, _, _, _⟩) (v := ?_) rfl (by kernel_rfl) (by kernel_rfl) (by kernel_rfl) (fun _ _ _ h => h) (Or.inl ⟨by rfl, ?_⟩) (by assumption) ?_
      rotate_left
      · (intro w hSw; (try dsimp only at hSw); go_simp; (try with_reducible rfl))
      simp only [Act.put, List.setIfInBounds_toArray, List.set_cons_zero, List.set_cons_succ]
      refine wpAnyH_ready (rs := [15]) (by kernel_rfl) (by simp) ?_
      refine AllReadyH.cons (o := ⟨some 49, _, _, _, _, _⟩) rfl (fun KK hK => ?_) AllReadyH.nil
      go_simp
      refine (dtypes_any _).mono ?_
      rintro e WX3 ⟨ub, uc, rfl, -, htc, h3, hb⟩
      have HTB : Hid (WX3.cell? ⟨ub, tn, none⟩ = some (.string T4)) := Lib.hid (by rw [← HQ4.out, ← type_at tn (by show tn < 5; omega)]; exact h3 tn (by show tn < 5; omega))
      replace HTA := Lib.hid (cell_kept hb HTA.out)
      replace HX := Lib.hid (HX.out.below hb HX.out.lt)
      replace HB := Lib.hid (HB.out.trans (hb.mono HB.out.size))
      clear hb h3 htc
      refine hK.out _ _ ⟨HX.out.cell 0 rfl, HX.out.cell 1 rfl, HX.out.cell 2 rfl, HX.out.cell 3 rfl, HX.out.cell 4 rfl, HX.out.cell 5 rfl, HX.out.cell 6 rfl, HX.out.cell 7 rfl, HX.out.cell 8 rfl⟩ (fun hHeld => ?_)
      clear hK; try clear KK
      try simp only [Act.put, List.setIfInBounds_toArray, List.set_cons_zero, List.set_cons_succ]
      refine wpAnyH_take (i := 19) (oi := ⟨some 53, _, _, _, _, _⟩) (v := ?_) rfl (by kernel_rfl) (by kernel_rfl) (by kernel_rfl) (fun _ _ _ h => h) (Or.inl ⟨by rfl, ?_⟩) (by assumption) ?_
      rotate_left
      · (intro w hSw; (try dsimp only at hSw); go_simp; (try with_reducible rfl))
      simp only [Act.put, List.setIfInBounds_toArray, List.set_cons_zero, List.set_cons_succ]
      refine wpAnyH_ready (rs := [20, 25]) (by kernel_rfl) (by simp) ?_
      refine AllReadyH.cons (o := ⟨some 54, _, _, _, _, _⟩) rfl (fun KK hK => ?_) (AllReadyH.cons (o := ⟨some 59, _, _, _, _, _⟩) rfl (fun KK hK => ?_) (AllReadyH.nil))
      · have htb := HTB.out
        go_simp
        refine hK.out _ _ ⟨HX.out.cell 0 rfl, HX.out.cell 1 rfl, HX.out.cell 2 rfl, HX.out.cell 3 rfl, HX.out.cell 4 rfl, HX.out.cell 5 rfl, HX.out.cell 6 rfl, HX.out.cell 7 rfl, HX.out.cell 8 rfl⟩ (fun hHeld => ?_)
        clear hK; try clear KK
        try simp only [Act.put, List.setIfInBounds_toArray, List.set_cons_zero, List.set_cons_succ]
        refine wpAnyH_take (i := 21) (oi := ⟨some 55, _, _, _, _, _⟩) (v := ?_) rfl (by kernel_rfl) (by kernel_rfl) (by kernel_rfl) (fun _ _ _ h => h) (Or.inl ⟨by rfl, ?_⟩) (by assumption) ?_
        rotate_left
        · (intro w hSw; (try dsimp only at hSw); go_simp; (try with_reducible rfl))
        simp only [Act.put, List.setIfInBounds_toArray, List.set_cons_zero, List.set_cons_succ]
        refine wpAnyH_take (i := 22) (oi := ⟨some 56, _, _, _, _, _⟩) (v := ?_) rfl (by kernel_rfl) (by kernel_rfl) (by kernel_rfl) (fun _ _ _ h => h) (Or.inl ⟨by rfl, ?_⟩) (by assumption) ?_
        rotate_left
        · (intro w hSw; (try dsimp only at hSw); go_simp; (try with_reducible rfl))
        simp only [Act.put, List.setIfInBounds_toArray, List.set_cons_zero, List.set_cons_succ]
        refine wpAnyH_ready (rs := [25]) (by kernel_rfl) (by simp) ?_
        refine AllReadyH.cons (o := ⟨some 59, _, _, _, _, _⟩) rfl (fun KK hK => ?_) AllReadyH.nil
        go_simp
        refine (rdecimal_any _ (by omega) (by omega) _).mono ?_
        rintro e WX4 ⟨rfl, hb⟩
        try replace HTA := Lib.hid (cell_kept hb HTA.out)
        try replace HTB := Lib.hid (cell_kept hb HTB.out)
        replace HX := Lib.hid (HX.out.below hb HX.out.lt)
        replace HB := Lib.hid (HB.out.trans (hb.mono HB.out.size))
        clear hb
        refine hK.out _ _ ⟨HX.out.cell 0 rfl, HX.out.cell 1 rfl, HX.out.cell 2 rfl, HX.out.cell 3 rfl, HX.out.cell 4 rfl, HX.out.cell 5 rfl, HX.out.cell 6 rfl, HX.out.cell 7 rfl, HX.out.cell 8 rfl⟩ (fun hHeld => ?_)
        clear hK; try clear KK
        try simp only [Act.put, List.setIfInBounds_toArray, List.set_cons_zero, List.set_cons_succ]
        refine wpAnyH_take (i := 26) (oi := ⟨some 60, _, _, _, _, _⟩) (v := ?_) rfl (by kernel_rfl) (by kernel_rfl) (by kernel_rfl) (fun _ _ _ h => h) (Or.inl ⟨by rfl, ?_⟩) (by assumption) ?_
        rotate_left
        · (intro w hSw; (try dsimp only at hSw); go_simp; (try with_reducible rfl))
        simp only [Act.put, List.setIfInBounds_toArray, List.set_cons_zero, List.set_cons_succ]
        refine wpAnyH_take (i := 27) (oi := ⟨some 61, _, _, _, _, _⟩) (v := ?_) rfl (by kernel_rfl) (by kernel_rfl) (by kernel_rfl) (fun _ _ _ h => h) (Or.inl ⟨by rfl, ?_⟩) (by assumption) ?_
        rotate_left
        · (intro w hSw; (try dsimp only at hSw); go_simp; (try with_reducible rfl))
        simp only [Act.put, List.setIfInBounds_toArray, List.set_cons_zero, List.set_cons_succ]
        refine wpAnyH_ready (rs := [30]) (by kernel_rfl) (by simp) ?_
        refine AllReadyH.cons (o := ⟨some 64, _, _, _, _, _⟩) rfl (fun KK hK => ?_) AllReadyH.nil
        go_simp
        refine (rdecimal_any _ (by omega) (by omega) _).mono ?_
        rintro e WX5 ⟨rfl, hb⟩
        try replace HTA := Lib.hid (cell_kept hb HTA.out)
        try replace HTB := Lib.hid (cell_kept hb HTB.out)
        replace HX := Lib.hid (HX.out.below hb HX.out.lt)
        replace HB := Lib.hid (HB.out.trans (hb.mono HB.out.size))
        clear hb
        refine hK.out _ _ ⟨HX.out.cell 0 rfl, HX.out.cell 1 rfl, HX.out.cell 2 rfl, HX.out.cell 3 rfl, HX.out.cell 4 rfl, HX.out.cell 5 rfl, HX.out.cell 6 rfl, HX.out.cell 7 rfl, HX.out.cell 8 rfl⟩ (fun hHeld => ?_)
        clear hK; try clear KK
        try simp only [Act.put, List.setIfInBounds_toArray, List.set_cons_zero, List.set_cons_succ]
        refine wpAnyH_take (i := 31) (oi := ⟨some 65, _, _, _, _, _⟩) (v := ?_) rfl (by kernel_rfl) (by kernel_rfl) (by kernel_rfl) (fun _ _ _ h => h) (Or.inl ⟨by rfl, ?_⟩) (by assumption) ?_
        rotate_left
        · (intro w hSw; (try dsimp only at hSw); go_simp; (try with_reducible rfl))
        simp only [Act.put, List.setIfInBounds_toArray, List.set_cons_zero, List.set_cons_succ]
        refine wpAnyH_take (i := 32) (oi := ⟨some 3, _, _, _, _, _⟩) (v := ?_) rfl (by kernel_rfl) (by kernel_rfl) (by kernel_rfl) (fun _ _ _ h => h) (Or.inl ⟨by rfl, ?_⟩) (by assumption) ?_
        rotate_left
        · (intro w hSw; (try dsimp only at hSw); go_simp; (try with_reducible rfl))
        simp only [Act.put, List.setIfInBounds_toArray, List.set_cons_zero, List.set_cons_succ]
        refine wpAnyH_done (by kernel_rfl) ?_ _
        clear hHeld
        go_wp2_with fail
        go_meet
        case rel => exact ⟨rfl, HX.out, HB.out⟩
      · go_simp
        refine (rdecimal_any _ (by omega) (by omega) _).mono ?_
        rintro e WX6 ⟨rfl, hb⟩
        try replace HTA := Lib.hid (cell_kept hb HTA.out)
        try replace HTB := Lib.hid (cell_kept hb HTB.out)
        replace HX := Lib.hid (HX.out.below hb HX.out.lt)
        replace HB := Lib.hid (HB.out.trans (hb.mono HB.out.size))
        clear hb
        refine hK.out _ _ ⟨HX.out.cell 0 rfl, HX.out.cell 1 rfl, HX.out.cell 2 rfl, HX.out.cell 3 rfl, HX.out.cell 4 rfl, HX.out.cell 5 rfl, HX.out.cell 6 rfl, HX.out.cell 7 rfl, HX.out.cell 8 rfl⟩ (fun hHeld => ?_)
        clear hK; try clear KK
        try simp only [Act.put, List.setIfInBounds_toArray, List.set_cons_zero, List.set_cons_succ]
        refine wpAnyH_ready (rs := [20, 30]) (by kernel_rfl) (by simp) ?_
        refine AllReadyH.cons (o := ⟨some 54, _, _, _, _, _⟩) rfl (fun KK hK => ?_) (AllReadyH.cons (o := ⟨some 64, _, _, _, _, _⟩) rfl (fun KK hK => ?_) (AllReadyH.nil))
        · have htb := HTB.out
          go_simp
          refine hK.out _ _ ⟨HX.out.cell 0 rfl, HX.out.cell 1 rfl, HX.out.cell 2 rfl, HX.out.cell 3 rfl, HX.out.cell 4 rfl, HX.out.cell 5 rfl, HX.out.cell 6 rfl, HX.out.cell 7 rfl, HX.out.cell 8 rfl⟩ (fun hHeld => ?_)
          clear hK; try clear KK
          try simp only [Act.put, List.setIfInBounds_toArray, List.set_cons_zero, List.set_cons_succ]
          refine wpAnyH_take (i := 21) (oi := ⟨some 55, _, _, _, _, _⟩) (v := ?_) rfl (by kernel_rfl) (by kernel_rfl) (by kernel_rfl) (fun _ _ _ h => h) (Or.inl ⟨by rfl, ?_⟩) (by assumption) ?_
          rotate_left
          · (intro w hSw; (try dsimp only at hSw); go_simp; (try with_reducible rfl))
          simp only [Act.put, List.setIfInBounds_toArray, List.set_cons_zero, List.set_cons_succ]
          refine wpAnyH_take (i := 22) (oi := ⟨some 56, _, _, _, _, _⟩) (v := ?_) rfl (by kernel_rfl) (by kernel_rfl) (by kernel_rfl) (fun _ _ _ h => h) (Or.inl ⟨by rfl, ?_⟩) (by assumption) ?_
          rotate_left
          · (intro w hSw; (try dsimp only at hSw); go_simp; (try with_reducible rfl))
          simp only [Act.put, List.setIfInBounds_toArray, List.set_cons_zero, List.set_cons_succ]
          refine wpAnyH_take (i := 26) (oi := ⟨some 60, _, _, _, _, _⟩) (v := ?_) rfl (by kernel_rfl) (by kernel_rfl) (by kernel_rfl) (fun _ _ _ h => h) (Or.inl ⟨by rfl, ?_⟩) (by assumption) ?_
          rotate_left
          · (intro w hSw; (try dsimp only at hSw); go_simp; (try with_reducible rfl))
          simp only [Act.put, List.setIfInBounds_toArray, List.set_cons_zero, List.set_cons_succ]
          refine wpAnyH_take (i := 27) (oi := ⟨some 61, _, _, _, _, _⟩) (v := ?_) rfl (by kernel_rfl) (by kernel_rfl) (by kernel_rfl) (fun _ _ _ h => h) (Or.inl ⟨by rfl, ?_⟩) (by assumption) ?_
          rotate_left
          · (intro w hSw; (try dsimp only at hSw); go_simp; (try with_reducible rfl))
          simp only [Act.put, List.setIfInBounds_toArray, List.set_cons_zero, List.set_cons_succ]
          refine wpAnyH_ready (rs := [30]) (by kernel_rfl) (by simp) ?_
          refine AllReadyH.cons (o := ⟨some 64, _, _, _, _, _⟩) rfl (fun KK hK => ?_) AllReadyH.nil
          go_simp
          refine (rdecimal_any _ (by omega) (by omega) _).mono ?_
          rintro e WX7 ⟨rfl, hb⟩
          try replace HTA := Lib.hid (cell_kept hb HTA.out)
          try replace HTB := Lib.hid (cell_kept hb HTB.out)
          replace HX := Lib.hid (HX.out.below hb HX.out.lt)
          replace HB := Lib.hid (HB.out.trans (hb.mono HB.out.size))
          clear hb
          refine hK.out _ _ ⟨HX.out.cell 0 rfl, HX.out.cell 1 rfl, HX.out.cell 2 rfl, HX.out.cell 3 rfl, HX.out.cell 4 rfl, HX.out.cell 5 rfl, HX.out.cell 6 rfl, HX.out.cell 7 rfl, HX.out.cell 8 rfl⟩ (fun hHeld => ?_)
          clear hK; try clear KK
          try simp only [Act.put, List.setIfInBounds_toArray, List.set_cons_zero, List.set_cons_succ]
          refine wpAnyH_take (i := 31) (oi := ⟨some 65, _, _, _, _, _⟩) (v := ?_) rfl (by kernel_rfl) (by kernel_rfl) (by kernel_rfl) (fun _ _ _ h => h) (Or.inl ⟨by rfl, ?_⟩) (by assumption) ?_
          rotate_left
          · (intro w hSw; (try dsimp only at hSw); go_simp; (try with_reducible rfl))
          simp only [Act.put, List.setIfInBounds_toArray, List.set_cons_zero, List.set_cons_succ]
          refine wpAnyH_take (i := 32) (oi := ⟨some 3, _, _, _, _, _⟩) (v := ?_) rfl (by kernel_rfl) (by kernel_rfl) (by kernel_rfl) (fun _ _ _ h => h) (Or.inl ⟨by rfl, ?_⟩) (by assumption) ?_
          rotate_left
          · (intro w hSw; (try dsimp only at hSw); go_simp; (try with_reducible rfl))
          simp only [Act.put, List.setIfInBounds_toArray, List.set_cons_zero, List.set_cons_succ]
          refine wpAnyH_done (by kernel_rfl) ?_ _
          clear hHeld
          go_wp2_with fail
          go_meet
          case rel => exact ⟨rfl, HX.out, HB.out⟩
        · go_simp
          refine (rdecimal_any _ (by omega) (by omega) _).mono ?_
          rintro e WX8 ⟨rfl, hb⟩
          try replace HTA := Lib.hid (cell_kept hb HTA.out)
          try replace HTB := Lib.hid (cell_kept hb HTB.out)
          replace HX := Lib.hid (HX.out.below hb HX.out.lt)
          replace HB := Lib.hid (HB.out.trans (hb.mono HB.out.size))
          clear hb
          refine hK.out _ _ ⟨HX.out.cell 0 rfl, HX.out.cell 1 rfl, HX.out.cell 2 rfl, HX.out.cell 3 rfl, HX.out.cell 4 rfl, HX.out.cell 5 rfl, HX.out.cell 6 rfl, HX.out.cell 7 rfl, HX.out.cell 8 rfl⟩ (fun hHeld => ?_)
          clear hK; try clear KK
          try simp only [Act.put, List.setIfInBounds_toArray, List.set_cons_zero, List.set_cons_succ]
          refine wpAnyH_ready (rs := [20]) (by kernel_rfl) (by simp) ?_
          refine AllReadyH.cons (o := ⟨some 54, _, _, _, _, _⟩) rfl (fun KK hK => ?_) AllReadyH.nil
          have htb := HTB.out
          go_simp
          refine hK.out _ _ ⟨HX.out.cell 0 rfl, HX.out.cell 1 rfl, HX.out.cell 2 rfl, HX.out.cell 3 rfl, HX.out.cell 4 rfl, HX.out.cell 5 rfl, HX.out.cell 6 rfl, HX.out.cell 7 rfl, HX.out.cell 8 rfl⟩ (fun hHeld => ?_)
          clear hK; try clear KK
          try simp only [Act.put, List.setIfInBounds_toArray, List.set_cons_zero, List.set_cons_succ]
          refine wpAnyH_take (i := 21) (oi := ⟨some 55, _, _, _, _, _⟩) (v := ?_) rfl (by kernel_rfl) (by kernel_rfl) (by kernel_rfl) (fun _ _ _ h => h) (Or.inl ⟨by rfl, ?_⟩) (by assumption) ?_
          rotate_left
          · (intro w hSw; (try dsimp only at hSw); go_simp; (try with_reducible rfl))
          simp only [Act.put, List.setIfInBounds_toArray, List.set_cons_zero, List.set_cons_succ]
          refine wpAnyH_take (i := 22) (oi := ⟨some 56, _, _, _, _, _⟩) (v := ?_) rfl (by kernel_rfl) (by kernel_rfl) (by kernel_rfl) (fun _ _ _ h => h) (Or.inl ⟨by rfl, ?_⟩) (by assumption) ?_
          rotate_left
          · (intro w hSw; (try dsimp only at hSw); go_simp; (try with_reducible rfl))
          simp only [Act.put, List.setIfInBounds_toArray, List.set_cons_zero, List.set_cons_succ]
          refine wpAnyH_take (i := 26) (oi := ⟨some 60, _, _, _, _, _⟩) (v := ?_) rfl (by kernel_rfl) (by kernel_rfl) (by kernel_rfl) (fun _ _ _ h => h) (Or.inl ⟨by rfl, ?_⟩) (by assumption) ?_
          rotate_left
          · (intro w hSw; (try dsimp only at hSw); go_simp; (try with_reducible rfl))
          simp only [Act.put, List.setIfInBounds_toArray, List.set_cons_zero, List.set_cons_succ]
          refine wpAnyH_take (i := 27) (oi := ⟨some 61, _, _, _, _, _⟩) (v := ?_) rfl (by kernel_rfl) (by kernel_rfl) (by kernel_rfl) (fun _ _ _ h => h) (Or.inl ⟨by rfl, ?_⟩) (by assumption) ?_
          rotate_left
          · (intro w hSw; (try dsimp only at hSw); go_simp; (try with_reducible rfl))
          simp only [Act.put, List.setIfInBounds_toArray, List.set_cons_zero, List.set_cons_succ]
          refine wpAnyH_take (i := 31) (oi := ⟨some 65, _, _, _, _, _⟩) (v := ?_) rfl (by kernel_rfl) (by kernel_rfl) (by kernel_rfl) (fun _ _ _ h => h) (Or.inl ⟨by rfl, ?_⟩) (by assumption) ?_
          rotate_left
          · (intro w hSw; (try dsimp only at hSw); go_simp; (try with_reducible rfl))
          simp only [Act.put, List.setIfInBounds_toArray, List.set_cons_zero, List.set_cons_succ]
          refine wpAnyH_take (i := 32) (oi := ⟨some 3, _, _, _, _, _⟩) (v := ?_) rfl (by kernel_rfl) (by kernel_rfl) (by kernel_rfl) (fun _ _ _ h => h) (Or.inl ⟨by rfl, ?_⟩) (by assumption) ?_
          rotate_left
          · (intro w hSw; (try dsimp only at hSw); go_simp; (try with_reducible rfl))
          simp only [Act.put, List.setIfInBounds_toArray, List.set_cons_zero, List.set_cons_succ]
          refine wpAnyH_done (by kernel_rfl) ?_ _
          clear hHeld
          go_wp2_with fail
          go_meet
          case rel => exact ⟨rfl, HX.out, HB.out⟩
    · go_simp
      refine (dtypes_any _).mono ?_
      rintro e WX9 ⟨ub, uc, rfl, -, htc, h3, hb⟩
      have HTB : Hid (WX9.cell? ⟨ub, tn, none⟩ = some (.string T4)) := Lib.hid (by rw [← HQ4.out, ← type_at tn (by show tn < 5; omega)]; exact h3 tn (by show tn < 5; omega))
      replace HTA := Lib.hid (cell_kept hb HTA.out)
      replace HX := Lib.hid (HX.out.below hb HX.out.lt)
      replace HB := Lib.hid (HB.out.trans (hb.mono HB.out.size))
      clear hb h3 htc
      refine hK.out _ _ ⟨HX.out.cell 0 rfl, HX.out.cell 1 rfl, HX.out.cell 2 rfl, HX.out.cell 3 rfl, HX.out.cell 4 rfl, HX.out.cell 5 rfl, HX.out.cell 6 rfl, HX.out.cell 7 rfl, HX.out.cell 8 rfl⟩ (fun hHeld => ?_)
      clear hK; try clear KK
      try simp only [Act.put, List.setIfInBounds_toArray, List.set_cons_zero, List.set_cons_succ]
      refine wpAnyH_take (i := 19) (oi := ⟨some 53, _, _, _, _, _⟩) (v := ?_) rfl (by kernel_rfl) (by kernel_rfl) (by kernel_rfl) (fun _ _ _ h => h) (Or.inl ⟨by rfl, ?_⟩) (by assumption) ?_
      rotate_left
      · (intro w hSw; (try dsimp only at hSw); go_simp; (try with_reducible rfl))
      simp only [Act.put, List.setIfInBounds_toArray, List.set_cons_zero, List.set_cons_succ]
      refine wpAnyH_ready (rs := [12, 20, 25]) (by kernel_rfl) (by simp) ?_
      refine AllReadyH.cons (o := ⟨some 46, _, _, _, _, _⟩) rfl (fun KK hK => ?_) (AllReadyH.cons (o := ⟨some 54, _, _, _, _, _⟩) rfl (fun KK hK => ?_) (AllReadyH.cons (o := ⟨some 59, _, _, _, _, _⟩) rfl (fun KK hK => ?_) (AllReadyH.nil)))
      · have hta := HTA.out
        go_simp
        refine hK.out _ _ ⟨HX.out.cell 0 rfl, HX.out.cell 1 rfl, HX.out.cell 2 rfl, HX.out.cell 3 rfl, HX.out.cell 4 rfl, HX.out.cell 5 rfl, HX.out.cell 6 rfl, HX.out.cell 7 rfl, HX.out.cell 8 rfl⟩ (fun hHeld => ?_)
        clear hK; try clear KK
        try simp only [Act.put, List.setIfInBounds_toArray, List.set_cons_zero, List.set_cons_succ]
        refine wpAnyH_take (i := 13) (oi := ⟨some 47, _, _, _, _, _⟩) (v := ?_) rfl (by kernel_rfl) (by kernel_rfl) (by kernel_rfl) (fun _ _ _ h => h) (Or.inl ⟨by rfl, ?_⟩) (by assumption) ?_
        rotate_left
        · (intro w hSw; (try dsimp only at hSw); go_simp; (try with_reducible rfl))
        simp only [Act.put, List.setIfInBounds_toArray, List.set_cons_zero, List.set_cons_succ]
        refine wpAnyH_take (i := 14) (oi := ⟨some 48, _, _, _, _, _⟩) (v := ?_) rfl (by kernel_rfl) (by kernel_rfl) (by kernel_rfl) (fun _ _ _ h => h) (Or.inl ⟨by rfl, ?_⟩) (by assumption) ?_
        rotate_left
        · (intro w hSw; (try dsimp only at hSw); go_simp; (try with_reducible rfl))
        simp only [Act.put, List.setIfInBounds_toArray, List.set_cons_zero, List.set_cons_succ]
        refine wpAnyH_ready (rs := [20, 25]) (by kernel_rfl) (by simp) ?_
        refine AllReadyH.cons (o := ⟨some 54, _, _, _, _, _⟩) rfl (fun KK hK => ?_) (AllReadyH.cons (o := ⟨some 59, _, _, _, _, _⟩) rfl (fun KK hK => ?_) (AllReadyH.nil))
        · have htb := HTB.out
          go_simp
          refine hK.out _ _ ⟨HX.out.cell 0 rfl, HX.out.cell 1 rfl, HX.out.cell 2 rfl, HX.out.cell 3 rfl, HX.out.cell 4 rfl, HX.out.cell 5 rfl, HX.out.cell 6 rfl, HX.out.cell 7 rfl, HX.out.cell 8 rfl⟩ (fun hHeld => ?_)
          clear hK; try clear KK
          try simp only [Act.put, List.setIfInBounds_toArray, List.set_cons_zero, List.set_cons_succ]
          refine wpAnyH_take (i := 21) (oi := ⟨some 55, _, _, _, _, _⟩) (v := ?_) rfl (by kernel_rfl) (by kernel_rfl) (by kernel_rfl) (fun _ _ _ h => h) (Or.inl ⟨by rfl, ?_⟩) (by assumption) ?_
          rotate_left
          · (intro w hSw; (try dsimp only at hSw); go_simp; (try with_reducible rfl))
          simp only [Act.put, List.setIfInBounds_toArray, List.set_cons_zero, List.set_cons_succ]
          refine wpAnyH_take (i := 22) (oi := ⟨some 56, _, _, _, _, _⟩) (v := ?_) rfl (by kernel_rfl) (by kernel_rfl) (by kernel_rfl) (fun _ _ _ h => h) (Or.inl ⟨by rfl, ?_⟩) (by assumption) ?_
          rotate_left
          · (intro w hSw; (try dsimp only at hSw); go_simp; (try with_reducible rfl))
          simp only [Act.put, List.setIfInBounds_toArray, List.set_cons_zero, List.set_cons_succ]
          refine wpAnyH_ready (rs := [25]) (by kernel_rfl) (by simp) ?_
          refine AllReadyH.cons (o := ⟨some 59, _, _, _, _, _⟩) rfl (fun KK hK => ?_) AllReadyH.nil
          go_simp
          refine (rdecimal_any _ (by omega) (by omega) _).mono ?_
          rintro e WX10 ⟨rfl, hb⟩
          try replace HTA := Lib.hid (cell_kept hb HTA.out)
          try replace HTB := Lib.hid (cell_kept hb HTB.out)
          replace HX := Lib.hid (HX.out.below hb HX.out.lt)
          replace HB := Lib.hid (HB.out.trans (hb.mono HB.out.size))
          clear hb
          refine hK.out _ _ ⟨HX.out.cell 0 rfl, HX.out.cell 1 rfl, HX.out.cell 2 rfl, HX.out.cell 3 rfl, HX.out.cell 4 rfl, HX.out.cell 5 rfl, HX.out.cell 6 rfl, HX.out.cell 7 rfl, HX.out.cell 8 rfl⟩ (fun hHeld => ?_)
          clear hK; try clear KK
          try simp only [Act.put, List.setIfInBounds_toArray, List.set_cons_zero, List.set_cons_succ]
          refine wpAnyH_take (i := 26) (oi := ⟨some 60, _, _, _, _, _⟩) (v := ?_) rfl (by kernel_rfl) (by kernel_rfl) (by kernel_rfl) (fun _ _ _ h => h) (Or.inl ⟨by rfl, ?_⟩) (by assumption) ?_
          rotate_left
          · (intro w hSw; (try dsimp only at hSw); go_simp; (try with_reducible rfl))
          simp only [Act.put, List.setIfInBounds_toArray, List.set_cons_zero, List.set_cons_succ]
          refine wpAnyH_take (i := 27) (oi := ⟨some 61, _, _, _, _, _⟩) (v := ?_) rfl (by kernel_rfl) (by kernel_rfl) (by kernel_rfl) (fun _ _ _ h => h) (Or.inl ⟨by rfl, ?_⟩) (by assumption) ?_
          rotate_left
          · (intro w hSw; (try dsimp only at hSw); go_simp; (try with_reducible rfl))
          simp only [Act.put, List.setIfInBounds_toArray, List.set_cons_zero, List.set_cons_succ]
          refine wpAnyH_ready (rs := [30]) (by kernel_rfl) (by simp) ?_
          refine AllReadyH.cons (o := ⟨some 64, _, _, _, _, _⟩) rfl (fun KK hK => ?_) AllReadyH.nil
          go_simp
          refine (rdecimal_any _ (by omega) (by omega) _).mono ?_
          rintro e WX11 ⟨rfl, hb⟩
          try replace HTA := Lib.hid (cell_kept hb HTA.out)
          try replace HTB := Lib.hid (cell_kept hb HTB.out)
          replace HX := Lib.hid (HX.out.below hb HX.out.lt)
          replace HB := Lib.hid (HB.out.trans (hb.mono HB.out.size))
          clear hb
          refine hK.out _ _ ⟨HX.out.cell 0 rfl, HX.out.cell 1 rfl, HX.out.cell 2 rfl, HX.out.cell 3 rfl, HX.out.cell 4 rfl, HX.out.cell 5 rfl, HX.out.cell 6 rfl, HX.out.cell 7 rfl, HX.out.cell 8 rfl⟩ (fun hHeld => ?_)
          clear hK; try clear KK
          try simp only [Act.put, List.setIfInBounds_toArray, List.set_cons_zero, List.set_cons_succ]
          refine wpAnyH_take (i := 31) (oi := ⟨some 65, _, _, _, _, _⟩) (v := ?_) rfl (by kernel_rfl) (by kernel_rfl) (by kernel_rfl) (fun _ _ _ h => h) (Or.inl ⟨by rfl, ?_⟩) (by assumption) ?_
          rotate_left
          · (intro w hSw; (try dsimp only at hSw); go_simp; (try with_reducible rfl))
          simp only [Act.put, List.setIfInBounds_toArray, List.set_cons_zero, List.set_cons_succ]
          refine wpAnyH_take (i := 32) (oi := ⟨some 3, _, _, _, _, _⟩) (v := ?_) rfl (by kernel_rfl) (by kernel_rfl) (by kernel_rfl) (fun _ _ _ h => h) (Or.inl ⟨by rfl, ?_⟩) (by assumption) ?_
          rotate_left
          · (intro w hSw; (try dsimp only at hSw); go_simp; (try with_reducible rfl))
          simp only [Act.put, List.setIfInBounds_toArray, List.set_cons_zero, List.set_cons_succ]
          refine wpAnyH_done (by kernel_rfl) ?_ _
          clear hHeld
          go_wp2_with fail
          go_meet
          case rel => exact ⟨rfl, HX.out, HB.out⟩
        · go_simp
          refine (rdecimal_any _ (by omega) (by omega) _).mono ?_
          rintro e WX12 ⟨rfl, hb⟩
          try replace HTA := Lib.hid (cell_kept hb HTA.out)
          try replace HTB := Lib.hid (cell_kept hb HTB.out)
          replace HX := Lib.hid (HX.out.below hb HX.out.lt)
          replace HB := Lib.hid (HB.out.trans (hb.mono HB.out.size))
          clear hb
          refine hK.out _ _ ⟨HX.out.cell 0 rfl, HX.out.cell 1 rfl, HX.out.cell 2 rfl, HX.out.cell 3 rfl, HX.out.cell 4 rfl, HX.out.cell 5 rfl, HX.out.cell 6 rfl, HX.out.cell 7 rfl, HX.out.cell 8 rfl⟩ (fun hHeld => ?_)
          clear hK; try clear KK
          try simp only [Act.put, List.setIfInBounds_toArray, List.set_cons_zero, List.set_cons_succ]
          refine wpAnyH_ready (rs := [20, 30]) (by kernel_rfl) (by simp) ?_
          refine AllReadyH.cons (o := ⟨some 54, _, _, _, _, _⟩) rfl (fun KK hK => ?_) (AllReadyH.cons (o := ⟨some 64, _, _, _, _, _⟩) rfl (fun KK hK => ?_) (AllReadyH.nil))
          · have htb := HTB.out
            go_simp
            refine hK.out _ _ ⟨HX.out.cell 0 rfl, HX.out.cell 1 rfl, HX.out.cell 2 rfl, HX.out.cell 3 rfl, HX.out.cell 4 rfl, HX.out.cell 5 rfl, HX.out.cell 6 rfl, HX.out.cell 7 rfl, HX.out.cell 8 rfl⟩ (fun hHeld => ?_)
            clear hK; try clear KK
            try simp only [Act.put, List.setIfInBounds_toArray, List.set_cons_zero, List.set_cons_succ]
            refine wpAnyH_take (i := 21) (oi := ⟨some 55, _, _, _, _, _⟩) (v := ?_) rfl (by kernel_rfl) (by kernel_rfl) (by kernel_rfl) (fun _ _ _ h => h) (Or.inl ⟨by rfl, ?_⟩) (by assumption) ?_
            rotate_left
            · (intro w hSw; (try dsimp only at hSw); go_simp; (try with_reducible rfl))
            simp only [Act.put, List.setIfInBounds_toArray, List.set_cons_zero, List.set_cons_succ]
            refine wpAnyH_take (i := 22) (oi := ⟨some 56, _, _, _, _, _⟩) (v := ?_) rfl (by kernel_rfl) (by kernel_rfl) (by kernel_rfl) (fun _ _ _ h => h) (Or.inl ⟨by rfl, ?_⟩) (by assumption) ?_
            rotate_left
            · (intro w hSw; (try dsimp only at hSw); go_simp; (try with_reducible rfl))
            simp only [Act.put, List.setIfInBounds_toArray, List.set_cons_zero, List.set_cons_succ]
            refine wpAnyH_take (i := 26) (oi := ⟨some 60, _, _, _, _, _⟩) (v := ?_) rfl (by kernel_rfl) (by kernel_rfl) (by kernel_rfl) (fun _ _ _ h => h) (Or.inl ⟨by rfl, ?_⟩) (by assumption) ?_
            rotate_left
            · (intro w hSw; (try dsimp only at hSw); go_simp; (try with_reducible rfl))
            simp only [Act.put, List.setIfInBounds_toArray, List.set_cons_zero, List.set_cons_succ]
            refine wpAnyH_take (i := 27) (oi := ⟨some 61, _, _, _, _, _⟩) (v := ?_) rfl (by kernel_rfl) (by kernel_rfl) (by kernel_rfl) (fun _ _ _ h => h) (Or.inl ⟨by rfl, ?_⟩) (by assumption) ?_
            rotate_left
            · (intro w hSw; (try dsimp only at hSw); go_simp; (try with_reducible rfl))
            simp only [Act.put, List.setIfInBounds_toArray, List.set_cons_zero, List.set_cons_succ]
            refine wpAnyH_ready (rs := [30]) (by kernel_rfl) (by simp) ?_
            refine AllReadyH.cons (o := ⟨some 64, _, _, _, _, _⟩) rfl (fun KK hK => ?_) AllReadyH.nil
            go_simp
            refine (rdecimal_any _ (by omega) (by omega) _).mono ?_
            rintro e WX13 ⟨rfl, hb⟩
            try replace HTA := Lib.hid (cell_kept hb HTA.out)
            try replace HTB := Lib.hid (cell_kept hb HTB.out)
            replace HX := Lib.hid (HX.out.below hb HX.out.lt)
            replace HB := Lib.hid (HB.out.trans (hb.mono HB.out.size))
            clear hb
            refine hK.out _ _ ⟨HX.out.cell 0 rfl, HX.out.cell 1 rfl, HX.out.cell 2 rfl, HX.out.cell 3 rfl, HX.out.cell 4 rfl, HX.out.cell 5 rfl, HX.out.cell 6 rfl, HX.out.cell 7 rfl, HX.out.cell 8 rfl⟩ (fun hHeld => ?_)
            clear hK; try clear KK
            try simp only [Act.put, List.setIfInBounds_toArray, List.set_cons_zero, List.set_cons_succ]
            refine wpAnyH_take (i := 31) (oi := ⟨some 65, _, _, _, _, _⟩) (v := ?_) rfl (by kernel_rfl) (by kernel_rfl) (by kernel_rfl) (fun _ _ _ h => h) (Or.inl ⟨by rfl, ?_⟩) (by assumption) ?_
            rotate_left
            · (intro w hSw; (try dsimp only at hSw); go_simp; (try with_reducible rfl))
            simp only [Act.put, List.setIfInBounds_toArray, List.set_cons_zero, List.set_cons_succ]
            refine wpAnyH_take (i := 32) (oi := ⟨some 3, _, _, _, _, _⟩) (v := ?_) rfl (by kernel_rfl) (by kernel_rfl) (by kernel_rfl) (fun _ _ _ h => h) (Or.inl ⟨by rfl, ?_⟩) (by assumption) ?_
            rotate_left
            · (intro w hSw; (try dsimp only at hSw); go_simp; (try with_reducible rfl))
            simp only [Act.put, List.setIfInBounds_toArray, List.set_cons_zero, List.set_cons_succ]
            refine wpAnyH_done (by kernel_rfl) ?_ _
            clear hHeld
            go_wp2_with fail
            go_meet
            case rel => exact ⟨rfl, HX.out, HB.out⟩
          · go_simp
            refine (rdecimal_any _ (by omega) (by omega) _).mono ?_
            rintro e WX14 ⟨rfl, hb⟩
            try replace HTA := Lib.hid (cell_kept hb HTA.out)
            try replace HTB := Lib.hid (cell_kept hb HTB.out)
            replace HX := Lib.hid (HX.out.below hb HX.out.lt)
            replace HB := Lib.hid (HB.out.trans (hb.mono HB.out.size))
            clear hb
            refine hK.out _ _ ⟨HX.out.cell 0 rfl, HX.out.cell 1 rfl, HX.out.cell 2 rfl, HX.out.cell 3 rfl, HX.out.cell 4 rfl, HX.out.cell 5 rfl, HX.out.cell 6 rfl, HX.out.cell 7 rfl, HX.out.cell 8 rfl⟩ (fun hHeld => ?_)
            clear hK; try clear KK
            try simp only [Act.put, List.setIfInBounds_toArray, List.set_cons_zero, List.set_cons_succ]
            refine wpAnyH_ready (rs := [20]) (by kernel_rfl) (by simp) ?_
            refine AllReadyH.cons (o := ⟨some 54, _, _, _, _, _⟩) rfl (fun KK hK => ?_) AllReadyH.nil
            have htb := HTB.out
            go_simp
            refine hK.out _ _ ⟨HX.out.cell 0 rfl, HX.out.cell 1 rfl, HX.out.cell 2 rfl, HX.out.cell 3 rfl, HX.out.cell 4 rfl, HX.out.cell 5 rfl, HX.out.cell 6 rfl, HX.out.cell 7 rfl, HX.out.cell 8 rfl⟩ (fun hHeld => ?_)
            clear hK; try clear KK
            try simp only [Act.put, List.setIfInBounds_toArray, List.set_cons_zero, List.set_cons_succ]
            refine wpAnyH_take (i := 21) (oi := ⟨some 55, _, _, _, _, _⟩) (v := ?_) rfl (by kernel_rfl) (by kernel_rfl) (by kernel_rfl) (fun _ _ _ h => h) (Or.inl ⟨by rfl, ?_⟩) (by assumption) ?_
            rotate_left
            · (intro w hSw; (try dsimp only at hSw); go_simp; (try with_reducible rfl))
            simp only [Act.put, List.setIfInBounds_toArray, List.set_cons_zero, List.set_cons_succ]
            refine wpAnyH_take (i := 22) (oi := ⟨some 56, _, _, _, _, _⟩) (v := ?_) rfl (by kernel_rfl) (by kernel_rfl) (by kernel_rfl) (fun _ _ _ h => h) (Or.inl ⟨by rfl, ?_⟩) (by assumption) ?_
            rotate_left
            · (intro w hSw; (try dsimp only at hSw); go_simp; (try with_reducible rfl))
            simp only [Act.put, List.setIfInBounds_toArray, List.set_cons_zero, List.set_cons_succ]
            refine wpAnyH_take (i := 26) (oi := ⟨some 60, _, _, _, _, _⟩) (v := ?_) rfl (by kernel_rfl) (by kernel_rfl) (by kernel_rfl) (fun _ _ _ h => h) (Or.inl ⟨by rfl, ?_⟩) (by assumption) ?_
            rotate_left
            · (intro w hSw; (try dsimp only at hSw); go_simp; (try with_reducible rfl))
            simp only [Act.put, List.setIfInBounds_toArray, List.set_cons_zero, List.set_cons_succ]
            refine wpAnyH_take (i := 27) (oi := ⟨some 61, _, _, _, _, _⟩) (v := ?_) rfl (by kernel_rfl) (by kernel_rfl) (by kernel_rfl) (fun _ _ _ h => h) (Or.inl ⟨by rfl, ?_⟩) (by assumption) ?_
            rotate_left
            · (intro w hSw; (try dsimp only at hSw); go_simp; (try with_reducible rfl))
            simp only [Act.put, List.setIfInBounds_toArray, List.set_cons_zero, List.set_cons_succ]
            refine wpAnyH_take (i := 31) (oi := ⟨some 65, _, _, _, _, _⟩) (v := ?_) rfl (by kernel_rfl) (by kernel_rfl) (by kernel_rfl) (fun _ _ _ h => h) (Or.inl ⟨by rfl, ?_⟩) (by assumption) ?_
            rotate_left
            · (intro w hSw; (try dsimp only at hSw); go_simp; (try with_reducible rfl))
            simp only [Act.put, List.setIfInBounds_toArray, List.set_cons_zero, List.set_cons_succ]
            refine wpAnyH_take (i := 32) (oi := ⟨some 3, _, _, _, _, _⟩) (v := ?_) rfl (by kernel_rfl) (by kernel_rfl) (by kernel_rfl) (fun _ _ _ h => h) (Or.inl ⟨by rfl, ?_⟩) (by assumption) ?_
            rotate_left
            · (intro w hSw; (try dsimp only at hSw); go_simp; (try with_reducible rfl))
            simp only [Act.put, List.setIfInBounds_toArray, List.set_cons_zero, List.set_cons_succ]
            refine wpAnyH_done (by kernel_rfl) ?_ _
            clear hHeld
            go_wp2_with fail
            go_meet
            case rel => exact ⟨rfl, HX.out, HB.out⟩
      · have htb := HTB.out
        go_simp
        refine hK.out _ _ ⟨HX.out.cell 0 rfl, HX.out.cell 1 rfl, HX.out.cell 2 rfl, HX.out.cell 3 rfl, HX.out.cell 4 rfl, HX.out.cell 5 rfl, HX.out.cell 6 rfl, HX.out.cell 7 rfl, HX.out.cell 8 rfl⟩ (fun hHeld => ?_)
        clear hK; try clear KK
        try simp only [Act.put, List.setIfInBounds_toArray, List.set_cons_zero, List.set_cons_succ]
        refine wpAnyH_ready (rs := [12, 25]) (by kernel_rfl) (by simp) ?_
        refine AllReadyH.cons (o := ⟨some 46, _, _, _, _, _⟩) rfl (fun KK hK => ?_) (AllReadyH.cons (o := ⟨some 59, _, _, _, _, _⟩) rfl (fun KK hK => ?_) (AllReadyH.nil))
        · have hta := HTA.out
          go_simp
          refine hK.out _ _ ⟨HX.out.cell 0 rfl, HX.out.cell 1 rfl, HX.out.cell 2 rfl, HX.out.cell 3 rfl, HX.out.cell 4 rfl, HX.out.cell 5 rfl, HX.out.cell 6 rfl, HX.out.cell 7 rfl, HX.out.cell 8 rfl⟩ (fun hHeld => ?_)
          clear hK; try clear KK
          try simp only [Act.put, List.setIfInBounds_toArray, List.set_cons_zero, List.set_cons_succ]
          refine wpAnyH_take (i := 13) (oi := ⟨some 47, _, _, _, _, _⟩) (v := ?_) rfl (by kernel_rfl) (by kernel_rfl) (by kernel_rfl) (fun _ _ _ h => h) (Or.inl ⟨by rfl, ?_⟩) (by assumption) ?_
          rotate_left
          · (intro w hSw; (try dsimp only at hSw); go_simp; (try with_reducible rfl))
          simp only [Act.put, List.setIfInBounds_toArray, List.set_cons_zero, List.set_cons_succ]
          refine wpAnyH_take (i := 14) (oi := ⟨some 48, _, _, _, _, _⟩) (v := ?_) rfl (by kernel_rfl) (by kernel_rfl) (by kernel_rfl) (fun _ _ _ h => h) (Or.inl ⟨by rfl, ?_⟩) (by assumption) ?_
          rotate_left
          · (intro w hSw; (try dsimp only at hSw); go_simp; (try with_reducible rfl))
          simp only [Act.put, List.setIfInBounds_toArray, List.set_cons_zero, List.set_cons_succ]
          refine wpAnyH_take (i := 21) (oi := ⟨some 55, _, _, _, _, _⟩) (v := ?_) rfl (by kernel_rfl) (by kernel_rfl) (by kernel_rfl) (fun _ _ _ h => h) (Or.inl ⟨by rfl, ?_⟩) (by assumption) ?_
          rotate_left
          · (intro w hSw; (try dsimp only at hSw); go_simp; (try with_reducible rfl))
          simp only [Act.put, List.setIfInBounds_toArray, List.set_cons_zero, List.set_cons_succ]
          refine wpAnyH_take (i := 22) (oi := ⟨some 56, _, _, _, _, _⟩) (v := ?_) rfl (by kernel_rfl) (by kernel_rfl) (by kernel_rfl) (fun _ _ _ h => h) (Or.inl ⟨by rfl, ?_⟩) (by assumption) ?_
          rotate_left
          · (intro w hSw; (try dsimp only at hSw); go_simp; (try with_reducible rfl))
          simp only [Act.put, List.setIfInBounds_toArray, List.set_cons_zero, List.set_cons_succ]
          refine wpAnyH_ready (rs := [25]) (by kernel_rfl) (by simp) ?_
          refine AllReadyH.cons (o := ⟨some 59, _, _, _, _, _⟩) rfl (fun KK hK => ?_) AllReadyH.nil
          go_simp
          refine (rdecimal_any _ (by omega) (by omega) _).mono ?_
          rintro e WX15 ⟨rfl, hb⟩
          try replace HTA := Lib.hid (cell_kept hb HTA.out)
          try replace HTB := Lib.hid (cell_kept hb HTB.out)
          replace HX := Lib.hid (HX.out.below hb HX.out.lt)
          replace HB := Lib.hid (HB.out.trans (hb.mono HB.out.size))
          clear hb
          refine hK.out _ _ ⟨HX.out.cell 0 rfl, HX.out.cell 1 rfl, HX.out.cell 2 rfl, HX.out.cell 3 rfl, HX.out.cell 4 rfl, HX.out.cell 5 rfl, HX.out.cell 6 rfl, HX.out.cell 7 rfl, HX.out.cell 8 rfl⟩ (fun hHeld => ?_)
          clear hK; try clear KK
          try simp only [Act.put, List.setIfInBounds_toArray, List.set_cons_zero, List.set_cons_succ]
          refine wpAnyH_take (i := 26) (oi := ⟨some 60, _, _, _, _, _⟩) (v := ?_) rfl (by kernel_rfl) (by kernel_rfl) (by kernel_rfl) (fun _ _ _ h => h) (Or.inl ⟨by rfl, ?_⟩) (by assumption) ?_
          rotate_left
          · (intro w hSw; (try dsimp only at hSw); go_simp; (try with_reducible rfl))
          simp only [Act.put, List.setIfInBounds_toArray, List.set_cons_zero, List.set_cons_succ]
          refine wpAnyH_take (i := 27) (oi := ⟨some 61, _, _, _, _, _⟩) (v := ?_) rfl (by kernel_rfl) (by kernel_rfl) (by kernel_rfl) (fun _ _ _ h => h) (Or.inl ⟨by rfl, ?_⟩) (by assumption) ?_
          rotate_left
          · (intro w hSw; (try dsimp only at hSw); go_simp; (try with_reducible rfl))
          simp only [Act.put, List.setIfInBounds_toArray, List.set_cons_zero, List.set_cons_succ]
          refine wpAnyH_ready (rs := [30]) (by kernel_rfl) (by simp) ?_
          refine AllReadyH.cons (o := ⟨some 64, _, _, _, _, _⟩) rfl (fun KK hK => ?_) AllReadyH.nil
          go_simp
          refine (rdecimal_any _ (by omega) (by omega) _).mono ?_
          rintro e WX16 ⟨rfl, hb⟩
          try replace HTA := Lib.hid (cell_kept hb HTA.out)
          try replace HTB := Lib.hid (cell_kept hb HTB.out)
          replace HX := Lib.hid (HX.out.below hb HX.out.lt)
          replace HB := Lib.hid (HB.out.trans (hb.mono HB.out.size))
          clear hb
          refine hK.out _ _ ⟨HX.out.cell 0 rfl, HX.out.cell 1 rfl, HX.out.cell 2 rfl, HX.out.cell 3 rfl, HX.out.cell 4 rfl, HX.out.cell 5 rfl, HX.out.cell 6 rfl, HX.out.cell 7 rfl, HX.out.cell 8 rfl⟩ (fun hHeld => ?_)
          clear hK; try clear KK
          try simp only [Act.put, List.setIfInBounds_toArray, List.set_cons_zero, List.set_cons_succ]
          refine wpAnyH_take (i := 31) (oi := ⟨some 65, _, _, _, _, _⟩) (v := ?_) rfl (by kernel_rfl) (by kernel_rfl) (by kernel_rfl) (fun _ _ _ h => h) (Or.inl ⟨by rfl, ?_⟩) (by assumption) ?_
          rotate_left
          · (intro w hSw; (try dsimp only at hSw); go_simp; (try with_reducible rfl))
          simp only [Act.put, List.setIfInBounds_toArray, List.set_cons_zero, List.set_cons_succ]
          refine wpAnyH_take (i := 32) (oi := ⟨some 3, _, _, _, _, _⟩) (v := ?_) rfl (by kernel_rfl) (by kernel_rfl) (by kernel_rfl) (fun _ _ _ h => h) (Or.inl ⟨by rfl, ?_⟩) (by assumption) ?_
          rotate_left
          · (intro w hSw; (try dsimp only at hSw); go_simp; (try with_reducible rfl))
          simp only [Act.put, List.setIfInBounds_toArray, List.set_cons_zero, List.set_cons_succ]
          refine wpAnyH_done (by kernel_rfl) ?_ _
          clear hHeld
          go_wp2_with fail
          go_meet
          case rel => exact ⟨rfl, HX.out, HB.out⟩
        · go_simp
          refine (rdecimal_any _ (by omega) (by omega) _).mono ?_
          rintro e WX17 ⟨rfl, hb⟩
          try replace HTA := Lib.hid (cell_kept hb HTA.out)
          try replace HTB := Lib.hid (cell_kept hb HTB.out)
          replace HX := Lib.hid (HX.out.below hb HX.out.lt)
          replace HB := Lib.hid (HB.out.trans (hb.mono HB.out.size))
          clear hb
          refine hK.out _ _ ⟨HX.out.cell 0 rfl, HX.out.cell 1 rfl, HX.out.cell 2 rfl, HX.out.cell 3 rfl, HX.out.cell 4 rfl, HX.out.cell 5 rfl, HX.out.cell 6 rfl, HX.out.cell 7 rfl, HX.out.cell 8 rfl⟩ (fun hHeld => ?_)
          clear hK; try clear KK
          try simp only [Act.put, List.setIfInBounds_toArray, List.set_cons_zero, List.set_cons_succ]
          refine wpAnyH_ready (rs := [12, 30]) (by kernel_rfl) (by simp) ?_
          refine AllReadyH.cons (o := ⟨some 46, _, _, _, _, _⟩) rfl (fun KK hK => ?_) (AllReadyH.cons (o := ⟨some 64, _, _, _, _, _⟩) rfl (fun KK hK => ?_) (AllReadyH.nil))
          · have hta := HTA.out
            go_simp
            refine hK.out _ _ ⟨HX.out.cell 0 rfl, HX.out.cell 1 rfl, HX.out.cell 2 rfl, HX.out.cell 3 rfl, HX.out.cell 4 rfl, HX.out.cell 5 rfl, HX.out.cell 6 rfl, HX.out.cell 7 rfl, HX.out.cell 8 rfl⟩ (fun hHeld => ?_)
            clear hK; try clear KK
            try simp only [Act.put, List.setIfInBounds_toArray, List.set_cons_zero, List.set_cons_succ]
            refine wpAnyH_take (i := 13) (oi := ⟨some 47, _, _, _, _, _⟩) (v := ?_) rfl (by kernel_rfl) (by kernel_rfl) (by kernel_rfl) (fun _ _ _ h => h) (Or.inl ⟨by rfl, ?_⟩) (by assumption) ?_
            rotate_left
            · (intro w hSw; (try dsimp only at hSw); go_simp; (try with_reducible rfl))
            simp only [Act.put, List.setIfInBounds_toArray, List.set_cons_zero, List.set_cons_succ]
            refine wpAnyH_take (i := 14) (oi := ⟨some 48, _, _, _, _, _⟩) (v := ?_) rfl (by kernel_rfl) (by kernel_rfl) (by kernel_rfl) (fun _ _ _ h => h) (Or.inl ⟨by rfl, ?_⟩) (by assumption) ?_
            rotate_left
            · (intro w hSw; (try dsimp only at hSw); go_simp; (try with_reducible rfl))
            simp only [Act.put, List.setIfInBounds_toArray, List.set_cons_zero, List.set_cons_succ]
            refine wpAnyH_take (i := 21) (oi := ⟨some 55, _, _, _, _, _⟩) (v := ?_) rfl (by kernel_rfl) (by kernel_rfl) (by kernel_rfl) (fun _ _ _ h => h) (Or.inl ⟨by rfl, ?_⟩) (by assumption) ?_
            rotate_left
            · (intro w hSw; (try dsimp only at hSw); go_simp; (try with_reducible rfl))
            simp only [Act.put, List.setIfInBounds_toArray, List.set_cons_zero, List.set_cons_succ]
            refine wpAnyH_take (i := 22) (oi := ⟨some 56, _, _, _, _, _⟩) (v := ?_) rfl (by kernel_rfl) (by kernel_rfl) (by kernel_rfl) (fun _ _ _ h => h) (Or.inl ⟨by rfl, ?_⟩) (by assumption) ?_
            rotate_left
            · (intro w hSw; (try dsimp only at hSw); go_simp; (try with_reducible rfl))
            simp only [Act.put, List.setIfInBounds_toArray, List.set_cons_zero, List.set_cons_succ]
            refine wpAnyH_take (i := 26) (oi := ⟨some 60, _, _, _, _, _⟩) (v := ?_) rfl (by kernel_rfl) (by kernel_rfl) (by kernel_rfl) (fun _ _ _ h => h) (Or.inl ⟨by rfl, ?_⟩) (by assumption) ?_
            rotate_left
            · (intro w hSw; (try dsimp only at hSw); go_simp; (try with_reducible rfl))
            simp only [Act.put, List.setIfInBounds_toArray, List.set_cons_zero, List.set_cons_succ]
            refine wpAnyH_take (i := 27) (oi := ⟨some 61, _, _, _, _, _⟩) (v := ?_) rfl (by kernel_rfl) (by kernel_rfl) (by kernel_rfl) (fun _ _ _ h => h) (Or.inl ⟨by rfl, ?_⟩) (by assumption) ?_
            rotate_left
            · (intro w hSw; (try dsimp only at hSw); go_simp; (try with_reducible rfl))
            simp only [Act.put, List.setIfInBounds_toArray, List.set_cons_zero, List.set_cons_succ]
            refine wpAnyH_ready (rs := [30]) (by kernel_rfl) (by simp) ?_
            refine AllReadyH.cons (o := ⟨some 64, _, _, _, _, _⟩) rfl (fun KK hK => ?_) AllReadyH.nil
            go_simp
            refine (rdecimal_any _ (by omega) (by omega) _).mono ?_
            rintro e WX18 ⟨rfl, hb⟩
            try replace HTA := Lib.hid (cell_kept hb HTA.out)
            try replace HTB := Lib.hid (cell_kept hb HTB.out)
            replace HX := Lib.hid (HX.out.below hb HX.out.lt)
            replace HB := Lib.hid (HB.out.trans (hb.mono HB.out.size))
            clear hb
            refine hK.out _ _ ⟨HX.out.cell 0 rfl, HX.out.cell 1 rfl, HX.out.cell 2 rfl, HX.out.cell 3 rfl, HX.out.cell 4 rfl, HX.out.cell 5 rfl, HX.out.cell 6 rfl, HX.out.cell 7 rfl, HX.out.cell 8 rfl⟩ (fun hHeld => ?_)
            clear hK; try clear KK
            try simp only [Act.put, List.setIfInBounds_toArray, List.set_cons_zero, List.set_cons_succ]
            refine wpAnyH_take (i := 31) (oi := ⟨some 65, _, _, _, _, _⟩) (v := ?_) rfl (by kernel_rfl) (by kernel_rfl) (by kernel_rfl) (fun _ _ _ h => h) (Or.inl ⟨by rfl, ?_⟩) (by assumption) ?_
            rotate_left
            · (intro w hSw; (try dsimp only at hSw); go_simp; (try with_reducible rfl))
            simp only [Act.put, List.setIfInBounds_toArray, List.set_cons_zero, List.set_cons_succ]
            refine wpAnyH_take (i := 32) (oi := ⟨some 3, _, _, _, _, _⟩) (v := ?_) rfl (by kernel_rfl) (by kernel_rfl) (by kernel_rfl) (fun _ _ _ h => h) (Or.inl ⟨by rfl, ?_⟩) (by assumption) ?_
            rotate_left
            · (intro w hSw; (try dsimp only at hSw); go_simp; (try with_reducible rfl))
            simp only [Act.put, List.setIfInBounds_toArray, List.set_cons_zero, List.set_cons_succ]
            refine wpAnyH_done (by kernel_rfl) ?_ _
            clear hHeld
            go_wp2_with fail
            go_meet
            case rel => exact ⟨rfl, HX.out, HB.out⟩
          · go_simp
            refine (rdecimal_any _ (by omega) (by omega) _).mono ?_
            rintro e WX19 ⟨rfl, hb⟩
            try replace HTA := Lib.hid (cell_kept hb HTA.out)
            try replace HTB := Lib.hid (cell_kept hb HTB.out)
            replace HX := Lib.hid (HX.out.below hb HX.out.lt)
            replace HB := Lib.hid (HB.out.trans (hb.mono HB.out.size))
            clear hb
            refine hK.out _ _ ⟨HX.out.cell 0 rfl, HX.out.cell 1 rfl, HX.out.cell 2 rfl, HX.out.cell 3 rfl, HX.out.cell 4 rfl, HX.out.cell 5 rfl, HX.out.cell 6 rfl, HX.out.cell 7 rfl, HX.out.cell 8 rfl⟩ (fun hHeld => ?_)
            clear hK; try clear KK
            try simp only [Act.put, List.setIfInBounds_toArray, List.set_cons_zero, List.set_cons_succ]
            refine wpAnyH_ready (rs := [12]) (by kernel_rfl) (by simp) ?_
            refine AllReadyH.cons (o := ⟨some 46, _, _, _, _, _⟩) rfl (fun KK hK => ?_) AllReadyH.nil
            have hta := HTA.out
            go_simp
            refine hK.out _ _ ⟨HX.out.cell 0 rfl, HX.out.cell 1 rfl, HX.out.cell 2 rfl, HX.out.cell 3 rfl, HX.out.cell 4 rfl, HX.out.cell 5 rfl, HX.out.cell 6 rfl, HX.out.cell 7 rfl, HX.out.cell 8 rfl⟩ (fun hHeld => ?_)
            clear hK; try clear KK
            try simp only [Act.put, List.setIfInBounds_toArray, List.set_cons_zero, List.set_cons_succ]
            refine wpAnyH_take (i := 13) (oi := ⟨some 47, _, _, _, _, _⟩) (v := ?_) rfl (by kernel_rfl) (by kernel_rfl) (by kernel_rfl) (fun _ _ _ h => h) (Or.inl ⟨by rfl, ?_⟩) (by assumption) ?_
            rotate_left
            · (intro w hSw; (try dsimp only at hSw); go_simp; (try with_reducible rfl))
            simp only [Act.put, List.setIfInBounds_toArray, List.set_cons_zero, List.set_cons_succ]
            refine wpAnyH_take (i := 14) (oi := ⟨some 48, _, _, _, _, _⟩) (v := ?_) rfl (by kernel_rfl) (by kernel_rfl) (by kernel_rfl) (fun _ _ _ h => h) (Or.inl ⟨by rfl, ?_⟩) (by assumption) ?_
            rotate_left
            · (intro w hSw; (try dsimp only at hSw); go_simp; (try with_reducible rfl))
            simp only [Act.put, List.setIfInBounds_toArray, List.set_cons_zero, List.set_cons_succ]
            refine wpAnyH_take (i := 21) (oi := ⟨some 55, _, _, _, _, _⟩) (v := ?_) rfl (by kernel_rfl) (by kernel_rfl) (by kernel_rfl) (fun _ _ _ h => h) (Or.inl ⟨by rfl, ?_⟩) (by assumption) ?_
            rotate_left
            · (intro w hSw; (try dsimp only at hSw); go_simp; (try with_reducible rfl))
            simp only [Act.put, List.setIfInBounds_toArray, List.set_cons_zero, List.set_cons_succ]
            refine wpAnyH_take (i := 22) (oi := ⟨some 56, _, _, _, _, _⟩) (v := ?_) rfl (by kernel_rfl) (by kernel_rfl) (by kernel_rfl) (fun _ _ _ h => h) (Or.inl ⟨by rfl, ?_⟩) (by assumption) ?_
            rotate_left
            · (intro w hSw; (try dsimp only at hSw); go_simp; (try with_reducible rfl))
            simp only [Act.put, List.setIfInBounds_toArray, List.set_cons_zero, List.set_cons_succ]
            refine wpAnyH_take (i := 26) (oi := ⟨some 60, _, _, _, _, _⟩) (v := ?_) rfl (by kernel_rfl) (by kernel_rfl) (by kernel_rfl) (fun _ _ _ h => h) (Or.inl ⟨by rfl, ?_⟩) (by assumption) ?_
            rotate_left
            · (intro w hSw; (try dsimp only at hSw); go_simp; (try with_reducible rfl))
            simp only [Act.put, List.setIfInBounds_toArray, List.set_cons_zero, List.set_cons_succ]
            refine wpAnyH_take (i := 27) (oi := ⟨some 61, _, _, _, _, _⟩) (v := ?_) rfl (by kernel_rfl) (by kernel_rfl) (by kernel_rfl) (fun _ _ _ h => h) (Or.inl ⟨by rfl, ?_⟩) (by assumption) ?_
            rotate_left
            · (intro w hSw; (try dsimp only at hSw); go_simp; (try with_reducible rfl))
            simp only [Act.put, List.setIfInBounds_toArray, List.set_cons_zero, List.set_cons_succ]
            refine wpAnyH_take (i := 31) (oi := ⟨some 65, _, _, _, _, _⟩) (v := ?_) rfl (by kernel_rfl) (by kernel_rfl) (by kernel_rfl) (fun _ _ _ h => h) (Or.inl ⟨by rfl, ?_⟩) (by assumption) ?_
            rotate_left
            · (intro w hSw; (try dsimp only at hSw); go_simp; (try with_reducible rfl))
            simp only [Act.put, List.setIfInBounds_toArray, List.set_cons_zero, List.set_cons_succ]
            refine wpAnyH_take (i := 32) (oi := ⟨some 3, _, _, _, _, _⟩) (v := ?_) rfl (by kernel_rfl) (by kernel_rfl) (by kernel_rfl) (fun _ _ _ h => h) (Or.inl ⟨by rfl, ?_⟩) (by assumption) ?_
            rotate_left
            · (intro w hSw; (try dsimp only at hSw); go_simp; (try with_reducible rfl))
            simp only [Act.put, List.setIfInBounds_toArray, List.set_cons_zero, List.set_cons_succ]
            refine wpAnyH_done (by kernel_rfl) ?_ _
            clear hHeld
            go_wp2_with fail
            go_meet
            case rel => exact ⟨rfl, HX.out, HB.out⟩
      · go_simp
        refine (rdecimal_any _ (by omega) (by omega) _).mono ?_
        rintro e WX20 ⟨rfl, hb⟩
        try replace HTA := Lib.hid (cell_kept hb HTA.out)
        try replace HTB := Lib.hid (cell_kept hb HTB.out)
        replace HX := Lib.hid (HX.out.below hb HX.out.lt)
        replace HB := Lib.hid (HB.out.trans (hb.mono HB.out.size))
        clear hb
        refine hK.out _ _ ⟨HX.out.cell 0 rfl, HX.out.cell 1 rfl, HX.out.cell 2 rfl, HX.out.cell 3 rfl, HX.out.cell 4 rfl, HX.out.cell 5 rfl, HX.out.cell 6 rfl, HX.out.cell 7 rfl, HX.out.cell 8 rfl⟩ (fun hHeld => ?_)
        clear hK; try clear KK
        try simp only [Act.put, List.setIfInBounds_toArray, List.set_cons_zero, List.set_cons_succ]
        refine wpAnyH_ready (rs := [12, 20, 30]) (by kernel_rfl) (by simp) ?_
        refine AllReadyH.cons (o := ⟨some 46, _, _, _, _, _⟩) rfl (fun KK hK => ?_) (AllReadyH.cons (o := ⟨some 54, _, _, _, _, _⟩) rfl (fun KK hK => ?_) (AllReadyH.cons (o := ⟨some 64, _, _, _, _, _⟩) rfl (fun KK hK => ?_) (AllReadyH.nil)))
        · have hta := HTA.out
          go_simp
          refine hK.out _ _ ⟨HX.out.cell 0 rfl, HX.out.cell 1 rfl, HX.out.cell 2 rfl, HX.out.cell 3 rfl, HX.out.cell 4 rfl, HX.out.cell 5 rfl, HX.out.cell 6 rfl, HX.out.cell 7 rfl, HX.out.cell 8 rfl⟩ (fun hHeld => ?_)
          clear hK; try clear KK
          try simp only [Act.put, List.setIfInBounds_toArray, List.set_cons_zero, List.set_cons_succ]
          refine wpAnyH_take (i := 13) (oi := ⟨some 47, _, _, _, _, _⟩) (v := ?_) rfl (by kernel_rfl) (by kernel_rfl) (by kernel_rfl) (fun _ _ _ h => h) (Or.inl ⟨by rfl, ?_⟩) (by assumption) ?_
          rotate_left
          · (intro w hSw; (try dsimp only at hSw); go_simp; (try with_reducible rfl))
          simp only [Act.put, List.setIfInBounds_toArray, List.set_cons_zero, List.set_cons_succ]
          refine wpAnyH_take (i := 14) (oi := ⟨some 48, _, _, _, _, _⟩) (v := ?_) rfl (by kernel_rfl) (by kernel_rfl) (by kernel_rfl) (fun _ _ _ h => h) (Or.inl ⟨by rfl, ?_⟩) (by assumption) ?_
          rotate_left
          · (intro w hSw; (try dsimp only at hSw); go_simp; (try with_reducible rfl))
          simp only [Act.put, List.setIfInBounds_toArray, List.set_cons_zero, List.set_cons_succ]
          refine wpAnyH_ready (rs := [20, 30]) (by kernel_rfl) (by simp) ?_
          refine AllReadyH.cons (o := ⟨some 54, _, _, _, _, _⟩) rfl (fun KK hK => ?_) (AllReadyH.cons (o := ⟨some 64, _, _, _, _, _⟩) rfl (fun KK hK => ?_) (AllReadyH.nil))
          · have htb := HTB.out
            go_simp
            refine hK.out _ _ ⟨HX.out.cell 0 rfl, HX.out.cell 1 rfl, HX.out.cell 2 rfl, HX.out.cell 3 rfl, HX.out.cell 4 rfl, HX.out.cell 5 rfl, HX.out.cell 6 rfl, HX.out.cell 7 rfl, HX.out.cell 8 rfl⟩ (fun hHeld => ?_)
            clear hK; try clear KK
            try simp only [Act.put, List.setIfInBounds_toArray, List.set_cons_zero, List.set_cons_succ]
            refine wpAnyH_take (i := 21) (oi := ⟨some 55, _, _, _, _, _⟩) (v := ?_) rfl (by kernel_rfl) (by kernel_rfl) (by kernel_rfl) (fun _ _ _ h => h) (Or.inl ⟨by rfl, ?_⟩) (by assumption) ?_
            rotate_left
            · (intro w hSw; (try dsimp only at hSw); go_simp; (try with_reducible rfl))
            simp only [Act.put, List.setIfInBounds_toArray, List.set_cons_zero, List.set_cons_succ]
            refine wpAnyH_take (i := 22) (oi := ⟨some 56, _, _, _, _, _⟩) (v := ?_) rfl (by kernel_rfl) (by kernel_rfl) (by kernel_rfl) (fun _ _ _ h => h) (Or.inl ⟨by rfl, ?_⟩) (by assumption) ?_
            rotate_left
            · (intro w hSw; (try dsimp only at hSw); go_simp; (try with_reducible rfl))
            simp only [Act.put, List.setIfInBounds_toArray, List.set_cons_zero, List.set_cons_succ]
            refine wpAnyH_take (i := 26) (oi := ⟨some 60, _, _, _, _, _⟩) (v := ?_) rfl (by kernel_rfl) (by kernel_rfl) (by kernel_rfl) (fun _ _ _ h => h) (Or.inl ⟨by rfl, ?_⟩) (by assumption) ?_
            rotate_left
            · (intro w hSw; (try dsimp only at hSw); go_simp; (try with_reducible rfl))
            simp only [Act.put, List.setIfInBounds_toArray, List.set_cons_zero, List.set_cons_succ]
            refine wpAnyH_take (i := 27) (oi := ⟨some 61, _, _, _, _, _⟩) (v := ?_) rfl (by kernel_rfl) (by kernel_rfl) (by kernel_rfl) (fun _ _ _ h => h) (Or.inl ⟨by rfl, ?_⟩) (by assumption) ?_
            rotate_left
            · (intro w hSw; (try dsimp only at hSw); go_simp; (try with_reducible rfl))
            simp only [Act.put, List.setIfInBounds_toArray, List.set_cons_zero, List.set_cons_succ]
            refine wpAnyH_ready (rs := [30]) (by kernel_rfl) (by simp) ?_
            refine AllReadyH.cons (o := ⟨some 64, _, _, _, _, _⟩) rfl (fun KK hK => ?_) AllReadyH.nil
            go_simp
            refine (rdecimal_any _ (by omega) (by omega) _).mono ?_
            rintro e WX21 ⟨rfl, hb⟩
            try replace HTA := Lib.hid (cell_kept hb HTA.out)
            try replace HTB := Lib.hid (cell_kept hb HTB.out)
            replace HX := Lib.hid (HX.out.below hb HX.out.lt)
            replace HB := Lib.hid (HB.out.trans (hb.mono HB.out.size))
            clear hb
            refine hK.out _ _ ⟨HX.out.cell 0 rfl, HX.out.cell 1 rfl, HX.out.cell 2 rfl, HX.out.cell 3 rfl, HX.out.cell 4 rfl, HX.out.cell 5 rfl, HX.out.cell 6 rfl, HX.out.cell 7 rfl, HX.out.cell 8 rfl⟩ (fun hHeld => ?_)
            clear hK; try clear KK
            try simp only [Act.put, List.setIfInBounds_toArray, List.set_cons_zero, List.set_cons_succ]
            refine wpAnyH_take (i := 31) (oi := ⟨some 65, _, _, _, _, _⟩) (v := ?_) rfl (by kernel_rfl) (by kernel_rfl) (by kernel_rfl) (fun _ _ _ h => h) (Or.inl ⟨by rfl, ?_⟩) (by assumption) ?_
            rotate_left
            · (intro w hSw; (try dsimp only at hSw); go_simp; (try with_reducible rfl))
            simp only [Act.put, List.setIfInBounds_toArray, List.set_cons_zero, List.set_cons_succ]
            refine wpAnyH_take (i := 32) (oi := ⟨some 3, _, _, _, _, _⟩) (v := ?_) rfl (by kernel_rfl) (by kernel_rfl) (by kernel_rfl) (fun _ _ _ h => h) (Or.inl ⟨by rfl, ?_⟩) (by assumption) ?_
            rotate_left
            · (intro w hSw; (try dsimp only at hSw); go_simp; (try with_reducible rfl))
            simp only [Act.put, List.setIfInBounds_toArray, List.set_cons_zero, List.set_cons_succ]
            refine wpAnyH_done (by kernel_rfl) ?_ _
            clear hHeld
            go_wp2_with fail
            go_meet
            case rel => exact ⟨rfl, HX.out, HB.out⟩
          · go_simp
            refine (rdecimal_any _ (by omega) (by omega) _).mono ?_
            rintro e WX22 ⟨rfl, hb⟩
            try replace HTA := Lib.hid (cell_kept hb HTA.out)
            try replace HTB := Lib.hid (cell_kept hb HTB.out)
            replace HX := Lib.hid (HX.out.below hb HX.out.lt)
            replace HB := Lib.hid (HB.out.trans (hb.mono HB.out.size))
            clear hb
            refine hK.out _ _ ⟨HX.out.cell 0 rfl, HX.out.cell 1 rfl, HX.out.cell 2 rfl, HX.out.cell 3 rfl, HX.out.cell 4 rfl, HX.out.cell 5 rfl, HX.out.cell 6 rfl, HX.out.cell 7 rfl, HX.out.cell 8 rfl⟩ (fun hHeld => ?_)
            clear hK; try clear KK
            try simp only [Act.put, List.setIfInBounds_toArray, List.set_cons_zero, List.set_cons_succ]
            refine wpAnyH_ready (rs := [20]) (by kernel_rfl) (by simp) ?_
            refine AllReadyH.cons (o := ⟨some 54, _, _, _, _, _⟩) rfl (fun KK hK => ?_) AllReadyH.nil
            have htb := HTB.out
            go_simp
            refine hK.out _ _ ⟨HX.out.cell 0 rfl, HX.out.cell 1 rfl, HX.out.cell 2 rfl, HX.out.cell 3 rfl, HX.out.cell 4 rfl, HX.out.cell 5 rfl, HX.out.cell 6 rfl, HX.out.cell 7 rfl, HX.out.cell 8 rfl⟩ (fun hHeld => ?_)
            clear hK; try clear KK
            try simp only [Act.put, List.setIfInBounds_toArray, List.set_cons_zero, List.set_cons_succ]
            refine wpAnyH_take (i := 21) (oi := ⟨some 55, _, _, _, _, _⟩) (v := ?_) rfl (by kernel_rfl) (by kernel_rfl) (by kernel_rfl) (fun _ _ _ h => h) (Or.inl ⟨by rfl, ?_⟩) (by assumption) ?_
            rotate_left
            · (intro w hSw; (try dsimp only at hSw); go_simp; (try with_reducible rfl))
            simp only [Act.put, List.setIfInBounds_toArray, List.set_cons_zero, List.set_cons_succ]
            refine wpAnyH_take (i := 22) (oi := ⟨some 56, _, _, _, _, _⟩) (v := ?_) rfl (by kernel_rfl) (by kernel_rfl) (by kernel_rfl) (fun _ _ _ h => h) (Or.inl ⟨by rfl, ?_⟩) (by assumption) ?_
            rotate_left
            · (intro w hSw; (try dsimp only at hSw); go_simp; (try with_reducible rfl))
            simp only [Act.put, List.setIfInBounds_toArray, List.set_cons_zero, List.set_cons_succ]
            refine wpAnyH_take (i := 26) (oi := ⟨some 60, _, _, _, _, _⟩) (v := ?_) rfl (by kernel_rfl) (by kernel_rfl) (by kernel_rfl) (fun _ _ _ h => h) (Or.inl ⟨by rfl, ?_⟩) (by assumption) ?_
            rotate_left
            · (intro w hSw; (try dsimp only at hSw); go_simp; (try with_reducible rfl))
            simp only [Act.put, List.setIfInBounds_toArray, List.set_cons_zero, List.set_cons_succ]
            refine wpAnyH_take (i := 27) (oi := ⟨some 61, _, _, _, _, _⟩) (v := ?_) rfl (by kernel_rfl) (by kernel_rfl) (by kernel_rfl) (fun _ _ _ h => h) (Or.inl ⟨by rfl, ?_⟩) (by assumption) ?_
            rotate_left
            · (intro w hSw; (try dsimp only at hSw); go_simp; (try with_reducible rfl))
            simp only [Act.put, List.setIfInBounds_toArray, List.set_cons_zero, List.set_cons_succ]
            refine wpAnyH_take (i := 31) (oi := ⟨some 65, _, _, _, _, _⟩) (v := ?_) rfl (by kernel_rfl) (by kernel_rfl) (by kernel_rfl) (fun _ _ _ h => h) (Or.inl ⟨by rfl, ?_⟩) (by assumption) ?_
            rotate_left
            · (intro w hSw; (try dsimp only at hSw); go_simp; (try with_reducible rfl))
            simp only [Act.put, List.setIfInBounds_toArray, List.set_cons_zero, List.set_cons_succ]
            refine wpAnyH_take (i := 32) (oi := ⟨some 3, _, _, _, _, _⟩) (v := ?_) rfl (by kernel_rfl) (by kernel_rfl) (by kernel_rfl) (fun _ _ _ h => h) (Or.inl ⟨by rfl, ?_⟩) (by assumption) ?_
            rotate_left
            · (intro w hSw; (try dsimp only at hSw); go_simp; (try with_reducible rfl))
            simp only [Act.put, List.setIfInBounds_toArray, List.set_cons_zero, List.set_cons_succ]
            refine wpAnyH_done (by kernel_rfl) ?_ _
            clear hHeld
            go_wp2_with fail
            go_meet
            case rel => exact ⟨rfl, HX.out, HB.out⟩
        · have htb := HTB.out
          go_simp
          refine hK.out _ _ ⟨HX.out.cell 0 rfl, HX.out.cell 1 rfl, HX.out.cell 2 rfl, HX.out.cell 3 rfl, HX.out.cell 4 rfl, HX.out.cell 5 rfl, HX.out.cell 6 rfl, HX.out.cell 7 rfl, HX.out.cell 8 rfl⟩ (fun hHeld => ?_)
          clear hK; try clear KK
          try simp only [Act.put, List.setIfInBounds_toArray, List.set_cons_zero, List.set_cons_succ]
          refine wpAnyH_ready (rs := [12, 30]) (by kernel_rfl) (by simp) ?_
          refine AllReadyH.cons (o := ⟨some 46, _, _, _, _, _⟩) rfl (fun KK hK => ?_) (AllReadyH.cons (o := ⟨some 64, _, _, _, _, _⟩) rfl (fun KK hK => ?_) (AllReadyH.nil))
          · have hta := HTA.out
            go_simp
            refine hK.out _ _ ⟨HX.out.cell 0 rfl, HX.out.cell 1 rfl, HX.out.cell 2 rfl, HX.out.cell 3 rfl, HX.out.cell 4 rfl, HX.out.cell 5 rfl, HX.out.cell 6 rfl, HX.out.cell 7 rfl, HX.out.cell 8 rfl⟩ (fun hHeld => ?_)
            clear hK; try clear KK
            try simp only [Act.put, List.setIfInBounds_toArray, List.set_cons_zero, List.set_cons_succ]
            refine wpAnyH_take (i := 13) (oi := ⟨some 47, _, _, _, _, _⟩) (v := ?_) rfl (by kernel_rfl) (by kernel_rfl) (by kernel_rfl) (fun _ _ _ h => h) (Or.inl ⟨by rfl, ?_⟩) (by assumption) ?_
            rotate_left
            · (intro w hSw; (try dsimp only at hSw); go_simp; (try with_reducible rfl))
            simp only [Act.put, List.setIfInBounds_toArray, List.set_cons_zero, List.set_cons_succ]
            refine wpAnyH_take (i := 14) (oi := ⟨some 48, _, _, _, _, _⟩) (v := ?_) rfl (by kernel_rfl) (by kernel_rfl) (by kernel_rfl) (fun _ _ _ h => h) (Or.inl ⟨by rfl, ?_⟩) (by assumption) ?_
            rotate_left
            · (intro w hSw; (try dsimp only at hSw); go_simp; (try with_reducible rfl))
            simp only [Act.put, List.setIfInBounds_toArray, List.set_cons_zero, List.set_cons_succ]
            refine wpAnyH_take (i := 21) (oi := ⟨some 55, _, _, _, _, _⟩) (v := ?_) rfl (by kernel_rfl) (by kernel_rfl) (by kernel_rfl) (fun _ _ _ h => h) (Or.inl ⟨by rfl, ?_⟩) (by assumption) ?_
            rotate_left
            · (intro w hSw; (try dsimp only at hSw); go_simp; (try with_reducible rfl))
            simp only [Act.put, List.setIfInBounds_toArray, List.set_cons_zero, List.set_cons_succ]
            refine wpAnyH_take (i := 22) (oi := ⟨some 56, _, _, _, _, _⟩) (v := ?_) rfl (by kernel_rfl) (by kernel_rfl) (by kernel_rfl) (fun _ _ _ h => h) (Or.inl ⟨by rfl, ?_⟩) (by assumption) ?_
            rotate_left
            · (intro w hSw; (try dsimp only at hSw); go_simp; (try with_reducible rfl))
            simp only [Act.put, List.setIfInBounds_toArray, List.set_cons_zero, List.set_cons_succ]
            refine wpAnyH_take (i := 26) (oi := ⟨some 60, _, _, _, _, _⟩) (v := ?_) rfl (by kernel_rfl) (by kernel_rfl) (by kernel_rfl) (fun _ _ _ h => h) (Or.inl ⟨by rfl, ?_⟩) (by assumption) ?_
            rotate_left
            · (intro w hSw; (try dsimp only at hSw); go_simp; (try with_reducible rfl))
            simp only [Act.put, List.setIfInBounds_toArray, List.set_cons_zero, List.set_cons_succ]
            refine wpAnyH_take (i := 27) (oi := ⟨some 61, _, _, _, _, _⟩) (v := ?_) rfl (by kernel_rfl) (by kernel_rfl) (by kernel_rfl) (fun _ _ _ h => h) (Or.inl ⟨by rfl, ?_⟩) (by assumption) ?_
            rotate_left
            · (intro w hSw; (try dsimp only at hSw); go_simp; (try with_reducible rfl))
            simp only [Act.put, List.setIfInBounds_toArray, List.set_cons_zero, List.set_cons_succ]
            refine wpAnyH_ready (rs := [30]) (by kernel_rfl) (by simp) ?_
            refine AllReadyH.cons (o := ⟨some 64, _, _, _, _, _⟩) rfl (fun KK hK => ?_) AllReadyH.nil
            go_simp
            refine (rdecimal_any _ (by omega) (by omega) _).mono ?_
            rintro e WX23 ⟨rfl, hb⟩
            try replace HTA := Lib.hid (cell_kept hb HTA.out)
            try replace HTB := Lib.hid (cell_kept hb HTB.out)
            replace HX := Lib.hid (HX.out.below hb HX.out.lt)
            replace HB := Lib.hid (HB.out.trans (hb.mono HB.out.size))
            clear hb
            refine hK.out _ _ ⟨HX.out.cell 0 rfl, HX.out.cell 1 rfl, HX.out.cell 2 rfl, HX.out.cell 3 rfl, HX.out.cell 4 rfl, HX.out.cell 5 rfl, HX.out.cell 6 rfl, HX.out.cell 7 rfl, HX.out.cell 8 rfl⟩ (fun hHeld => ?_)
            clear hK; try clear KK
            try simp only [Act.put, List.setIfInBounds_toArray, List.set_cons_zero, List.set_cons_succ]
            refine wpAnyH_take (i := 31) (oi := ⟨some 65, _, _, _, _, _⟩) (v := ?_) rfl (by kernel_rfl) (by kernel_rfl) (by kernel_rfl) (fun _ _ _ h => h) (Or.inl ⟨by rfl, ?_⟩) (by assumption) ?_
            rotate_left
            · (intro w hSw; (try dsimp only at hSw); go_simp; (try with_reducible rfl))
            simp only [Act.put, List.setIfInBounds_toArray, List.set_cons_zero, List.set_cons_succ]
            refine wpAnyH_take (i := 32) (oi := ⟨some 3, _, _, _, _, _⟩) (v := ?_) rfl (by kernel_rfl) (by kernel_rfl) (by kernel_rfl) (fun _ _ _ h => h) (Or.inl ⟨by rfl, ?_⟩) (by assumption) ?_
            rotate_left
            · (intro w hSw; (try dsimp only at hSw); go_simp; (try with_reducible rfl))
            simp only [Act.put, List.setIfInBounds_toArray, List.set_cons_zero, List.set_cons_succ]
            refine wpAnyH_done (by kernel_rfl) ?_ _
            clear hHeld
            go_wp2_with fail
            go_meet
            case rel => exact ⟨rfl, HX.out, HB.out⟩
          · go_simp
            refine (rdecimal_any _ (by omega) (by omega) _).mono ?_
            rintro e WX24 ⟨rfl, hb⟩
            try replace HTA := Lib.hid (cell_kept hb HTA.out)
            try replace HTB := Lib.hid (cell_kept hb HTB.out)
            replace HX := Lib.hid (HX.out.below hb HX.out.lt)
            replace HB := Lib.hid (HB.out.trans (hb.mono HB.out.size))
            clear hb
            refine hK.out _ _ ⟨HX.out.cell 0 rfl, HX.out.cell 1 rfl, HX.out.cell 2 rfl, HX.out.cell 3 rfl, HX.out.cell 4 rfl, HX.out.cell 5 rfl, HX.out.cell 6 rfl, HX.out.cell 7 rfl, HX.out.cell 8 rfl⟩ (fun hHeld => ?_)
            clear hK; try clear KK
            try simp only [Act.put, List.setIfInBounds_toArray, List.set_cons_zero, List.set_cons_succ]
            refine wpAnyH_ready (rs := [12]) (by kernel_rfl) (by simp) ?_
            refine AllReadyH.cons (o := ⟨some 46, _, _, _, _, _⟩) rfl (fun KK hK => ?_) AllReadyH.nil
            have hta := HTA.out
            go_simp
            refine hK.out _ _ ⟨HX.out.cell 0 rfl, HX.out.cell 1 rfl, HX.out.cell 2 rfl, HX.out.cell 3 rfl, HX.out.cell 4 rfl, HX.out.cell 5 rfl, HX.out.cell 6 rfl, HX.out.cell 7 rfl, HX.out.cell 8 rfl⟩ (fun hHeld => ?_)
            clear hK; try clear KK
            try simp only [Act.put, List.setIfInBounds_toArray, List.set_cons_zero, List.set_cons_succ]
            refine wpAnyH_take (i := 13) (oi := ⟨some 47, _, _, _, _, _⟩) (v := ?_) rfl (by kernel_rfl) (by kernel_rfl) (by kernel_rfl) (fun _ _ _ h => h) (Or.inl ⟨by rfl, ?_⟩) (by assumption) ?_
            rotate_left
            · (intro w hSw; (try dsimp only at hSw); go_simp; (try with_reducible rfl))
            simp only [Act.put, List.setIfInBounds_toArray, List.set_cons_zero, List.set_cons_succ]
            refine wpAnyH_take (i := 14) (oi := ⟨some 48, _, _, _, _, _⟩) (v := ?_) rfl (by kernel_rfl) (by kernel_rfl) (by kernel_rfl) (fun _ _ _ h => h) (Or.inl ⟨by rfl, ?_⟩) (by assumption) ?_
            rotate_left
            · (intro w hSw; (try dsimp only at hSw); go_simp; (try with_reducible rfl))
            simp only [Act.put, List.setIfInBounds_toArray, List.set_cons_zero, List.set_cons_succ]
            refine wpAnyH_take (i := 21) (oi := ⟨some 55, _, _, _, _, _⟩) (v := ?_) rfl (by kernel_rfl) (by kernel_rfl) (by kernel_rfl) (fun _ _ _ h => h) (Or.inl ⟨by rfl, ?_⟩) (by assumption) ?_
            rotate_left
            · (intro w hSw; (try dsimp only at hSw); go_simp; (try with_reducible rfl))
            simp only [Act.put, List.setIfInBounds_toArray, List.set_cons_zero, List.set_cons_succ]
            refine wpAnyH_take (i := 22) (oi := ⟨some 56, _, _, _, _, _⟩) (v := ?_) rfl (by kernel_rfl) (by kernel_rfl) (by kernel_rfl) (fun _ _ _ h => h) (Or.inl ⟨by rfl, ?_⟩) (by assumption) ?_
            rotate_left
            · (intro w hSw; (try dsimp only at hSw); go_simp; (try with_reducible rfl))
            simp only [Act.put, List.setIfInBounds_toArray, List.set_cons_zero, List.set_cons_succ]
            refine wpAnyH_take (i := 26) (oi := ⟨some 60, _, _, _, _, _⟩) (v := ?_) rfl (by kernel_rfl) (by kernel_rfl) (by kernel_rfl) (fun _ _ _ h => h) (Or.inl ⟨by rfl, ?_⟩) (by assumption) ?_
            rotate_left
            · (intro w hSw; (try dsimp only at hSw); go_simp; (try with_reducible rfl))
            simp only [Act.put, List.setIfInBounds_toArray, List.set_cons_zero, List.set_cons_succ]
            refine wpAnyH_take (i := 27) (oi := ⟨some 61, _, _, _, _, _⟩) (v := ?_) rfl (by kernel_rfl) (by kernel_rfl) (by kernel_rfl) (fun _ _ _ h => h) (Or.inl ⟨by rfl, ?_⟩) (by assumption) ?_
            rotate_left
            · (intro w hSw; (try dsimp only at hSw); go_simp; (try with_reducible rfl))
            simp only [Act.put, List.setIfInBounds_toArray, List.set_cons_zero, List.set_cons_succ]
            refine wpAnyH_take (i := 31) (oi := ⟨some 65, _, _, _, _, _⟩) (v := ?_) rfl (by kernel_rfl) (by kernel_rfl) (by kernel_rfl) (fun _ _ _ h => h) (Or.inl ⟨by rfl, ?_⟩) (by assumption) ?_
            rotate_left
            · (intro w hSw; (try dsimp only at hSw); go_simp; (try with_reducible rfl))
            simp only [Act.put, List.setIfInBounds_toArray, List.set_cons_zero, List.set_cons_succ]
            refine wpAnyH_take (i := 32) (oi := ⟨some 3, _, _, _, _, _⟩) (v := ?_) rfl (by kernel_rfl) (by kernel_rfl) (by kernel_rfl) (fun _ _ _ h => h) (Or.inl ⟨by rfl, ?_⟩) (by assumption) ?_
            rotate_left
            · (intro w hSw; (try dsimp only at hSw); go_simp; (try with_reducible rfl))
            simp only [Act.put, List.setIfInBounds_toArray, List.set_cons_zero, List.set_cons_succ]
            refine wpAnyH_done (by kernel_rfl) ?_ _
            clear hHeld
            go_wp2_with fail
            go_meet
            case rel => exact ⟨rfl, HX.out, HB.out⟩
        · go_simp
          refine (rdecimal_any _ (by omega) (by omega) _).mono ?_
          rintro e WX25 ⟨rfl, hb⟩
          try replace HTA := Lib.hid (cell_kept hb HTA.out)
          try replace HTB := Lib.hid (cell_kept hb HTB.out)
          replace HX := Lib.hid (HX.out.below hb HX.out.lt)
          replace HB := Lib.hid (HB.out.trans (hb.mono HB.out.size))
          clear hb
          refine hK.out _ _ ⟨HX.out.cell 0 rfl, HX.out.cell 1 rfl, HX.out.cell 2 rfl, HX.out.cell 3 rfl, HX.out.cell 4 rfl, HX.out.cell 5 rfl, HX.out.cell 6 rfl, HX.out.cell 7 rfl, HX.out.cell 8 rfl⟩ (fun hHeld => ?_)
          clear hK; try clear KK
          try simp only [Act.put, List.setIfInBounds_toArray, List.set_cons_zero, List.set_cons_succ]
          refine wpAnyH_ready (rs := [12, 20]) (by kernel_rfl) (by simp) ?_
          refine AllReadyH.cons (o := ⟨some 46, _, _, _, _, _⟩) rfl (fun KK hK => ?_) (AllReadyH.cons (o := ⟨some 54, _, _, _, _, _⟩) rfl (fun KK hK => ?_) (AllReadyH.nil))
          · have hta := HTA.out
            go_simp
            refine hK.out _ _ ⟨HX.out.cell 0 rfl, HX.out.cell 1 rfl, HX.out.cell 2 rfl, HX.out.cell 3 rfl, HX.out.cell 4 rfl, HX.out.cell 5 rfl, HX.out.cell 6 rfl, HX.out.cell 7 rfl, HX.out.cell 8 rfl⟩ (fun hHeld => ?_)
            clear hK; try clear KK
            try simp only [Act.put, List.setIfInBounds_toArray, List.set_cons_zero, List.set_cons_succ]
            refine wpAnyH_take (i := 13) (oi := ⟨some 47, _, _, _, _, _⟩) (v := ?_) rfl (by kernel_rfl) (by kernel_rfl) (by kernel_rfl) (fun _ _ _ h => h) (Or.inl ⟨by rfl, ?_⟩) (by assumption) ?_
            rotate_left
            · (intro w hSw; (try dsimp only at hSw); go_simp; (try with_reducible rfl))
            simp only [Act.put, List.setIfInBounds_toArray, List.set_cons_zero, List.set_cons_succ]
            refine wpAnyH_take (i := 14) (oi := ⟨some 48, _, _, _, _, _⟩) (v := ?_) rfl (by kernel_rfl) (by kernel_rfl) (by kernel_rfl) (fun _ _ _ h => h) (Or.inl ⟨by rfl, ?_⟩) (by assumption) ?_
            rotate_left
            · (intro w hSw; (try dsimp only at hSw); go_simp; (try with_reducible rfl))
            simp only [Act.put, List.setIfInBounds_toArray, List.set_cons_zero, List.set_cons_succ]
            refine wpAnyH_ready (rs := [20]) (by kernel_rfl) (by simp) ?_
            refine AllReadyH.cons (o := ⟨some 54, _, _, _, _, _⟩) rfl (fun KK hK => ?_) AllReadyH.nil
            have htb := HTB.out
            go_simp
            refine hK.out _ _ ⟨HX.out.cell 0 rfl, HX.out.cell 1 rfl, HX.out.cell 2 rfl, HX.out.cell 3 rfl, HX.out.cell 4 rfl, HX.out.cell 5 rfl, HX.out.cell 6 rfl, HX.out.cell 7 rfl, HX.out.cell 8 rfl⟩ (fun hHeld => ?_)
            clear hK; try clear KK
            try simp only [Act.put, List.setIfInBounds_toArray, List.set_cons_zero, List.set_cons_succ]
            refine wpAnyH_take (i := 21) (oi := ⟨some 55, _, _, _, _, _⟩) (v := ?_) rfl (by kernel_rfl) (by kernel_rfl) (by kernel_rfl) (fun _ _ _ h => h) (Or.inl ⟨by rfl, ?_⟩) (by assumption) ?_
            rotate_left
            · (intro w hSw; (try dsimp only at hSw); go_simp; (try with_reducible rfl))
            simp only [Act.put, List.setIfInBounds_toArray, List.set_cons_zero, List.set_cons_succ]
            refine wpAnyH_take (i := 22) (oi := ⟨some 56, _, _, _, _, _⟩) (v := ?_) rfl (by kernel_rfl) (by kernel_rfl) (by kernel_rfl) (fun _ _ _ h => h) (Or.inl ⟨by rfl, ?_⟩) (by assumption) ?_
            rotate_left
            · (intro w hSw; (try dsimp only at hSw); go_simp; (try with_reducible rfl))
            simp only [Act.put, List.setIfInBounds_toArray, List.set_cons_zero, List.set_cons_succ]
            refine wpAnyH_take (i := 26) (oi := ⟨some 60, _, _, _, _, _⟩) (v := ?_) rfl (by kernel_rfl) (by kernel_rfl) (by kernel_rfl) (fun _ _ _ h => h) (Or.inl ⟨by rfl, ?_⟩) (by assumption) ?_
            rotate_left
            · (intro w hSw; (try dsimp only at hSw); go_simp; (try with_reducible rfl))
            simp only [Act.put, List.setIfInBounds_toArray, List.set_cons_zero, List.set_cons_succ]
            refine wpAnyH_take (i := 27) (oi := ⟨some 61, _, _, _, _, _⟩) (v := ?_) rfl (by kernel_rfl) (by kernel_rfl) (by kernel_rfl) (fun _ _ _ h => h) (Or.inl ⟨by rfl, ?_⟩) (by assumption) ?_
            rotate_left
            · (intro w hSw; (try dsimp only at hSw); go_simp; (try with_reducible rfl))
            simp only [Act.put, List.setIfInBounds_toArray, List.set_cons_zero, List.set_cons_succ]
            refine wpAnyH_take (i := 31) (oi := ⟨some 65, _, _, _, _, _⟩) (v := ?_) rfl (by kernel_rfl) (by kernel_rfl) (by kernel_rfl) (fun _ _ _ h => h) (Or.inl ⟨by rfl, ?_⟩) (by assumption) ?_
            rotate_left
            · (intro w hSw; (try dsimp only at hSw); go_simp; (try with_reducible rfl))
            simp only [Act.put, List.setIfInBounds_toArray, List.set_cons_zero, List.set_cons_succ]
            refine wpAnyH_take (i := 32) (oi := ⟨some 3, _, _, _, _, _⟩) (v := ?_) rfl (by kernel_rfl) (by kernel_rfl) (by kernel_rfl) (fun _ _ _ h => h) (Or.inl ⟨by rfl, ?_⟩) (by assumption) ?_
            rotate_left
            · (intro w hSw; (try dsimp only at hSw); go_simp; (try with_reducible rfl))
            simp only [Act.put, List.setIfInBounds_toArray, List.set_cons_zero, List.set_cons_succ]
            refine wpAnyH_done (by kernel_rfl) ?_ _
            clear hHeld
            go_wp2_with fail
            go_meet
            case rel => exact ⟨rfl, HX.out, HB.out⟩
          · have htb := HTB.out
            go_simp
            refine hK.out _ _ ⟨HX.out.cell 0 rfl, HX.out.cell 1 rfl, HX.out.cell 2 rfl, HX.out.cell 3 rfl, HX.out.cell 4 rfl, HX.out.cell 5 rfl, HX.out.cell 6 rfl, HX.out.cell 7 rfl, HX.out.cell 8 rfl⟩ (fun hHeld => ?_)
            clear hK; try clear KK
            try simp only [Act.put, List.setIfInBounds_toArray, List.set_cons_zero, List.set_cons_succ]
            refine wpAnyH_ready (rs := [12]) (by kernel_rfl) (by simp) ?_
            refine AllReadyH.cons (o := ⟨some 46, _, _, _, _, _⟩) rfl (fun KK hK => ?_) AllReadyH.nil
            have hta := HTA.out
            go_simp
            refine hK.out _ _ ⟨HX.out.cell 0 rfl, HX.out.cell 1 rfl, HX.out.cell 2 rfl, HX.out.cell 3 rfl, HX.out.cell 4 rfl, HX.out.cell 5 rfl, HX.out.cell 6 rfl, HX.out.cell 7 rfl, HX.out.cell 8 rfl⟩ (fun hHeld => ?_)
            clear hK; try clear KK
            try simp only [Act.put, List.setIfInBounds_toArray, List.set_cons_zero, List.set_cons_succ]
            refine wpAnyH_take (i := 13) (oi := ⟨some 47, _, _, _, _, _⟩) (v := ?_) rfl (by kernel_rfl) (by kernel_rfl) (by kernel_rfl) (fun _ _ _ h => h) (Or.inl ⟨by rfl, ?_⟩) (by assumption) ?_
            rotate_left
            · (intro w hSw; (try dsimp only at hSw); go_simp; (try with_reducible rfl))
            simp only [Act.put, List.setIfInBounds_toArray, List.set_cons_zero, List.set_cons_succ]
            refine wpAnyH_take (i := 14) (oi := ⟨some 48, _, _, _, _, _⟩) (v := ?_) rfl (by kernel_rfl) (by kernel_rfl) (by kernel_rfl) (fun _ _ _ h => h) (Or.inl ⟨by rfl, ?_⟩) (by assumption) ?_
            rotate_left
            · (intro w hSw; (try dsimp only at hSw); go_simp; (try with_reducible rfl))
            simp only [Act.put, List.setIfInBounds_toArray, List.set_cons_zero, List.set_cons_succ]
            refine wpAnyH_take (i := 21) (oi := ⟨some 55, _, _, _, _, _⟩) (v := ?_) rfl (by kernel_rfl) (by kernel_rfl) (by kernel_rfl) (fun _ _ _ h => h) (Or.inl ⟨by rfl, ?_⟩) (by assumption) ?_
            rotate_left
            · (intro w hSw; (try dsimp only at hSw); go_simp; (try with_reducible rfl))
            simp only [Act.put, List.setIfInBounds_toArray, List.set_cons_zero, List.set_cons_succ]
            refine wpAnyH_take (i := 22) (oi := ⟨some 56, _, _, _, _, _⟩) (v := ?_) rfl (by kernel_rfl) (by kernel_rfl) (by kernel_rfl) (fun _ _ _ h => h) (Or.inl ⟨by rfl, ?_⟩) (by assumption) ?_
            rotate_left
            · (intro w hSw; (try dsimp only at hSw); go_simp; (try with_reducible rfl))
            simp only [Act.put, List.setIfInBounds_toArray, List.set_cons_zero, List.set_cons_succ]
            refine wpAnyH_take (i := 26) (oi := ⟨some 60, _, _, _, _, _⟩) (v := ?_) rfl (by kernel_rfl) (by kernel_rfl) (by kernel_rfl) (fun _ _ _ h => h) (Or.inl ⟨by rfl, ?_⟩) (by assumption) ?_
            rotate_left
            · (intro w hSw; (try dsimp only at hSw); go_simp; (try with_reducible rfl))
            simp only [Act.put, List.setIfInBounds_toArray, List.set_cons_zero, List.set_cons_succ]
            refine wpAnyH_take (i := 27) (oi := ⟨some 61, _, _, _, _, _⟩) (v := ?_) rfl (by kernel_rfl) (by kernel_rfl) (by kernel_rfl) (fun _ _ _ h => h) (Or.inl ⟨by rfl, ?_⟩) (by assumption) ?_
            rotate_left
            · (intro w hSw; (try dsimp only at hSw); go_simp; (try with_reducible rfl))
            simp only [Act.put, List.setIfInBounds_toArray, List.set_cons_zero, List.set_cons_succ]
            refine wpAnyH_take (i := 31) (oi := ⟨some 65, _, _, _, _, _⟩) (v := ?_) rfl (by kernel_rfl) (by kernel_rfl) (by kernel_rfl) (fun _ _ _ h => h) (Or.inl ⟨by rfl, ?_⟩) (by assumption) ?_
            rotate_left
            · (intro w hSw; (try dsimp only at hSw); go_simp; (try with_reducible rfl))
            simp only [Act.put, List.setIfInBounds_toArray, List.set_cons_zero, List.set_cons_succ]
            refine wpAnyH_take (i := 32) (oi := ⟨some 3, _, _, _, _, _⟩) (v := ?_) rfl (by kernel_rfl) (by kernel_rfl) (by kernel_rfl) (fun _ _ _ h => h) (Or.inl ⟨by rfl, ?_⟩) (by assumption) ?_
            rotate_left
            · (intro w hSw; (try dsimp only at hSw); go_simp; (try with_reducible rfl))
            simp only [Act.put, List.setIfInBounds_toArray, List.set_cons_zero, List.set_cons_succ]
            refine wpAnyH_done (by kernel_rfl) ?_ _
            clear hHeld
            go_wp2_with fail
            go_meet
            case rel => exact ⟨rfl, HX.out, HB.out⟩
  case rest =>
    obtain ⟨rfl, hx, hb⟩ := hcut
    replace HX := Lib.hid hx
    replace HB := Lib.hid hb
    clear hx hb
    go_wp2_with fail
    have hsb : (joinW 32 [tNew, decB s, decB i, decB a, sideW bn, typeW tn, decB p, decB q]).length ≤ 200 := by rw [← strB_size, ← HLN.out]; exact Nat.le_trans HRS.out (by decide)
    rw [HLN.out]
    generalize hbase : joinW 32 [tNew, decB s, decB i, decB a, sideW bn, typeW tn, decB p, decB q] = base at hsb ⊢
    have HBASE := Lib.hid hbase
    clear hbase
    go_loopw [3, 4] (fun sv iv wr => ∃ k : Nat, k ≤ 3 ∧ iv = .int .i64 (k : Int) ∧ sv = .string (strB (base ++ flS fn k)) ∧ Blk wr w.heap.size #[.int .i64 1, .int .i64 s, .int .i64 i, .int .i64 a, .int .i64 (bn : Int), .int .i64 ((tn : Int) + 1), .int .i64 p, .int .i64 q, .int .i64 (fn : Int)] 164 ∧ Below w.heap.size w wr) (fun _ i _ => 3 - (intOf i).toNat)
    case atStart => exact ⟨0, by omega, rfl, by simp [flS], HX.out, HB.out⟩
    case round =>
      obtain ⟨k, hk, rfl, rfl, hx, hb⟩ := hrel
      replace HX := Lib.hid hx
      replace HB := Lib.hid hb
      clear hx hb
      by_cases h3 : k = 3
      · subst h3
        go_wp2_with fail
        go_ret
        exact ⟨by rw [HBASE.out]; rfl, HB.out⟩
      · have c8 : wr.cell? ⟨w.heap.size, 8, none⟩ = some (.int .i64 (fn : Int)) := HX.out.cell 8 rfl
        have hf30 := flS_len fn k hfn hk
        have k3 : (k : Int) < 3 := by omega
        have hS : (strB (base ++ flS fn k)).size ≤ 230 := by rw [strB_size, List.length_append]; omega
        generalize hs' : strB (base ++ flS fn k) = S0 at hS ⊢
        have HS := Lib.hid hs'
        clear hs'
        have hk2 : k < 3 := by omega
        by_cases hbit : fn / 2 ^ k % 2 = 1
        · have hb1 : (bits .and .i64 ((fn : Int) / 2 ^ k) 1 == 1) = true := by rw [bit_of fn k hfn hk2]; exact decide_eq_true hbit
          obtain ⟨y, hy⟩ : ∃ y, flagsD[k]? = some y := ⟨_, List.getElem?_eq_getElem (show k < flagsD.length from hk2)⟩
          have HN := Lib.hid (show flS fn (k + 1) = flS fn k ++ 32 :: y by rw [flS, if_pos hbit, hy]; rfl)
          have hyl : (strB y).size ≤ 20 := by rw [strB_size]; exact flag_len hy
          have HYI := Lib.hid hy
          obtain ⟨F, hF⟩ : ∃ F, strB y = F := ⟨_, rfl⟩
          rw [hF] at hyl
          obtain ⟨S1, hs1⟩ : ∃ P, S0 ++ (⟨#[32]⟩ : ByteArray) = P := ⟨_, rfl⟩
          have hg1 : ¬ 9223372036854775807 < S0.size + 1 := by omega
          have hz1 : S1.size ≤ 231 := by rw [← hs1, ByteArray.size_append]; show _ + 1 ≤ _; omega
          obtain ⟨S2, hs2⟩ : ∃ P, S1 ++ F = P := ⟨_, rfl⟩
          have hg2 : ¬ 9223372036854775807 < S1.size + F.size := by omega
          have HS2 := Lib.hid (show S2 = strB (base ++ flS fn (k + 1)) by rw [← hs2, ← hs1, ← HS.out, ← hF, HN.out, show (⟨#[32]⟩ : ByteArray) = strB [32] from rfl, strB_app, strB_app]; congr 1; simp)
          have HFF := Lib.hid hF
          clear hbit hy hS hyl hz1 hF
          go_wp2_with fail
          refine (dflags_any _).mono ?_
          rintro e w7 ⟨tb, tc, rfl, -, -, h3, hb7⟩
          have hkf : k < flagsD.length := hk2
          have ct : w7.cell? ⟨tb, k, none⟩ = some (.string F) := by
            rw [h3 k hkf]
            have : flagsD[k] = y := by have := HYI.out; rw [List.getElem?_eq_getElem hkf] at this; injection this
            rw [this, HFF.out]
          replace HX := Lib.hid (HX.out.below hb7 HX.out.lt)
          replace HB := Lib.hid (HB.out.trans (hb7.mono HB.out.size))
          clear h3 hb7
          go_wp2_with fail
          go_roundw
          case rel => exact ⟨k + 1, by omega, by go_num, by rw [HS2.out], HX.out, HB.out⟩
          case measure => simp [intOf]; omega
        · have hb1 : (bits .and .i64 ((fn : Int) / 2 ^ k) 1 == 1) = false := by rw [bit_of fn k hfn hk2]; exact decide_eq_false hbit
          have HN := Lib.hid (show flS fn (k + 1) = flS fn k by rw [flS, if_neg hbit, List.append_nil])
          clear hbit hS
          go_wp2_with fail
          go_roundw
          case rel => exact ⟨k + 1, by omega, by go_num, by rw [HN.out, HS.out], HX.out, HB.out⟩
          case measure => simp [intOf]; omega
/-- damperref35.command, of any that is right. -/
theorem rcommand_any (c : Cmd) (hr : rightC c = true) (hp : -9223372036854775808 ≤ c.p ∧ c.p ≤ 9223372036854775807) (hq : -9223372036854775808 ≤ c.q ∧ c.q ≤ 9223372036854775807) (w : World) :
    Calls Tryd.prog 116 #[.agg c.cells] w (TxtIs (joinW 32 (wordsC c)) w) := by
  obtain ⟨hk, hs, hi, hn⟩ := right_in hr
  obtain ⟨k, s, i, a, b, t, p, q, f⟩ := c
  dsimp only at *
  rcases hk with rfl | rfl | rfl
  · obtain ⟨ha, hb, ht, hf⟩ := hn rfl
    obtain ⟨bn, rfl⟩ := Int.eq_ofNat_of_zero_le hb.1
    obtain ⟨fn, rfl⟩ := Int.eq_ofNat_of_zero_le hf.1
    obtain ⟨tn, rfl⟩ : ∃ tn : Nat, t = (tn : Int) + 1 := ⟨(t - 1).toNat, by omega⟩
    have h := rcommand_new s i a p q bn tn fn hs hi ha (by omega) (by omega) (by omega) hp hq w
    have e : joinW 32 (wordsC ⟨1, s, i, a, (bn : Int), (tn : Int) + 1, p, q, (fn : Int)⟩) = joinW 32 [tNew, decB s, decB i, decB a, sideW bn, typeW tn, decB p, decB q] ++ flS fn 3 := by
      unfold wordsC
      dsimp only
      rw [if_pos rfl, Int.toNat_natCast, Int.toNat_natCast, show ((tn : Int) + 1).toNat - 1 = tn by omega, join_app _ _ _ (by simp), flS_all fn (by omega)]
    rw [e]
    exact h
  · exact rcommand_cancel _ s i a b t p q f rfl hr hp hq w
  · exact rcommand_replace _ s i a b t p q f rfl hr hp hq w
end Go.Proofs.YtmkcooamgojbpaaDoor.Lines

/- (*words.line).command, of any command that is right. -/
namespace Go.Proofs.YtmkcooamgojbpaaDoor.Lines
open Go.RowKit Go.Proofs.YtmkcooamgojbpaaDoor.Kit Go.Proofs.YtmkcooamgojbpaaDoor.Blk Go.Proofs.YtmkcooamgojbpaaDoor.Dec Go.Proofs.YtmkcooamgojbpaaDoor.Words Go.Proofs.YtmkcooamgojbpaaDoor.Octets Go.Proofs.YtmkcooamgojbpaaDoor.Cmds
attribute [local go_sem ↓] Go.wp_at_zero Go.wp_at_succ
set_option linter.unusedVariables false

/-- What is known behind the first numbers. -/
structure CX (w W : World) (N P A : Nat) (ws : List Tok) (cs : Array Value) : Prop where
  l : LnS N P ws W
  k : KeepL N w W
  x : Blk W A cs 164
  n : N ≤ W.heap.size
section
variable {w W W' : World} {N P A : Nat} {ws ws' : List Tok} {cs : Array Value}
theorem CX.step (h : CX w W N P A ws cs) (hl : LnS N P ws' W') (hk : KeepL N W W') : CX w W' N P A ws' cs := ⟨hl, h.k.trans hk, hk.blk _ _ _ h.x (by decide) (by decide), Nat.le_trans h.n hk.bel.size⟩
theorem CX.below (h : CX w W N P A ws cs) (hb : Below W.heap.size W W') : CX w W' N P A ws cs := h.step (h.l.below hb) (KeepB.below h.n hb)
theorem CX.alloc (h : CX w W N P A ws cs) (o : Obj) : CX w (W.alloc o) N P A ws cs := h.below ((Below.refl _ _).alloc (Nat.le_refl _) o)
theorem CX.drew (h : CX w W N P A ws cs) : CX w W.drew N P A ws cs := h.below (Below.refl _ _).drew
end
def flT (f : Nat) : Nat → List Tok
  | 0 => []
  | k + 1 => flT f k ++ if f / 2 ^ k % 2 = 1 then [(flagsD[k]?).getD []] else []
theorem flT_all (f : Nat) (h : f ≤ 7) : flT f 3 = flagW f := by
  have : ∀ f : Fin 8, flT f.1 3 = flagW f.1 := by decide
  exact this ⟨f, by omega⟩
theorem flT_len (f k : Nat) (hf : f ≤ 7) (hk : k ≤ 3) : (flT f k).length ≤ 3 := by
  have : ∀ f : Fin 8, ∀ k : Fin 4, (flT f.1 k.1).length ≤ 3 := by decide
  exact this ⟨f, by omega⟩ ⟨k, by omega⟩
theorem ix_side : ∀ (k : Nat), k ≤ 1 → ∀ W : World, (Instr.index 212 (.agg sidesC) (.int .i64 (k : Int))).run Tryd.prog W = .ok (.string (strB (sideW k))) W
  | 0, _, W => by kernel_rfl
  | 1, _, W => by kernel_rfl
  | k + 2, h, W => absurd h (by omega)
theorem ix_type : ∀ (k : Nat), k ≤ 4 → ∀ W : World, (Instr.index 214 (.agg typesC) (.int .i64 (k : Int))).run Tryd.prog W = .ok (.string (strB (typeW k))) W
  | 0, _, W => by kernel_rfl
  | 1, _, W => by kernel_rfl
  | 2, _, W => by kernel_rfl
  | 3, _, W => by kernel_rfl
  | 4, _, W => by kernel_rfl
  | k + 5, h, W => absurd h (by omega)
theorem ix_flag : ∀ (k : Nat), k < 3 → ∀ W : World, (Instr.index 103 (.agg flagsC) (.int .i64 (k : Int))).run Tryd.prog W = .ok (.string (strB ((flagsD[k]?).getD []))) W
  | 0, _, W => by kernel_rfl
  | 1, _, W => by kernel_rfl
  | 2, _, W => by kernel_rfl
  | k + 3, h, W => absurd h (by omega)
set_option maxRecDepth 20000 in
set_option maxHeartbeats 4000000 in
theorem lcmd_new (N P : Nat) (hNP : N ≤ P) (ws : List Tok) (hkw : ws.length ≤ 100) (k s i a p q : Int) (bn tn fn : Nat) (hk : k = 1) (hs : 0 ≤ s ∧ s ≤ 255) (hi : 0 ≤ i ∧ i ≤ 4611686018427387904) (ha : 0 ≤ a ∧ a ≤ 1073741824) (hbn : bn ≤ 1) (htn : tn ≤ 4) (hfn : fn ≤ 7) (hp : -9223372036854775808 ≤ p ∧ p ≤ 9223372036854775807) (hq : -9223372036854775808 ≤ q ∧ q ≤ 9223372036854775807) (b t f : Int) (hb' : b = bn) (ht' : t = (tn : Int) + 1) (hf' : f = fn) (out : List Tok) (hout : out = ws ++ ([tNew, decB s, decB i, decB a, sideW bn, typeW tn, decB p, decB q] ++ flT fn 3)) (w : World) (hN : N ≤ w.heap.size) (hw : LnS N P ws w) :
    Calls Tryd.prog 112 #[.pointer (some ⟨P, 0, none⟩), .agg (Cmd.cells ⟨k, s, i, a, b, t, p, q, f⟩)] w (LnIs N P out w) := by
  obtain ⟨i0, hi0, hz0, hz1, hz2⟩ := info_parts infoI64
  have HOUT := Lib.hid hout
  clear hout
  have HBT := Lib.hid (And.intro hb' (And.intro ht' hf'))
  clear hb' ht' hf'
  have H0 := Lib.hid (show CL w ((w.alloc (.cells (Cmd.cells ⟨k, s, i, a, b, t, p, q, f⟩) 164)).alloc (.cells #[.int .i64 s, .int .i64 i] 2)) N P w.heap.size (w.heap.size + 1) ws (Cmd.cells ⟨k, s, i, a, b, t, p, q, f⟩) #[.int .i64 s, .int .i64 i] from
    ⟨(hw.alloc _).alloc _, (KeepB.alloc hN _).trans (KeepB.alloc (by simp; omega) _), (Blk.new w (Cmd.cells ⟨k, s, i, a, b, t, p, q, f⟩) 164 w.heap.size rfl).old _, Blk.new _ _ _ _ (by simp), by simp; omega⟩)
  have HK := Lib.hid hk
  clear hk hw
  dsimp only [Cmd.cells] at H0 ⊢
  go_enter Tryd.func112, Tryd.ntmps112
  go_upto_region 2 with fail
  generalize (w.alloc (.cells #[.int .i64 k, .int .i64 s, .int .i64 i, .int .i64 a, .int .i64 b, .int .i64 t, .int .i64 p, .int .i64 q, .int .i64 f] 164)).alloc (.cells #[.int .i64 s, .int .i64 i] 2) = w1 at H0 ⊢
  have H := H0
  clear H0
  have c0 : w1.cell? ⟨w.heap.size, 0, none⟩ = some (.int .i64 k) := H.out.x.cell 0 rfl
  rw [HK.out] at c0
  go_wp2_with fail
  refine (put_any N P hNP (ws) [tNew] (by first | omega | (simp; omega)) (by simp) (by simp) w1.heap.size _ _ (by simp; have := H.out.n; omega) (H.out.l.alloc _) (Blk.new _ _ _ _ rfl)).mono ?_
  rintro e w2 ⟨rfl, h1, h2⟩
  replace H := Lib.hid (H.out.step h1 ((KeepB.alloc H.out.n _).trans h2))
  clear h1 h2
  have k3 : w2.cell? ⟨w.heap.size, 3, none⟩ = some (.int .i64 a) := H.out.x.cell 3 rfl
  clear c0
  have HNB := Lib.hid (Blk.new w2 ((ints [a]).toArray) 2 w2.heap.size rfl)
  have HO := Lib.hid (World.ownsRow.alloc (own_of_blk (base := w.heap.size) H.out.i (by omega) (by show 2 ≤ maxLen; unfold maxLen; decide)) (.cells ((ints [a]).toArray) 2))
  have HLA := Lib.hid (H.out.alloc (.cells ((ints [a]).toArray) 2))
  have hsw := H.out.k.bel.size
  go_wp2_with (at_builtin; refine wpList_append_lies _ (by rfl) _ _ _ (by rfl) w.heap.size 2 i0 (.int .i64 0) 1 8 Tryd.underlying37 hi0 hz0 hz1 hz2 (by rfl) (by decide) _ 2 [.int .i64 s, .int .i64 i] (by rfl) HO.out ⟨w2.heap.size, 0, none⟩ 1 1 ((ints [a]).toArray).toList (by rfl) (by rfl) (news_ints HNB.out) (one_ints [a]) (by decide) (by unfold maxLen; omega) (by omega) (by simp; omega) (w2.heap.size + 1) (by simp) ?_; intro g cap2 w9 hown9 hgrow9 hat9 hlt9; obtain ⟨cur, hcur, hgb, hcells⟩ := blk_of_own hown9; have HCUR := Lib.hid hcur; have HCE := Lib.hid hcells; have HG := Lib.hid (HLA.out.grown hN (by omega) hgrow9); clear hown9 hgrow9 hat9 hlt9 hcur hcells)
  refine (nums_cs N P hNP (ws ++ [tNew]) (by simp; omega) [s, i, a] (by simp) (fun n hn => by simp at hn; omega) g cap2 cur (ints_of rfl HCE.out) w9 HG.out.2.2.2 HG.out.1 HCUR.out).mono ?_
  rintro e w3 ⟨rfl, h1, h2⟩
  have HX := Lib.hid (CX.step ⟨HG.out.1, HG.out.2.1, HG.out.2.2.1, HG.out.2.2.2⟩ h1 h2)
  rw [HBT.out.1, HBT.out.2.1, HBT.out.2.2] at HX
  clear h1 h2 HG HCUR HCE H k3
  have ib0 : (0 : Int) ≤ (bn : Int) := by omega
  have hwt : IntKind.i64.wrap ((tn : Int) + 1 - 1) = (tn : Int) := by rw [show (tn : Int) + 1 - 1 = (tn : Int) by omega]; exact IntWalk.i64_in _ (by omega)
  have hwt2 : IntKind.i64.wrap (tn : Int) = (tn : Int) := IntWalk.i64_in _ (by omega)
  have is := fun W => ix_side bn hbn W
  have it := fun W => ix_type tn htn W
  go_upto_region 12 with fail
  refine wp_region_held_drew (S := (fun w' => w'.cell? ⟨w.heap.size, 4, none⟩ = some (.int .i64 (bn : Int)) ∧ w'.cell? ⟨w.heap.size, 5, none⟩ = some (.int .i64 ((tn : Int) + 1)))) (by kernel_rfl) ⟨HX.out.x.cell 4 rfl, HX.out.x.cell 5 rfl⟩ (fun hHeld => ?_)
  replace HX := Lib.hid HX.out.drew
  generalize w3.drew = w4 at HX hHeld ⊢
  refine wpAnyH_take (i := 0) (oi := ⟨some 48, _, _, _, _, _⟩) (v := ?_) rfl (by kernel_rfl) (by kernel_rfl) (by kernel_rfl) (fun _ _ _ h => h) (Or.inl ⟨by rfl, ?_⟩) (by assumption) ?_
  rotate_left
  · (intro w hSw; (try dsimp only at hSw); go_simp; (try with_reducible rfl))
  simp only [Act.put, List.setIfInBounds_toArray, List.set_cons_zero, List.set_cons_succ]
  refine wpAnyH_take (i := 2) (oi := ⟨some 50, _, _, _, _, _⟩) (v := ?_) rfl (by kernel_rfl) (by kernel_rfl) (by kernel_rfl) (fun _ _ _ h => h) (Or.inl ⟨by rfl, ?_⟩) (by assumption) ?_
  rotate_left
  · (intro w hSw; (try dsimp only at hSw); go_simp; (try with_reducible rfl))
  simp only [Act.put, List.setIfInBounds_toArray, List.set_cons_zero, List.set_cons_succ]
  refine wpAnyH_take (i := 3) (oi := ⟨some 51, _, _, _, _, _⟩) (v := ?_) rfl (by kernel_rfl) (by kernel_rfl) (by kernel_rfl) (fun _ _ _ h => h) (Or.inl ⟨by rfl, ?_⟩) (by assumption) ?_
  rotate_left
  · (intro w hSw; (try dsimp only at hSw); go_simp; (try with_reducible rfl))
  simp only [Act.put, List.setIfInBounds_toArray, List.set_cons_zero, List.set_cons_succ]
  refine wpAnyH_take (i := 6) (oi := ⟨some 54, _, _, _, _, _⟩) (v := ?_) rfl (by kernel_rfl) (by kernel_rfl) (by kernel_rfl) (fun _ _ _ h => h) (Or.inl ⟨by rfl, ?_⟩) (by assumption) ?_
  rotate_left
  · (intro w hSw; (try dsimp only at hSw); go_simp; (try with_reducible rfl))
  simp only [Act.put, List.setIfInBounds_toArray, List.set_cons_zero, List.set_cons_succ]
  refine wpAnyH_take (i := 7) (oi := ⟨some 55, _, _, _, _, _⟩) (v := ?_) rfl (by kernel_rfl) (by kernel_rfl) (by kernel_rfl) (fun _ _ _ h => h) (Or.inl ⟨by rfl, ?_⟩) (by assumption) ?_
  rotate_left
  · (intro w hSw; (try dsimp only at hSw); go_simp; (try with_reducible rfl))
  simp only [Act.put, List.setIfInBounds_toArray, List.set_cons_zero, List.set_cons_succ]
  refine wpAnyH_take (i := 8) (oi := ⟨some 56, _, _, _, _, _⟩) (v := ?_) rfl (by kernel_rfl) (by kernel_rfl) (by kernel_rfl) (fun _ _ _ h => h) (Or.inl ⟨by rfl, ?_⟩) (by assumption) ?_
  rotate_left
  · (intro w hSw; (try dsimp only at hSw); go_simp; (try with_reducible rfl))
  simp only [Act.put, List.setIfInBounds_toArray, List.set_cons_zero, List.set_cons_succ]
  refine wpAnyH_ready (rs := [1]) (by kernel_rfl) (by simp) ?_
  refine AllReadyH.cons (o := ⟨some 49, _, _, _, _, _⟩) rfl (fun KK hK => ?_) AllReadyH.nil
  go_simp
  refine (sides_any _).mono ?_
  rintro e w5 ⟨rfl, hb5⟩
  replace HX := Lib.hid (HX.out.below hb5)
  clear hb5
  refine hK.out _ _ ⟨HX.out.x.cell 4 rfl, HX.out.x.cell 5 rfl⟩ (fun hHeld => ?_)
  clear hK; try clear KK
  try simp only [Act.put, List.setIfInBounds_toArray, List.set_cons_zero, List.set_cons_succ]
  refine wpAnyH_take (i := 4) (oi := ⟨some 52, _, _, _, _, _⟩) (v := ?_) rfl (by kernel_rfl) (by kernel_rfl) (by kernel_rfl) (fun _ _ _ h => h) (Or.inl ⟨by rfl, ?_⟩) (by assumption) ?_
  rotate_left
  · (intro w hSw; (try dsimp only at hSw); go_simp; (try with_reducible rfl))
  simp only [Act.put, List.setIfInBounds_toArray, List.set_cons_zero, List.set_cons_succ]
  refine wpAnyH_ready (rs := [5]) (by kernel_rfl) (by simp) ?_
  refine AllReadyH.cons (o := ⟨some 53, _, _, _, _, _⟩) rfl (fun KK hK => ?_) AllReadyH.nil
  go_simp
  refine (types_any _).mono ?_
  rintro e w6 ⟨rfl, hb6⟩
  replace HX := Lib.hid (HX.out.below hb6)
  clear hb6
  refine hK.out _ _ ⟨HX.out.x.cell 4 rfl, HX.out.x.cell 5 rfl⟩ (fun hHeld => ?_)
  clear hK; try clear KK
  try simp only [Act.put, List.setIfInBounds_toArray, List.set_cons_zero, List.set_cons_succ]
  refine wpAnyH_take (i := 9) (oi := ⟨some 57, _, _, _, _, _⟩) (v := ?_) rfl (by kernel_rfl) (by kernel_rfl) (by kernel_rfl) (fun _ _ _ h => h) (Or.inl ⟨by rfl, ?_⟩) (by assumption) ?_
  rotate_left
  · (intro w hSw; (try dsimp only at hSw); go_simp; (try with_reducible rfl))
  simp only [Act.put, List.setIfInBounds_toArray, List.set_cons_zero, List.set_cons_succ]
  refine wpAnyH_ready (rs := [10]) (by kernel_rfl) (by simp) ?_
  refine AllReadyH.cons (o := ⟨some 58, _, _, _, _, _⟩) rfl (fun KK hK => ?_) AllReadyH.nil
  go_simp
  have HNW := Lib.hid (Blk.new w6 (strs [sideW bn, typeW tn]).toArray 9 w6.heap.size rfl)
  have HX2 := Lib.hid (HX.out.alloc (.cells (strs [sideW bn, typeW tn]).toArray 9))
  refine hK.out _ _ ⟨HX2.out.x.cell 4 rfl, HX2.out.x.cell 5 rfl⟩ (fun hHeld => ?_)
  clear hK; try clear KK
  try simp only [Act.put, List.setIfInBounds_toArray, List.set_cons_zero, List.set_cons_succ]
  refine wpAnyH_ready (rs := [11]) (by kernel_rfl) (by simp) ?_
  refine AllReadyH.cons (o := ⟨some 59, _, _, _, _, _⟩) rfl (fun KK hK => ?_) AllReadyH.nil
  go_simp
  refine (put_any N P hNP (ws ++ [tNew] ++ [s, i, a].map decB) [sideW bn, typeW tn] (by simp; omega) (by simp) (by simp) w6.heap.size _ _ HX2.out.n HX2.out.l HNW.out).mono ?_
  rintro e w7 ⟨rfl, h1, h2⟩
  replace HX := Lib.hid (HX2.out.step h1 h2)
  clear h1 h2 HX2 HNW
  refine hK.out _ _ ⟨HX.out.x.cell 4 rfl, HX.out.x.cell 5 rfl⟩ (fun hHeld => ?_)
  clear hK; try clear KK
  refine wpAnyH_done (by kernel_rfl) ?_ _
  have k6 : w7.cell? ⟨w.heap.size, 6, none⟩ = some (.int .i64 p) := HX.out.x.cell 6 rfl
  have k7 : w7.cell? ⟨w.heap.size, 7, none⟩ = some (.int .i64 q) := HX.out.x.cell 7 rfl
  clear hHeld is it hwt hwt2
  go_wp2_with fail
  refine (nums_any N P hNP (ws ++ [tNew] ++ [s, i, a].map decB ++ [sideW bn, typeW tn]) (by simp; omega) [p, q] (by simp) (fun n hn => by simp at hn; omega) w7.heap.size _ _ (by simp; have := HX.out.n; omega) (HX.out.l.alloc _) (Blk.new _ _ _ _ rfl)).mono ?_
  rintro e w8 ⟨rfl, h1, h2⟩
  replace HX := Lib.hid (HX.out.step h1 ((KeepB.alloc HX.out.n _).trans h2))
  clear h1 h2 k6 k7
  go_wp2_with fail
  refine (flags_tab _).mono ?_
  rintro e w9' ⟨rfl, hb9⟩
  replace HX := Lib.hid (HX.out.below hb9)
  clear hb9
  have hbl : (ws ++ [tNew] ++ [s, i, a].map decB ++ [sideW bn, typeW tn] ++ [p, q].map decB).length ≤ 110 := by simp; omega
  have HBA := Lib.hid (show out = (ws ++ [tNew] ++ [s, i, a].map decB ++ [sideW bn, typeW tn] ++ [p, q].map decB) ++ flT fn 3 by rw [HOUT.out]; simp)
  generalize ws ++ [tNew] ++ [s, i, a].map decB ++ [sideW bn, typeW tn] ++ [p, q].map decB = base at HX hbl HBA
  go_wp2_with fail
  have HCC := Lib.hid (show (CX w w9' N P w.heap.size base #[.int .i64 k, .int .i64 s, .int .i64 i, .int .i64 a, .int .i64 (bn : Int), .int .i64 ((tn : Int) + 1), .int .i64 p, .int .i64 q, .int .i64 (fn : Int)]) from HX.out)
  clear HX
  go_loopw [68] (fun iv wr => ∃ z : Nat, z ≤ 3 ∧ iv = .int .i64 (z : Int) ∧ CX w wr N P w.heap.size (base ++ flT fn z) #[.int .i64 k, .int .i64 s, .int .i64 i, .int .i64 a, .int .i64 (bn : Int), .int .i64 ((tn : Int) + 1), .int .i64 p, .int .i64 q, .int .i64 (fn : Int)]) (fun iv _ => 3 - (intOf iv).toNat)
  case atStart => exact ⟨0, by omega, rfl, by rw [show base ++ flT fn 0 = base from List.append_nil _]; exact HCC.out⟩
  case round =>
    obtain ⟨z, hz, rfl, hx⟩ := hrel
    have HX := Lib.hid hx
    clear hx
    by_cases h3 : z = 3
    · subst h3
      go_wp2_with fail
      go_end0
      exact ⟨rfl, by rw [HBA.out]; exact HX.out.l, HX.out.k⟩
    · have hz3 : z < 3 := by omega
      have z3 : (z : Int) < 3 := by omega
      have c8 : wr.cell? ⟨w.heap.size, 8, none⟩ = some (.int .i64 (fn : Int)) := HX.out.x.cell 8 rfl
      have ixf := fun W => ix_flag z hz3 W
      have hfl := flT_len fn z hfn hz
      by_cases hbit : fn / 2 ^ z % 2 = 1
      · have hb1 : (bits .and .i64 ((fn : Int) / 2 ^ z) 1 == 1) = true := by rw [bit_of fn z hfn hz3]; exact decide_eq_true hbit
        have HN := Lib.hid (show flT fn (z + 1) = flT fn z ++ [(flagsD[z]?).getD []] by rw [flT, if_pos hbit])
        generalize (flagsD[z]?).getD [] = y at ixf HN
        clear hbit
        go_wp2_with fail
        refine (put_any N P hNP (base ++ flT fn z) [y] (by simp; omega) (by simp) (by simp) wr.heap.size _ _ (by simp; have := HX.out.n; omega) (HX.out.l.alloc _) (Blk.new _ _ _ _ rfl)).mono ?_
        rintro e w10' ⟨rfl, h1, h2⟩
        replace HX := Lib.hid (HX.out.step h1 ((KeepB.alloc HX.out.n _).trans h2))
        clear h1 h2
        go_wp2_with fail
        go_roundw
        case rel => exact ⟨z + 1, by omega, by go_num, by rw [HN.out, ← List.append_assoc]; exact HX.out⟩
        case measure => simp [intOf]; omega
      · have hb1 : (bits .and .i64 ((fn : Int) / 2 ^ z) 1 == 1) = false := by rw [bit_of fn z hfn hz3]; exact decide_eq_false hbit
        have HN := Lib.hid (show flT fn (z + 1) = flT fn z by rw [flT, if_neg hbit, List.append_nil])
        generalize (flagsD[z]?).getD [] = y at ixf
        clear hbit
        go_wp2_with fail
        go_roundw
        case rel => exact ⟨z + 1, by omega, by go_num, by rw [HN.out]; exact HX.out⟩
        case measure => simp [intOf]; omega
/-- (*words.line).command, of any that is right. -/
theorem lcmd_any (N P : Nat) (hNP : N ≤ P) (ws : List Tok) (hkw : ws.length ≤ 100) (c : Cmd) (hr : rightC c = true) (hp : -9223372036854775808 ≤ c.p ∧ c.p ≤ 9223372036854775807) (hq : -9223372036854775808 ≤ c.q ∧ c.q ≤ 9223372036854775807) (w : World) (hN : N ≤ w.heap.size) (hw : LnS N P ws w) :
    Calls Tryd.prog 112 #[.pointer (some ⟨P, 0, none⟩), .agg c.cells] w (LnIs N P (ws ++ wordsC c) w) := by
  obtain ⟨hk, hs, hi, hn⟩ := right_in hr
  obtain ⟨k, s, i, a, b, t, p, q, f⟩ := c
  dsimp only at hk hs hi hn hp hq
  rcases hk with rfl | rfl | rfl
  · obtain ⟨ha, hb, ht, hf⟩ := hn rfl
    obtain ⟨bn, rfl⟩ := Int.eq_ofNat_of_zero_le hb.1
    obtain ⟨fn, rfl⟩ := Int.eq_ofNat_of_zero_le hf.1
    obtain ⟨tn, rfl⟩ : ∃ tn : Nat, t = (tn : Int) + 1 := ⟨(t - 1).toNat, by omega⟩
    have e : wordsC ⟨1, s, i, a, (bn : Int), (tn : Int) + 1, p, q, (fn : Int)⟩ = [tNew, decB s, decB i, decB a, sideW bn, typeW tn, decB p, decB q] ++ flT fn 3 := by
      unfold wordsC
      dsimp only
      rw [if_pos rfl, Int.toNat_natCast, Int.toNat_natCast, show ((tn : Int) + 1).toNat - 1 = tn by omega, flT_all fn (by omega)]
    exact lcmd_new N P hNP ws hkw 1 s i a p q bn tn fn rfl hs hi ha (by omega) (by omega) (by omega) hp hq _ _ _ rfl rfl rfl _ (by rw [e]) w hN hw
  · exact lcmd_cancel N P hNP ws hkw _ s i a b t p q f rfl hs hi w hN hw
  · exact lcmd_replace N P hNP ws hkw _ s i a b t p q f rfl hs hi hp hq w hN hw
end Go.Proofs.YtmkcooamgojbpaaDoor.Lines
