/- Parts of the proof: RWNum, RCmdL, RCmdN, RWLine, RGuess. -/
import Derived.Test.YtmkcooamgojbpaaDoorPart26
import Derived.Test.YtmkcooamgojbpaaDoorPart20
import Derived.Test.YtmkcooamgojbpaaDoorPart21
import Derived.Test.YtmkcooamgojbpaaDoorPart19
import Derived.IntWalk
import Derived.Deep.DeepCutAuto
import Derived.Deep.CutBlock
import Derived.Deep.RegionHeld3
import Derived.Deep.DrawnRows
import Derived.Test.YtmkcooamgojbpaaDoorPart24
import Derived.Test.YtmkcooamgojbpaaDoorPart16
import Derived.Test.YtmkcooamgojbpaaDoorPart25
import Derived.Deep.QuietTactic

/- damperref35: num, place, sides, types, flags. -/
namespace Go.Proofs.YtmkcooamgojbpaaDoor.Lines
open Go.RowKit Go.Proofs.YtmkcooamgojbpaaDoor.Kit Go.Proofs.YtmkcooamgojbpaaDoor.Blk Go.Proofs.YtmkcooamgojbpaaDoor.Dec Go.Proofs.YtmkcooamgojbpaaDoor.Words Go.Proofs.YtmkcooamgojbpaaDoor.Octets
attribute [local go_sem ↓] Go.wp_at_zero Go.wp_at_succ
set_option linter.unusedVariables false

theorem nAt_out {ws : List Tok} {j : Nat} (h : ws.length ≤ j) : nAt ws j = 0 := by
  unfold nAt
  rw [List.getElem?_eq_none h, show (Option.getD (none : Option Tok) []) = [] from rfl, numF_long (.inl rfl)]
  rfl
theorem nAt_at {ws : List Tok} {j : Nat} (h : j < ws.length) : nAt ws j = (numF ws[j]).getD 0 := by
  unfold nAt
  rw [List.getElem?_eq_getElem h]
  rfl
set_option maxRecDepth 20000 in
theorem rnum_any (v : Value) (ws : List Tok) (hl : ∀ x ∈ ws, x.length ≤ 100000) (j : Nat) (hj : j ≤ 100000) (w : World) (h : StrRow v ws w) :
    Calls Tryd.prog 136 #[v, .int .i64 (j : Int)] w fun e w' => e = .returned (.int .i64 (nAt ws j)) ∧ Below w.heap.size w w' := by
  rcases h with ⟨rfl, rfl⟩ | ⟨h0, b, c, rfl, h2, h3, h4⟩
  · have HE := Lib.hid (nAt_out (ws := []) (j := j) (Nat.zero_le _))
    have g1 : (0 : Int) ≤ (j : Int) := by omega
    go_enter Tryd.func136, Tryd.ntmps136
    go_wp2_with fail
    go_ret
    exact ⟨by rw [HE.out]; rfl, Below.refl _ _⟩
  · by_cases hlt : j < ws.length
    · have HE := Lib.hid (nAt_at hlt)
      have g1 : ¬ (ws.length : Int) ≤ (j : Int) := by omega
      have cj : w.cell? ⟨b, j, none⟩ = some (.string (strB ws[j])) := h4 j hlt
      have HN := Lib.hid (rnumber_any ws[j] (hl _ (List.getElem_mem hlt)) w)
      generalize ws[j] = x at HE cj HN
      clear h4 hl
      go_enter Tryd.func136, Tryd.ntmps136
      go_wp2_with fail
      refine HN.out.mono ?_
      rintro e w1 ⟨rfl, hb⟩
      have HB := Lib.hid hb
      clear hb
      go_wp2_with fail
      go_ret
      exact ⟨by rw [HE.out]; rfl, HB.out⟩
    · have HE := Lib.hid (nAt_out (ws := ws) (j := j) (by omega))
      have g1 : (ws.length : Int) ≤ (j : Int) := by omega
      clear h4 hl
      go_enter Tryd.func136, Tryd.ntmps136
      go_wp2_with fail
      go_ret
      exact ⟨by rw [HE.out]; rfl, Below.refl _ _⟩
set_option maxRecDepth 20000 in
set_option maxHeartbeats 1000000 in
theorem rplace_any (B cap : Nat) (toks : List Tok) (x : Tok) (htl : toks.length ≤ 100) (w : World) (hcell : ∀ j, (h : j < toks.length) → w.cell? ⟨B, j, none⟩ = some (.string (strB toks[j]))) :
    Calls Tryd.prog 138 #[.slice (some ⟨B, 0, none⟩) toks.length cap, .string (strB x)] w fun e w' => e = .returned (.int .i64 (placeD toks x)) ∧ w' = w := by
  have HC := Lib.hid hcell
  clear hcell
  go_enter Tryd.func138, Tryd.ntmps138
  go_wp2_with fail
  go_loop [5] (fun i => ∃ k : Nat, k ≤ toks.length ∧ i = .int .i64 k ∧ Hid (placeF toks x = (placeF (toks.drop k) x).map (· + k))) (fun i => toks.length - (intOf i).toNat)
  case atStart => exact ⟨0, by omega, rfl, Lib.hid (by simp)⟩
  case round =>
    obtain ⟨k, hk, rfl, HPL⟩ := hrel
    by_cases hlt : k < toks.length
    · have ck : w.cell? ⟨B, k, none⟩ = some (.string (strB toks[k])) := HC.out k hlt
      have hkl : (k : Int) < (toks.length : Int) := by omega
      have HPD := Lib.hid (place_drop toks x k hlt)
      by_cases hx : toks[k] = x
      · have HN := Lib.hid (show placeD toks x = (k : Int) by unfold placeD; rw [HPL.out, HPD.out, if_pos hx]; simp)
        have e1 : ((strB x).toList == (strB x).toList) = true := by simp
        rw [hx] at ck
        clear HPL HPD hx
        generalize hS : strB x = S at ck e1 ⊢
        go_wp2_with fail
        go_ret
        exact ⟨by rw [HN.out]; rfl, rfl⟩
      · have e1 := strB_ne hx
        have HPL2 := Lib.hid (show placeF toks x = (placeF (toks.drop (k + 1)) x).map (· + (k + 1)) by rw [HPL.out, HPD.out, if_neg hx, Option.map_map]; congr 1; funext n; simp; omega)
        clear HPL HPD hx
        generalize strB toks[k] = T at ck e1
        go_wp2_with fail
        go_round
        case rel => exact ⟨k + 1, by omega, by go_num, HPL2⟩
        case measure => simp [intOf]; omega
    · have HN := Lib.hid (show placeD toks x = -1 by unfold placeD; rw [HPL.out, List.drop_of_length_le (by omega)]; rfl)
      clear HPL
      go_wp2_with fail
      go_ret
      exact ⟨by rw [HN.out]; rfl, rfl⟩
/-- A table of words, in a block of its own. -/
def TabIs (ws : List Tok) (w : World) (e : Ending) (w' : World) : Prop :=
  ∃ b c, e = .returned (.slice (some ⟨b, 0, none⟩) ws.length c) ∧ w.heap.size ≤ b ∧ ws.length ≤ c ∧ (∀ j, (h : j < ws.length) → w'.cell? ⟨b, j, none⟩ = some (.string (strB ws[j]))) ∧ Below w.heap.size w w'
set_option maxRecDepth 20000 in
theorem dsides_any (w : World) : Calls Tryd.prog 139 #[] w (TabIs sidesF w) := by
  go_enter Tryd.func139, Tryd.ntmps139
  go_wp2_with fail
  go_ret
  refine ⟨w.heap.size, _, rfl, Nat.le_refl _, Nat.le_refl _, fun j hj => ?_, (Below.refl _ _).alloc (Nat.le_refl _) _⟩
  refine cell_new _ _ _ _ _ _ rfl ?_
  revert j
  intro j hj
  have : j = 0 ∨ j = 1 := by simp [sidesF] at hj; omega
  rcases this with rfl | rfl <;> rfl
set_option maxRecDepth 20000 in
theorem dtypes_any (w : World) : Calls Tryd.prog 140 #[] w (TabIs typesF w) := by
  go_enter Tryd.func140, Tryd.ntmps140
  go_wp2_with fail
  go_ret
  refine ⟨w.heap.size, _, rfl, Nat.le_refl _, Nat.le_refl _, fun j hj => ?_, (Below.refl _ _).alloc (Nat.le_refl _) _⟩
  refine cell_new _ _ _ _ _ _ rfl ?_
  revert j
  intro j hj
  have : j = 0 ∨ j = 1 ∨ j = 2 ∨ j = 3 ∨ j = 4 := by simp [typesF] at hj; omega
  rcases this with rfl | rfl | rfl | rfl | rfl <;> rfl
set_option maxRecDepth 20000 in
theorem dflags_any (w : World) : Calls Tryd.prog 141 #[] w (TabIs flagsD w) := by
  go_enter Tryd.func141, Tryd.ntmps141
  go_wp2_with fail
  go_ret
  refine ⟨w.heap.size, _, rfl, Nat.le_refl _, Nat.le_refl _, fun j hj => ?_, (Below.refl _ _).alloc (Nat.le_refl _) _⟩
  refine cell_new _ _ _ _ _ _ rfl ?_
  revert j
  intro j hj
  have : j = 0 ∨ j = 1 ∨ j = 2 := by simp [flagsD] at hj; omega
  rcases this with rfl | rfl | rfl <;> rfl
end Go.Proofs.YtmkcooamgojbpaaDoor.Lines

/- damperref35.command: the line of a command that is right (printed by gen_rcmd.py). -/
namespace Go.Proofs.YtmkcooamgojbpaaDoor.Lines
open Go.RowKit Go.Proofs.YtmkcooamgojbpaaDoor.Kit Go.Proofs.YtmkcooamgojbpaaDoor.Blk Go.Proofs.YtmkcooamgojbpaaDoor.Dec Go.Proofs.YtmkcooamgojbpaaDoor.Words Go.Proofs.YtmkcooamgojbpaaDoor.Octets Go.Proofs.YtmkcooamgojbpaaDoor.Cmds
attribute [local go_sem ↓] Go.wp_at_zero Go.wp_at_succ
set_option linter.unusedVariables false

theorem cell_kept {w w' : World} {p : Addr} {v : Value} (hb : Below w.heap.size w w') (h : w.cell? p = some v) : w'.cell? p = some v := by
  rw [hb.cell (p := p) (World.block_lt_of_cell? _ _ h)]
  exact h
def TxtIs (t : Tok) (w : World) (e : Ending) (w' : World) : Prop := e = .returned (.string (strB t)) ∧ Below w.heap.size w w'
set_option maxRecDepth 20000 in
set_option maxHeartbeats 8000000 in
theorem rcommand_cancel (k s i a b t p q f : Int) (hk : k = 2) (hr : rightC ⟨k, s, i, a, b, t, p, q, f⟩ = true) (hp : -9223372036854775808 ≤ p ∧ p ≤ 9223372036854775807) (hq : -9223372036854775808 ≤ q ∧ q ≤ 9223372036854775807) (w : World) :
    Calls Tryd.prog 116 #[.agg (Cmd.cells ⟨k, s, i, a, b, t, p, q, f⟩)] w (TxtIs (joinW 32 (wordsC ⟨k, s, i, a, b, t, p, q, f⟩)) w) := by
  have HX := Lib.hid (Blk.new w (Cmd.cells ⟨k, s, i, a, b, t, p, q, f⟩) 164 w.heap.size rfl)
  have HB := Lib.hid ((Below.refl w.heap.size w).alloc (Nat.le_refl _) (.cells (Cmd.cells ⟨k, s, i, a, b, t, p, q, f⟩) 164))
  obtain ⟨hkk, hs, hi, hn⟩ := right_in hr
  dsimp only at hkk hs hi hn
  have HR := Lib.hid hr
  have HK := Lib.hid hk
  clear hr hkk hk
  dsimp only [Cmd.cells] at HX HB ⊢
  have tT00 : (strB (decB s)).size ≤ 20 := by rw [strB_size]; exact dec_len (by omega) (by omega)
  obtain ⟨T0, qT0⟩ : ∃ T, strB (decB s) = T := ⟨_, rfl⟩
  rw [qT0] at tT00
  have tT0 : T0.size ≤ 20 := tT00
  have tT10 : (strB (decB i)).size ≤ 20 := by rw [strB_size]; exact dec_len (by omega) (by omega)
  obtain ⟨T1, qT1⟩ : ∃ T, strB (decB i) = T := ⟨_, rfl⟩
  rw [qT1] at tT10
  have tT1 : T1.size ≤ 20 := tT10
  clear tT00 tT10
  obtain ⟨P1, rP1⟩ : ∃ P, (⟨#[32]⟩ : ByteArray) ++ T0 = P := ⟨_, rfl⟩
  have gP1 : ¬ 9223372036854775807 < 1 + T0.size := by omega
  have tP1 : P1.size ≤ 21 := by rw [← rP1, ByteArray.size_append]; show 1 + _ ≤ _; omega
  obtain ⟨P2, rP2⟩ : ∃ P, P1 ++ (⟨#[32]⟩ : ByteArray) = P := ⟨_, rfl⟩
  have gP2 : ¬ 9223372036854775807 < P1.size + 1 := by omega
  have tP2 : P2.size ≤ 22 := by rw [← rP2, ByteArray.size_append]; show _ + 1 ≤ _; omega
  obtain ⟨P3, rP3⟩ : ∃ P, P2 ++ T1 = P := ⟨_, rfl⟩
  have gP3 : ¬ 9223372036854775807 < P2.size + T1.size := by omega
  have tP3 : P3.size ≤ 42 := by rw [← rP3, ByteArray.size_append]; omega
  obtain ⟨R1, rR1⟩ : ∃ P, (⟨#[99, 97, 110, 99, 101, 108]⟩ : ByteArray) ++ P3 = P := ⟨_, rfl⟩
  have gR1 : ¬ 9223372036854775807 < 6 + P3.size := by omega
  have tR1 : R1.size ≤ 48 := by rw [← rR1, ByteArray.size_append]; show 6 + _ ≤ _; omega
  have HLN : Hid (R1 = strB (joinW 32 (wordsC ⟨k, s, i, a, b, t, p, q, f⟩))) := Lib.hid (by have hk := HK.out; subst hk; rw [← rR1, ← rP3, ← rP2, ← rP1, ← qT0, ← qT1, show (⟨#[32]⟩ : ByteArray) = strB [32] from rfl, show (⟨#[99, 97, 110, 99, 101, 108]⟩ : ByteArray) = strB [99, 97, 110, 99, 101, 108] from rfl]; simp only [strB_app]; congr 1; simp [wordsC, joinW, tCancel])
  clear tT0 tT1 tP1 tP2 tP3 tR1
  go_enter Tryd.func116, Tryd.ntmps116
  go_upto_region 1 with fail
  generalize w.alloc (.cells #[.int .i64 k, .int .i64 s, .int .i64 i, .int .i64 a, .int .i64 b, .int .i64 t, .int .i64 p, .int .i64 q, .int .i64 f] 164) = w1 at HX HB ⊢
  refine wp_region_held_drew (S := (fun w' => w'.cell? ⟨w.heap.size, 0, none⟩ = some (.int .i64 k) ∧ w'.cell? ⟨w.heap.size, 1, none⟩ = some (.int .i64 s) ∧ w'.cell? ⟨w.heap.size, 2, none⟩ = some (.int .i64 i) ∧ w'.cell? ⟨w.heap.size, 3, none⟩ = some (.int .i64 a) ∧ w'.cell? ⟨w.heap.size, 4, none⟩ = some (.int .i64 b) ∧ w'.cell? ⟨w.heap.size, 5, none⟩ = some (.int .i64 t) ∧ w'.cell? ⟨w.heap.size, 6, none⟩ = some (.int .i64 p) ∧ w'.cell? ⟨w.heap.size, 7, none⟩ = some (.int .i64 q) ∧ w'.cell? ⟨w.heap.size, 8, none⟩ = some (.int .i64 f))) (by kernel_rfl) ⟨HX.out.cell 0 rfl, HX.out.cell 1 rfl, HX.out.cell 2 rfl, HX.out.cell 3 rfl, HX.out.cell 4 rfl, HX.out.cell 5 rfl, HX.out.cell 6 rfl, HX.out.cell 7 rfl, HX.out.cell 8 rfl⟩ (fun hHeld => ?_)
  replace HX := Lib.hid HX.out.drew
  replace HB := Lib.hid HB.out.drew
  generalize w1.drew = w2 at HX HB hHeld ⊢
  refine wpAnyH_take (i := 0) (oi := ⟨some 5, _, _, _, _, _⟩) (v := ?_) rfl (by kernel_rfl) (by kernel_rfl) (by kernel_rfl) (fun _ _ _ h => h) (Or.inl ⟨by rfl, ?_⟩) (by assumption) ?_
  rotate_left
  · (intro w hSw; (try dsimp only at hSw); go_simp; (try with_reducible rfl))
  simp only [Act.put, List.setIfInBounds_toArray, List.set_cons_zero, List.set_cons_succ]
  refine wpAnyH_take (i := 1) (oi := ⟨some 6, _, _, _, _, _⟩) (v := ?_) rfl (by kernel_rfl) (by kernel_rfl) (by kernel_rfl) (fun _ _ _ h => h) (Or.inl ⟨by rfl, ?_⟩) (by assumption) ?_
  rotate_left
  · (intro w hSw; (try dsimp only at hSw); go_simp; (try with_reducible rfl))
  simp only [Act.put, List.setIfInBounds_toArray, List.set_cons_zero, List.set_cons_succ]
  refine wpAnyH_take (i := 5) (oi := ⟨some 10, _, _, _, _, _⟩) (v := ?_) rfl (by kernel_rfl) (by kernel_rfl) (by kernel_rfl) (fun _ _ _ h => h) (Or.inl ⟨by rfl, ?_⟩) (by assumption) ?_
  rotate_left
  · (intro w hSw; (try dsimp only at hSw); go_simp; (try with_reducible rfl))
  simp only [Act.put, List.setIfInBounds_toArray, List.set_cons_zero, List.set_cons_succ]
  refine wpAnyH_take (i := 6) (oi := ⟨some 11, _, _, _, _, _⟩) (v := ?_) rfl (by kernel_rfl) (by kernel_rfl) (by kernel_rfl) (fun _ _ _ h => h) (Or.inl ⟨by rfl, ?_⟩) (by assumption) ?_
  rotate_left
  · (intro w hSw; (try dsimp only at hSw); go_simp; (try with_reducible rfl))
  simp only [Act.put, List.setIfInBounds_toArray, List.set_cons_zero, List.set_cons_succ]
  refine wpAnyH_ready (rs := [2]) (by kernel_rfl) (by simp) ?_
  refine AllReadyH.cons (o := ⟨some 7, _, _, _, _, _⟩) rfl (fun KK hK => ?_) AllReadyH.nil
  go_simp
  refine (rdecimal_any _ (by omega) (by omega) _).mono ?_
  rintro e WX1 ⟨rfl, hb⟩
  try replace HTA := Lib.hid (cell_kept hb HTA.out)
  try replace HTB := Lib.hid (cell_kept hb HTB.out)
  replace HX := Lib.hid (HX.out.below hb HX.out.lt)
  replace HB := Lib.hid (HB.out.trans (hb.mono HB.out.size))
  clear hb
  refine hK.out _ _ ⟨HX.out.cell 0 rfl, HX.out.cell 1 rfl, HX.out.cell 2 rfl, HX.out.cell 3 rfl, HX.out.cell 4 rfl, HX.out.cell 5 rfl, HX.out.cell 6 rfl, HX.out.cell 7 rfl, HX.out.cell 8 rfl⟩ (fun hHeld => ?_)
  clear hK; try clear KK
  try simp only [Act.put, List.setIfInBounds_toArray, List.set_cons_zero, List.set_cons_succ]
  refine wpAnyH_take (i := 3) (oi := ⟨some 8, _, _, _, _, _⟩) (v := ?_) rfl (by kernel_rfl) (by kernel_rfl) (by kernel_rfl) (fun _ _ _ h => h) (Or.inl ⟨by rfl, ?_⟩) (by assumption) ?_
  rotate_left
  · (intro w hSw; (try dsimp only at hSw); go_simp; (try with_reducible rfl))
  simp only [Act.put, List.setIfInBounds_toArray, List.set_cons_zero, List.set_cons_succ]
  refine wpAnyH_take (i := 4) (oi := ⟨some 9, _, _, _, _, _⟩) (v := ?_) rfl (by kernel_rfl) (by kernel_rfl) (by kernel_rfl) (fun _ _ _ h => h) (Or.inl ⟨by rfl, ?_⟩) (by assumption) ?_
  rotate_left
  · (intro w hSw; (try dsimp only at hSw); go_simp; (try with_reducible rfl))
  simp only [Act.put, List.setIfInBounds_toArray, List.set_cons_zero, List.set_cons_succ]
  refine wpAnyH_ready (rs := [7]) (by kernel_rfl) (by simp) ?_
  refine AllReadyH.cons (o := ⟨some 12, _, _, _, _, _⟩) rfl (fun KK hK => ?_) AllReadyH.nil
  go_simp
  refine (rdecimal_any _ (by omega) (by omega) _).mono ?_
  rintro e WX2 ⟨rfl, hb⟩
  try replace HTA := Lib.hid (cell_kept hb HTA.out)
  try replace HTB := Lib.hid (cell_kept hb HTB.out)
  replace HX := Lib.hid (HX.out.below hb HX.out.lt)
  replace HB := Lib.hid (HB.out.trans (hb.mono HB.out.size))
  clear hb
  refine hK.out _ _ ⟨HX.out.cell 0 rfl, HX.out.cell 1 rfl, HX.out.cell 2 rfl, HX.out.cell 3 rfl, HX.out.cell 4 rfl, HX.out.cell 5 rfl, HX.out.cell 6 rfl, HX.out.cell 7 rfl, HX.out.cell 8 rfl⟩ (fun hHeld => ?_)
  clear hK; try clear KK
  try simp only [Act.put, List.setIfInBounds_toArray, List.set_cons_zero, List.set_cons_succ]
  refine wpAnyH_take (i := 8) (oi := ⟨some 13, _, _, _, _, _⟩) (v := ?_) rfl (by kernel_rfl) (by kernel_rfl) (by kernel_rfl) (fun _ _ _ h => h) (Or.inl ⟨by rfl, ?_⟩) (by assumption) ?_
  rotate_left
  · (intro w hSw; (try dsimp only at hSw); go_simp; (try with_reducible rfl))
  simp only [Act.put, List.setIfInBounds_toArray, List.set_cons_zero, List.set_cons_succ]
  refine wpAnyH_take (i := 9) (oi := ⟨some 3, _, _, _, _, _⟩) (v := ?_) rfl (by kernel_rfl) (by kernel_rfl) (by kernel_rfl) (fun _ _ _ h => h) (Or.inl ⟨by rfl, ?_⟩) (by assumption) ?_
  rotate_left
  · (intro w hSw; (try dsimp only at hSw); go_simp; (try with_reducible rfl))
  simp only [Act.put, List.setIfInBounds_toArray, List.set_cons_zero, List.set_cons_succ]
  refine wpAnyH_done (by kernel_rfl) ?_ _
  skip
  have c0 : WX2.cell? ⟨w.heap.size, 0, none⟩ = some (.int .i64 k) := HX.out.cell 0 rfl
  rw [HK.out] at c0
  clear hHeld
  go_wp2_with fail
  go_ret
  exact ⟨by rw [HLN.out]; rfl, HB.out⟩
set_option maxRecDepth 20000 in
set_option maxHeartbeats 8000000 in
theorem rcommand_replace (k s i a b t p q f : Int) (hk : k = 3) (hr : rightC ⟨k, s, i, a, b, t, p, q, f⟩ = true) (hp : -9223372036854775808 ≤ p ∧ p ≤ 9223372036854775807) (hq : -9223372036854775808 ≤ q ∧ q ≤ 9223372036854775807) (w : World) :
    Calls Tryd.prog 116 #[.agg (Cmd.cells ⟨k, s, i, a, b, t, p, q, f⟩)] w (TxtIs (joinW 32 (wordsC ⟨k, s, i, a, b, t, p, q, f⟩)) w) := by
  have HX := Lib.hid (Blk.new w (Cmd.cells ⟨k, s, i, a, b, t, p, q, f⟩) 164 w.heap.size rfl)
  have HB := Lib.hid ((Below.refl w.heap.size w).alloc (Nat.le_refl _) (.cells (Cmd.cells ⟨k, s, i, a, b, t, p, q, f⟩) 164))
  obtain ⟨hkk, hs, hi, hn⟩ := right_in hr
  dsimp only at hkk hs hi hn
  have HR := Lib.hid hr
  have HK := Lib.hid hk
  clear hr hkk hk
  dsimp only [Cmd.cells] at HX HB ⊢
  have tT00 : (strB (decB s)).size ≤ 20 := by rw [strB_size]; exact dec_len (by omega) (by omega)
  obtain ⟨T0, qT0⟩ : ∃ T, strB (decB s) = T := ⟨_, rfl⟩
  rw [qT0] at tT00
  have tT0 : T0.size ≤ 20 := tT00
  have tT10 : (strB (decB i)).size ≤ 20 := by rw [strB_size]; exact dec_len (by omega) (by omega)
  obtain ⟨T1, qT1⟩ : ∃ T, strB (decB i) = T := ⟨_, rfl⟩
  rw [qT1] at tT10
  have tT1 : T1.size ≤ 20 := tT10
  clear tT00 tT10
  have tT20 : (strB (decB p)).size ≤ 20 := by rw [strB_size]; exact dec_len hp.1 hp.2
  obtain ⟨T2, qT2⟩ : ∃ T, strB (decB p) = T := ⟨_, rfl⟩
  rw [qT2] at tT20
  have tT2 : T2.size ≤ 20 := tT20
  have tT30 : (strB (decB q)).size ≤ 20 := by rw [strB_size]; exact dec_len hq.1 hq.2
  obtain ⟨T3, qT3⟩ : ∃ T, strB (decB q) = T := ⟨_, rfl⟩
  rw [qT3] at tT30
  have tT3 : T3.size ≤ 20 := tT30
  clear tT20 tT30
  obtain ⟨P1, rP1⟩ : ∃ P, (⟨#[32]⟩ : ByteArray) ++ T0 = P := ⟨_, rfl⟩
  have gP1 : ¬ 9223372036854775807 < 1 + T0.size := by omega
  have tP1 : P1.size ≤ 21 := by rw [← rP1, ByteArray.size_append]; show 1 + _ ≤ _; omega
  obtain ⟨P2, rP2⟩ : ∃ P, P1 ++ (⟨#[32]⟩ : ByteArray) = P := ⟨_, rfl⟩
  have gP2 : ¬ 9223372036854775807 < P1.size + 1 := by omega
  have tP2 : P2.size ≤ 22 := by rw [← rP2, ByteArray.size_append]; show _ + 1 ≤ _; omega
  obtain ⟨P3, rP3⟩ : ∃ P, P2 ++ T1 = P := ⟨_, rfl⟩
  have gP3 : ¬ 9223372036854775807 < P2.size + T1.size := by omega
  have tP3 : P3.size ≤ 42 := by rw [← rP3, ByteArray.size_append]; omega
  obtain ⟨R1, rR1⟩ : ∃ P, (⟨#[114, 101, 112, 108, 97, 99, 101]⟩ : ByteArray) ++ P3 = P := ⟨_, rfl⟩
  have gR1 : ¬ 9223372036854775807 < 7 + P3.size := by omega
  have tR1 : R1.size ≤ 49 := by rw [← rR1, ByteArray.size_append]; show 7 + _ ≤ _; omega
  obtain ⟨R2, rR2⟩ : ∃ P, R1 ++ (⟨#[32]⟩ : ByteArray) = P := ⟨_, rfl⟩
  have gR2 : ¬ 9223372036854775807 < R1.size + 1 := by omega
  have tR2 : R2.size ≤ 50 := by rw [← rR2, ByteArray.size_append]; show _ + 1 ≤ _; omega
  obtain ⟨R3, rR3⟩ : ∃ P, R2 ++ T2 = P := ⟨_, rfl⟩
  have gR3 : ¬ 9223372036854775807 < R2.size + T2.size := by omega
  have tR3 : R3.size ≤ 70 := by rw [← rR3, ByteArray.size_append]; omega
  obtain ⟨R4, rR4⟩ : ∃ P, R3 ++ (⟨#[32]⟩ : ByteArray) = P := ⟨_, rfl⟩
  have gR4 : ¬ 9223372036854775807 < R3.size + 1 := by omega
  have tR4 : R4.size ≤ 71 := by rw [← rR4, ByteArray.size_append]; show _ + 1 ≤ _; omega
  obtain ⟨R5, rR5⟩ : ∃ P, R4 ++ T3 = P := ⟨_, rfl⟩
  have gR5 : ¬ 9223372036854775807 < R4.size + T3.size := by omega
  have tR5 : R5.size ≤ 91 := by rw [← rR5, ByteArray.size_append]; omega
  have HLN : Hid (R5 = strB (joinW 32 (wordsC ⟨k, s, i, a, b, t, p, q, f⟩))) := Lib.hid (by have hk := HK.out; subst hk; rw [← rR5, ← rR4, ← rR3, ← rR2, ← rR1, ← rP3, ← rP2, ← rP1, ← qT0, ← qT1, ← qT2, ← qT3, show (⟨#[32]⟩ : ByteArray) = strB [32] from rfl, show (⟨#[114, 101, 112, 108, 97, 99, 101]⟩ : ByteArray) = strB [114, 101, 112, 108, 97, 99, 101] from rfl]; simp only [strB_app]; congr 1; simp [wordsC, joinW, tReplace])
  clear tT0 tT1 tT2 tT3 tP1 tP2 tP3 tR1 tR2 tR3 tR4 tR5
  go_enter Tryd.func116, Tryd.ntmps116
  go_upto_region 1 with fail
  generalize w.alloc (.cells #[.int .i64 k, .int .i64 s, .int .i64 i, .int .i64 a, .int .i64 b, .int .i64 t, .int .i64 p, .int .i64 q, .int .i64 f] 164) = w1 at HX HB ⊢
  refine wp_region_held_drew (S := (fun w' => w'.cell? ⟨w.heap.size, 0, none⟩ = some (.int .i64 k) ∧ w'.cell? ⟨w.heap.size, 1, none⟩ = some (.int .i64 s) ∧ w'.cell? ⟨w.heap.size, 2, none⟩ = some (.int .i64 i) ∧ w'.cell? ⟨w.heap.size, 3, none⟩ = some (.int .i64 a) ∧ w'.cell? ⟨w.heap.size, 4, none⟩ = some (.int .i64 b) ∧ w'.cell? ⟨w.heap.size, 5, none⟩ = some (.int .i64 t) ∧ w'.cell? ⟨w.heap.size, 6, none⟩ = some (.int .i64 p) ∧ w'.cell? ⟨w.heap.size, 7, none⟩ = some (.int .i64 q) ∧ w'.cell? ⟨w.heap.size, 8, none⟩ = some (.int .i64 f))) (by kernel_rfl) ⟨HX.out.cell 0 rfl, HX.out.cell 1 rfl, HX.out.cell 2 rfl, HX.out.cell 3 rfl, HX.out.cell 4 rfl, HX.out.cell 5 rfl, HX.out.cell 6 rfl, HX.out.cell 7 rfl, HX.out.cell 8 rfl⟩ (fun hHeld => ?_)
  replace HX := Lib.hid HX.out.drew
  replace HB := Lib.hid HB.out.drew
  generalize w1.drew = w2 at HX HB hHeld ⊢
  refine wpAnyH_take (i := 0) (oi := ⟨some 5, _, _, _, _, _⟩) (v := ?_) rfl (by kernel_rfl) (by kernel_rfl) (by kernel_rfl) (fun _ _ _ h => h) (Or.inl ⟨by rfl, ?_⟩) (by assumption) ?_
  rotate_left
  · (intro w hSw; (try dsimp only at hSw); go_simp; (try with_reducible rfl))
  simp only [Act.put, List.setIfInBounds_toArray, List.set_cons_zero, List.set_cons_succ]
  refine wpAnyH_take (i := 1) (oi := ⟨some 6, _, _, _, _, _⟩) (v := ?_) rfl (by kernel_rfl) (by kernel_rfl) (by kernel_rfl) (fun _ _ _ h => h) (Or.inl ⟨by rfl, ?_⟩) (by assumption) ?_
  rotate_left
  · (intro w hSw; (try dsimp only at hSw); go_simp; (try with_reducible rfl))
  simp only [Act.put, List.setIfInBounds_toArray, List.set_cons_zero, List.set_cons_succ]
  refine wpAnyH_take (i := 5) (oi := ⟨some 10, _, _, _, _, _⟩) (v := ?_) rfl (by kernel_rfl) (by kernel_rfl) (by kernel_rfl) (fun _ _ _ h => h) (Or.inl ⟨by rfl, ?_⟩) (by assumption) ?_
  rotate_left
  · (intro w hSw; (try dsimp only at hSw); go_simp; (try with_reducible rfl))
  simp only [Act.put, List.setIfInBounds_toArray, List.set_cons_zero, List.set_cons_succ]
  refine wpAnyH_take (i := 6) (oi := ⟨some 11, _, _, _, _, _⟩) (v := ?_) rfl (by kernel_rfl) (by kernel_rfl) (by kernel_rfl) (fun _ _ _ h => h) (Or.inl ⟨by rfl, ?_⟩) (by assumption) ?_
  rotate_left
  · (intro w hSw; (try dsimp only at hSw); go_simp; (try with_reducible rfl))
  simp only [Act.put, List.setIfInBounds_toArray, List.set_cons_zero, List.set_cons_succ]
  refine wpAnyH_ready (rs := [2]) (by kernel_rfl) (by simp) ?_
  refine AllReadyH.cons (o := ⟨some 7, _, _, _, _, _⟩) rfl (fun KK hK => ?_) AllReadyH.nil
  go_simp
  refine (rdecimal_any _ (by omega) (by omega) _).mono ?_
  rintro e WX1 ⟨rfl, hb⟩
  try replace HTA := Lib.hid (cell_kept hb HTA.out)
  try replace HTB := Lib.hid (cell_kept hb HTB.out)
  replace HX := Lib.hid (HX.out.below hb HX.out.lt)
  replace HB := Lib.hid (HB.out.trans (hb.mono HB.out.size))
  clear hb
  refine hK.out _ _ ⟨HX.out.cell 0 rfl, HX.out.cell 1 rfl, HX.out.cell 2 rfl, HX.out.cell 3 rfl, HX.out.cell 4 rfl, HX.out.cell 5 rfl, HX.out.cell 6 rfl, HX.out.cell 7 rfl, HX.out.cell 8 rfl⟩ (fun hHeld => ?_)
  clear hK; try clear KK
  try simp only [Act.put, List.setIfInBounds_toArray, List.set_cons_zero, List.set_cons_succ]
  refine wpAnyH_take (i := 3) (oi := ⟨some 8, _, _, _, _, _⟩) (v := ?_) rfl (by kernel_rfl) (by kernel_rfl) (by kernel_rfl) (fun _ _ _ h => h) (Or.inl ⟨by rfl, ?_⟩) (by assumption) ?_
  rotate_left
  · (intro w hSw; (try dsimp only at hSw); go_simp; (try with_reducible rfl))
  simp only [Act.put, List.setIfInBounds_toArray, List.set_cons_zero, List.set_cons_succ]
  refine wpAnyH_take (i := 4) (oi := ⟨some 9, _, _, _, _, _⟩) (v := ?_) rfl (by kernel_rfl) (by kernel_rfl) (by kernel_rfl) (fun _ _ _ h => h) (Or.inl ⟨by rfl, ?_⟩) (by assumption) ?_
  rotate_left
  · (intro w hSw; (try dsimp only at hSw); go_simp; (try with_reducible rfl))
  simp only [Act.put, List.setIfInBounds_toArray, List.set_cons_zero, List.set_cons_succ]
  refine wpAnyH_ready (rs := [7]) (by kernel_rfl) (by simp) ?_
  refine AllReadyH.cons (o := ⟨some 12, _, _, _, _, _⟩) rfl (fun KK hK => ?_) AllReadyH.nil
  go_simp
  refine (rdecimal_any _ (by omega) (by omega) _).mono ?_
  rintro e WX2 ⟨rfl, hb⟩
  try replace HTA := Lib.hid (cell_kept hb HTA.out)
  try replace HTB := Lib.hid (cell_kept hb HTB.out)
  replace HX := Lib.hid (HX.out.below hb HX.out.lt)
  replace HB := Lib.hid (HB.out.trans (hb.mono HB.out.size))
  clear hb
  refine hK.out _ _ ⟨HX.out.cell 0 rfl, HX.out.cell 1 rfl, HX.out.cell 2 rfl, HX.out.cell 3 rfl, HX.out.cell 4 rfl, HX.out.cell 5 rfl, HX.out.cell 6 rfl, HX.out.cell 7 rfl, HX.out.cell 8 rfl⟩ (fun hHeld => ?_)
  clear hK; try clear KK
  try simp only [Act.put, List.setIfInBounds_toArray, List.set_cons_zero, List.set_cons_succ]
  refine wpAnyH_take (i := 8) (oi := ⟨some 13, _, _, _, _, _⟩) (v := ?_) rfl (by kernel_rfl) (by kernel_rfl) (by kernel_rfl) (fun _ _ _ h => h) (Or.inl ⟨by rfl, ?_⟩) (by assumption) ?_
  rotate_left
  · (intro w hSw; (try dsimp only at hSw); go_simp; (try with_reducible rfl))
  simp only [Act.put, List.setIfInBounds_toArray, List.set_cons_zero, List.set_cons_succ]
  refine wpAnyH_take (i := 9) (oi := ⟨some 3, _, _, _, _, _⟩) (v := ?_) rfl (by kernel_rfl) (by kernel_rfl) (by kernel_rfl) (fun _ _ _ h => h) (Or.inl ⟨by rfl, ?_⟩) (by assumption) ?_
  rotate_left
  · (intro w hSw; (try dsimp only at hSw); go_simp; (try with_reducible rfl))
  simp only [Act.put, List.setIfInBounds_toArray, List.set_cons_zero, List.set_cons_succ]
  refine wpAnyH_done (by kernel_rfl) ?_ _
  skip
  have c0 : WX2.cell? ⟨w.heap.size, 0, none⟩ = some (.int .i64 k) := HX.out.cell 0 rfl
  rw [HK.out] at c0
  clear hHeld
  go_upto_region 6 with fail
  refine wp_region_held_drew (S := (fun w' => w'.cell? ⟨w.heap.size, 0, none⟩ = some (.int .i64 k) ∧ w'.cell? ⟨w.heap.size, 1, none⟩ = some (.int .i64 s) ∧ w'.cell? ⟨w.heap.size, 2, none⟩ = some (.int .i64 i) ∧ w'.cell? ⟨w.heap.size, 3, none⟩ = some (.int .i64 a) ∧ w'.cell? ⟨w.heap.size, 4, none⟩ = some (.int .i64 b) ∧ w'.cell? ⟨w.heap.size, 5, none⟩ = some (.int .i64 t) ∧ w'.cell? ⟨w.heap.size, 6, none⟩ = some (.int .i64 p) ∧ w'.cell? ⟨w.heap.size, 7, none⟩ = some (.int .i64 q) ∧ w'.cell? ⟨w.heap.size, 8, none⟩ = some (.int .i64 f))) (by kernel_rfl) ⟨HX.out.cell 0 rfl, HX.out.cell 1 rfl, HX.out.cell 2 rfl, HX.out.cell 3 rfl, HX.out.cell 4 rfl, HX.out.cell 5 rfl, HX.out.cell 6 rfl, HX.out.cell 7 rfl, HX.out.cell 8 rfl⟩ (fun hHeld => ?_)
  replace HX := Lib.hid HX.out.drew
  replace HB := Lib.hid HB.out.drew
  clear c0
  generalize WX2.drew = w5 at HX HB hHeld ⊢
  refine wpAnyH_take (i := 0) (oi := ⟨some 22, _, _, _, _, _⟩) (v := ?_) rfl (by kernel_rfl) (by kernel_rfl) (by kernel_rfl) (fun _ _ _ h => h) (Or.inl ⟨by rfl, ?_⟩) (by assumption) ?_
  rotate_left
  · (intro w hSw; (try dsimp only at hSw); go_simp; (try with_reducible rfl))
  simp only [Act.put, List.setIfInBounds_toArray, List.set_cons_zero, List.set_cons_succ]
  refine wpAnyH_take (i := 1) (oi := ⟨some 23, _, _, _, _, _⟩) (v := ?_) rfl (by kernel_rfl) (by kernel_rfl) (by kernel_rfl) (fun _ _ _ h => h) (Or.inl ⟨by rfl, ?_⟩) (by assumption) ?_
  rotate_left
  · (intro w hSw; (try dsimp only at hSw); go_simp; (try with_reducible rfl))
  simp only [Act.put, List.setIfInBounds_toArray, List.set_cons_zero, List.set_cons_succ]
  refine wpAnyH_take (i := 2) (oi := ⟨some 24, _, _, _, _, _⟩) (v := ?_) rfl (by kernel_rfl) (by kernel_rfl) (by kernel_rfl) (fun _ _ _ h => h) (Or.inl ⟨by rfl, ?_⟩) (by assumption) ?_
  rotate_left
  · (intro w hSw; (try dsimp only at hSw); go_simp; (try with_reducible rfl))
  simp only [Act.put, List.setIfInBounds_toArray, List.set_cons_zero, List.set_cons_succ]
  refine wpAnyH_take (i := 3) (oi := ⟨some 25, _, _, _, _, _⟩) (v := ?_) rfl (by kernel_rfl) (by kernel_rfl) (by kernel_rfl) (fun _ _ _ h => h) (Or.inl ⟨by rfl, ?_⟩) (by assumption) ?_
  rotate_left
  · (intro w hSw; (try dsimp only at hSw); go_simp; (try with_reducible rfl))
  simp only [Act.put, List.setIfInBounds_toArray, List.set_cons_zero, List.set_cons_succ]
  refine wpAnyH_take (i := 4) (oi := ⟨some 26, _, _, _, _, _⟩) (v := ?_) rfl (by kernel_rfl) (by kernel_rfl) (by kernel_rfl) (fun _ _ _ h => h) (Or.inl ⟨by rfl, ?_⟩) (by assumption) ?_
  rotate_left
  · (intro w hSw; (try dsimp only at hSw); go_simp; (try with_reducible rfl))
  simp only [Act.put, List.setIfInBounds_toArray, List.set_cons_zero, List.set_cons_succ]
  refine wpAnyH_take (i := 8) (oi := ⟨some 30, _, _, _, _, _⟩) (v := ?_) rfl (by kernel_rfl) (by kernel_rfl) (by kernel_rfl) (fun _ _ _ h => h) (Or.inl ⟨by rfl, ?_⟩) (by assumption) ?_
  rotate_left
  · (intro w hSw; (try dsimp only at hSw); go_simp; (try with_reducible rfl))
  simp only [Act.put, List.setIfInBounds_toArray, List.set_cons_zero, List.set_cons_succ]
  refine wpAnyH_take (i := 9) (oi := ⟨some 31, _, _, _, _, _⟩) (v := ?_) rfl (by kernel_rfl) (by kernel_rfl) (by kernel_rfl) (fun _ _ _ h => h) (Or.inl ⟨by rfl, ?_⟩) (by assumption) ?_
  rotate_left
  · (intro w hSw; (try dsimp only at hSw); go_simp; (try with_reducible rfl))
  simp only [Act.put, List.setIfInBounds_toArray, List.set_cons_zero, List.set_cons_succ]
  refine wpAnyH_ready (rs := [5]) (by kernel_rfl) (by simp) ?_
  refine AllReadyH.cons (o := ⟨some 27, _, _, _, _, _⟩) rfl (fun KK hK => ?_) AllReadyH.nil
  go_simp
  refine (rdecimal_any _ (by omega) (by omega) _).mono ?_
  rintro e WX1 ⟨rfl, hb⟩
  try replace HTA := Lib.hid (cell_kept hb HTA.out)
  try replace HTB := Lib.hid (cell_kept hb HTB.out)
  replace HX := Lib.hid (HX.out.below hb HX.out.lt)
  replace HB := Lib.hid (HB.out.trans (hb.mono HB.out.size))
  clear hb
  refine hK.out _ _ ⟨HX.out.cell 0 rfl, HX.out.cell 1 rfl, HX.out.cell 2 rfl, HX.out.cell 3 rfl, HX.out.cell 4 rfl, HX.out.cell 5 rfl, HX.out.cell 6 rfl, HX.out.cell 7 rfl, HX.out.cell 8 rfl⟩ (fun hHeld => ?_)
  clear hK; try clear KK
  try simp only [Act.put, List.setIfInBounds_toArray, List.set_cons_zero, List.set_cons_succ]
  refine wpAnyH_take (i := 6) (oi := ⟨some 28, _, _, _, _, _⟩) (v := ?_) rfl (by kernel_rfl) (by kernel_rfl) (by kernel_rfl) (fun _ _ _ h => h) (Or.inl ⟨by rfl, ?_⟩) (by assumption) ?_
  rotate_left
  · (intro w hSw; (try dsimp only at hSw); go_simp; (try with_reducible rfl))
  simp only [Act.put, List.setIfInBounds_toArray, List.set_cons_zero, List.set_cons_succ]
  refine wpAnyH_take (i := 7) (oi := ⟨some 29, _, _, _, _, _⟩) (v := ?_) rfl (by kernel_rfl) (by kernel_rfl) (by kernel_rfl) (fun _ _ _ h => h) (Or.inl ⟨by rfl, ?_⟩) (by assumption) ?_
  rotate_left
  · (intro w hSw; (try dsimp only at hSw); go_simp; (try with_reducible rfl))
  simp only [Act.put, List.setIfInBounds_toArray, List.set_cons_zero, List.set_cons_succ]
  refine wpAnyH_ready (rs := [10]) (by kernel_rfl) (by simp) ?_
  refine AllReadyH.cons (o := ⟨some 32, _, _, _, _, _⟩) rfl (fun KK hK => ?_) AllReadyH.nil
  go_simp
  refine (rdecimal_any _ (by omega) (by omega) _).mono ?_
  rintro e WX2 ⟨rfl, hb⟩
  try replace HTA := Lib.hid (cell_kept hb HTA.out)
  try replace HTB := Lib.hid (cell_kept hb HTB.out)
  replace HX := Lib.hid (HX.out.below hb HX.out.lt)
  replace HB := Lib.hid (HB.out.trans (hb.mono HB.out.size))
  clear hb
  refine hK.out _ _ ⟨HX.out.cell 0 rfl, HX.out.cell 1 rfl, HX.out.cell 2 rfl, HX.out.cell 3 rfl, HX.out.cell 4 rfl, HX.out.cell 5 rfl, HX.out.cell 6 rfl, HX.out.cell 7 rfl, HX.out.cell 8 rfl⟩ (fun hHeld => ?_)
  clear hK; try clear KK
  try simp only [Act.put, List.setIfInBounds_toArray, List.set_cons_zero, List.set_cons_succ]
  refine wpAnyH_take (i := 11) (oi := ⟨some 33, _, _, _, _, _⟩) (v := ?_) rfl (by kernel_rfl) (by kernel_rfl) (by kernel_rfl) (fun _ _ _ h => h) (Or.inl ⟨by rfl, ?_⟩) (by assumption) ?_
  rotate_left
  · (intro w hSw; (try dsimp only at hSw); go_simp; (try with_reducible rfl))
  simp only [Act.put, List.setIfInBounds_toArray, List.set_cons_zero, List.set_cons_succ]
  refine wpAnyH_take (i := 12) (oi := ⟨some 2, _, _, _, _, _⟩) (v := ?_) rfl (by kernel_rfl) (by kernel_rfl) (by kernel_rfl) (fun _ _ _ h => h) (Or.inl ⟨by rfl, ?_⟩) (by assumption) ?_
  rotate_left
  · (intro w hSw; (try dsimp only at hSw); go_simp; (try with_reducible rfl))
  simp only [Act.put, List.setIfInBounds_toArray, List.set_cons_zero, List.set_cons_succ]
  refine wpAnyH_done (by kernel_rfl) ?_ _
  skip
  go_wp2_with fail
  go_ret
  exact ⟨by rw [HLN.out]; rfl, HB.out⟩
end Go.Proofs.YtmkcooamgojbpaaDoor.Lines

/- damperref35.command: of a new order (printed by gen_rcmd.py). -/
namespace Go.Proofs.YtmkcooamgojbpaaDoor.Lines
open Go.RowKit Go.Proofs.YtmkcooamgojbpaaDoor.Kit Go.Proofs.YtmkcooamgojbpaaDoor.Blk Go.Proofs.YtmkcooamgojbpaaDoor.Dec Go.Proofs.YtmkcooamgojbpaaDoor.Words Go.Proofs.YtmkcooamgojbpaaDoor.Octets Go.Proofs.YtmkcooamgojbpaaDoor.Cmds
attribute [local go_sem ↓] Go.wp_at_zero Go.wp_at_succ
set_option linter.unusedVariables false

theorem join_app (b : UInt8) : ∀ (xs ys : List Tok), xs ≠ [] → joinW b (xs ++ ys) = joinW b xs ++ ys.flatMap (fun y => b :: y) := by
  intro xs
  induction xs with
  | nil => intro ys h; exact absurd rfl h
  | cons x xs ih =>
    intro ys _
    cases xs with
    | nil =>
      induction ys generalizing x with
      | nil => simp [joinW]
      | cons y ys ihy =>
        show joinW b (x :: y :: ys) = _
        rw [join_cons (by simp)]
        have := ihy y (by simp)
        rw [List.singleton_append] at this
        rw [this]
        simp [joinW]
    | cons v xs =>
      rw [List.cons_append, join_cons (by simp), join_cons (by simp), ih ys (by simp)]
      simp
def flS (f : Nat) : Nat → Tok
  | 0 => []
  | k + 1 => flS f k ++ if f / 2 ^ k % 2 = 1 then 32 :: ((flagsD[k]?).getD []) else []
theorem flS_all (f : Nat) (h : f ≤ 7) : (flagW f).flatMap (fun y => 32 :: y) = flS f 3 := by
  have : ∀ f : Fin 8, (flagW f.1).flatMap (fun y => 32 :: y) = flS f.1 3 := by decide
  exact this ⟨f, by omega⟩
theorem flS_len (f k : Nat) (hf : f ≤ 7) (hk : k ≤ 3) : (flS f k).length ≤ 30 := by
  have : ∀ f : Fin 8, ∀ k : Fin 4, (flS f.1 k.1).length ≤ 30 := by decide
  exact this ⟨f, by omega⟩ ⟨k, by omega⟩
theorem bit_of (f k : Nat) (hf : f ≤ 7) (hk : k < 3) : (bits .and .i64 ((f : Int) / 2 ^ k) 1 == 1) = decide (f / 2 ^ k % 2 = 1) := by
  have : ∀ f : Fin 8, ∀ k : Fin 3, (bits .and .i64 (((f.1 : Nat) : Int) / 2 ^ k.1) 1 == 1) = decide (f.1 / 2 ^ k.1 % 2 = 1) := by decide +kernel
  exact this ⟨f, by omega⟩ ⟨k, hk⟩
theorem flag_len {k : Nat} {y : Tok} (h : flagsD[k]? = some y) : y.length ≤ 20 := by
  have : ∀ y ∈ flagsD, y.length ≤ 20 := by decide
  exact this y (List.mem_of_getElem? h)
theorem side_len (k : Nat) (h : k ≤ 1) : (sideW k).length ≤ 20 := by
  have : ∀ k : Fin 2, (sideW k.1).length ≤ 20 := by decide
  exact this ⟨k, by omega⟩
theorem type_len (k : Nat) (h : k ≤ 4) : (typeW k).length ≤ 20 := by
  have : ∀ k : Fin 5, (typeW k.1).length ≤ 20 := by decide
  exact this ⟨k, by omega⟩
theorem side_at (k : Nat) (h : k < sidesF.length) : sidesF[k] = sideW k := by unfold sideW; rw [List.getElem?_eq_getElem h]; rfl
theorem type_at (k : Nat) (h : k < typesF.length) : typesF[k] = typeW k := by unfold typeW; rw [List.getElem?_eq_getElem h]; rfl
set_option maxRecDepth 20000 in
set_option maxHeartbeats 8000000 in
theorem rcommand_new (s i a p q : Int) (bn tn fn : Nat) (hs : 0 ≤ s ∧ s ≤ 255) (hi : 0 ≤ i ∧ i ≤ 4611686018427387904) (ha : 0 ≤ a ∧ a ≤ 1073741824) (hbn : bn ≤ 1) (htn : tn ≤ 4) (hfn : fn ≤ 7) (hp : -9223372036854775808 ≤ p ∧ p ≤ 9223372036854775807) (hq : -9223372036854775808 ≤ q ∧ q ≤ 9223372036854775807) (w : World) :
    Calls Tryd.prog 116 #[.agg (Cmd.cells ⟨1, s, i, a, bn, (tn : Int) + 1, p, q, fn⟩)] w (TxtIs (joinW 32 [tNew, decB s, decB i, decB a, sideW bn, typeW tn, decB p, decB q] ++ flS fn 3) w) := by
  have HX := Lib.hid (Blk.new w (Cmd.cells ⟨1, s, i, a, bn, (tn : Int) + 1, p, q, fn⟩) 164 w.heap.size rfl)
  have HB := Lib.hid ((Below.refl w.heap.size w).alloc (Nat.le_refl _) (.cells (Cmd.cells ⟨1, s, i, a, bn, (tn : Int) + 1, p, q, fn⟩) 164))
  dsimp only [Cmd.cells] at HX HB ⊢
  have tT00 : (strB (decB s)).size ≤ 20 := by rw [strB_size]; exact dec_len (by omega) (by omega)
  obtain ⟨T0, qT0⟩ : ∃ T, strB (decB s) = T := ⟨_, rfl⟩
  rw [qT0] at tT00
  have tT0 : T0.size ≤ 20 := tT00
  have tT10 : (strB (decB i)).size ≤ 20 := by rw [strB_size]; exact dec_len (by omega) (by omega)
  obtain ⟨T1, qT1⟩ : ∃ T, strB (decB i) = T := ⟨_, rfl⟩
  rw [qT1] at tT10
  have tT1 : T1.size ≤ 20 := tT10
  clear tT00 tT10
  have tT20 : (strB (decB a)).size ≤ 20 := by rw [strB_size]; exact dec_len (by omega) (by omega)
  obtain ⟨T2, qT2⟩ : ∃ T, strB (decB a) = T := ⟨_, rfl⟩
  rw [qT2] at tT20
  have tT2 : T2.size ≤ 20 := tT20
  clear tT20
  have tT30 : (strB (sideW bn)).size ≤ 20 := by rw [strB_size]; exact side_len bn hbn
  obtain ⟨T3, qT3⟩ : ∃ T, strB (sideW bn) = T := ⟨_, rfl⟩
  rw [qT3] at tT30
  have tT3 : T3.size ≤ 20 := tT30
  clear tT30
  have tT40 : (strB (typeW tn)).size ≤ 20 := by rw [strB_size]; exact type_len tn htn
  obtain ⟨T4, qT4⟩ : ∃ T, strB (typeW tn) = T := ⟨_, rfl⟩
  rw [qT4] at tT40
  have tT4 : T4.size ≤ 20 := tT40
  clear tT40
  have tT50 : (strB (decB p)).size ≤ 20 := by rw [strB_size]; exact dec_len hp.1 hp.2
  obtain ⟨T5, qT5⟩ : ∃ T, strB (decB p) = T := ⟨_, rfl⟩
  rw [qT5] at tT50
  have tT5 : T5.size ≤ 20 := tT50
  clear tT50
  have tT60 : (strB (decB q)).size ≤ 20 := by rw [strB_size]; exact dec_len hq.1 hq.2
  obtain ⟨T6, qT6⟩ : ∃ T, strB (decB q) = T := ⟨_, rfl⟩
  rw [qT6] at tT60
  have tT6 : T6.size ≤ 20 := tT60
  clear tT60
  obtain ⟨P1, rP1⟩ : ∃ P, (⟨#[32]⟩ : ByteArray) ++ T0 = P := ⟨_, rfl⟩
  have gP1 : ¬ 9223372036854775807 < 1 + T0.size := by omega
  have tP1 : P1.size ≤ 21 := by rw [← rP1, ByteArray.size_append]; show 1 + _ ≤ _; omega
  obtain ⟨P2, rP2⟩ : ∃ P, P1 ++ (⟨#[32]⟩ : ByteArray) = P := ⟨_, rfl⟩
  have gP2 : ¬ 9223372036854775807 < P1.size + 1 := by omega
  have tP2 : P2.size ≤ 22 := by rw [← rP2, ByteArray.size_append]; show _ + 1 ≤ _; omega
  obtain ⟨P3, rP3⟩ : ∃ P, P2 ++ T1 = P := ⟨_, rfl⟩
  have gP3 : ¬ 9223372036854775807 < P2.size + T1.size := by omega
  have tP3 : P3.size ≤ 42 := by rw [← rP3, ByteArray.size_append]; omega
  obtain ⟨R1, rR1⟩ : ∃ P, (⟨#[110, 101, 119]⟩ : ByteArray) ++ P3 = P := ⟨_, rfl⟩
  have gR1 : ¬ 9223372036854775807 < 3 + P3.size := by omega
  have tR1 : R1.size ≤ 45 := by rw [← rR1, ByteArray.size_append]; show 3 + _ ≤ _; omega
  obtain ⟨R2, rR2⟩ : ∃ P, R1 ++ (⟨#[32]⟩ : ByteArray) = P := ⟨_, rfl⟩
  have gR2 : ¬ 9223372036854775807 < R1.size + 1 := by omega
  have tR2 : R2.size ≤ 46 := by rw [← rR2, ByteArray.size_append]; show _ + 1 ≤ _; omega
  obtain ⟨R3, rR3⟩ : ∃ P, R2 ++ T2 = P := ⟨_, rfl⟩
  have gR3 : ¬ 9223372036854775807 < R2.size + T2.size := by omega
  have tR3 : R3.size ≤ 66 := by rw [← rR3, ByteArray.size_append]; omega
  obtain ⟨R4, rR4⟩ : ∃ P, R3 ++ (⟨#[32]⟩ : ByteArray) = P := ⟨_, rfl⟩
  have gR4 : ¬ 9223372036854775807 < R3.size + 1 := by omega
  have tR4 : R4.size ≤ 67 := by rw [← rR4, ByteArray.size_append]; show _ + 1 ≤ _; omega
  obtain ⟨R5, rR5⟩ : ∃ P, R4 ++ T3 = P := ⟨_, rfl⟩
  have gR5 : ¬ 9223372036854775807 < R4.size + T3.size := by omega
  have tR5 : R5.size ≤ 87 := by rw [← rR5, ByteArray.size_append]; omega
  obtain ⟨R6, rR6⟩ : ∃ P, R5 ++ (⟨#[32]⟩ : ByteArray) = P := ⟨_, rfl⟩
  have gR6 : ¬ 9223372036854775807 < R5.size + 1 := by omega
  have tR6 : R6.size ≤ 88 := by rw [← rR6, ByteArray.size_append]; show _ + 1 ≤ _; omega
  obtain ⟨R7, rR7⟩ : ∃ P, R6 ++ T4 = P := ⟨_, rfl⟩
  have gR7 : ¬ 9223372036854775807 < R6.size + T4.size := by omega
  have tR7 : R7.size ≤ 108 := by rw [← rR7, ByteArray.size_append]; omega
  obtain ⟨R8, rR8⟩ : ∃ P, R7 ++ (⟨#[32]⟩ : ByteArray) = P := ⟨_, rfl⟩
  have gR8 : ¬ 9223372036854775807 < R7.size + 1 := by omega
  have tR8 : R8.size ≤ 109 := by rw [← rR8, ByteArray.size_append]; show _ + 1 ≤ _; omega
  obtain ⟨R9, rR9⟩ : ∃ P, R8 ++ T5 = P := ⟨_, rfl⟩
  have gR9 : ¬ 9223372036854775807 < R8.size + T5.size := by omega
  have tR9 : R9.size ≤ 129 := by rw [← rR9, ByteArray.size_append]; omega
  obtain ⟨R10, rR10⟩ : ∃ P, R9 ++ (⟨#[32]⟩ : ByteArray) = P := ⟨_, rfl⟩
  have gR10 : ¬ 9223372036854775807 < R9.size + 1 := by omega
  have tR10 : R10.size ≤ 130 := by rw [← rR10, ByteArray.size_append]; show _ + 1 ≤ _; omega
  obtain ⟨R11, rR11⟩ : ∃ P, R10 ++ T6 = P := ⟨_, rfl⟩
  have gR11 : ¬ 9223372036854775807 < R10.size + T6.size := by omega
  have tR11 : R11.size ≤ 150 := by rw [← rR11, ByteArray.size_append]; omega
  have HLN : Hid (R11 = strB (joinW 32 [tNew, decB s, decB i, decB a, sideW bn, typeW tn, decB p, decB q])) := Lib.hid (by rw [← rR11, ← rR10, ← rR9, ← rR8, ← rR7, ← rR6, ← rR5, ← rR4, ← rR3, ← rR2, ← rR1, ← rP3, ← rP2, ← rP1, ← qT0, ← qT1, ← qT2, ← qT3, ← qT4, ← qT5, ← qT6, show (⟨#[32]⟩ : ByteArray) = strB [32] from rfl, show (⟨#[110, 101, 119]⟩ : ByteArray) = strB [110, 101, 119] from rfl]; simp only [strB_app]; congr 1; simp [joinW, tNew])
  have HQ3 := Lib.hid qT3
  have HQ4 := Lib.hid qT4
  have HRS := Lib.hid tR11
  clear tT0 tT1 tT2 tT3 tT4 tT5 tT6 tP1 tP2 tP3 tR1 tR2 tR3 tR4 tR5 tR6 tR7 tR8 tR9 tR10 tR11
  have ib0 : (0 : Int) ≤ (bn : Int) := by omega
  have hbs : bn < sidesF.length := by show bn < 2; omega
  have hts : tn < typesF.length := by show tn < 5; omega
  have ib1 : (bn : Int) < 2 := by omega
  have it1 : (tn : Int) < 5 := by omega
  have hwt : IntKind.i64.wrap ((tn : Int) + 1 - 1) = (tn : Int) := by rw [show (tn : Int) + 1 - 1 = (tn : Int) by omega]; exact IntWalk.i64_in _ (by omega)
  have hwt2 : IntKind.i64.wrap (tn : Int) = (tn : Int) := IntWalk.i64_in _ (by omega)
  go_enter Tryd.func116, Tryd.ntmps116
  go_upto_region 1 with fail
  generalize w.alloc (.cells #[.int .i64 1, .int .i64 s, .int .i64 i, .int .i64 a, .int .i64 (bn : Int), .int .i64 ((tn : Int) + 1), .int .i64 p, .int .i64 q, .int .i64 (fn : Int)] 164) = w1 at HX HB ⊢
  refine wp_region_held_drew (S := (fun w' => w'.cell? ⟨w.heap.size, 0, none⟩ = some (.int .i64 1) ∧ w'.cell? ⟨w.heap.size, 1, none⟩ = some (.int .i64 s) ∧ w'.cell? ⟨w.heap.size, 2, none⟩ = some (.int .i64 i) ∧ w'.cell? ⟨w.heap.size, 3, none⟩ = some (.int .i64 a) ∧ w'.cell? ⟨w.heap.size, 4, none⟩ = some (.int .i64 (bn : Int)) ∧ w'.cell? ⟨w.heap.size, 5, none⟩ = some (.int .i64 ((tn : Int) + 1)) ∧ w'.cell? ⟨w.heap.size, 6, none⟩ = some (.int .i64 p) ∧ w'.cell? ⟨w.heap.size, 7, none⟩ = some (.int .i64 q) ∧ w'.cell? ⟨w.heap.size, 8, none⟩ = some (.int .i64 (fn : Int)))) (by kernel_rfl) ⟨HX.out.cell 0 rfl, HX.out.cell 1 rfl, HX.out.cell 2 rfl, HX.out.cell 3 rfl, HX.out.cell 4 rfl, HX.out.cell 5 rfl, HX.out.cell 6 rfl, HX.out.cell 7 rfl, HX.out.cell 8 rfl⟩ (fun hHeld => ?_)
  replace HX := Lib.hid HX.out.drew
  replace HB := Lib.hid HB.out.drew
  generalize w1.drew = w2 at HX HB hHeld ⊢
  refine wpAnyH_take (i := 0) (oi := ⟨some 5, _, _, _, _, _⟩) (v := ?_) rfl (by kernel_rfl) (by kernel_rfl) (by kernel_rfl) (fun _ _ _ h => h) (Or.inl ⟨by rfl, ?_⟩) (by assumption) ?_
  rotate_left
  · (intro w hSw; (try dsimp only at hSw); go_simp; (try with_reducible rfl))
  simp only [Act.put, List.setIfInBounds_toArray, List.set_cons_zero, List.set_cons_succ]
  refine wpAnyH_take (i := 1) (oi := ⟨some 6, _, _, _, _, _⟩) (v := ?_) rfl (by kernel_rfl) (by kernel_rfl) (by kernel_rfl) (fun _ _ _ h => h) (Or.inl ⟨by rfl, ?_⟩) (by assumption) ?_
  rotate_left
  · (intro w hSw; (try dsimp only at hSw); go_simp; (try with_reducible rfl))
  simp only [Act.put, List.setIfInBounds_toArray, List.set_cons_zero, List.set_cons_succ]
  refine wpAnyH_take (i := 5) (oi := ⟨some 10, _, _, _, _, _⟩) (v := ?_) rfl (by kernel_rfl) (by kernel_rfl) (by kernel_rfl) (fun _ _ _ h => h) (Or.inl ⟨by rfl, ?_⟩) (by assumption) ?_
  rotate_left
  · (intro w hSw; (try dsimp only at hSw); go_simp; (try with_reducible rfl))
  simp only [Act.put, List.setIfInBounds_toArray, List.set_cons_zero, List.set_cons_succ]
  refine wpAnyH_take (i := 6) (oi := ⟨some 11, _, _, _, _, _⟩) (v := ?_) rfl (by kernel_rfl) (by kernel_rfl) (by kernel_rfl) (fun _ _ _ h => h) (Or.inl ⟨by rfl, ?_⟩) (by assumption) ?_
  rotate_left
  · (intro w hSw; (try dsimp only at hSw); go_simp; (try with_reducible rfl))
  simp only [Act.put, List.setIfInBounds_toArray, List.set_cons_zero, List.set_cons_succ]
  refine wpAnyH_ready (rs := [2]) (by kernel_rfl) (by simp) ?_
  refine AllReadyH.cons (o := ⟨some 7, _, _, _, _, _⟩) rfl (fun KK hK => ?_) AllReadyH.nil
  go_simp
  refine (rdecimal_any _ (by omega) (by omega) _).mono ?_
  rintro e WX1 ⟨rfl, hb⟩
  try replace HTA := Lib.hid (cell_kept hb HTA.out)
  try replace HTB := Lib.hid (cell_kept hb HTB.out)
  replace HX := Lib.hid (HX.out.below hb HX.out.lt)
  replace HB := Lib.hid (HB.out.trans (hb.mono HB.out.size))
  clear hb
  refine hK.out _ _ ⟨HX.out.cell 0 rfl, HX.out.cell 1 rfl, HX.out.cell 2 rfl, HX.out.cell 3 rfl, HX.out.cell 4 rfl, HX.out.cell 5 rfl, HX.out.cell 6 rfl, HX.out.cell 7 rfl, HX.out.cell 8 rfl⟩ (fun hHeld => ?_)
  clear hK; try clear KK
  try simp only [Act.put, List.setIfInBounds_toArray, List.set_cons_zero, List.set_cons_succ]
  refine wpAnyH_take (i := 3) (oi := ⟨some 8, _, _, _, _, _⟩) (v := ?_) rfl (by kernel_rfl) (by kernel_rfl) (by kernel_rfl) (fun _ _ _ h => h) (Or.inl ⟨by rfl, ?_⟩) (by assumption) ?_
  rotate_left
  · (intro w hSw; (try dsimp only at hSw); go_simp; (try with_reducible rfl))
  simp only [Act.put, List.setIfInBounds_toArray, List.set_cons_zero, List.set_cons_succ]
  refine wpAnyH_take (i := 4) (oi := ⟨some 9, _, _, _, _, _⟩) (v := ?_) rfl (by kernel_rfl) (by kernel_rfl) (by kernel_rfl) (fun _ _ _ h => h) (Or.inl ⟨by rfl, ?_⟩) (by assumption) ?_
  rotate_left
  · (intro w hSw; (try dsimp only at hSw); go_simp; (try with_reducible rfl))
  simp only [Act.put, List.setIfInBounds_toArray, List.set_cons_zero, List.set_cons_succ]
  refine wpAnyH_ready (rs := [7]) (by kernel_rfl) (by simp) ?_
  refine AllReadyH.cons (o := ⟨some 12, _, _, _, _, _⟩) rfl (fun KK hK => ?_) AllReadyH.nil
  go_simp
  refine (rdecimal_any _ (by omega) (by omega) _).mono ?_
  rintro e WX2 ⟨rfl, hb⟩
  try replace HTA := Lib.hid (cell_kept hb HTA.out)
  try replace HTB := Lib.hid (cell_kept hb HTB.out)
  replace HX := Lib.hid (HX.out.below hb HX.out.lt)
  replace HB := Lib.hid (HB.out.trans (hb.mono HB.out.size))
  clear hb
  refine hK.out _ _ ⟨HX.out.cell 0 rfl, HX.out.cell 1 rfl, HX.out.cell 2 rfl, HX.out.cell 3 rfl, HX.out.cell 4 rfl, HX.out.cell 5 rfl, HX.out.cell 6 rfl, HX.out.cell 7 rfl, HX.out.cell 8 rfl⟩ (fun hHeld => ?_)
  clear hK; try clear KK
  try simp only [Act.put, List.setIfInBounds_toArray, List.set_cons_zero, List.set_cons_succ]
  refine wpAnyH_take (i := 8) (oi := ⟨some 13, _, _, _, _, _⟩) (v := ?_) rfl (by kernel_rfl) (by kernel_rfl) (by kernel_rfl) (fun _ _ _ h => h) (Or.inl ⟨by rfl, ?_⟩) (by assumption) ?_
  rotate_left
  · (intro w hSw; (try dsimp only at hSw); go_simp; (try with_reducible rfl))
  simp only [Act.put, List.setIfInBounds_toArray, List.set_cons_zero, List.set_cons_succ]
  refine wpAnyH_take (i := 9) (oi := ⟨some 3, _, _, _, _, _⟩) (v := ?_) rfl (by kernel_rfl) (by kernel_rfl) (by kernel_rfl) (fun _ _ _ h => h) (Or.inl ⟨by rfl, ?_⟩) (by assumption) ?_
  rotate_left
  · (intro w hSw; (try dsimp only at hSw); go_simp; (try with_reducible rfl))
  simp only [Act.put, List.setIfInBounds_toArray, List.set_cons_zero, List.set_cons_succ]
  refine wpAnyH_done (by kernel_rfl) ?_ _
  skip
  have c0 : WX2.cell? ⟨w.heap.size, 0, none⟩ = some (.int .i64 1) := HX.out.cell 0 rfl
  clear hHeld
  go_upto_region 7 with fail
  clear c0
  go_cut [3] (fun sv wx => sv = .string R11 ∧ Blk wx w.heap.size #[.int .i64 1, .int .i64 s, .int .i64 i, .int .i64 a, .int .i64 (bn : Int), .int .i64 ((tn : Int) + 1), .int .i64 p, .int .i64 q, .int .i64 (fn : Int)] 164 ∧ Below w.heap.size w wx)
  case first =>
    refine wp_region_held_drew (S := (fun w' => w'.cell? ⟨w.heap.size, 0, none⟩ = some (.int .i64 1) ∧ w'.cell? ⟨w.heap.size, 1, none⟩ = some (.int .i64 s) ∧ w'.cell? ⟨w.heap.size, 2, none⟩ = some (.int .i64 i) ∧ w'.cell? ⟨w.heap.size, 3, none⟩ = some (.int .i64 a) ∧ w'.cell? ⟨w.heap.size, 4, none⟩ = some (.int .i64 (bn : Int)) ∧ w'.cell? ⟨w.heap.size, 5, none⟩ = some (.int .i64 ((tn : Int) + 1)) ∧ w'.cell? ⟨w.heap.size, 6, none⟩ = some (.int .i64 p) ∧ w'.cell? ⟨w.heap.size, 7, none⟩ = some (.int .i64 q) ∧ w'.cell? ⟨w.heap.size, 8, none⟩ = some (.int .i64 (fn : Int)))) (by kernel_rfl) ⟨HX.out.cell 0 rfl, HX.out.cell 1 rfl, HX.out.cell 2 rfl, HX.out.cell 3 rfl, HX.out.cell 4 rfl, HX.out.cell 5 rfl, HX.out.cell 6 rfl, HX.out.cell 7 rfl, HX.out.cell 8 rfl⟩ (fun hHeld => ?_)
    replace HX := Lib.hid HX.out.drew
    replace HB := Lib.hid HB.out.drew
    generalize WX2.drew = w5 at HX HB hHeld ⊢
    refine wpAnyH_take (i := 0) (oi := ⟨some 34, _, _, _, _, _⟩) (v := ?_) rfl (by kernel_rfl) (by kernel_rfl) (by kernel_rfl) (fun _ _ _ h => h) (Or.inl ⟨by rfl, ?_⟩) (by assumption) ?_
    rotate_left
    · (intro w hSw; (try dsimp only at hSw); go_simp; (try with_reducible rfl))
    simp only [Act.put, List.setIfInBounds_toArray, List.set_cons_zero, List.set_cons_succ]
    refine wpAnyH_take (i := 1) (oi := ⟨some 35, _, _, _, _, _⟩) (v := ?_) rfl (by kernel_rfl) (by kernel_rfl) (by kernel_rfl) (fun _ _ _ h => h) (Or.inl ⟨by rfl, ?_⟩) (by assumption) ?_
    rotate_left
    · (intro w hSw; (try dsimp only at hSw); go_simp; (try with_reducible rfl))
    simp only [Act.put, List.setIfInBounds_toArray, List.set_cons_zero, List.set_cons_succ]
    refine wpAnyH_take (i := 2) (oi := ⟨some 36, _, _, _, _, _⟩) (v := ?_) rfl (by kernel_rfl) (by kernel_rfl) (by kernel_rfl) (fun _ _ _ h => h) (Or.inl ⟨by rfl, ?_⟩) (by assumption) ?_
    rotate_left
    · (intro w hSw; (try dsimp only at hSw); go_simp; (try with_reducible rfl))
    simp only [Act.put, List.setIfInBounds_toArray, List.set_cons_zero, List.set_cons_succ]
    refine wpAnyH_take (i := 3) (oi := ⟨some 37, _, _, _, _, _⟩) (v := ?_) rfl (by kernel_rfl) (by kernel_rfl) (by kernel_rfl) (fun _ _ _ h => h) (Or.inl ⟨by rfl, ?_⟩) (by assumption) ?_
    rotate_left
    · (intro w hSw; (try dsimp only at hSw); go_simp; (try with_reducible rfl))
    simp only [Act.put, List.setIfInBounds_toArray, List.set_cons_zero, List.set_cons_succ]
    refine wpAnyH_take (i := 4) (oi := ⟨some 38, _, _, _, _, _⟩) (v := ?_) rfl (by kernel_rfl) (by kernel_rfl) (by kernel_rfl) (fun _ _ _ h => h) (Or.inl ⟨by rfl, ?_⟩) (by assumption) ?_
    rotate_left
    · (intro w hSw; (try dsimp only at hSw); go_simp; (try with_reducible rfl))
    simp only [Act.put, List.setIfInBounds_toArray, List.set_cons_zero, List.set_cons_succ]
    refine wpAnyH_take (i := 9) (oi := ⟨some 43, _, _, _, _, _⟩) (v := ?_) rfl (by kernel_rfl) (by kernel_rfl) (by kernel_rfl) (fun _ _ _ h => h) (Or.inl ⟨by rfl, ?_⟩) (by assumption) ?_
    rotate_left
    · (intro w hSw; (try dsimp only at hSw); go_simp; (try with_reducible rfl))
    simp only [Act.put, List.setIfInBounds_toArray, List.set_cons_zero, List.set_cons_succ]
    refine wpAnyH_take (i := 10) (oi := ⟨some 44, _, _, _, _, _⟩) (v := ?_) rfl (by kernel_rfl) (by kernel_rfl) (by kernel_rfl) (fun _ _ _ h => h) (Or.inl ⟨by rfl, ?_⟩) (by assumption) ?_
    rotate_left
    · (intro w hSw; (try dsimp only at hSw); go_simp; (try with_reducible rfl))
    simp only [Act.put, List.setIfInBounds_toArray, List.set_cons_zero, List.set_cons_succ]
    refine wpAnyH_take (i := 16) (oi := ⟨some 50, _, _, _, _, _⟩) (v := ?_) rfl (by kernel_rfl) (by kernel_rfl) (by kernel_rfl) (fun _ _ _ h => h) (Or.inl ⟨by rfl, ?_⟩) (by assumption) ?_
    rotate_left
    · (intro w hSw; (try dsimp only at hSw); go_simp; (try with_reducible rfl))
    simp only [Act.put, List.setIfInBounds_toArray, List.set_cons_zero, List.set_cons_succ]
    refine wpAnyH_take (i := 17) (oi := ⟨some 51, _, _, _, _, _⟩) (v := ?_) rfl (by kernel_rfl) (by kernel_rfl) (by kernel_rfl) (fun _ _ _ h => h) (Or.inl ⟨by rfl, ?_⟩) (by assumption) ?_
    rotate_left
    · (intro w hSw; (try dsimp only at hSw); go_simp; (try with_reducible rfl))
    simp only [Act.put, List.setIfInBounds_toArray, List.set_cons_zero, List.set_cons_succ]
    refine wpAnyH_take (i := 18) (oi := ⟨some 52, _, _, _, _, _⟩) (v := ?_) rfl (by kernel_rfl) (by kernel_rfl) (by kernel_rfl) (fun _ _ _ h => h) (Or.inl ⟨by rfl, ?_⟩) (by assumption) ?_
    rotate_left
    · (intro w hSw; (try dsimp only at hSw); go_simp; (try with_reducible rfl))
    simp only [Act.put, List.setIfInBounds_toArray, List.set_cons_zero, List.set_cons_succ]
    refine wpAnyH_take (i := 23) (oi := ⟨some 57, _, _, _, _, _⟩) (v := ?_) rfl (by kernel_rfl) (by kernel_rfl) (by kernel_rfl) (fun _ _ _ h => h) (Or.inl ⟨by rfl, ?_⟩) (by assumption) ?_
    rotate_left
    · (intro w hSw; (try dsimp only at hSw); go_simp; (try with_reducible rfl))
    simp only [Act.put, List.setIfInBounds_toArray, List.set_cons_zero, List.set_cons_succ]
    refine wpAnyH_take (i := 24) (oi := ⟨some 58, _, _, _, _, _⟩) (v := ?_) rfl (by kernel_rfl) (by kernel_rfl) (by kernel_rfl) (fun _ _ _ h => h) (Or.inl ⟨by rfl, ?_⟩) (by assumption) ?_
    rotate_left
    · (intro w hSw; (try dsimp only at hSw); go_simp; (try with_reducible rfl))
    simp only [Act.put, List.setIfInBounds_toArray, List.set_cons_zero, List.set_cons_succ]
    refine wpAnyH_take (i := 28) (oi := ⟨some 62, _, _, _, _, _⟩) (v := ?_) rfl (by kernel_rfl) (by kernel_rfl) (by kernel_rfl) (fun _ _ _ h => h) (Or.inl ⟨by rfl, ?_⟩) (by assumption) ?_
    rotate_left
    · (intro w hSw; (try dsimp only at hSw); go_simp; (try with_reducible rfl))
    simp only [Act.put, List.setIfInBounds_toArray, List.set_cons_zero, List.set_cons_succ]
    refine wpAnyH_take (i := 29) (oi := ⟨some 63, _, _, _, _, _⟩) (v := ?_) rfl (by kernel_rfl) (by kernel_rfl) (by kernel_rfl) (fun _ _ _ h => h) (Or.inl ⟨by rfl, ?_⟩) (by assumption) ?_
    rotate_left
    · (intro w hSw; (try dsimp only at hSw); go_simp; (try with_reducible rfl))
    simp only [Act.put, List.setIfInBounds_toArray, List.set_cons_zero, List.set_cons_succ]
    refine wpAnyH_ready (rs := [5]) (by kernel_rfl) (by simp) ?_
    refine AllReadyH.cons (o := ⟨some 39, _, _, _, _, _⟩) rfl (fun KK hK => ?_) AllReadyH.nil
    go_simp
    refine (rdecimal_any _ (by omega) (by omega) _).mono ?_
    rintro e WX1 ⟨rfl, hb⟩
    try replace HTA := Lib.hid (cell_kept hb HTA.out)
    try replace HTB := Lib.hid (cell_kept hb HTB.out)
    replace HX := Lib.hid (HX.out.below hb HX.out.lt)
    replace HB := Lib.hid (HB.out.trans (hb.mono HB.out.size))
    clear hb
    refine hK.out _ _ ⟨HX.out.cell 0 rfl, HX.out.cell 1 rfl, HX.out.cell 2 rfl, HX.out.cell 3 rfl, HX.out.cell 4 rfl, HX.out.cell 5 rfl, HX.out.cell 6 rfl, HX.out.cell 7 rfl, HX.out.cell 8 rfl⟩ (fun hHeld => ?_)
    clear hK; try clear KK
    try simp only [Act.put, List.setIfInBounds_toArray, List.set_cons_zero, List.set_cons_succ]
    refine wpAnyH_take (i := 6) (oi := ⟨some 40, _, _, _, _, _⟩) (v := ?_) rfl (by kernel_rfl) (by kernel_rfl) (by kernel_rfl) (fun _ _ _ h => h) (Or.inl ⟨by rfl, ?_⟩) (by assumption) ?_
    rotate_left
    · (intro w hSw; (try dsimp only at hSw); go_simp; (try with_reducible rfl))
    simp only [Act.put, List.setIfInBounds_toArray, List.set_cons_zero, List.set_cons_succ]
    refine wpAnyH_take (i := 7) (oi := ⟨some 41, _, _, _, _, _⟩) (v := ?_) rfl (by kernel_rfl) (by kernel_rfl) (by kernel_rfl) (fun _ _ _ h => h) (Or.inl ⟨by rfl, ?_⟩) (by assumption) ?_
    rotate_left
    · (intro w hSw; (try dsimp only at hSw); go_simp; (try with_reducible rfl))
    simp only [Act.put, List.setIfInBounds_toArray, List.set_cons_zero, List.set_cons_succ]
    refine wpAnyH_ready (rs := [8]) (by kernel_rfl) (by simp) ?_
    refine AllReadyH.cons (o := ⟨some 42, _, _, _, _, _⟩) rfl (fun KK hK => ?_) AllReadyH.nil
    go_simp
    refine (dsides_any _).mono ?_
    rintro e WX2 ⟨tb, tc, rfl, -, htc, h3, hb⟩
    have HTA : Hid (WX2.cell? ⟨tb, bn, none⟩ = some (.string T3)) := Lib.hid (by rw [← HQ3.out, ← side_at bn (by show bn < 2; omega)]; exact h3 bn (by show bn < 2; omega))
    replace HX := Lib.hid (HX.out.below hb HX.out.lt)
    replace HB := Lib.hid (HB.out.trans (hb.mono HB.out.size))
    clear hb h3 htc
    refine hK.out _ _ ⟨HX.out.cell 0 rfl, HX.out.cell 1 rfl, HX.out.cell 2 rfl, HX.out.cell 3 rfl, HX.out.cell 4 rfl, HX.out.cell 5 rfl, HX.out.cell 6 rfl, HX.out.cell 7 rfl, HX.out.cell 8 rfl⟩ (fun hHeld => ?_)
    clear hK; try clear KK
    try simp only [Act.put, List.setIfInBounds_toArray, List.set_cons_zero, List.set_cons_succ]
    refine wpAnyH_take (i := 11) (oi := ⟨some 45, _, _, _, _, _⟩) (v := ?_) rfl (by kernel_rfl) (by kernel_rfl) (by kernel_rfl) (fun _ _ _ h => h) (Or.inl ⟨by rfl, ?_⟩) (by assumption) ?_
    rotate_left
    · (intro w hSw; (try dsimp only at hSw); go_simp; (try with_reducible rfl))
    simp only [Act.put, List.setIfInBounds_toArray, List.set_cons_zero, List.set_cons_succ]
    refine wpAnyH_ready (rs := [12, 15]) (by kernel_rfl) (by simp) ?_
    refine AllReadyH.cons (o := ⟨some 46, _, _, _, _, _⟩) rfl (fun KK hK => ?_) (AllReadyH.cons (o := ⟨some 49, _, _, _, _, _⟩) rfl (fun KK hK => ?_) (AllReadyH.nil))
    · have hta := HTA.out
      go_simp
      refine hK.out _ _ ⟨HX.out.cell 0 rfl, HX.out.cell 1 rfl, HX.out.cell 2 rfl, HX.out.cell 3 rfl, HX.out.cell 4 rfl, HX.out.cell 5 rfl, HX.out.cell 6 rfl, HX.out.cell 7 rfl, HX.out.cell 8 rfl⟩ (fun hHeld => ?_)
      clear hK; try clear KK
      try simp only [Act.put, List.setIfInBounds_toArray, List.set_cons_zero, List.set_cons_succ]
      refine wpAnyH_take (i := 13) (oi := ⟨some 47, _, _, _, _, _⟩) (v := ?_) rfl (by kernel_rfl) (by kernel_rfl) (by kernel_rfl) (fun _ _ _ h => h) (Or.inl ⟨by rfl, ?_⟩) (by assumption) ?_
      rotate_left
      · (intro w hSw; (try dsimp only at hSw); go_simp; (try with_reducible rfl))
      simp only [Act.put, List.setIfInBounds_toArray, List.set_cons_zero, List.set_cons_succ]
      refine wpAnyH_take (i := 14) (oi := ⟨some 48, _, _, _, _, _⟩) (v := ?_) rfl (by kernel_rfl) (by kernel_rfl) (by kernel_rfl) (fun _ _ _ h => h) (Or.inl ⟨by rfl, ?_⟩) (by assumption) ?_
      rotate_left
      · (intro w hSw; (try dsimp only at hSw); go_simp; (try with_reducible rfl))
      simp only [Act.put, List.setIfInBounds_toArray, List.set_cons_zero, List.set_cons_succ]
      refine wpAnyH_ready (rs := [15]) (by kernel_rfl) (by simp) ?_
      refine AllReadyH.cons (o := ⟨some 49, _, _, _, _, _⟩) rfl (fun KK hK => ?_) AllReadyH.nil
      go_simp
      refine (dtypes_any _).mono ?_
      rintro e WX3 ⟨ub, uc, rfl, -, htc, h3, hb⟩
      have HTB : Hid (WX3.cell? ⟨ub, tn, none⟩ = some (.string T4)) := Lib.hid (by rw [← HQ4.out, ← type_at tn (by show tn < 5; omega)]; exact h3 tn (by show tn < 5; omega))
      replace HTA := Lib.hid (cell_kept hb HTA.out)
      replace HX := Lib.hid (HX.out.below hb HX.out.lt)
      replace HB := Lib.hid (HB.out.trans (hb.mono HB.out.size))
      clear hb h3 htc
      refine hK.out _ _ ⟨HX.out.cell 0 rfl, HX.out.cell 1 rfl, HX.out.cell 2 rfl, HX.out.cell 3 rfl, HX.out.cell 4 rfl, HX.out.cell 5 rfl, HX.out.cell 6 rfl, HX.out.cell 7 rfl, HX.out.cell 8 rfl⟩ (fun hHeld => ?_)
      clear hK; try clear KK
      try simp only [Act.put, List.setIfInBounds_toArray, List.set_cons_zero, List.set_cons_succ]
      refine wpAnyH_take (i := 19) (oi := ⟨some 53, _, _, _, _, _⟩) (v := ?_) rfl (by kernel_rfl) (by kernel_rfl) (by kernel_rfl) (fun _ _ _ h => h) (Or.inl ⟨by rfl, ?_⟩) (by assumption) ?_
      rotate_left
      · (intro w hSw; (try dsimp only at hSw); go_simp; (try with_reducible rfl))
      simp only [Act.put, List.setIfInBounds_toArray, List.set_cons_zero, List.set_cons_succ]
      refine wpAnyH_ready (rs := [20, 25]) (by kernel_rfl) (by simp) ?_
      refine AllReadyH.cons (o := ⟨some 54, _, _, _, _, _⟩) rfl (fun KK hK => ?_) (AllReadyH.cons (o := ⟨some 59, _, _, _, _, _⟩) rfl (fun KK hK => ?_) (AllReadyH.nil))
      · have htb := HTB.out
        go_simp
        refine hK.out _ _ ⟨HX.out.cell 0 rfl, HX.out.cell 1 rfl, HX.out.cell 2 rfl, HX.out.cell 3 rfl, HX.out.cell 4 rfl, HX.out.cell 5 rfl, HX.out.cell 6 rfl, HX.out.cell 7 rfl, HX.out.cell 8 rfl⟩ (fun hHeld => ?_)
        clear hK; try clear KK
        try simp only [Act.put, List.setIfInBounds_toArray, List.set_cons_zero, List.set_cons_succ]
        refine wpAnyH_take (i := 21) (oi := ⟨some 55, _, _, _, _, _⟩) (v := ?_) rfl (by kernel_rfl) (by kernel_rfl) (by kernel_rfl) (fun _ _ _ h => h) (Or.inl ⟨by rfl, ?_⟩) (by assumption) ?_
        rotate_left
        · (intro w hSw; (try dsimp only at hSw); go_simp; (try with_reducible rfl))
        simp only [Act.put, List.setIfInBounds_toArray, List.set_cons_zero, List.set_cons_succ]
        refine wpAnyH_take (i := 22) (oi := ⟨some 56, _, _, _, _, _⟩) (v := ?_) rfl (by kernel_rfl) (by kernel_rfl) (by kernel_rfl) (fun _ _ _ h => h) (Or.inl ⟨by rfl, ?_⟩) (by assumption) ?_
        rotate_left
        · (intro w hSw; (try dsimp only at hSw); go_simp; (try with_reducible rfl))
        simp only [Act.put, List.setIfInBounds_toArray, List.set_cons_zero, List.set_cons_succ]
        refine wpAnyH_ready (rs := [25]) (by kernel_rfl) (by simp) ?_
        refine AllReadyH.cons (o := ⟨some 59, _, _, _, _, _⟩) rfl (fun KK hK => ?_) AllReadyH.nil
        go_simp
        refine (rdecimal_any _ (by omega) (by omega) _).mono ?_
        rintro e WX4 ⟨rfl, hb⟩
        try replace HTA := Lib.hid (cell_kept hb HTA.out)
        try replace HTB := Lib.hid (cell_kept hb HTB.out)
        replace HX := Lib.hid (HX.out.below hb HX.out.lt)
        replace HB := Lib.hid (HB.out.trans (hb.mono HB.out.size))
        clear hb
        refine hK.out _ _ ⟨HX.out.cell 0 rfl, HX.out.cell 1 rfl, HX.out.cell 2 rfl, HX.out.cell 3 rfl, HX.out.cell 4 rfl, HX.out.cell 5 rfl, HX.out.cell 6 rfl, HX.out.cell 7 rfl, HX.out.cell 8 rfl⟩ (fun hHeld => ?_)
        clear hK; try clear KK
        try simp only [Act.put, List.setIfInBounds_toArray, List.set_cons_zero, List.set_cons_succ]
        refine wpAnyH_take (i := 26) (oi := ⟨some 60, _, _, _, _, _⟩) (v := ?_) rfl (by kernel_rfl) (by kernel_rfl) (by kernel_rfl) (fun _ _ _ h => h) (Or.inl ⟨by rfl, ?_⟩) (by assumption) ?_
        rotate_left
        · (intro w hSw; (try dsimp only at hSw); go_simp; (try with_reducible rfl))
        simp only [Act.put, List.setIfInBounds_toArray, List.set_cons_zero, List.set_cons_succ]
        refine wpAnyH_take (i := 27) (oi := ⟨some 61, _, _, _, _, _⟩) (v := ?_) rfl (by kernel_rfl) (by kernel_rfl) (by kernel_rfl) (fun _ _ _ h => h) (Or.inl ⟨by rfl, ?_⟩) (by assumption) ?_
        rotate_left
        · (intro w hSw; (try dsimp only at hSw); go_simp; (try with_reducible rfl))
        simp only [Act.put, List.setIfInBounds_toArray, List.set_cons_zero, List.set_cons_succ]
        refine wpAnyH_ready (rs := [30]) (by kernel_rfl) (by simp) ?_
        refine AllReadyH.cons (o := ⟨some 64, _, _, _, _, _⟩) rfl (fun KK hK => ?_) AllReadyH.nil
        go_simp
        refine (rdecimal_any _ (by omega) (by omega) _).mono ?_
        rintro e WX5 ⟨rfl, hb⟩
        try replace HTA := Lib.hid (cell_kept hb HTA.out)
        try replace HTB := Lib.hid (cell_kept hb HTB.out)
        replace HX := Lib.hid (HX.out.below hb HX.out.lt)
        replace HB := Lib.hid (HB.out.trans (hb.mono HB.out.size))
        clear hb
        refine hK.out _ _ ⟨HX.out.cell 0 rfl, HX.out.cell 1 rfl, HX.out.cell 2 rfl, HX.out.cell 3 rfl, HX.out.cell 4 rfl, HX.out.cell 5 rfl, HX.out.cell 6 rfl, HX.out.cell 7 rfl, HX.out.cell 8 rfl⟩ (fun hHeld => ?_)
        clear hK; try clear KK
        try simp only [Act.put, List.setIfInBounds_toArray, List.set_cons_zero, List.set_cons_succ]
        refine wpAnyH_take (i := 31) (oi := ⟨some 65, _, _, _, _, _⟩) (v := ?_) rfl (by kernel_rfl) (by kernel_rfl) (by kernel_rfl) (fun _ _ _ h => h) (Or.inl ⟨by rfl, ?_⟩) (by assumption) ?_
        rotate_left
        · (intro w hSw; (try dsimp only at hSw); go_simp; (try with_reducible rfl))
        simp only [Act.put, List.setIfInBounds_toArray, List.set_cons_zero, List.set_cons_succ]
        refine wpAnyH_take (i := 32) (oi := ⟨some 3, _, _, _, _, _⟩) (v := ?_) rfl (by kernel_rfl) (by kernel_rfl) (by kernel_rfl) (fun _ _ _ h => h) (Or.inl ⟨by rfl, ?_⟩) (by assumption) ?_
        rotate_left
        · (intro w hSw; (try dsimp only at hSw); go_simp; (try with_reducible rfl))
        simp only [Act.put, List.setIfInBounds_toArray, List.set_cons_zero, List.set_cons_succ]
        refine wpAnyH_done (by kernel_rfl) ?_ _
        clear hHeld
        go_wp2_with fail
        go_meet
        case rel => exact ⟨rfl, HX.out, HB.out⟩
      · go_simp
        refine (rdecimal_any _ (by omega) (by omega) _).mono ?_
        rintro e WX6 ⟨rfl, hb⟩
        try replace HTA := Lib.hid (cell_kept hb HTA.out)
        try replace HTB := Lib.hid (cell_kept hb HTB.out)
        replace HX := Lib.hid (HX.out.below hb HX.out.lt)
        replace HB := Lib.hid (HB.out.trans (hb.mono HB.out.size))
        clear hb
        refine hK.out _ _ ⟨HX.out.cell 0 rfl, HX.out.cell 1 rfl, HX.out.cell 2 rfl, HX.out.cell 3 rfl, HX.out.cell 4 rfl, HX.out.cell 5 rfl, HX.out.cell 6 rfl, HX.out.cell 7 rfl, HX.out.cell 8 rfl⟩ (fun hHeld => ?_)
        clear hK; try clear KK
        try simp only [Act.put, List.setIfInBounds_toArray, List.set_cons_zero, List.set_cons_succ]
        refine wpAnyH_ready (rs := [20, 30]) (by kernel_rfl) (by simp) ?_
        refine AllReadyH.cons (o := ⟨some 54, _, _, _, _, _⟩) rfl (fun KK hK => ?_) (AllReadyH.cons (o := ⟨some 64, _, _, _, _, _⟩) rfl (fun KK hK => ?_) (AllReadyH.nil))
        · have htb := HTB.out
          go_simp
          refine hK.out _ _ ⟨HX.out.cell 0 rfl, HX.out.cell 1 rfl, HX.out.cell 2 rfl, HX.out.cell 3 rfl, HX.out.cell 4 rfl, HX.out.cell 5 rfl, HX.out.cell 6 rfl, HX.out.cell 7 rfl, HX.out.cell 8 rfl⟩ (fun hHeld => ?_)
          clear hK; try clear KK
          try simp only [Act.put, List.setIfInBounds_toArray, List.set_cons_zero, List.set_cons_succ]
          refine wpAnyH_take (i := 21) (oi := ⟨some 55, _, _, _, _, _⟩) (v := ?_) rfl (by kernel_rfl) (by kernel_rfl) (by kernel_rfl) (fun _ _ _ h => h) (Or.inl ⟨by rfl, ?_⟩) (by assumption) ?_
          rotate_left
          · (intro w hSw; (try dsimp only at hSw); go_simp; (try with_reducible rfl))
          simp only [Act.put, List.setIfInBounds_toArray, List.set_cons_zero, List.set_cons_succ]
          refine wpAnyH_take (i := 22) (oi := ⟨some 56, _, _, _, _, _⟩) (v := ?_) rfl (by kernel_rfl) (by kernel_rfl) (by kernel_rfl) (fun _ _ _ h => h) (Or.inl ⟨by rfl, ?_⟩) (by assumption) ?_
          rotate_left
          · (intro w hSw; (try dsimp only at hSw); go_simp; (try with_reducible rfl))
          simp only [Act.put, List.setIfInBounds_toArray, List.set_cons_zero, List.set_cons_succ]
          refine wpAnyH_take (i := 26) (oi := ⟨some 60, _, _, _, _, _⟩) (v := ?_) rfl (by kernel_rfl) (by kernel_rfl) (by kernel_rfl) (fun _ _ _ h => h) (Or.inl ⟨by rfl, ?_⟩) (by assumption) ?_
          rotate_left
          · (intro w hSw; (try dsimp only at hSw); go_simp; (try with_reducible rfl))
          simp only [Act.put, List.setIfInBounds_toArray, List.set_cons_zero, List.set_cons_succ]
          refine wpAnyH_take (i := 27) (oi := ⟨some 61, _, _, _, _, _⟩) (v := ?_) rfl (by kernel_rfl) (by kernel_rfl) (by kernel_rfl) (fun _ _ _ h => h) (Or.inl ⟨by rfl, ?_⟩) (by assumption) ?_
          rotate_left
          · (intro w hSw; (try dsimp only at hSw); go_simp; (try with_reducible rfl))
          simp only [Act.put, List.setIfInBounds_toArray, List.set_cons_zero, List.set_cons_succ]
          refine wpAnyH_ready (rs := [30]) (by kernel_rfl) (by simp) ?_
          refine AllReadyH.cons (o := ⟨some 64, _, _, _, _, _⟩) rfl (fun KK hK => ?_) AllReadyH.nil
          go_simp
          refine (rdecimal_any _ (by omega) (by omega) _).mono ?_
          rintro e WX7 ⟨rfl, hb⟩
          try replace HTA := Lib.hid (cell_kept hb HTA.out)
          try replace HTB := Lib.hid (cell_kept hb HTB.out)
          replace HX := Lib.hid (HX.out.below hb HX.out.lt)
          replace HB := Lib.hid (HB.out.trans (hb.mono HB.out.size))
          clear hb
          refine hK.out _ _ ⟨HX.out.cell 0 rfl, HX.out.cell 1 rfl, HX.out.cell 2 rfl, HX.out.cell 3 rfl, HX.out.cell 4 rfl, HX.out.cell 5 rfl, HX.out.cell 6 rfl, HX.out.cell 7 rfl, HX.out.cell 8 rfl⟩ (fun hHeld => ?_)
          clear hK; try clear KK
          try simp only [Act.put, List.setIfInBounds_toArray, List.set_cons_zero, List.set_cons_succ]
          refine wpAnyH_take (i := 31) (oi := ⟨some 65, _, _, _, _, _⟩) (v := ?_) rfl (by kernel_rfl) (by kernel_rfl) (by kernel_rfl) (fun _ _ _ h => h) (Or.inl ⟨by rfl, ?_⟩) (by assumption) ?_
          rotate_left
          · (intro w hSw; (try dsimp only at hSw); go_simp; (try with_reducible rfl))
          simp only [Act.put, List.setIfInBounds_toArray, List.set_cons_zero, List.set_cons_succ]
          refine wpAnyH_take (i := 32) (oi := ⟨some 3, _, _, _, _, _⟩) (v := ?_) rfl (by kernel_rfl) (by kernel_rfl) (by kernel_rfl) (fun _ _ _ h => h) (Or.inl ⟨by rfl, ?_⟩) (by assumption) ?_
          rotate_left
          · (intro w hSw; (try dsimp only at hSw); go_simp; (try with_reducible rfl))
          simp only [Act.put, List.setIfInBounds_toArray, List.set_cons_zero, List.set_cons_succ]
          refine wpAnyH_done (by kernel_rfl) ?_ _
          clear hHeld
          go_wp2_with fail
          go_meet
          case rel => exact ⟨rfl, HX.out, HB.out⟩
        · go_simp
          refine (rdecimal_any _ (by omega) (by omega) _).mono ?_
          rintro e WX8 ⟨rfl, hb⟩
          try replace HTA := Lib.hid (cell_kept hb HTA.out)
          try replace HTB := Lib.hid (cell_kept hb HTB.out)
          replace HX := Lib.hid (HX.out.below hb HX.out.lt)
          replace HB := Lib.hid (HB.out.trans (hb.mono HB.out.size))
          clear hb
          refine hK.out _ _ ⟨HX.out.cell 0 rfl, HX.out.cell 1 rfl, HX.out.cell 2 rfl, HX.out.cell 3 rfl, HX.out.cell 4 rfl, HX.out.cell 5 rfl, HX.out.cell 6 rfl, HX.out.cell 7 rfl, HX.out.cell 8 rfl⟩ (fun hHeld => ?_)
          clear hK; try clear KK
          try simp only [Act.put, List.setIfInBounds_toArray, List.set_cons_zero, List.set_cons_succ]
          refine wpAnyH_ready (rs := [20]) (by kernel_rfl) (by simp) ?_
          refine AllReadyH.cons (o := ⟨some 54, _, _, _, _, _⟩) rfl (fun KK hK => ?_) AllReadyH.nil
          have htb := HTB.out
          go_simp
          refine hK.out _ _ ⟨HX.out.cell 0 rfl, HX.out.cell 1 rfl, HX.out.cell 2 rfl, HX.out.cell 3 rfl, HX.out.cell 4 rfl, HX.out.cell 5 rfl, HX.out.cell 6 rfl, HX.out.cell 7 rfl, HX.out.cell 8 rfl⟩ (fun hHeld => ?_)
          clear hK; try clear KK
          try simp only [Act.put, List.setIfInBounds_toArray, List.set_cons_zero, List.set_cons_succ]
          refine wpAnyH_take (i := 21) (oi := ⟨some 55, _, _, _, _, _⟩) (v := ?_) rfl (by kernel_rfl) (by kernel_rfl) (by kernel_rfl) (fun _ _ _ h => h) (Or.inl ⟨by rfl, ?_⟩) (by assumption) ?_
          rotate_left
          · (intro w hSw; (try dsimp only at hSw); go_simp; (try with_reducible rfl))
          simp only [Act.put, List.setIfInBounds_toArray, List.set_cons_zero, List.set_cons_succ]
          refine wpAnyH_take (i := 22) (oi := ⟨some 56, _, _, _, _, _⟩) (v := ?_) rfl (by kernel_rfl) (by kernel_rfl) (by kernel_rfl) (fun _ _ _ h => h) (Or.inl ⟨by rfl, ?_⟩) (by assumption) ?_
          rotate_left
          · (intro w hSw; (try dsimp only at hSw); go_simp; (try with_reducible rfl))
          simp only [Act.put, List.setIfInBounds_toArray, List.set_cons_zero, List.set_cons_succ]
          refine wpAnyH_take (i := 26) (oi := ⟨some 60, _, _, _, _, _⟩) (v := ?_) rfl (by kernel_rfl) (by kernel_rfl) (by kernel_rfl) (fun _ _ _ h => h) (Or.inl ⟨by rfl, ?_⟩) (by assumption) ?_
          rotate_left
          · (intro w hSw; (try dsimp only at hSw); go_simp; (try with_reducible rfl))
          simp only [Act.put, List.setIfInBounds_toArray, List.set_cons_zero, List.set_cons_succ]
          refine wpAnyH_take (i := 27) (oi := ⟨some 61, _, _, _, _, _⟩) (v := ?_) rfl (by kernel_rfl) (by kernel_rfl) (by kernel_rfl) (fun _ _ _ h => h) (Or.inl ⟨by rfl, ?_⟩) (by assumption) ?_
          rotate_left
          · (intro w hSw; (try dsimp only at hSw); go_simp; (try with_reducible rfl))
          simp only [Act.put, List.setIfInBounds_toArray, List.set_cons_zero, List.set_cons_succ]
          refine wpAnyH_take (i := 31) (oi := ⟨some 65, _, _, _, _, _⟩) (v := ?_) rfl (by kernel_rfl) (by kernel_rfl) (by kernel_rfl) (fun _ _ _ h => h) (Or.inl ⟨by rfl, ?_⟩) (by assumption) ?_
          rotate_left
          · (intro w hSw; (try dsimp only at hSw); go_simp; (try with_reducible rfl))
          simp only [Act.put, List.setIfInBounds_toArray, List.set_cons_zero, List.set_cons_succ]
          refine wpAnyH_take (i := 32) (oi := ⟨some 3, _, _, _, _, _⟩) (v := ?_) rfl (by kernel_rfl) (by kernel_rfl) (by kernel_rfl) (fun _ _ _ h => h) (Or.inl ⟨by rfl, ?_⟩) (by assumption) ?_
          rotate_left
          · (intro w hSw; (try dsimp only at hSw); go_simp; (try with_reducible rfl))
          simp only [Act.put, List.setIfInBounds_toArray, List.set_cons_zero, List.set_cons_succ]
          refine wpAnyH_done (by kernel_rfl) ?_ _
          clear hHeld
          go_wp2_with fail
          go_meet
          case rel => exact ⟨rfl, HX.out, HB.out⟩
    · go_simp
      refine (dtypes_any _).mono ?_
      rintro e WX9 ⟨ub, uc, rfl, -, htc, h3, hb⟩
      have HTB : Hid (WX9.cell? ⟨ub, tn, none⟩ = some (.string T4)) := Lib.hid (by rw [← HQ4.out, ← type_at tn (by show tn < 5; omega)]; exact h3 tn (by show tn < 5; omega))
      replace HTA := Lib.hid (cell_kept hb HTA.out)
      replace HX := Lib.hid (HX.out.below hb HX.out.lt)
      replace HB := Lib.hid (HB.out.trans (hb.mono HB.out.size))
      clear hb h3 htc
      refine hK.out _ _ ⟨HX.out.cell 0 rfl, HX.out.cell 1 rfl, HX.out.cell 2 rfl, HX.out.cell 3 rfl, HX.out.cell 4 rfl, HX.out.cell 5 rfl, HX.out.cell 6 rfl, HX.out.cell 7 rfl, HX.out.cell 8 rfl⟩ (fun hHeld => ?_)
      clear hK; try clear KK
      try simp only [Act.put, List.setIfInBounds_toArray, List.set_cons_zero, List.set_cons_succ]
      refine wpAnyH_take (i := 19) (oi := ⟨some 53, _, _, _, _, _⟩) (v := ?_) rfl (by kernel_rfl) (by kernel_rfl) (by kernel_rfl) (fun _ _ _ h => h) (Or.inl ⟨by rfl, ?_⟩) (by assumption) ?_
      rotate_left
      · (intro w hSw; (try dsimp only at hSw); go_simp; (try with_reducible rfl))
      simp only [Act.put, List.setIfInBounds_toArray, List.set_cons_zero, List.set_cons_succ]
      refine wpAnyH_ready (rs := [12, 20, 25]) (by kernel_rfl) (by simp) ?_
      refine AllReadyH.cons (o := ⟨some 46, _, _, _, _, _⟩) rfl (fun KK hK => ?_) (AllReadyH.cons (o := ⟨some 54, _, _, _, _, _⟩) rfl (fun KK hK => ?_) (AllReadyH.cons (o := ⟨some 59, _, _, _, _, _⟩) rfl (fun KK hK => ?_) (AllReadyH.nil)))
      · have hta := HTA.out
        go_simp
        refine hK.out _ _ ⟨HX.out.cell 0 rfl, HX.out.cell 1 rfl, HX.out.cell 2 rfl, HX.out.cell 3 rfl, HX.out.cell 4 rfl, HX.out.cell 5 rfl, HX.out.cell 6 rfl, HX.out.cell 7 rfl, HX.out.cell 8 rfl⟩ (fun hHeld => ?_)
        clear hK; try clear KK
        try simp only [Act.put, List.setIfInBounds_toArray, List.set_cons_zero, List.set_cons_succ]
        refine wpAnyH_take (i := 13) (oi := ⟨some 47, _, _, _, _, _⟩) (v := ?_) rfl (by kernel_rfl) (by kernel_rfl) (by kernel_rfl) (fun _ _ _ h => h) (Or.inl ⟨by rfl, ?_⟩) (by assumption) ?_
        rotate_left
        · (intro w hSw; (try dsimp only at hSw); go_simp; (try with_reducible rfl))
        simp only [Act.put, List.setIfInBounds_toArray, List.set_cons_zero, List.set_cons_succ]
        refine wpAnyH_take (i := 14) (oi := ⟨some 48, _, _, _, _, _⟩) (v := ?_) rfl (by kernel_rfl) (by kernel_rfl) (by kernel_rfl) (fun _ _ _ h => h) (Or.inl ⟨by rfl, ?_⟩) (by assumption) ?_
        rotate_left
        · (intro w hSw; (try dsimp only at hSw); go_simp; (try with_reducible rfl))
        simp only [Act.put, List.setIfInBounds_toArray, List.set_cons_zero, List.set_cons_succ]
        refine wpAnyH_ready (rs := [20, 25]) (by kernel_rfl) (by simp) ?_
        refine AllReadyH.cons (o := ⟨some 54, _, _, _, _, _⟩) rfl (fun KK hK => ?_) (AllReadyH.cons (o := ⟨some 59, _, _, _, _, _⟩) rfl (fun KK hK => ?_) (AllReadyH.nil))
        · have htb := HTB.out
          go_simp
          refine hK.out _ _ ⟨HX.out.cell 0 rfl, HX.out.cell 1 rfl, HX.out.cell 2 rfl, HX.out.cell 3 rfl, HX.out.cell 4 rfl, HX.out.cell 5 rfl, HX.out.cell 6 rfl, HX.out.cell 7 rfl, HX.out.cell 8 rfl⟩ (fun hHeld => ?_)
          clear hK; try clear KK
          try simp only [Act.put, List.setIfInBounds_toArray, List.set_cons_zero, List.set_cons_succ]
          refine wpAnyH_take (i := 21) (oi := ⟨some 55, _, _, _, _, _⟩) (v := ?_) rfl (by kernel_rfl) (by kernel_rfl) (by kernel_rfl) (fun _ _ _ h => h) (Or.inl ⟨by rfl, ?_⟩) (by assumption) ?_
          rotate_left
          · (intro w hSw; (try dsimp only at hSw); go_simp; (try with_reducible rfl))
          simp only [Act.put, List.setIfInBounds_toArray, List.set_cons_zero, List.set_cons_succ]
          refine wpAnyH_take (i := 22) (oi := ⟨some 56, _, _, _, _, _⟩) (v := ?_) rfl (by kernel_rfl) (by kernel_rfl) (by kernel_rfl) (fun _ _ _ h => h) (Or.inl ⟨by rfl, ?_⟩) (by assumption) ?_
          rotate_left
          · (intro w hSw; (try dsimp only at hSw); go_simp; (try with_reducible rfl))
          simp only [Act.put, List.setIfInBounds_toArray, List.set_cons_zero, List.set_cons_succ]
          refine wpAnyH_ready (rs := [25]) (by kernel_rfl) (by simp) ?_
          refine AllReadyH.cons (o := ⟨some 59, _, _, _, _, _⟩) rfl (fun KK hK => ?_) AllReadyH.nil
          go_simp
          refine (rdecimal_any _ (by omega) (by omega) _).mono ?_
          rintro e WX10 ⟨rfl, hb⟩
          try replace HTA := Lib.hid (cell_kept hb HTA.out)
          try replace HTB := Lib.hid (cell_kept hb HTB.out)
          replace HX := Lib.hid (HX.out.below hb HX.out.lt)
          replace HB := Lib.hid (HB.out.trans (hb.mono HB.out.size))
          clear hb
          refine hK.out _ _ ⟨HX.out.cell 0 rfl, HX.out.cell 1 rfl, HX.out.cell 2 rfl, HX.out.cell 3 rfl, HX.out.cell 4 rfl, HX.out.cell 5 rfl, HX.out.cell 6 rfl, HX.out.cell 7 rfl, HX.out.cell 8 rfl⟩ (fun hHeld => ?_)
          clear hK; try clear KK
          try simp only [Act.put, List.setIfInBounds_toArray, List.set_cons_zero, List.set_cons_succ]
          refine wpAnyH_take (i := 26) (oi := ⟨some 60, _, _, _, _, _⟩) (v := ?_) rfl (by kernel_rfl) (by kernel_rfl) (by kernel_rfl) (fun _ _ _ h => h) (Or.inl ⟨by rfl, ?_⟩) (by assumption) ?_
          rotate_left
          · (intro w hSw; (try dsimp only at hSw); go_simp; (try with_reducible rfl))
          simp only [Act.put, List.setIfInBounds_toArray, List.set_cons_zero, List.set_cons_succ]
          refine wpAnyH_take (i := 27) (oi := ⟨some 61, _, _, _, _, _⟩) (v := ?_) rfl (by kernel_rfl) (by kernel_rfl) (by kernel_rfl) (fun _ _ _ h => h) (Or.inl ⟨by rfl, ?_⟩) (by assumption) ?_
          rotate_left
          · (intro w hSw; (try dsimp only at hSw); go_simp; (try with_reducible rfl))
          simp only [Act.put, List.setIfInBounds_toArray, List.set_cons_zero, List.set_cons_succ]
          refine wpAnyH_ready (rs := [30]) (by kernel_rfl) (by simp) ?_
          refine AllReadyH.cons (o := ⟨some 64, _, _, _, _, _⟩) rfl (fun KK hK => ?_) AllReadyH.nil
          go_simp
          refine (rdecimal_any _ (by omega) (by omega) _).mono ?_
          rintro e WX11 ⟨rfl, hb⟩
          try replace HTA := Lib.hid (cell_kept hb HTA.out)
          try replace HTB := Lib.hid (cell_kept hb HTB.out)
          replace HX := Lib.hid (HX.out.below hb HX.out.lt)
          replace HB := Lib.hid (HB.out.trans (hb.mono HB.out.size))
          clear hb
          refine hK.out _ _ ⟨HX.out.cell 0 rfl, HX.out.cell 1 rfl, HX.out.cell 2 rfl, HX.out.cell 3 rfl, HX.out.cell 4 rfl, HX.out.cell 5 rfl, HX.out.cell 6 rfl, HX.out.cell 7 rfl, HX.out.cell 8 rfl⟩ (fun hHeld => ?_)
          clear hK; try clear KK
          try simp only [Act.put, List.setIfInBounds_toArray, List.set_cons_zero, List.set_cons_succ]
          refine wpAnyH_take (i := 31) (oi := ⟨some 65, _, _, _, _, _⟩) (v := ?_) rfl (by kernel_rfl) (by kernel_rfl) (by kernel_rfl) (fun _ _ _ h => h) (Or.inl ⟨by rfl, ?_⟩) (by assumption) ?_
          rotate_left
          · (intro w hSw; (try dsimp only at hSw); go_simp; (try with_reducible rfl))
          simp only [Act.put, List.setIfInBounds_toArray, List.set_cons_zero, List.set_cons_succ]
          refine wpAnyH_take (i := 32) (oi := ⟨some 3, _, _, _, _, _⟩) (v := ?_) rfl (by kernel_rfl) (by kernel_rfl) (by kernel_rfl) (fun _ _ _ h => h) (Or.inl ⟨by rfl, ?_⟩) (by assumption) ?_
          rotate_left
          · (intro w hSw; (try dsimp only at hSw); go_simp; (try with_reducible rfl))
          simp only [Act.put, List.setIfInBounds_toArray, List.set_cons_zero, List.set_cons_succ]
          refine wpAnyH_done (by kernel_rfl) ?_ _
          clear hHeld
          go_wp2_with fail
          go_meet
          case rel => exact ⟨rfl, HX.out, HB.out⟩
        · go_simp
          refine (rdecimal_any _ (by omega) (by omega) _).mono ?_
          rintro e WX12 ⟨rfl, hb⟩
          try replace HTA := Lib.hid (cell_kept hb HTA.out)
          try replace HTB := Lib.hid (cell_kept hb HTB.out)
          replace HX := Lib.hid (HX.out.below hb HX.out.lt)
          replace HB := Lib.hid (HB.out.trans (hb.mono HB.out.size))
          clear hb
          refine hK.out _ _ ⟨HX.out.cell 0 rfl, HX.out.cell 1 rfl, HX.out.cell 2 rfl, HX.out.cell 3 rfl, HX.out.cell 4 rfl, HX.out.cell 5 rfl, HX.out.cell 6 rfl, HX.out.cell 7 rfl, HX.out.cell 8 rfl⟩ (fun hHeld => ?_)
          clear hK; try clear KK
          try simp only [Act.put, List.setIfInBounds_toArray, List.set_cons_zero, List.set_cons_succ]
          refine wpAnyH_ready (rs := [20, 30]) (by kernel_rfl) (by simp) ?_
          refine AllReadyH.cons (o := ⟨some 54, _, _, _, _, _⟩) rfl (fun KK hK => ?_) (AllReadyH.cons (o := ⟨some 64, _, _, _, _, _⟩) rfl (fun KK hK => ?_) (AllReadyH.nil))
          · have htb := HTB.out
            go_simp
            refine hK.out _ _ ⟨HX.out.cell 0 rfl, HX.out.cell 1 rfl, HX.out.cell 2 rfl, HX.out.cell 3 rfl, HX.out.cell 4 rfl, HX.out.cell 5 rfl, HX.out.cell 6 rfl, HX.out.cell 7 rfl, HX.out.cell 8 rfl⟩ (fun hHeld => ?_)
            clear hK; try clear KK
            try simp only [Act.put, List.setIfInBounds_toArray, List.set_cons_zero, List.set_cons_succ]
            refine wpAnyH_take (i := 21) (oi := ⟨some 55, _, _, _, _, _⟩) (v := ?_) rfl (by kernel_rfl) (by kernel_rfl) (by kernel_rfl) (fun _ _ _ h => h) (Or.inl ⟨by rfl, ?_⟩) (by assumption) ?_
            rotate_left
            · (intro w hSw; (try dsimp only at hSw); go_simp; (try with_reducible rfl))
            simp only [Act.put, List.setIfInBounds_toArray, List.set_cons_zero, List.set_cons_succ]
            refine wpAnyH_take (i := 22) (oi := ⟨some 56, _, _, _, _, _⟩) (v := ?_) rfl (by kernel_rfl) (by kernel_rfl) (by kernel_rfl) (fun _ _ _ h => h) (Or.inl ⟨by rfl, ?_⟩) (by assumption) ?_
            rotate_left
            · (intro w hSw; (try dsimp only at hSw); go_simp; (try with_reducible rfl))
            simp only [Act.put, List.setIfInBounds_toArray, List.set_cons_zero, List.set_cons_succ]
            refine wpAnyH_take (i := 26) (oi := ⟨some 60, _, _, _, _, _⟩) (v := ?_) rfl (by kernel_rfl) (by kernel_rfl) (by kernel_rfl) (fun _ _ _ h => h) (Or.inl ⟨by rfl, ?_⟩) (by assumption) ?_
            rotate_left
            · (intro w hSw; (try dsimp only at hSw); go_simp; (try with_reducible rfl))
            simp only [Act.put, List.setIfInBounds_toArray, List.set_cons_zero, List.set_cons_succ]
            refine wpAnyH_take (i := 27) (oi := ⟨some 61, _, _, _, _, _⟩) (v := ?_) rfl (by kernel_rfl) (by kernel_rfl) (by kernel_rfl) (fun _ _ _ h => h) (Or.inl ⟨by rfl, ?_⟩) (by assumption) ?_
            rotate_left
            · (intro w hSw; (try dsimp only at hSw); go_simp; (try with_reducible rfl))
            simp only [Act.put, List.setIfInBounds_toArray, List.set_cons_zero, List.set_cons_succ]
            refine wpAnyH_ready (rs := [30]) (by kernel_rfl) (by simp) ?_
            refine AllReadyH.cons (o := ⟨some 64, _, _, _, _, _⟩) rfl (fun KK hK => ?_) AllReadyH.nil
            go_simp
            refine (rdecimal_any _ (by omega) (by omega) _).mono ?_
            rintro e WX13 ⟨rfl, hb⟩
            try replace HTA := Lib.hid (cell_kept hb HTA.out)
            try replace HTB := Lib.hid (cell_kept hb HTB.out)
            replace HX := Lib.hid (HX.out.below hb HX.out.lt)
            replace HB := Lib.hid (HB.out.trans (hb.mono HB.out.size))
            clear hb
            refine hK.out _ _ ⟨HX.out.cell 0 rfl, HX.out.cell 1 rfl, HX.out.cell 2 rfl, HX.out.cell 3 rfl, HX.out.cell 4 rfl, HX.out.cell 5 rfl, HX.out.cell 6 rfl, HX.out.cell 7 rfl, HX.out.cell 8 rfl⟩ (fun hHeld => ?_)
            clear hK; try clear KK
            try simp only [Act.put, List.setIfInBounds_toArray, List.set_cons_zero, List.set_cons_succ]
            refine wpAnyH_take (i := 31) (oi := ⟨some 65, _, _, _, _, _⟩) (v := ?_) rfl (by kernel_rfl) (by kernel_rfl) (by kernel_rfl) (fun _ _ _ h => h) (Or.inl ⟨by rfl, ?_⟩) (by assumption) ?_
            rotate_left
            · (intro w hSw; (try dsimp only at hSw); go_simp; (try with_reducible rfl))
            simp only [Act.put, List.setIfInBounds_toArray, List.set_cons_zero, List.set_cons_succ]
            refine wpAnyH_take (i := 32) (oi := ⟨some 3, _, _, _, _, _⟩) (v := ?_) rfl (by kernel_rfl) (by kernel_rfl) (by kernel_rfl) (fun _ _ _ h => h) (Or.inl ⟨by rfl, ?_⟩) (by assumption) ?_
            rotate_left
            · (intro w hSw; (try dsimp only at hSw); go_simp; (try with_reducible rfl))
            simp only [Act.put, List.setIfInBounds_toArray, List.set_cons_zero, List.set_cons_succ]
            refine wpAnyH_done (by kernel_rfl) ?_ _
            clear hHeld
            go_wp2_with fail
            go_meet
            case rel => exact ⟨rfl, HX.out, HB.out⟩
          · go_simp
            refine (rdecimal_any _ (by omega) (by omega) _).mono ?_
            rintro e WX14 ⟨rfl, hb⟩
            try replace HTA := Lib.hid (cell_kept hb HTA.out)
            try replace HTB := Lib.hid (cell_kept hb HTB.out)
            replace HX := Lib.hid (HX.out.below hb HX.out.lt)
            replace HB := Lib.hid (HB.out.trans (hb.mono HB.out.size))
            clear hb
            refine hK.out _ _ ⟨HX.out.cell 0 rfl, HX.out.cell 1 rfl, HX.out.cell 2 rfl, HX.out.cell 3 rfl, HX.out.cell 4 rfl, HX.out.cell 5 rfl, HX.out.cell 6 rfl, HX.out.cell 7 rfl, HX.out.cell 8 rfl⟩ (fun hHeld => ?_)
            clear hK; try clear KK
            try simp only [Act.put, List.setIfInBounds_toArray, List.set_cons_zero, List.set_cons_succ]
            refine wpAnyH_ready (rs := [20]) (by kernel_rfl) (by simp) ?_
            refine AllReadyH.cons (o := ⟨some 54, _, _, _, _, _⟩) rfl (fun KK hK => ?_) AllReadyH.nil
            have htb := HTB.out
            go_simp
            refine hK.out _ _ ⟨HX.out.cell 0 rfl, HX.out.cell 1 rfl, HX.out.cell 2 rfl, HX.out.cell 3 rfl, HX.out.cell 4 rfl, HX.out.cell 5 rfl, HX.out.cell 6 rfl, HX.out.cell 7 rfl, HX.out.cell 8 rfl⟩ (fun hHeld => ?_)
            clear hK; try clear KK
            try simp only [Act.put, List.setIfInBounds_toArray, List.set_cons_zero, List.set_cons_succ]
            refine wpAnyH_take (i := 21) (oi := ⟨some 55, _, _, _, _, _⟩) (v := ?_) rfl (by kernel_rfl) (by kernel_rfl) (by kernel_rfl) (fun _ _ _ h => h) (Or.inl ⟨by rfl, ?_⟩) (by assumption) ?_
            rotate_left
            · (intro w hSw; (try dsimp only at hSw); go_simp; (try with_reducible rfl))
            simp only [Act.put, List.setIfInBounds_toArray, List.set_cons_zero, List.set_cons_succ]
            refine wpAnyH_take (i := 22) (oi := ⟨some 56, _, _, _, _, _⟩) (v := ?_) rfl (by kernel_rfl) (by kernel_rfl) (by kernel_rfl) (fun _ _ _ h => h) (Or.inl ⟨by rfl, ?_⟩) (by assumption) ?_
            rotate_left
            · (intro w hSw; (try dsimp only at hSw); go_simp; (try with_reducible rfl))
            simp only [Act.put, List.setIfInBounds_toArray, List.set_cons_zero, List.set_cons_succ]
            refine wpAnyH_take (i := 26) (oi := ⟨some 60, _, _, _, _, _⟩) (v := ?_) rfl (by kernel_rfl) (by kernel_rfl) (by kernel_rfl) (fun _ _ _ h => h) (Or.inl ⟨by rfl, ?_⟩) (by assumption) ?_
            rotate_left
            · (intro w hSw; (try dsimp only at hSw); go_simp; (try with_reducible rfl))
            simp only [Act.put, List.setIfInBounds_toArray, List.set_cons_zero, List.set_cons_succ]
            refine wpAnyH_take (i := 27) (oi := ⟨some 61, _, _, _, _, _⟩) (v := ?_) rfl (by kernel_rfl) (by kernel_rfl) (by kernel_rfl) (fun _ _ _ h => h) (Or.inl ⟨by rfl, ?_⟩) (by assumption) ?_
            rotate_left
            · (intro w hSw; (try dsimp only at hSw); go_simp; (try with_reducible rfl))
            simp only [Act.put, List.setIfInBounds_toArray, List.set_cons_zero, List.set_cons_succ]
            refine wpAnyH_take (i := 31) (oi := ⟨some 65, _, _, _, _, _⟩) (v := ?_) rfl (by kernel_rfl) (by kernel_rfl) (by kernel_rfl) (fun _ _ _ h => h) (Or.inl ⟨by rfl, ?_⟩) (by assumption) ?_
            rotate_left
            · (intro w hSw; (try dsimp only at hSw); go_simp; (try with_reducible rfl))
            simp only [Act.put, List.setIfInBounds_toArray, List.set_cons_zero, List.set_cons_succ]
            refine wpAnyH_take (i := 32) (oi := ⟨some 3, _, _, _, _, _⟩) (v := ?_) rfl (by kernel_rfl) (by kernel_rfl) (by kernel_rfl) (fun _ _ _ h => h) (Or.inl ⟨by rfl, ?_⟩) (by assumption) ?_
            rotate_left
            · (intro w hSw; (try dsimp only at hSw); go_simp; (try with_reducible rfl))
            simp only [Act.put, List.setIfInBounds_toArray, List.set_cons_zero, List.set_cons_succ]
            refine wpAnyH_done (by kernel_rfl) ?_ _
            clear hHeld
            go_wp2_with fail
            go_meet
            case rel => exact ⟨rfl, HX.out, HB.out⟩
      · have htb := HTB.out
        go_simp
        refine hK.out _ _ ⟨HX.out.cell 0 rfl, HX.out.cell 1 rfl, HX.out.cell 2 rfl, HX.out.cell 3 rfl, HX.out.cell 4 rfl, HX.out.cell 5 rfl, HX.out.cell 6 rfl, HX.out.cell 7 rfl, HX.out.cell 8 rfl⟩ (fun hHeld => ?_)
        clear hK; try clear KK
        try simp only [Act.put, List.setIfInBounds_toArray, List.set_cons_zero, List.set_cons_succ]
        refine wpAnyH_ready (rs := [12, 25]) (by kernel_rfl) (by simp) ?_
        refine AllReadyH.cons (o := ⟨some 46, _, _, _, _, _⟩) rfl (fun KK hK => ?_) (AllReadyH.cons (o := ⟨some 59, _, _, _, _, _⟩) rfl (fun KK hK => ?_) (AllReadyH.nil))
        · have hta := HTA.out
          go_simp
          refine hK.out _ _ ⟨HX.out.cell 0 rfl, HX.out.cell 1 rfl, HX.out.cell 2 rfl, HX.out.cell 3 rfl, HX.out.cell 4 rfl, HX.out.cell 5 rfl, HX.out.cell 6 rfl, HX.out.cell 7 rfl, HX.out.cell 8 rfl⟩ (fun hHeld => ?_)
          clear hK; try clear KK
          try simp only [Act.put, List.setIfInBounds_toArray, List.set_cons_zero, List.set_cons_succ]
          refine wpAnyH_take (i := 13) (oi := ⟨some 47, _, _, _, _, _⟩) (v := ?_) rfl (by kernel_rfl) (by kernel_rfl) (by kernel_rfl) (fun _ _ _ h => h) (Or.inl ⟨by rfl, ?_⟩) (by assumption) ?_
          rotate_left
          · (intro w hSw; (try dsimp only at hSw); go_simp; (try with_reducible rfl))
          simp only [Act.put, List.setIfInBounds_toArray, List.set_cons_zero, List.set_cons_succ]
          refine wpAnyH_take (i := 14) (oi := ⟨some 48, _, _, _, _, _⟩) (v := ?_) rfl (by kernel_rfl) (by kernel_rfl) (by kernel_rfl) (fun _ _ _ h => h) (Or.inl ⟨by rfl, ?_⟩) (by assumption) ?_
          rotate_left
          · (intro w hSw; (try dsimp only at hSw); go_simp; (try with_reducible rfl))
          simp only [Act.put, List.setIfInBounds_toArray, List.set_cons_zero, List.set_cons_succ]
          refine wpAnyH_take (i := 21) (oi := ⟨some 55, _, _, _, _, _⟩) (v := ?_) rfl (by kernel_rfl) (by kernel_rfl) (by kernel_rfl) (fun _ _ _ h => h) (Or.inl ⟨by rfl, ?_⟩) (by assumption) ?_
          rotate_left
          · (intro w hSw; (try dsimp only at hSw); go_simp; (try with_reducible rfl))
          simp only [Act.put, List.setIfInBounds_toArray, List.set_cons_zero, List.set_cons_succ]
          refine wpAnyH_take (i := 22) (oi := ⟨some 56, _, _, _, _, _⟩) (v := ?_) rfl (by kernel_rfl) (by kernel_rfl) (by kernel_rfl) (fun _ _ _ h => h) (Or.inl ⟨by rfl, ?_⟩) (by assumption) ?_
          rotate_left
          · (intro w hSw; (try dsimp only at hSw); go_simp; (try with_reducible rfl))
          simp only [Act.put, List.setIfInBounds_toArray, List.set_cons_zero, List.set_cons_succ]
          refine wpAnyH_ready (rs := [25]) (by kernel_rfl) (by simp) ?_
          refine AllReadyH.cons (o := ⟨some 59, _, _, _, _, _⟩) rfl (fun KK hK => ?_) AllReadyH.nil
          go_simp
          refine (rdecimal_any _ (by omega) (by omega) _).mono ?_
          rintro e WX15 ⟨rfl, hb⟩
          try replace HTA := Lib.hid (cell_kept hb HTA.out)
          try replace HTB := Lib.hid (cell_kept hb HTB.out)
          replace HX := Lib.hid (HX.out.below hb HX.out.lt)
          replace HB := Lib.hid (HB.out.trans (hb.mono HB.out.size))
          clear hb
          refine hK.out _ _ ⟨HX.out.cell 0 rfl, HX.out.cell 1 rfl, HX.out.cell 2 rfl, HX.out.cell 3 rfl, HX.out.cell 4 rfl, HX.out.cell 5 rfl, HX.out.cell 6 rfl, HX.out.cell 7 rfl, HX.out.cell 8 rfl⟩ (fun hHeld => ?_)
          clear hK; try clear KK
          try simp only [Act.put, List.setIfInBounds_toArray, List.set_cons_zero, List.set_cons_succ]
          refine wpAnyH_take (i := 26) (oi := ⟨some 60, _, _, _, _, _⟩) (v := ?_) rfl (by kernel_rfl) (by kernel_rfl) (by kernel_rfl) (fun _ _ _ h => h) (Or.inl ⟨by rfl, ?_⟩) (by assumption) ?_
          rotate_left
          · (intro w hSw; (try dsimp only at hSw); go_simp; (try with_reducible rfl))
          simp only [Act.put, List.setIfInBounds_toArray, List.set_cons_zero, List.set_cons_succ]
          refine wpAnyH_take (i := 27) (oi := ⟨some 61, _, _, _, _, _⟩) (v := ?_) rfl (by kernel_rfl) (by kernel_rfl) (by kernel_rfl) (fun _ _ _ h => h) (Or.inl ⟨by rfl, ?_⟩) (by assumption) ?_
          rotate_left
          · (intro w hSw; (try dsimp only at hSw); go_simp; (try with_reducible rfl))
          simp only [Act.put, List.setIfInBounds_toArray, List.set_cons_zero, List.set_cons_succ]
          refine wpAnyH_ready (rs := [30]) (by kernel_rfl) (by simp) ?_
          refine AllReadyH.cons (o := ⟨some 64, _, _, _, _, _⟩) rfl (fun KK hK => ?_) AllReadyH.nil
          go_simp
          refine (rdecimal_any _ (by omega) (by omega) _).mono ?_
          rintro e WX16 ⟨rfl, hb⟩
          try replace HTA := Lib.hid (cell_kept hb HTA.out)
          try replace HTB := Lib.hid (cell_kept hb HTB.out)
          replace HX := Lib.hid (HX.out.below hb HX.out.lt)
          replace HB := Lib.hid (HB.out.trans (hb.mono HB.out.size))
          clear hb
          refine hK.out _ _ ⟨HX.out.cell 0 rfl, HX.out.cell 1 rfl, HX.out.cell 2 rfl, HX.out.cell 3 rfl, HX.out.cell 4 rfl, HX.out.cell 5 rfl, HX.out.cell 6 rfl, HX.out.cell 7 rfl, HX.out.cell 8 rfl⟩ (fun hHeld => ?_)
          clear hK; try clear KK
          try simp only [Act.put, List.setIfInBounds_toArray, List.set_cons_zero, List.set_cons_succ]
          refine wpAnyH_take (i := 31) (oi := ⟨some 65, _, _, _, _, _⟩) (v := ?_) rfl (by kernel_rfl) (by kernel_rfl) (by kernel_rfl) (fun _ _ _ h => h) (Or.inl ⟨by rfl, ?_⟩) (by assumption) ?_
          rotate_left
          · (intro w hSw; (try dsimp only at hSw); go_simp; (try with_reducible rfl))
          simp only [Act.put, List.setIfInBounds_toArray, List.set_cons_zero, List.set_cons_succ]
          refine wpAnyH_take (i := 32) (oi := ⟨some 3, _, _, _, _, _⟩) (v := ?_) rfl (by kernel_rfl) (by kernel_rfl) (by kernel_rfl) (fun _ _ _ h => h) (Or.inl ⟨by rfl, ?_⟩) (by assumption) ?_
          rotate_left
          · (intro w hSw; (try dsimp only at hSw); go_simp; (try with_reducible rfl))
          simp only [Act.put, List.setIfInBounds_toArray, List.set_cons_zero, List.set_cons_succ]
          refine wpAnyH_done (by kernel_rfl) ?_ _
          clear hHeld
          go_wp2_with fail
          go_meet
          case rel => exact ⟨rfl, HX.out, HB.out⟩
        · go_simp
          refine (rdecimal_any _ (by omega) (by omega) _).mono ?_
          rintro e WX17 ⟨rfl, hb⟩
          try replace HTA := Lib.hid (cell_kept hb HTA.out)
          try replace HTB := Lib.hid (cell_kept hb HTB.out)
          replace HX := Lib.hid (HX.out.below hb HX.out.lt)
          replace HB := Lib.hid (HB.out.trans (hb.mono HB.out.size))
          clear hb
          refine hK.out _ _ ⟨HX.out.cell 0 rfl, HX.out.cell 1 rfl, HX.out.cell 2 rfl, HX.out.cell 3 rfl, HX.out.cell 4 rfl, HX.out.cell 5 rfl, HX.out.cell 6 rfl, HX.out.cell 7 rfl, HX.out.cell 8 rfl⟩ (fun hHeld => ?_)
          clear hK; try clear KK
          try simp only [Act.put, List.setIfInBounds_toArray, List.set_cons_zero, List.set_cons_succ]
          refine wpAnyH_ready (rs := [12, 30]) (by kernel_rfl) (by simp) ?_
          refine AllReadyH.cons (o := ⟨some 46, _, _, _, _, _⟩) rfl (fun KK hK => ?_) (AllReadyH.cons (o := ⟨some 64, _, _, _, _, _⟩) rfl (fun KK hK => ?_) (AllReadyH.nil))
          · have hta := HTA.out
            go_simp
            refine hK.out _ _ ⟨HX.out.cell 0 rfl, HX.out.cell 1 rfl, HX.out.cell 2 rfl, HX.out.cell 3 rfl, HX.out.cell 4 rfl, HX.out.cell 5 rfl, HX.out.cell 6 rfl, HX.out.cell 7 rfl, HX.out.cell 8 rfl⟩ (fun hHeld => ?_)
            clear hK; try clear KK
            try simp only [Act.put, List.setIfInBounds_toArray, List.set_cons_zero, List.set_cons_succ]
            refine wpAnyH_take (i := 13) (oi := ⟨some 47, _, _, _, _, _⟩) (v := ?_) rfl (by kernel_rfl) (by kernel_rfl) (by kernel_rfl) (fun _ _ _ h => h) (Or.inl ⟨by rfl, ?_⟩) (by assumption) ?_
            rotate_left
            · (intro w hSw; (try dsimp only at hSw); go_simp; (try with_reducible rfl))
            simp only [Act.put, List.setIfInBounds_toArray, List.set_cons_zero, List.set_cons_succ]
            refine wpAnyH_take (i := 14) (oi := ⟨some 48, _, _, _, _, _⟩) (v := ?_) rfl (by kernel_rfl) (by kernel_rfl) (by kernel_rfl) (fun _ _ _ h => h) (Or.inl ⟨by rfl, ?_⟩) (by assumption) ?_
            rotate_left
            · (intro w hSw; (try dsimp only at hSw); go_simp; (try with_reducible rfl))
            simp only [Act.put, List.setIfInBounds_toArray, List.set_cons_zero, List.set_cons_succ]
            refine wpAnyH_take (i := 21) (oi := ⟨some 55, _, _, _, _, _⟩) (v := ?_) rfl (by kernel_rfl) (by kernel_rfl) (by kernel_rfl) (fun _ _ _ h => h) (Or.inl ⟨by rfl, ?_⟩) (by assumption) ?_
            rotate_left
            · (intro w hSw; (try dsimp only at hSw); go_simp; (try with_reducible rfl))
            simp only [Act.put, List.setIfInBounds_toArray, List.set_cons_zero, List.set_cons_succ]
            refine wpAnyH_take (i := 22) (oi := ⟨some 56, _, _, _, _, _⟩) (v := ?_) rfl (by kernel_rfl) (by kernel_rfl) (by kernel_rfl) (fun _ _ _ h => h) (Or.inl ⟨by rfl, ?_⟩) (by assumption) ?_
            rotate_left
            · (intro w hSw; (try dsimp only at hSw); go_simp; (try with_reducible rfl))
            simp only [Act.put, List.setIfInBounds_toArray, List.set_cons_zero, List.set_cons_succ]
            refine wpAnyH_take (i := 26) (oi := ⟨some 60, _, _, _, _, _⟩) (v := ?_) rfl (by kernel_rfl) (by kernel_rfl) (by kernel_rfl) (fun _ _ _ h => h) (Or.inl ⟨by rfl, ?_⟩) (by assumption) ?_
            rotate_left
            · (intro w hSw; (try dsimp only at hSw); go_simp; (try with_reducible rfl))
            simp only [Act.put, List.setIfInBounds_toArray, List.set_cons_zero, List.set_cons_succ]
            refine wpAnyH_take (i := 27) (oi := ⟨some 61, _, _, _, _, _⟩) (v := ?_) rfl (by kernel_rfl) (by kernel_rfl) (by kernel_rfl) (fun _ _ _ h => h) (Or.inl ⟨by rfl, ?_⟩) (by assumption) ?_
            rotate_left
            · (intro w hSw; (try dsimp only at hSw); go_simp; (try with_reducible rfl))
            simp only [Act.put, List.setIfInBounds_toArray, List.set_cons_zero, List.set_cons_succ]
            refine wpAnyH_ready (rs := [30]) (by kernel_rfl) (by simp) ?_
            refine AllReadyH.cons (o := ⟨some 64, _, _, _, _, _⟩) rfl (fun KK hK => ?_) AllReadyH.nil
            go_simp
            refine (rdecimal_any _ (by omega) (by omega) _).mono ?_
            rintro e WX18 ⟨rfl, hb⟩
            try replace HTA := Lib.hid (cell_kept hb HTA.out)
            try replace HTB := Lib.hid (cell_kept hb HTB.out)
            replace HX := Lib.hid (HX.out.below hb HX.out.lt)
            replace HB := Lib.hid (HB.out.trans (hb.mono HB.out.size))
            clear hb
            refine hK.out _ _ ⟨HX.out.cell 0 rfl, HX.out.cell 1 rfl, HX.out.cell 2 rfl, HX.out.cell 3 rfl, HX.out.cell 4 rfl, HX.out.cell 5 rfl, HX.out.cell 6 rfl, HX.out.cell 7 rfl, HX.out.cell 8 rfl⟩ (fun hHeld => ?_)
            clear hK; try clear KK
            try simp only [Act.put, List.setIfInBounds_toArray, List.set_cons_zero, List.set_cons_succ]
            refine wpAnyH_take (i := 31) (oi := ⟨some 65, _, _, _, _, _⟩) (v := ?_) rfl (by kernel_rfl) (by kernel_rfl) (by kernel_rfl) (fun _ _ _ h => h) (Or.inl ⟨by rfl, ?_⟩) (by assumption) ?_
            rotate_left
            · (intro w hSw; (try dsimp only at hSw); go_simp; (try with_reducible rfl))
            simp only [Act.put, List.setIfInBounds_toArray, List.set_cons_zero, List.set_cons_succ]
            refine wpAnyH_take (i := 32) (oi := ⟨some 3, _, _, _, _, _⟩) (v := ?_) rfl (by kernel_rfl) (by kernel_rfl) (by kernel_rfl) (fun _ _ _ h => h) (Or.inl ⟨by rfl, ?_⟩) (by assumption) ?_
            rotate_left
            · (intro w hSw; (try dsimp only at hSw); go_simp; (try with_reducible rfl))
            simp only [Act.put, List.setIfInBounds_toArray, List.set_cons_zero, List.set_cons_succ]
            refine wpAnyH_done (by kernel_rfl) ?_ _
            clear hHeld
            go_wp2_with fail
            go_meet
            case rel => exact ⟨rfl, HX.out, HB.out⟩
          · go_simp
            refine (rdecimal_any _ (by omega) (by omega) _).mono ?_
            rintro e WX19 ⟨rfl, hb⟩
            try replace HTA := Lib.hid (cell_kept hb HTA.out)
            try replace HTB := Lib.hid (cell_kept hb HTB.out)
            replace HX := Lib.hid (HX.out.below hb HX.out.lt)
            replace HB := Lib.hid (HB.out.trans (hb.mono HB.out.size))
            clear hb
            refine hK.out _ _ ⟨HX.out.cell 0 rfl, HX.out.cell 1 rfl, HX.out.cell 2 rfl, HX.out.cell 3 rfl, HX.out.cell 4 rfl, HX.out.cell 5 rfl, HX.out.cell 6 rfl, HX.out.cell 7 rfl, HX.out.cell 8 rfl⟩ (fun hHeld => ?_)
            clear hK; try clear KK
            try simp only [Act.put, List.setIfInBounds_toArray, List.set_cons_zero, List.set_cons_succ]
            refine wpAnyH_ready (rs := [12]) (by kernel_rfl) (by simp) ?_
            refine AllReadyH.cons (o := ⟨some 46, _, _, _, _, _⟩) rfl (fun KK hK => ?_) AllReadyH.nil
            have hta := HTA.out
            go_simp
            refine hK.out _ _ ⟨HX.out.cell 0 rfl, HX.out.cell 1 rfl, HX.out.cell 2 rfl, HX.out.cell 3 rfl, HX.out.cell 4 rfl, HX.out.cell 5 rfl, HX.out.cell 6 rfl, HX.out.cell 7 rfl, HX.out.cell 8 rfl⟩ (fun hHeld => ?_)
            clear hK; try clear KK
            try simp only [Act.put, List.setIfInBounds_toArray, List.set_cons_zero, List.set_cons_succ]
            refine wpAnyH_take (i := 13) (oi := ⟨some 47, _, _, _, _, _⟩) (v := ?_) rfl (by kernel_rfl) (by kernel_rfl) (by kernel_rfl) (fun _ _ _ h => h) (Or.inl ⟨by rfl, ?_⟩) (by assumption) ?_
            rotate_left
            · (intro w hSw; (try dsimp only at hSw); go_simp; (try with_reducible rfl))
            simp only [Act.put, List.setIfInBounds_toArray, List.set_cons_zero, List.set_cons_succ]
            refine wpAnyH_take (i := 14) (oi := ⟨some 48, _, _, _, _, _⟩) (v := ?_) rfl (by kernel_rfl) (by kernel_rfl) (by kernel_rfl) (fun _ _ _ h => h) (Or.inl ⟨by rfl, ?_⟩) (by assumption) ?_
            rotate_left
            · (intro w hSw; (try dsimp only at hSw); go_simp; (try with_reducible rfl))
            simp only [Act.put, List.setIfInBounds_toArray, List.set_cons_zero, List.set_cons_succ]
            refine wpAnyH_take (i := 21) (oi := ⟨some 55, _, _, _, _, _⟩) (v := ?_) rfl (by kernel_rfl) (by kernel_rfl) (by kernel_rfl) (fun _ _ _ h => h) (Or.inl ⟨by rfl, ?_⟩) (by assumption) ?_
            rotate_left
            · (intro w hSw; (try dsimp only at hSw); go_simp; (try with_reducible rfl))
            simp only [Act.put, List.setIfInBounds_toArray, List.set_cons_zero, List.set_cons_succ]
            refine wpAnyH_take (i := 22) (oi := ⟨some 56, _, _, _, _, _⟩) (v := ?_) rfl (by kernel_rfl) (by kernel_rfl) (by kernel_rfl) (fun _ _ _ h => h) (Or.inl ⟨by rfl, ?_⟩) (by assumption) ?_
            rotate_left
            · (intro w hSw; (try dsimp only at hSw); go_simp; (try with_reducible rfl))
            simp only [Act.put, List.setIfInBounds_toArray, List.set_cons_zero, List.set_cons_succ]
            refine wpAnyH_take (i := 26) (oi := ⟨some 60, _, _, _, _, _⟩) (v := ?_) rfl (by kernel_rfl) (by kernel_rfl) (by kernel_rfl) (fun _ _ _ h => h) (Or.inl ⟨by rfl, ?_⟩) (by assumption) ?_
            rotate_left
            · (intro w hSw; (try dsimp only at hSw); go_simp; (try with_reducible rfl))
            simp only [Act.put, List.setIfInBounds_toArray, List.set_cons_zero, List.set_cons_succ]
            refine wpAnyH_take (i := 27) (oi := ⟨some 61, _, _, _, _, _⟩) (v := ?_) rfl (by kernel_rfl) (by kernel_rfl) (by kernel_rfl) (fun _ _ _ h => h) (Or.inl ⟨by rfl, ?_⟩) (by assumption) ?_
            rotate_left
            · (intro w hSw; (try dsimp only at hSw); go_simp; (try with_reducible rfl))
            simp only [Act.put, List.setIfInBounds_toArray, List.set_cons_zero, List.set_cons_succ]
            refine wpAnyH_take (i := 31) (oi := ⟨some 65, _, _, _, _, _⟩) (v := ?_) rfl (by kernel_rfl) (by kernel_rfl) (by kernel_rfl) (fun _ _ _ h => h) (Or.inl ⟨by rfl, ?_⟩) (by assumption) ?_
            rotate_left
            · (intro w hSw; (try dsimp only at hSw); go_simp; (try with_reducible rfl))
            simp only [Act.put, List.setIfInBounds_toArray, List.set_cons_zero, List.set_cons_succ]
            refine wpAnyH_take (i := 32) (oi := ⟨some 3, _, _, _, _, _⟩) (v := ?_) rfl (by kernel_rfl) (by kernel_rfl) (by kernel_rfl) (fun _ _ _ h => h) (Or.inl ⟨by rfl, ?_⟩) (by assumption) ?_
            rotate_left
            · (intro w hSw; (try dsimp only at hSw); go_simp; (try with_reducible rfl))
            simp only [Act.put, List.setIfInBounds_toArray, List.set_cons_zero, List.set_cons_succ]
            refine wpAnyH_done (by kernel_rfl) ?_ _
            clear hHeld
            go_wp2_with fail
            go_meet
            case rel => exact ⟨rfl, HX.out, HB.out⟩
      · go_simp
        refine (rdecimal_any _ (by omega) (by omega) _).mono ?_
        rintro e WX20 ⟨rfl, hb⟩
        try replace HTA := Lib.hid (cell_kept hb HTA.out)
        try replace HTB := Lib.hid (cell_kept hb HTB.out)
        replace HX := Lib.hid (HX.out.below hb HX.out.lt)
        replace HB := Lib.hid (HB.out.trans (hb.mono HB.out.size))
        clear hb
        refine hK.out _ _ ⟨HX.out.cell 0 rfl, HX.out.cell 1 rfl, HX.out.cell 2 rfl, HX.out.cell 3 rfl, HX.out.cell 4 rfl, HX.out.cell 5 rfl, HX.out.cell 6 rfl, HX.out.cell 7 rfl, HX.out.cell 8 rfl⟩ (fun hHeld => ?_)
        clear hK; try clear KK
        try simp only [Act.put, List.setIfInBounds_toArray, List.set_cons_zero, List.set_cons_succ]
        refine wpAnyH_ready (rs := [12, 20, 30]) (by kernel_rfl) (by simp) ?_
        refine AllReadyH.cons (o := ⟨some 46, _, _, _, _, _⟩) rfl (fun KK hK => ?_) (AllReadyH.cons (o := ⟨some 54, _, _, _, _, _⟩) rfl (fun KK hK => ?_) (AllReadyH.cons (o := ⟨some 64, _, _, _, _, _⟩) rfl (fun KK hK => ?_) (AllReadyH.nil)))
        · have hta := HTA.out
          go_simp
          refine hK.out _ _ ⟨HX.out.cell 0 rfl, HX.out.cell 1 rfl, HX.out.cell 2 rfl, HX.out.cell 3 rfl, HX.out.cell 4 rfl, HX.out.cell 5 rfl, HX.out.cell 6 rfl, HX.out.cell 7 rfl, HX.out.cell 8 rfl⟩ (fun hHeld => ?_)
          clear hK; try clear KK
          try simp only [Act.put, List.setIfInBounds_toArray, List.set_cons_zero, List.set_cons_succ]
          refine wpAnyH_take (i := 13) (oi := ⟨some 47, _, _, _, _, _⟩) (v := ?_) rfl (by kernel_rfl) (by kernel_rfl) (by kernel_rfl) (fun _ _ _ h => h) (Or.inl ⟨by rfl, ?_⟩) (by assumption) ?_
          rotate_left
          · (intro w hSw; (try dsimp only at hSw); go_simp; (try with_reducible rfl))
          simp only [Act.put, List.setIfInBounds_toArray, List.set_cons_zero, List.set_cons_succ]
          refine wpAnyH_take (i := 14) (oi := ⟨some 48, _, _, _, _, _⟩) (v := ?_) rfl (by kernel_rfl) (by kernel_rfl) (by kernel_rfl) (fun _ _ _ h => h) (Or.inl ⟨by rfl, ?_⟩) (by assumption) ?_
          rotate_left
          · (intro w hSw; (try dsimp only at hSw); go_simp; (try with_reducible rfl))
          simp only [Act.put, List.setIfInBounds_toArray, List.set_cons_zero, List.set_cons_succ]
          refine wpAnyH_ready (rs := [20, 30]) (by kernel_rfl) (by simp) ?_
          refine AllReadyH.cons (o := ⟨some 54, _, _, _, _, _⟩) rfl (fun KK hK => ?_) (AllReadyH.cons (o := ⟨some 64, _, _, _, _, _⟩) rfl (fun KK hK => ?_) (AllReadyH.nil))
          · have htb := HTB.out
            go_simp
            refine hK.out _ _ ⟨HX.out.cell 0 rfl, HX.out.cell 1 rfl, HX.out.cell 2 rfl, HX.out.cell 3 rfl, HX.out.cell 4 rfl, HX.out.cell 5 rfl, HX.out.cell 6 rfl, HX.out.cell 7 rfl, HX.out.cell 8 rfl⟩ (fun hHeld => ?_)
            clear hK; try clear KK
            try simp only [Act.put, List.setIfInBounds_toArray, List.set_cons_zero, List.set_cons_succ]
            refine wpAnyH_take (i := 21) (oi := ⟨some 55, _, _, _, _, _⟩) (v := ?_) rfl (by kernel_rfl) (by kernel_rfl) (by kernel_rfl) (fun _ _ _ h => h) (Or.inl ⟨by rfl, ?_⟩) (by assumption) ?_
            rotate_left
            · (intro w hSw; (try dsimp only at hSw); go_simp; (try with_reducible rfl))
            simp only [Act.put, List.setIfInBounds_toArray, List.set_cons_zero, List.set_cons_succ]
            refine wpAnyH_take (i := 22) (oi := ⟨some 56, _, _, _, _, _⟩) (v := ?_) rfl (by kernel_rfl) (by kernel_rfl) (by kernel_rfl) (fun _ _ _ h => h) (Or.inl ⟨by rfl, ?_⟩) (by assumption) ?_
            rotate_left
            · (intro w hSw; (try dsimp only at hSw); go_simp; (try with_reducible rfl))
            simp only [Act.put, List.setIfInBounds_toArray, List.set_cons_zero, List.set_cons_succ]
            refine wpAnyH_take (i := 26) (oi := ⟨some 60, _, _, _, _, _⟩) (v := ?_) rfl (by kernel_rfl) (by kernel_rfl) (by kernel_rfl) (fun _ _ _ h => h) (Or.inl ⟨by rfl, ?_⟩) (by assumption) ?_
            rotate_left
            · (intro w hSw; (try dsimp only at hSw); go_simp; (try with_reducible rfl))
            simp only [Act.put, List.setIfInBounds_toArray, List.set_cons_zero, List.set_cons_succ]
            refine wpAnyH_take (i := 27) (oi := ⟨some 61, _, _, _, _, _⟩) (v := ?_) rfl (by kernel_rfl) (by kernel_rfl) (by kernel_rfl) (fun _ _ _ h => h) (Or.inl ⟨by rfl, ?_⟩) (by assumption) ?_
            rotate_left
            · (intro w hSw; (try dsimp only at hSw); go_simp; (try with_reducible rfl))
            simp only [Act.put, List.setIfInBounds_toArray, List.set_cons_zero, List.set_cons_succ]
            refine wpAnyH_ready (rs := [30]) (by kernel_rfl) (by simp) ?_
            refine AllReadyH.cons (o := ⟨some 64, _, _, _, _, _⟩) rfl (fun KK hK => ?_) AllReadyH.nil
            go_simp
            refine (rdecimal_any _ (by omega) (by omega) _).mono ?_
            rintro e WX21 ⟨rfl, hb⟩
            try replace HTA := Lib.hid (cell_kept hb HTA.out)
            try replace HTB := Lib.hid (cell_kept hb HTB.out)
            replace HX := Lib.hid (HX.out.below hb HX.out.lt)
            replace HB := Lib.hid (HB.out.trans (hb.mono HB.out.size))
            clear hb
            refine hK.out _ _ ⟨HX.out.cell 0 rfl, HX.out.cell 1 rfl, HX.out.cell 2 rfl, HX.out.cell 3 rfl, HX.out.cell 4 rfl, HX.out.cell 5 rfl, HX.out.cell 6 rfl, HX.out.cell 7 rfl, HX.out.cell 8 rfl⟩ (fun hHeld => ?_)
            clear hK; try clear KK
            try simp only [Act.put, List.setIfInBounds_toArray, List.set_cons_zero, List.set_cons_succ]
            refine wpAnyH_take (i := 31) (oi := ⟨some 65, _, _, _, _, _⟩) (v := ?_) rfl (by kernel_rfl) (by kernel_rfl) (by kernel_rfl) (fun _ _ _ h => h) (Or.inl ⟨by rfl, ?_⟩) (by assumption) ?_
            rotate_left
            · (intro w hSw; (try dsimp only at hSw); go_simp; (try with_reducible rfl))
            simp only [Act.put, List.setIfInBounds_toArray, List.set_cons_zero, List.set_cons_succ]
            refine wpAnyH_take (i := 32) (oi := ⟨some 3, _, _, _, _, _⟩) (v := ?_) rfl (by kernel_rfl) (by kernel_rfl) (by kernel_rfl) (fun _ _ _ h => h) (Or.inl ⟨by rfl, ?_⟩) (by assumption) ?_
            rotate_left
            · (intro w hSw; (try dsimp only at hSw); go_simp; (try with_reducible rfl))
            simp only [Act.put, List.setIfInBounds_toArray, List.set_cons_zero, List.set_cons_succ]
            refine wpAnyH_done (by kernel_rfl) ?_ _
            clear hHeld
            go_wp2_with fail
            go_meet
            case rel => exact ⟨rfl, HX.out, HB.out⟩
          · go_simp
            refine (rdecimal_any _ (by omega) (by omega) _).mono ?_
            rintro e WX22 ⟨rfl, hb⟩
            try replace HTA := Lib.hid (cell_kept hb HTA.out)
            try replace HTB := Lib.hid (cell_kept hb HTB.out)
            replace HX := Lib.hid (HX.out.below hb HX.out.lt)
            replace HB := Lib.hid (HB.out.trans (hb.mono HB.out.size))
            clear hb
            refine hK.out _ _ ⟨HX.out.cell 0 rfl, HX.out.cell 1 rfl, HX.out.cell 2 rfl, HX.out.cell 3 rfl, HX.out.cell 4 rfl, HX.out.cell 5 rfl, HX.out.cell 6 rfl, HX.out.cell 7 rfl, HX.out.cell 8 rfl⟩ (fun hHeld => ?_)
            clear hK; try clear KK
            try simp only [Act.put, List.setIfInBounds_toArray, List.set_cons_zero, List.set_cons_succ]
            refine wpAnyH_ready (rs := [20]) (by kernel_rfl) (by simp) ?_
            refine AllReadyH.cons (o := ⟨some 54, _, _, _, _, _⟩) rfl (fun KK hK => ?_) AllReadyH.nil
            have htb := HTB.out
            go_simp
            refine hK.out _ _ ⟨HX.out.cell 0 rfl, HX.out.cell 1 rfl, HX.out.cell 2 rfl, HX.out.cell 3 rfl, HX.out.cell 4 rfl, HX.out.cell 5 rfl, HX.out.cell 6 rfl, HX.out.cell 7 rfl, HX.out.cell 8 rfl⟩ (fun hHeld => ?_)
            clear hK; try clear KK
            try simp only [Act.put, List.setIfInBounds_toArray, List.set_cons_zero, List.set_cons_succ]
            refine wpAnyH_take (i := 21) (oi := ⟨some 55, _, _, _, _, _⟩) (v := ?_) rfl (by kernel_rfl) (by kernel_rfl) (by kernel_rfl) (fun _ _ _ h => h) (Or.inl ⟨by rfl, ?_⟩) (by assumption) ?_
            rotate_left
            · (intro w hSw; (try dsimp only at hSw); go_simp; (try with_reducible rfl))
            simp only [Act.put, List.setIfInBounds_toArray, List.set_cons_zero, List.set_cons_succ]
            refine wpAnyH_take (i := 22) (oi := ⟨some 56, _, _, _, _, _⟩) (v := ?_) rfl (by kernel_rfl) (by kernel_rfl) (by kernel_rfl) (fun _ _ _ h => h) (Or.inl ⟨by rfl, ?_⟩) (by assumption) ?_
            rotate_left
            · (intro w hSw; (try dsimp only at hSw); go_simp; (try with_reducible rfl))
            simp only [Act.put, List.setIfInBounds_toArray, List.set_cons_zero, List.set_cons_succ]
            refine wpAnyH_take (i := 26) (oi := ⟨some 60, _, _, _, _, _⟩) (v := ?_) rfl (by kernel_rfl) (by kernel_rfl) (by kernel_rfl) (fun _ _ _ h => h) (Or.inl ⟨by rfl, ?_⟩) (by assumption) ?_
            rotate_left
            · (intro w hSw; (try dsimp only at hSw); go_simp; (try with_reducible rfl))
            simp only [Act.put, List.setIfInBounds_toArray, List.set_cons_zero, List.set_cons_succ]
            refine wpAnyH_take (i := 27) (oi := ⟨some 61, _, _, _, _, _⟩) (v := ?_) rfl (by kernel_rfl) (by kernel_rfl) (by kernel_rfl) (fun _ _ _ h => h) (Or.inl ⟨by rfl, ?_⟩) (by assumption) ?_
            rotate_left
            · (intro w hSw; (try dsimp only at hSw); go_simp; (try with_reducible rfl))
            simp only [Act.put, List.setIfInBounds_toArray, List.set_cons_zero, List.set_cons_succ]
            refine wpAnyH_take (i := 31) (oi := ⟨some 65, _, _, _, _, _⟩) (v := ?_) rfl (by kernel_rfl) (by kernel_rfl) (by kernel_rfl) (fun _ _ _ h => h) (Or.inl ⟨by rfl, ?_⟩) (by assumption) ?_
            rotate_left
            · (intro w hSw; (try dsimp only at hSw); go_simp; (try with_reducible rfl))
            simp only [Act.put, List.setIfInBounds_toArray, List.set_cons_zero, List.set_cons_succ]
            refine wpAnyH_take (i := 32) (oi := ⟨some 3, _, _, _, _, _⟩) (v := ?_) rfl (by kernel_rfl) (by kernel_rfl) (by kernel_rfl) (fun _ _ _ h => h) (Or.inl ⟨by rfl, ?_⟩) (by assumption) ?_
            rotate_left
            · (intro w hSw; (try dsimp only at hSw); go_simp; (try with_reducible rfl))
            simp only [Act.put, List.setIfInBounds_toArray, List.set_cons_zero, List.set_cons_succ]
            refine wpAnyH_done (by kernel_rfl) ?_ _
            clear hHeld
            go_wp2_with fail
            go_meet
            case rel => exact ⟨rfl, HX.out, HB.out⟩
        · have htb := HTB.out
          go_simp
          refine hK.out _ _ ⟨HX.out.cell 0 rfl, HX.out.cell 1 rfl, HX.out.cell 2 rfl, HX.out.cell 3 rfl, HX.out.cell 4 rfl, HX.out.cell 5 rfl, HX.out.cell 6 rfl, HX.out.cell 7 rfl, HX.out.cell 8 rfl⟩ (fun hHeld => ?_)
          clear hK; try clear KK
          try simp only [Act.put, List.setIfInBounds_toArray, List.set_cons_zero, List.set_cons_succ]
          refine wpAnyH_ready (rs := [12, 30]) (by kernel_rfl) (by simp) ?_
          refine AllReadyH.cons (o := ⟨some 46, _, _, _, _, _⟩) rfl (fun KK hK => ?_) (AllReadyH.cons (o := ⟨some 64, _, _, _, _, _⟩) rfl (fun KK hK => ?_) (AllReadyH.nil))
          · have hta := HTA.out
            go_simp
            refine hK.out _ _ ⟨HX.out.cell 0 rfl, HX.out.cell 1 rfl, HX.out.cell 2 rfl, HX.out.cell 3 rfl, HX.out.cell 4 rfl, HX.out.cell 5 rfl, HX.out.cell 6 rfl, HX.out.cell 7 rfl, HX.out.cell 8 rfl⟩ (fun hHeld => ?_)
            clear hK; try clear KK
            try simp only [Act.put, List.setIfInBounds_toArray, List.set_cons_zero, List.set_cons_succ]
            refine wpAnyH_take (i := 13) (oi := ⟨some 47, _, _, _, _, _⟩) (v := ?_) rfl (by kernel_rfl) (by kernel_rfl) (by kernel_rfl) (fun _ _ _ h => h) (Or.inl ⟨by rfl, ?_⟩) (by assumption) ?_
            rotate_left
            · (intro w hSw; (try dsimp only at hSw); go_simp; (try with_reducible rfl))
            simp only [Act.put, List.setIfInBounds_toArray, List.set_cons_zero, List.set_cons_succ]
            refine wpAnyH_take (i := 14) (oi := ⟨some 48, _, _, _, _, _⟩) (v := ?_) rfl (by kernel_rfl) (by kernel_rfl) (by kernel_rfl) (fun _ _ _ h => h) (Or.inl ⟨by rfl, ?_⟩) (by assumption) ?_
            rotate_left
            · (intro w hSw; (try dsimp only at hSw); go_simp; (try with_reducible rfl))
            simp only [Act.put, List.setIfInBounds_toArray, List.set_cons_zero, List.set_cons_succ]
            refine wpAnyH_take (i := 21) (oi := ⟨some 55, _, _, _, _, _⟩) (v := ?_) rfl (by kernel_rfl) (by kernel_rfl) (by kernel_rfl) (fun _ _ _ h => h) (Or.inl ⟨by rfl, ?_⟩) (by assumption) ?_
            rotate_left
            · (intro w hSw; (try dsimp only at hSw); go_simp; (try with_reducible rfl))
            simp only [Act.put, List.setIfInBounds_toArray, List.set_cons_zero, List.set_cons_succ]
            refine wpAnyH_take (i := 22) (oi := ⟨some 56, _, _, _, _, _⟩) (v := ?_) rfl (by kernel_rfl) (by kernel_rfl) (by kernel_rfl) (fun _ _ _ h => h) (Or.inl ⟨by rfl, ?_⟩) (by assumption) ?_
            rotate_left
            · (intro w hSw; (try dsimp only at hSw); go_simp; (try with_reducible rfl))
            simp only [Act.put, List.setIfInBounds_toArray, List.set_cons_zero, List.set_cons_succ]
            refine wpAnyH_take (i := 26) (oi := ⟨some 60, _, _, _, _, _⟩) (v := ?_) rfl (by kernel_rfl) (by kernel_rfl) (by kernel_rfl) (fun _ _ _ h => h) (Or.inl ⟨by rfl, ?_⟩) (by assumption) ?_
            rotate_left
            · (intro w hSw; (try dsimp only at hSw); go_simp; (try with_reducible rfl))
            simp only [Act.put, List.setIfInBounds_toArray, List.set_cons_zero, List.set_cons_succ]
            refine wpAnyH_take (i := 27) (oi := ⟨some 61, _, _, _, _, _⟩) (v := ?_) rfl (by kernel_rfl) (by kernel_rfl) (by kernel_rfl) (fun _ _ _ h => h) (Or.inl ⟨by rfl, ?_⟩) (by assumption) ?_
            rotate_left
            · (intro w hSw; (try dsimp only at hSw); go_simp; (try with_reducible rfl))
            simp only [Act.put, List.setIfInBounds_toArray, List.set_cons_zero, List.set_cons_succ]
            refine wpAnyH_ready (rs := [30]) (by kernel_rfl) (by simp) ?_
            refine AllReadyH.cons (o := ⟨some 64, _, _, _, _, _⟩) rfl (fun KK hK => ?_) AllReadyH.nil
            go_simp
            refine (rdecimal_any _ (by omega) (by omega) _).mono ?_
            rintro e WX23 ⟨rfl, hb⟩
            try replace HTA := Lib.hid (cell_kept hb HTA.out)
            try replace HTB := Lib.hid (cell_kept hb HTB.out)
            replace HX := Lib.hid (HX.out.below hb HX.out.lt)
            replace HB := Lib.hid (HB.out.trans (hb.mono HB.out.size))
            clear hb
            refine hK.out _ _ ⟨HX.out.cell 0 rfl, HX.out.cell 1 rfl, HX.out.cell 2 rfl, HX.out.cell 3 rfl, HX.out.cell 4 rfl, HX.out.cell 5 rfl, HX.out.cell 6 rfl, HX.out.cell 7 rfl, HX.out.cell 8 rfl⟩ (fun hHeld => ?_)
            clear hK; try clear KK
            try simp only [Act.put, List.setIfInBounds_toArray, List.set_cons_zero, List.set_cons_succ]
            refine wpAnyH_take (i := 31) (oi := ⟨some 65, _, _, _, _, _⟩) (v := ?_) rfl (by kernel_rfl) (by kernel_rfl) (by kernel_rfl) (fun _ _ _ h => h) (Or.inl ⟨by rfl, ?_⟩) (by assumption) ?_
            rotate_left
            · (intro w hSw; (try dsimp only at hSw); go_simp; (try with_reducible rfl))
            simp only [Act.put, List.setIfInBounds_toArray, List.set_cons_zero, List.set_cons_succ]
            refine wpAnyH_take (i := 32) (oi := ⟨some 3, _, _, _, _, _⟩) (v := ?_) rfl (by kernel_rfl) (by kernel_rfl) (by kernel_rfl) (fun _ _ _ h => h) (Or.inl ⟨by rfl, ?_⟩) (by assumption) ?_
            rotate_left
            · (intro w hSw; (try dsimp only at hSw); go_simp; (try with_reducible rfl))
            simp only [Act.put, List.setIfInBounds_toArray, List.set_cons_zero, List.set_cons_succ]
            refine wpAnyH_done (by kernel_rfl) ?_ _
            clear hHeld
            go_wp2_with fail
            go_meet
            case rel => exact ⟨rfl, HX.out, HB.out⟩
          · go_simp
            refine (rdecimal_any _ (by omega) (by omega) _).mono ?_
            rintro e WX24 ⟨rfl, hb⟩
            try replace HTA := Lib.hid (cell_kept hb HTA.out)
            try replace HTB := Lib.hid (cell_kept hb HTB.out)
            replace HX := Lib.hid (HX.out.below hb HX.out.lt)
            replace HB := Lib.hid (HB.out.trans (hb.mono HB.out.size))
            clear hb
            refine hK.out _ _ ⟨HX.out.cell 0 rfl, HX.out.cell 1 rfl, HX.out.cell 2 rfl, HX.out.cell 3 rfl, HX.out.cell 4 rfl, HX.out.cell 5 rfl, HX.out.cell 6 rfl, HX.out.cell 7 rfl, HX.out.cell 8 rfl⟩ (fun hHeld => ?_)
            clear hK; try clear KK
            try simp only [Act.put, List.setIfInBounds_toArray, List.set_cons_zero, List.set_cons_succ]
            refine wpAnyH_ready (rs := [12]) (by kernel_rfl) (by simp) ?_
            refine AllReadyH.cons (o := ⟨some 46, _, _, _, _, _⟩) rfl (fun KK hK => ?_) AllReadyH.nil
            have hta := HTA.out
            go_simp
            refine hK.out _ _ ⟨HX.out.cell 0 rfl, HX.out.cell 1 rfl, HX.out.cell 2 rfl, HX.out.cell 3 rfl, HX.out.cell 4 rfl, HX.out.cell 5 rfl, HX.out.cell 6 rfl, HX.out.cell 7 rfl, HX.out.cell 8 rfl⟩ (fun hHeld => ?_)
            clear hK; try clear KK
            try simp only [Act.put, List.setIfInBounds_toArray, List.set_cons_zero, List.set_cons_succ]
            refine wpAnyH_take (i := 13) (oi := ⟨some 47, _, _, _, _, _⟩) (v := ?_) rfl (by kernel_rfl) (by kernel_rfl) (by kernel_rfl) (fun _ _ _ h => h) (Or.inl ⟨by rfl, ?_⟩) (by assumption) ?_
            rotate_left
            · (intro w hSw; (try dsimp only at hSw); go_simp; (try with_reducible rfl))
            simp only [Act.put, List.setIfInBounds_toArray, List.set_cons_zero, List.set_cons_succ]
            refine wpAnyH_take (i := 14) (oi := ⟨some 48, _, _, _, _, _⟩) (v := ?_) rfl (by kernel_rfl) (by kernel_rfl) (by kernel_rfl) (fun _ _ _ h => h) (Or.inl ⟨by rfl, ?_⟩) (by assumption) ?_
            rotate_left
            · (intro w hSw; (try dsimp only at hSw); go_simp; (try with_reducible rfl))
            simp only [Act.put, List.setIfInBounds_toArray, List.set_cons_zero, List.set_cons_succ]
            refine wpAnyH_take (i := 21) (oi := ⟨some 55, _, _, _, _, _⟩) (v := ?_) rfl (by kernel_rfl) (by kernel_rfl) (by kernel_rfl) (fun _ _ _ h => h) (Or.inl ⟨by rfl, ?_⟩) (by assumption) ?_
            rotate_left
            · (intro w hSw; (try dsimp only at hSw); go_simp; (try with_reducible rfl))
            simp only [Act.put, List.setIfInBounds_toArray, List.set_cons_zero, List.set_cons_succ]
            refine wpAnyH_take (i := 22) (oi := ⟨some 56, _, _, _, _, _⟩) (v := ?_) rfl (by kernel_rfl) (by kernel_rfl) (by kernel_rfl) (fun _ _ _ h => h) (Or.inl ⟨by rfl, ?_⟩) (by assumption) ?_
            rotate_left
            · (intro w hSw; (try dsimp only at hSw); go_simp; (try with_reducible rfl))
            simp only [Act.put, List.setIfInBounds_toArray, List.set_cons_zero, List.set_cons_succ]
            refine wpAnyH_take (i := 26) (oi := ⟨some 60, _, _, _, _, _⟩) (v := ?_) rfl (by kernel_rfl) (by kernel_rfl) (by kernel_rfl) (fun _ _ _ h => h) (Or.inl ⟨by rfl, ?_⟩) (by assumption) ?_
            rotate_left
            · (intro w hSw; (try dsimp only at hSw); go_simp; (try with_reducible rfl))
            simp only [Act.put, List.setIfInBounds_toArray, List.set_cons_zero, List.set_cons_succ]
            refine wpAnyH_take (i := 27) (oi := ⟨some 61, _, _, _, _, _⟩) (v := ?_) rfl (by kernel_rfl) (by kernel_rfl) (by kernel_rfl) (fun _ _ _ h => h) (Or.inl ⟨by rfl, ?_⟩) (by assumption) ?_
            rotate_left
            · (intro w hSw; (try dsimp only at hSw); go_simp; (try with_reducible rfl))
            simp only [Act.put, List.setIfInBounds_toArray, List.set_cons_zero, List.set_cons_succ]
            refine wpAnyH_take (i := 31) (oi := ⟨some 65, _, _, _, _, _⟩) (v := ?_) rfl (by kernel_rfl) (by kernel_rfl) (by kernel_rfl) (fun _ _ _ h => h) (Or.inl ⟨by rfl, ?_⟩) (by assumption) ?_
            rotate_left
            · (intro w hSw; (try dsimp only at hSw); go_simp; (try with_reducible rfl))
            simp only [Act.put, List.setIfInBounds_toArray, List.set_cons_zero, List.set_cons_succ]
            refine wpAnyH_take (i := 32) (oi := ⟨some 3, _, _, _, _, _⟩) (v := ?_) rfl (by kernel_rfl) (by kernel_rfl) (by kernel_rfl) (fun _ _ _ h => h) (Or.inl ⟨by rfl, ?_⟩) (by assumption) ?_
            rotate_left
            · (intro w hSw; (try dsimp only at hSw); go_simp; (try with_reducible rfl))
            simp only [Act.put, List.setIfInBounds_toArray, List.set_cons_zero, List.set_cons_succ]
            refine wpAnyH_done (by kernel_rfl) ?_ _
            clear hHeld
            go_wp2_with fail
            go_meet
            case rel => exact ⟨rfl, HX.out, HB.out⟩
        · go_simp
          refine (rdecimal_any _ (by omega) (by omega) _).mono ?_
          rintro e WX25 ⟨rfl, hb⟩
          try replace HTA := Lib.hid (cell_kept hb HTA.out)
          try replace HTB := Lib.hid (cell_kept hb HTB.out)
          replace HX := Lib.hid (HX.out.below hb HX.out.lt)
          replace HB := Lib.hid (HB.out.trans (hb.mono HB.out.size))
          clear hb
          refine hK.out _ _ ⟨HX.out.cell 0 rfl, HX.out.cell 1 rfl, HX.out.cell 2 rfl, HX.out.cell 3 rfl, HX.out.cell 4 rfl, HX.out.cell 5 rfl, HX.out.cell 6 rfl, HX.out.cell 7 rfl, HX.out.cell 8 rfl⟩ (fun hHeld => ?_)
          clear hK; try clear KK
          try simp only [Act.put, List.setIfInBounds_toArray, List.set_cons_zero, List.set_cons_succ]
          refine wpAnyH_ready (rs := [12, 20]) (by kernel_rfl) (by simp) ?_
          refine AllReadyH.cons (o := ⟨some 46, _, _, _, _, _⟩) rfl (fun KK hK => ?_) (AllReadyH.cons (o := ⟨some 54, _, _, _, _, _⟩) rfl (fun KK hK => ?_) (AllReadyH.nil))
          · have hta := HTA.out
            go_simp
            refine hK.out _ _ ⟨HX.out.cell 0 rfl, HX.out.cell 1 rfl, HX.out.cell 2 rfl, HX.out.cell 3 rfl, HX.out.cell 4 rfl, HX.out.cell 5 rfl, HX.out.cell 6 rfl, HX.out.cell 7 rfl, HX.out.cell 8 rfl⟩ (fun hHeld => ?_)
            clear hK; try clear KK
            try simp only [Act.put, List.setIfInBounds_toArray, List.set_cons_zero, List.set_cons_succ]
            refine wpAnyH_take (i := 13) (oi := ⟨some 47, _, _, _, _, _⟩) (v := ?_) rfl (by kernel_rfl) (by kernel_rfl) (by kernel_rfl) (fun _ _ _ h => h) (Or.inl ⟨by rfl, ?_⟩) (by assumption) ?_
            rotate_left
            · (intro w hSw; (try dsimp only at hSw); go_simp; (try with_reducible rfl))
            simp only [Act.put, List.setIfInBounds_toArray, List.set_cons_zero, List.set_cons_succ]
            refine wpAnyH_take (i := 14) (oi := ⟨some 48, _, _, _, _, _⟩) (v := ?_) rfl (by kernel_rfl) (by kernel_rfl) (by kernel_rfl) (fun _ _ _ h => h) (Or.inl ⟨by rfl, ?_⟩) (by assumption) ?_
            rotate_left
            · (intro w hSw; (try dsimp only at hSw); go_simp; (try with_reducible rfl))
            simp only [Act.put, List.setIfInBounds_toArray, List.set_cons_zero, List.set_cons_succ]
            refine wpAnyH_ready (rs := [20]) (by kernel_rfl) (by simp) ?_
            refine AllReadyH.cons (o := ⟨some 54, _, _, _, _, _⟩) rfl (fun KK hK => ?_) AllReadyH.nil
            have htb := HTB.out
            go_simp
            refine hK.out _ _ ⟨HX.out.cell 0 rfl, HX.out.cell 1 rfl, HX.out.cell 2 rfl, HX.out.cell 3 rfl, HX.out.cell 4 rfl, HX.out.cell 5 rfl, HX.out.cell 6 rfl, HX.out.cell 7 rfl, HX.out.cell 8 rfl⟩ (fun hHeld => ?_)
            clear hK; try clear KK
            try simp only [Act.put, List.setIfInBounds_toArray, List.set_cons_zero, List.set_cons_succ]
            refine wpAnyH_take (i := 21) (oi := ⟨some 55, _, _, _, _, _⟩) (v := ?_) rfl (by kernel_rfl) (by kernel_rfl) (by kernel_rfl) (fun _ _ _ h => h) (Or.inl ⟨by rfl, ?_⟩) (by assumption) ?_
            rotate_left
            · (intro w hSw; (try dsimp only at hSw); go_simp; (try with_reducible rfl))
            simp only [Act.put, List.setIfInBounds_toArray, List.set_cons_zero, List.set_cons_succ]
            refine wpAnyH_take (i := 22) (oi := ⟨some 56, _, _, _, _, _⟩) (v := ?_) rfl (by kernel_rfl) (by kernel_rfl) (by kernel_rfl) (fun _ _ _ h => h) (Or.inl ⟨by rfl, ?_⟩) (by assumption) ?_
            rotate_left
            · (intro w hSw; (try dsimp only at hSw); go_simp; (try with_reducible rfl))
            simp only [Act.put, List.setIfInBounds_toArray, List.set_cons_zero, List.set_cons_succ]
            refine wpAnyH_take (i := 26) (oi := ⟨some 60, _, _, _, _, _⟩) (v := ?_) rfl (by kernel_rfl) (by kernel_rfl) (by kernel_rfl) (fun _ _ _ h => h) (Or.inl ⟨by rfl, ?_⟩) (by assumption) ?_
            rotate_left
            · (intro w hSw; (try dsimp only at hSw); go_simp; (try with_reducible rfl))
            simp only [Act.put, List.setIfInBounds_toArray, List.set_cons_zero, List.set_cons_succ]
            refine wpAnyH_take (i := 27) (oi := ⟨some 61, _, _, _, _, _⟩) (v := ?_) rfl (by kernel_rfl) (by kernel_rfl) (by kernel_rfl) (fun _ _ _ h => h) (Or.inl ⟨by rfl, ?_⟩) (by assumption) ?_
            rotate_left
            · (intro w hSw; (try dsimp only at hSw); go_simp; (try with_reducible rfl))
            simp only [Act.put, List.setIfInBounds_toArray, List.set_cons_zero, List.set_cons_succ]
            refine wpAnyH_take (i := 31) (oi := ⟨some 65, _, _, _, _, _⟩) (v := ?_) rfl (by kernel_rfl) (by kernel_rfl) (by kernel_rfl) (fun _ _ _ h => h) (Or.inl ⟨by rfl, ?_⟩) (by assumption) ?_
            rotate_left
            · (intro w hSw; (try dsimp only at hSw); go_simp; (try with_reducible rfl))
            simp only [Act.put, List.setIfInBounds_toArray, List.set_cons_zero, List.set_cons_succ]
            refine wpAnyH_take (i := 32) (oi := ⟨some 3, _, _, _, _, _⟩) (v := ?_) rfl (by kernel_rfl) (by kernel_rfl) (by kernel_rfl) (fun _ _ _ h => h) (Or.inl ⟨by rfl, ?_⟩) (by assumption) ?_
            rotate_left
            · (intro w hSw; (try dsimp only at hSw); go_simp; (try with_reducible rfl))
            simp only [Act.put, List.setIfInBounds_toArray, List.set_cons_zero, List.set_cons_succ]
            refine wpAnyH_done (by kernel_rfl) ?_ _
            clear hHeld
            go_wp2_with fail
            go_meet
            case rel => exact ⟨rfl, HX.out, HB.out⟩
          · have htb := HTB.out
            go_simp
            refine hK.out _ _ ⟨HX.out.cell 0 rfl, HX.out.cell 1 rfl, HX.out.cell 2 rfl, HX.out.cell 3 rfl, HX.out.cell 4 rfl, HX.out.cell 5 rfl, HX.out.cell 6 rfl, HX.out.cell 7 rfl, HX.out.cell 8 rfl⟩ (fun hHeld => ?_)
            clear hK; try clear KK
            try simp only [Act.put, List.setIfInBounds_toArray, List.set_cons_zero, List.set_cons_succ]
            refine wpAnyH_ready (rs := [12]) (by kernel_rfl) (by simp) ?_
            refine AllReadyH.cons (o := ⟨some 46, _, _, _, _, _⟩) rfl (fun KK hK => ?_) AllReadyH.nil
            have hta := HTA.out
            go_simp
            refine hK.out _ _ ⟨HX.out.cell 0 rfl, HX.out.cell 1 rfl, HX.out.cell 2 rfl, HX.out.cell 3 rfl, HX.out.cell 4 rfl, HX.out.cell 5 rfl, HX.out.cell 6 rfl, HX.out.cell 7 rfl, HX.out.cell 8 rfl⟩ (fun hHeld => ?_)
            clear hK; try clear KK
            try simp only [Act.put, List.setIfInBounds_toArray, List.set_cons_zero, List.set_cons_succ]
            refine wpAnyH_take (i := 13) (oi := ⟨some 47, _, _, _, _, _⟩) (v := ?_) rfl (by kernel_rfl) (by kernel_rfl) (by kernel_rfl) (fun _ _ _ h => h) (Or.inl ⟨by rfl, ?_⟩) (by assumption) ?_
            rotate_left
            · (intro w hSw; (try dsimp only at hSw); go_simp; (try with_reducible rfl))
            simp only [Act.put, List.setIfInBounds_toArray, List.set_cons_zero, List.set_cons_succ]
            refine wpAnyH_take (i := 14) (oi := ⟨some 48, _, _, _, _, _⟩) (v := ?_) rfl (by kernel_rfl) (by kernel_rfl) (by kernel_rfl) (fun _ _ _ h => h) (Or.inl ⟨by rfl, ?_⟩) (by assumption) ?_
            rotate_left
            · (intro w hSw; (try dsimp only at hSw); go_simp; (try with_reducible rfl))
            simp only [Act.put, List.setIfInBounds_toArray, List.set_cons_zero, List.set_cons_succ]
            refine wpAnyH_take (i := 21) (oi := ⟨some 55, _, _, _, _, _⟩) (v := ?_) rfl (by kernel_rfl) (by kernel_rfl) (by kernel_rfl) (fun _ _ _ h => h) (Or.inl ⟨by rfl, ?_⟩) (by assumption) ?_
            rotate_left
            · (intro w hSw; (try dsimp only at hSw); go_simp; (try with_reducible rfl))
            simp only [Act.put, List.setIfInBounds_toArray, List.set_cons_zero, List.set_cons_succ]
            refine wpAnyH_take (i := 22) (oi := ⟨some 56, _, _, _, _, _⟩) (v := ?_) rfl (by kernel_rfl) (by kernel_rfl) (by kernel_rfl) (fun _ _ _ h => h) (Or.inl ⟨by rfl, ?_⟩) (by assumption) ?_
            rotate_left
            · (intro w hSw; (try dsimp only at hSw); go_simp; (try with_reducible rfl))
            simp only [Act.put, List.setIfInBounds_toArray, List.set_cons_zero, List.set_cons_succ]
            refine wpAnyH_take (i := 26) (oi := ⟨some 60, _, _, _, _, _⟩) (v := ?_) rfl (by kernel_rfl) (by kernel_rfl) (by kernel_rfl) (fun _ _ _ h => h) (Or.inl ⟨by rfl, ?_⟩) (by assumption) ?_
            rotate_left
            · (intro w hSw; (try dsimp only at hSw); go_simp; (try with_reducible rfl))
            simp only [Act.put, List.setIfInBounds_toArray, List.set_cons_zero, List.set_cons_succ]
            refine wpAnyH_take (i := 27) (oi := ⟨some 61, _, _, _, _, _⟩) (v := ?_) rfl (by kernel_rfl) (by kernel_rfl) (by kernel_rfl) (fun _ _ _ h => h) (Or.inl ⟨by rfl, ?_⟩) (by assumption) ?_
            rotate_left
            · (intro w hSw; (try dsimp only at hSw); go_simp; (try with_reducible rfl))
            simp only [Act.put, List.setIfInBounds_toArray, List.set_cons_zero, List.set_cons_succ]
            refine wpAnyH_take (i := 31) (oi := ⟨some 65, _, _, _, _, _⟩) (v := ?_) rfl (by kernel_rfl) (by kernel_rfl) (by kernel_rfl) (fun _ _ _ h => h) (Or.inl ⟨by rfl, ?_⟩) (by assumption) ?_
            rotate_left
            · (intro w hSw; (try dsimp only at hSw); go_simp; (try with_reducible rfl))
            simp only [Act.put, List.setIfInBounds_toArray, List.set_cons_zero, List.set_cons_succ]
            refine wpAnyH_take (i := 32) (oi := ⟨some 3, _, _, _, _, _⟩) (v := ?_) rfl (by kernel_rfl) (by kernel_rfl) (by kernel_rfl) (fun _ _ _ h => h) (Or.inl ⟨by rfl, ?_⟩) (by assumption) ?_
            rotate_left
            · (intro w hSw; (try dsimp only at hSw); go_simp; (try with_reducible rfl))
            simp only [Act.put, List.setIfInBounds_toArray, List.set_cons_zero, List.set_cons_succ]
            refine wpAnyH_done (by kernel_rfl) ?_ _
            clear hHeld
            go_wp2_with fail
            go_meet
            case rel => exact ⟨rfl, HX.out, HB.out⟩
  case rest =>
    obtain ⟨rfl, hx, hb⟩ := hcut
    replace HX := Lib.hid hx
    replace HB := Lib.hid hb
    clear hx hb
    go_wp2_with fail
    have hsb : (joinW 32 [tNew, decB s, decB i, decB a, sideW bn, typeW tn, decB p, decB q]).length ≤ 200 := by rw [← strB_size, ← HLN.out]; exact Nat.le_trans HRS.out (by decide)
    rw [HLN.out]
    generalize hbase : joinW 32 [tNew, decB s, decB i, decB a, sideW bn, typeW tn, decB p, decB q] = base at hsb ⊢
    have HBASE := Lib.hid hbase
    clear hbase
    go_loopw [3, 4] (fun sv iv wr => ∃ k : Nat, k ≤ 3 ∧ iv = .int .i64 (k : Int) ∧ sv = .string (strB (base ++ flS fn k)) ∧ Blk wr w.heap.size #[.int .i64 1, .int .i64 s, .int .i64 i, .int .i64 a, .int .i64 (bn : Int), .int .i64 ((tn : Int) + 1), .int .i64 p, .int .i64 q, .int .i64 (fn : Int)] 164 ∧ Below w.heap.size w wr) (fun _ i _ => 3 - (intOf i).toNat)
    case atStart => exact ⟨0, by omega, rfl, by simp [flS], HX.out, HB.out⟩
    case round =>
      obtain ⟨k, hk, rfl, rfl, hx, hb⟩ := hrel
      replace HX := Lib.hid hx
      replace HB := Lib.hid hb
      clear hx hb
      by_cases h3 : k = 3
      · subst h3
        go_wp2_with fail
        go_ret
        exact ⟨by rw [HBASE.out]; rfl, HB.out⟩
      · have c8 : wr.cell? ⟨w.heap.size, 8, none⟩ = some (.int .i64 (fn : Int)) := HX.out.cell 8 rfl
        have hf30 := flS_len fn k hfn hk
        have k3 : (k : Int) < 3 := by omega
        have hS : (strB (base ++ flS fn k)).size ≤ 230 := by rw [strB_size, List.length_append]; omega
        generalize hs' : strB (base ++ flS fn k) = S0 at hS ⊢
        have HS := Lib.hid hs'
        clear hs'
        have hk2 : k < 3 := by omega
        by_cases hbit : fn / 2 ^ k % 2 = 1
        · have hb1 : (bits .and .i64 ((fn : Int) / 2 ^ k) 1 == 1) = true := by rw [bit_of fn k hfn hk2]; exact decide_eq_true hbit
          obtain ⟨y, hy⟩ : ∃ y, flagsD[k]? = some y := ⟨_, List.getElem?_eq_getElem (show k < flagsD.length from hk2)⟩
          have HN := Lib.hid (show flS fn (k + 1) = flS fn k ++ 32 :: y by rw [flS, if_pos hbit, hy]; rfl)
          have hyl : (strB y).size ≤ 20 := by rw [strB_size]; exact flag_len hy
          have HYI := Lib.hid hy
          obtain ⟨F, hF⟩ : ∃ F, strB y = F := ⟨_, rfl⟩
          rw [hF] at hyl
          obtain ⟨S1, hs1⟩ : ∃ P, S0 ++ (⟨#[32]⟩ : ByteArray) = P := ⟨_, rfl⟩
          have hg1 : ¬ 9223372036854775807 < S0.size + 1 := by omega
          have hz1 : S1.size ≤ 231 := by rw [← hs1, ByteArray.size_append]; show _ + 1 ≤ _; omega
          obtain ⟨S2, hs2⟩ : ∃ P, S1 ++ F = P := ⟨_, rfl⟩
          have hg2 : ¬ 9223372036854775807 < S1.size + F.size := by omega
          have HS2 := Lib.hid (show S2 = strB (base ++ flS fn (k + 1)) by rw [← hs2, ← hs1, ← HS.out, ← hF, HN.out, show (⟨#[32]⟩ : ByteArray) = strB [32] from rfl, strB_app, strB_app]; congr 1; simp)
          have HFF := Lib.hid hF
          clear hbit hy hS hyl hz1 hF
          go_wp2_with fail
          refine (dflags_any _).mono ?_
          rintro e w7 ⟨tb, tc, rfl, -, -, h3, hb7⟩
          have hkf : k < flagsD.length := hk2
          have ct : w7.cell? ⟨tb, k, none⟩ = some (.string F) := by
            rw [h3 k hkf]
            have : flagsD[k] = y := by have := HYI.out; rw [List.getElem?_eq_getElem hkf] at this; injection this
            rw [this, HFF.out]
          replace HX := Lib.hid (HX.out.below hb7 HX.out.lt)
          replace HB := Lib.hid (HB.out.trans (hb7.mono HB.out.size))
          clear h3 hb7
          go_wp2_with fail
          go_roundw
          case rel => exact ⟨k + 1, by omega, by go_num, by rw [HS2.out], HX.out, HB.out⟩
          case measure => simp [intOf]; omega
        · have hb1 : (bits .and .i64 ((fn : Int) / 2 ^ k) 1 == 1) = false := by rw [bit_of fn k hfn hk2]; exact decide_eq_false hbit
          have HN := Lib.hid (show flS fn (k + 1) = flS fn k by rw [flS, if_neg hbit, List.append_nil])
          clear hbit hS
          go_wp2_with fail
          go_roundw
          case rel => exact ⟨k + 1, by omega, by go_num, by rw [HN.out, HS.out], HX.out, HB.out⟩
          case measure => simp [intOf]; omega
/-- damperref35.command, of any that is right. -/
theorem rcommand_any (c : Cmd) (hr : rightC c = true) (hp : -9223372036854775808 ≤ c.p ∧ c.p ≤ 9223372036854775807) (hq : -9223372036854775808 ≤ c.q ∧ c.q ≤ 9223372036854775807) (w : World) :
    Calls Tryd.prog 116 #[.agg c.cells] w (TxtIs (joinW 32 (wordsC c)) w) := by
  obtain ⟨hk, hs, hi, hn⟩ := right_in hr
  obtain ⟨k, s, i, a, b, t, p, q, f⟩ := c
  dsimp only at *
  rcases hk with rfl | rfl | rfl
  · obtain ⟨ha, hb, ht, hf⟩ := hn rfl
    obtain ⟨bn, rfl⟩ := Int.eq_ofNat_of_zero_le hb.1
    obtain ⟨fn, rfl⟩ := Int.eq_ofNat_of_zero_le hf.1
    obtain ⟨tn, rfl⟩ : ∃ tn : Nat, t = (tn : Int) + 1 := ⟨(t - 1).toNat, by omega⟩
    have h := rcommand_new s i a p q bn tn fn hs hi ha (by omega) (by omega) (by omega) hp hq w
    have e : joinW 32 (wordsC ⟨1, s, i, a, (bn : Int), (tn : Int) + 1, p, q, (fn : Int)⟩) = joinW 32 [tNew, decB s, decB i, decB a, sideW bn, typeW tn, decB p, decB q] ++ flS fn 3 := by
      unfold wordsC
      dsimp only
      rw [if_pos rfl, Int.toNat_natCast, Int.toNat_natCast, show ((tn : Int) + 1).toNat - 1 = tn by omega, join_app _ _ _ (by simp), flS_all fn (by omega)]
    rw [e]
    exact h
  · exact rcommand_cancel _ s i a b t p q f rfl hr hp hq w
  · exact rcommand_replace _ s i a b t p q f rfl hr hp hq w
end Go.Proofs.YtmkcooamgojbpaaDoor.Lines

/- damperref35.Line, of any step. -/
namespace Go.Proofs.YtmkcooamgojbpaaDoor.Lines
open Go.RowKit Go.Proofs.YtmkcooamgojbpaaDoor.Kit Go.Proofs.YtmkcooamgojbpaaDoor.Blk Go.Proofs.YtmkcooamgojbpaaDoor.Dec Go.Proofs.YtmkcooamgojbpaaDoor.Words Go.Proofs.YtmkcooamgojbpaaDoor.Octets Go.Proofs.YtmkcooamgojbpaaDoor.Steps Go.Proofs.YtmkcooamgojbpaaDoor.Cmds
attribute [local go_sem ↓] Go.wp_at_zero Go.wp_at_succ
set_option linter.unusedVariables false

theorem right_z (s : Stp) : rightZ s.k s.y s.v s.l.length = rightS s := by
  obtain ⟨k, y, v, l⟩ := s
  unfold rightZ rightS
  dsimp only
  have e : decide ((l.length : Int) = 0) = l.isEmpty := by
    cases l with
    | nil => rfl
    | cons a l => simp; omega
  have e2 : decide ((l.length : Int) ≤ 64) = decide (l.length ≤ 64) := by rw [decide_eq_decide]; omega
  rw [e, e2]
/-- Bytes as a line has them. -/
def rawS (m : List Nat) : Tok := tRaw ++ if m = [] then [] else 32 :: hexF m
theorem rawS_snoc (m : List Nat) (b : Nat) : rawS (m ++ [b]) = rawS m ++ (if m = [] then [32] else []) ++ [hx (b / 16), hx (b % 16)] := by
  unfold rawS
  rw [if_neg (by simp)]
  by_cases h : m = []
  · subst h; simp [hexF]
  · rw [if_neg h, if_neg h]; simp [hexF]
theorem rawS_len (m : List Nat) : (rawS m).length ≤ 4 + 2 * m.length := by
  unfold rawS
  have := hex_len m
  have h3 : tRaw.length = 3 := rfl
  rw [List.length_append]
  split
  · simp; omega
  · simp; omega
/-- A line, of a step's bytes somewhere. -/
def LnDs (s : Stp) (w : World) (e : Ending) (w' : World) : Prop := LineIs (lineF s) w e w'
theorem ln_eq {s : Stp} (h : rightS s = true) : (lineF s).getD [] = joinW 32 (wordsF s) ∧ (lineF s).isSome = true := by unfold lineF; rw [if_pos h]; exact ⟨rfl, rfl⟩
theorem ln_none {s : Stp} (h : rightS s = false) : lineF s = none := by unfold lineF; rw [h]; rfl
set_option maxRecDepth 20000 in
set_option maxHeartbeats 4000000 in
theorem rline_wrong (k y v : Int) (l : List Nat) (ua : Option Addr) (uc : Nat) (hr : rightS ⟨k, y, v, l⟩ = false) (w : World) :
    Calls Tryd.prog 53 #[.agg (stepC k y v (.slice ua l.length uc))] w (LnDs ⟨k, y, v, l⟩ w) := by
  have HN := Lib.hid (ln_none hr)
  have HX := Lib.hid (Blk.new w (stepC k y v (.slice ua l.length uc)) 42 w.heap.size rfl)
  have HR := Lib.hid ((right_z ⟨k, y, v, l⟩).trans hr)
  clear hr
  go_enter Tryd.func53, Tryd.ntmps53
  go_wp2_with (refine load_blk (by rfl) 42 _ (by rfl) w.heap.size (by rfl) _ _ HX.out _ Tryd.underlying42 rfl (by kernel_rfl) ?_)
  refine (rsright_any k y v ua l.length uc _).mono ?_
  rintro e w1 ⟨rfl, hb⟩
  have HB := Lib.hid (((Below.refl w.heap.size w).alloc (Nat.le_refl _) (.cells (stepC k y v (.slice ua l.length uc)) 42)).trans (hb.mono (by simp)))
  replace HX := Lib.hid (HX.out.below hb (by simp))
  clear hb
  rw [HR.out]
  go_wp2_with fail
  go_ret2
  exact ⟨by rw [HN.out]; rfl, HB.out⟩
set_option maxRecDepth 20000 in
set_option maxHeartbeats 4000000 in
theorem rline_num (k y v : Int) (hk : k = 2 ∨ k = 3) (hv : -9223372036854775808 ≤ v ∧ v ≤ 9223372036854775807) (l : List Nat) (ua : Option Addr) (uc : Nat) (hr : rightS ⟨k, y, v, l⟩ = true) (w : World) :
    Calls Tryd.prog 53 #[.agg (stepC k y v (.slice ua l.length uc))] w (LnDs ⟨k, y, v, l⟩ w) := by
  have HL := Lib.hid (ln_eq hr)
  have hz : (strB (decB v)).size ≤ 20 := by rw [strB_size]; exact dec_len hv.1 hv.2
  rcases hk with rfl | rfl
  · have HS := Lib.hid (show strB (joinW 32 (wordsF ⟨2, y, v, l⟩)) = (⟨#[116, 105, 99, 107, 32]⟩ : ByteArray) ++ strB (decB v) from (strB_app [116, 105, 99, 107, 32] _).symm)
    have HX := Lib.hid (Blk.new w (stepC 2 y v (.slice ua l.length uc)) 42 w.heap.size rfl)
    have HR := Lib.hid ((right_z ⟨2, y, v, l⟩).trans hr)
    clear hr
    go_enter Tryd.func53, Tryd.ntmps53
    go_wp2_with (refine load_blk (by rfl) 42 _ (by rfl) w.heap.size (by rfl) _ _ HX.out _ Tryd.underlying42 rfl (by kernel_rfl) ?_)
    refine (rsright_any 2 y v ua l.length uc _).mono ?_
    rintro e w1 ⟨rfl, hb⟩
    have HB := Lib.hid (((Below.refl w.heap.size w).alloc (Nat.le_refl _) (.cells (stepC 2 y v (.slice ua l.length uc)) 42)).trans (hb.mono (by simp)))
    replace HX := Lib.hid (HX.out.below hb (by simp))
    clear hb
    rw [HR.out]
    have c0 : w1.cell? ⟨w.heap.size, 0, none⟩ = some (.int .i64 2) := HX.out.cell 0 rfl
    have c2 : w1.cell? ⟨w.heap.size, 2, none⟩ = some (.int .i64 v) := HX.out.cell 2 rfl
    go_wp2_with fail
    refine (rdecimal_any v hv.1 hv.2 w1).mono ?_
    rintro e w2 ⟨rfl, hb⟩
    have HB2 := Lib.hid (HB.out.trans (hb.mono HB.out.size))
    clear hb c0 c2
    generalize hT : strB (decB v) = T at hz
    have HT := Lib.hid hT
    have hg : ¬ 9223372036854775807 < 5 + T.size := by omega
    clear hT
    go_wp2_with fail
    go_ret2
    refine ⟨?_, HB2.out⟩
    rw [HL.out.1, HL.out.2, HS.out, ← HT.out]
    rfl
  · have HS := Lib.hid (show strB (joinW 32 (wordsF ⟨3, y, v, l⟩)) = (⟨#[105, 110, 100, 101, 120, 32]⟩ : ByteArray) ++ strB (decB v) from (strB_app [105, 110, 100, 101, 120, 32] _).symm)
    have HX := Lib.hid (Blk.new w (stepC 3 y v (.slice ua l.length uc)) 42 w.heap.size rfl)
    have HR := Lib.hid ((right_z ⟨3, y, v, l⟩).trans hr)
    clear hr
    go_enter Tryd.func53, Tryd.ntmps53
    go_wp2_with (refine load_blk (by rfl) 42 _ (by rfl) w.heap.size (by rfl) _ _ HX.out _ Tryd.underlying42 rfl (by kernel_rfl) ?_)
    refine (rsright_any 3 y v ua l.length uc _).mono ?_
    rintro e w1 ⟨rfl, hb⟩
    have HB := Lib.hid (((Below.refl w.heap.size w).alloc (Nat.le_refl _) (.cells (stepC 3 y v (.slice ua l.length uc)) 42)).trans (hb.mono (by simp)))
    replace HX := Lib.hid (HX.out.below hb (by simp))
    clear hb
    rw [HR.out]
    have c0 : w1.cell? ⟨w.heap.size, 0, none⟩ = some (.int .i64 3) := HX.out.cell 0 rfl
    have c2 : w1.cell? ⟨w.heap.size, 2, none⟩ = some (.int .i64 v) := HX.out.cell 2 rfl
    go_wp2_with fail
    refine (rdecimal_any v hv.1 hv.2 w1).mono ?_
    rintro e w2 ⟨rfl, hb⟩
    have HB2 := Lib.hid (HB.out.trans (hb.mono HB.out.size))
    clear hb c0 c2
    generalize hT : strB (decB v) = T at hz
    have HT := Lib.hid hT
    have hg : ¬ 9223372036854775807 < 6 + T.size := by omega
    clear hT
    go_wp2_with fail
    go_ret2
    refine ⟨?_, HB2.out⟩
    rw [HL.out.1, HL.out.2, HS.out, ← HT.out]
    rfl
set_option maxRecDepth 20000 in
set_option maxHeartbeats 4000000 in
theorem rline_bid (y v : Int) (hy : 0 ≤ y ∧ y ≤ 255) (hv : -9223372036854775808 ≤ v ∧ v ≤ 9223372036854775807) (l : List Nat) (ua : Option Addr) (uc : Nat) (hr : rightS ⟨4, y, v, l⟩ = true) (w : World) :
    Calls Tryd.prog 53 #[.agg (stepC 4 y v (.slice ua l.length uc))] w (LnDs ⟨4, y, v, l⟩ w) := by
  have HL := Lib.hid (ln_eq hr)
  have tT0 : (strB (decB y)).size ≤ 20 := by rw [strB_size]; exact dec_len (by omega) (by omega)
  have tT1 : (strB (decB v)).size ≤ 20 := by rw [strB_size]; exact dec_len hv.1 hv.2
  obtain ⟨T0, qT0⟩ : ∃ T, strB (decB y) = T := ⟨_, rfl⟩
  obtain ⟨T1, qT1⟩ : ∃ T, strB (decB v) = T := ⟨_, rfl⟩
  rw [qT0] at tT0
  rw [qT1] at tT1
  obtain ⟨P1, r1⟩ : ∃ P, (⟨#[98, 105, 100, 32]⟩ : ByteArray) ++ T0 = P := ⟨_, rfl⟩
  have g1 : ¬ 9223372036854775807 < 4 + T0.size := by omega
  have t1 : P1.size ≤ 24 := by rw [← r1, ByteArray.size_append]; show 4 + _ ≤ _; omega
  obtain ⟨P2, r2⟩ : ∃ P, P1 ++ (⟨#[32]⟩ : ByteArray) = P := ⟨_, rfl⟩
  have g2 : ¬ 9223372036854775807 < P1.size + 1 := by omega
  have t2 : P2.size ≤ 25 := by rw [← r2, ByteArray.size_append]; show _ + 1 ≤ _; omega
  obtain ⟨P3, r3⟩ : ∃ P, P2 ++ T1 = P := ⟨_, rfl⟩
  have g3 : ¬ 9223372036854775807 < P2.size + T1.size := by omega
  have HS := Lib.hid (show strB (joinW 32 (wordsF ⟨4, y, v, l⟩)) = P3 by
    rw [← r3, ← r2, ← r1, ← qT0, ← qT1, show (⟨#[32]⟩ : ByteArray) = strB [32] from rfl, show (⟨#[98, 105, 100, 32]⟩ : ByteArray) = strB [98, 105, 100, 32] from rfl]
    simp only [strB_app]
    congr 1
    show joinW 32 [tBid, decB y, decB v] = _
    simp [joinW, tBid])
  clear tT0 tT1 t1 t2
  have HX := Lib.hid (Blk.new w (stepC 4 y v (.slice ua l.length uc)) 42 w.heap.size rfl)
  have HR := Lib.hid ((right_z ⟨4, y, v, l⟩).trans hr)
  clear hr
  go_enter Tryd.func53, Tryd.ntmps53
  go_wp2_with (refine load_blk (by rfl) 42 _ (by rfl) w.heap.size (by rfl) _ _ HX.out _ Tryd.underlying42 rfl (by kernel_rfl) ?_)
  refine (rsright_any 4 y v ua l.length uc _).mono ?_
  rintro e w1 ⟨rfl, hb⟩
  have HB := Lib.hid (((Below.refl w.heap.size w).alloc (Nat.le_refl _) (.cells (stepC 4 y v (.slice ua l.length uc)) 42)).trans (hb.mono (by simp)))
  replace HX := Lib.hid (HX.out.below hb (by simp))
  clear hb
  rw [HR.out]
  have c0 : w1.cell? ⟨w.heap.size, 0, none⟩ = some (.int .i64 4) := HX.out.cell 0 rfl
  go_upto_region 9 with fail
  refine wp_region_held_drew (S := (fun w' => w'.cell? ⟨w.heap.size, 1, none⟩ = some (.int .i64 y) ∧ w'.cell? ⟨w.heap.size, 2, none⟩ = some (.int .i64 v))) (by kernel_rfl) ⟨HX.out.cell 1 rfl, HX.out.cell 2 rfl⟩ (fun hHeld => ?_)
  replace HX := Lib.hid HX.out.drew
  replace HB := Lib.hid HB.out.drew
  clear c0
  generalize w1.drew = w2 at HX HB hHeld ⊢
  refine wpAnyH_take (i := 0) (oi := ⟨some 27, _, _, _, _, _⟩) (v := ?_) rfl (by kernel_rfl) (by kernel_rfl) (by kernel_rfl) (fun _ _ _ h => h) (Or.inl ⟨by rfl, ?_⟩) (by assumption) ?_
  rotate_left
  · (intro w hSw; (try dsimp only at hSw); go_simp; (try with_reducible rfl))
  simp only [Act.put, List.setIfInBounds_toArray, List.set_cons_zero, List.set_cons_succ]
  refine wpAnyH_take (i := 1) (oi := ⟨some 28, _, _, _, _, _⟩) (v := ?_) rfl (by kernel_rfl) (by kernel_rfl) (by kernel_rfl) (fun _ _ _ h => h) (Or.inl ⟨by rfl, ?_⟩) (by assumption) ?_
  rotate_left
  · (intro w hSw; (try dsimp only at hSw); go_simp; (try with_reducible rfl))
  simp only [Act.put, List.setIfInBounds_toArray, List.set_cons_zero, List.set_cons_succ]
  refine wpAnyH_take (i := 5) (oi := ⟨some 32, _, _, _, _, _⟩) (v := ?_) rfl (by kernel_rfl) (by kernel_rfl) (by kernel_rfl) (fun _ _ _ h => h) (Or.inl ⟨by rfl, ?_⟩) (by assumption) ?_
  rotate_left
  · (intro w hSw; (try dsimp only at hSw); go_simp; (try with_reducible rfl))
  simp only [Act.put, List.setIfInBounds_toArray, List.set_cons_zero, List.set_cons_succ]
  refine wpAnyH_take (i := 6) (oi := ⟨some 33, _, _, _, _, _⟩) (v := ?_) rfl (by kernel_rfl) (by kernel_rfl) (by kernel_rfl) (fun _ _ _ h => h) (Or.inl ⟨by rfl, ?_⟩) (by assumption) ?_
  rotate_left
  · (intro w hSw; (try dsimp only at hSw); go_simp; (try with_reducible rfl))
  simp only [Act.put, List.setIfInBounds_toArray, List.set_cons_zero, List.set_cons_succ]
  refine wpAnyH_ready (rs := [2]) (by kernel_rfl) (by simp) ?_
  refine AllReadyH.cons (o := ⟨some 29, _, _, _, _, _⟩) rfl (fun KK hK => ?_) AllReadyH.nil
  go_simp
  refine (rdecimal_any _ (by omega) (by omega) _).mono ?_
  rintro e WX1 ⟨rfl, hb⟩
  replace HX := Lib.hid (HX.out.below hb HX.out.lt)
  replace HB := Lib.hid (HB.out.trans (hb.mono HB.out.size))
  clear hb
  refine hK.out _ _ ⟨HX.out.cell 1 rfl, HX.out.cell 2 rfl⟩ (fun hHeld => ?_)
  clear hK; try clear KK
  try simp only [Act.put, List.setIfInBounds_toArray, List.set_cons_zero, List.set_cons_succ]
  refine wpAnyH_take (i := 3) (oi := ⟨some 30, _, _, _, _, _⟩) (v := ?_) rfl (by kernel_rfl) (by kernel_rfl) (by kernel_rfl) (fun _ _ _ h => h) (Or.inl ⟨by rfl, ?_⟩) (by assumption) ?_
  rotate_left
  · (intro w hSw; (try dsimp only at hSw); go_simp; (try with_reducible rfl))
  simp only [Act.put, List.setIfInBounds_toArray, List.set_cons_zero, List.set_cons_succ]
  refine wpAnyH_take (i := 4) (oi := ⟨some 31, _, _, _, _, _⟩) (v := ?_) rfl (by kernel_rfl) (by kernel_rfl) (by kernel_rfl) (fun _ _ _ h => h) (Or.inl ⟨by rfl, ?_⟩) (by assumption) ?_
  rotate_left
  · (intro w hSw; (try dsimp only at hSw); go_simp; (try with_reducible rfl))
  simp only [Act.put, List.setIfInBounds_toArray, List.set_cons_zero, List.set_cons_succ]
  refine wpAnyH_ready (rs := [7]) (by kernel_rfl) (by simp) ?_
  refine AllReadyH.cons (o := ⟨some 34, _, _, _, _, _⟩) rfl (fun KK hK => ?_) AllReadyH.nil
  go_simp
  refine (rdecimal_any _ (by omega) (by omega) _).mono ?_
  rintro e WX2 ⟨rfl, hb⟩
  replace HX := Lib.hid (HX.out.below hb HX.out.lt)
  replace HB := Lib.hid (HB.out.trans (hb.mono HB.out.size))
  clear hb
  refine hK.out _ _ ⟨HX.out.cell 1 rfl, HX.out.cell 2 rfl⟩ (fun hHeld => ?_)
  clear hK; try clear KK
  try simp only [Act.put, List.setIfInBounds_toArray, List.set_cons_zero, List.set_cons_succ]
  refine wpAnyH_take (i := 8) (oi := ⟨some 35, _, _, _, _, _⟩) (v := ?_) rfl (by kernel_rfl) (by kernel_rfl) (by kernel_rfl) (fun _ _ _ h => h) (Or.inl ⟨by rfl, ?_⟩) (by assumption) ?_
  rotate_left
  · (intro w hSw; (try dsimp only at hSw); go_simp; (try with_reducible rfl))
  simp only [Act.put, List.setIfInBounds_toArray, List.set_cons_zero, List.set_cons_succ]
  refine wpAnyH_take (i := 9) (oi := ⟨some 2, _, _, _, _, _⟩) (v := ?_) rfl (by kernel_rfl) (by kernel_rfl) (by kernel_rfl) (fun _ _ _ h => h) (Or.inl ⟨by rfl, ?_⟩) (by assumption) ?_
  rotate_left
  · (intro w hSw; (try dsimp only at hSw); go_simp; (try with_reducible rfl))
  simp only [Act.put, List.setIfInBounds_toArray, List.set_cons_zero, List.set_cons_succ]
  refine wpAnyH_take (i := 10) (oi := ⟨some 3, _, _, _, _, _⟩) (v := ?_) rfl (by kernel_rfl) (by kernel_rfl) (by kernel_rfl) (fun _ _ _ h => h) (Or.inl ⟨by rfl, ?_⟩) (by assumption) ?_
  rotate_left
  · (intro w hSw; (try dsimp only at hSw); go_simp; (try with_reducible rfl))
  simp only [Act.put, List.setIfInBounds_toArray, List.set_cons_zero, List.set_cons_succ]
  refine wpAnyH_done (by kernel_rfl) ?_ _
  clear hHeld
  go_wp2_with fail
  go_ret2
  refine ⟨?_, HB.out⟩
  rw [HL.out.1, HL.out.2, HS.out]
  rfl
set_option maxRecDepth 20000 in
set_option maxHeartbeats 4000000 in
theorem rline_cmd (M : Nat) (l l' : List Nat) (c : Cmd) (hd : decF l = .ok c l') (hby : ∀ b ∈ l, b < 256) (hl : l.length ≤ 100000) (ua : Option Addr) (uc : Nat) (hr : rightS ⟨1, 0, 0, l⟩ = true) (w : World) (hM : M ≤ w.heap.size) (ha : AtB 0 M l (.slice ua l.length uc) w) :
    Calls Tryd.prog 53 #[.agg (stepC 1 0 0 (.slice ua l.length uc))] w (LnDs ⟨1, 0, 0, l⟩ w) := by
  have HL := Lib.hid (ln_eq hr)
  obtain ⟨rfl, hc, hf, hp, hq⟩ := dec_ok hby hd
  obtain ⟨ck, cs, ci, ca, cb, ct, cp, cq, cf⟩ := c
  generalize hC : (⟨ck, cs, ci, ca, cb, ct, cp, cq, cf⟩ : Cmd) = c at hd hc hf hp hq
  have HCC := Lib.hid hC
  have HW := Lib.hid (show wordsF ⟨1, 0, 0, l⟩ = wordsC c by unfold wordsF; dsimp only; rw [if_neg (by decide), if_neg (by decide), if_neg (by decide), hd])
  have HV := Lib.hid (show decV (decF l) = (c, 0) by rw [hd]; rfl)
  have HD := Lib.hid (fun w2 (hb : Below w.heap.size w w2) (hs : w.heap.size ≤ w2.heap.size) => rdecode_any M l hl hby _ w2 (ha.below hM hb) (Nat.le_trans hM hs))
  have HC := Lib.hid (fun w => rcommand_any c hc hp hq w)
  clear hby hd ha hc hf hp hq
  have HX := Lib.hid (Blk.new w (stepC 1 0 0 (.slice ua l.length uc)) 42 w.heap.size rfl)
  have HR := Lib.hid ((right_z ⟨1, 0, 0, l⟩).trans hr)
  clear hr
  go_enter Tryd.func53, Tryd.ntmps53
  go_wp2_with (refine load_blk (by rfl) 42 _ (by rfl) w.heap.size (by rfl) _ _ HX.out _ Tryd.underlying42 rfl (by kernel_rfl) ?_)
  refine (rsright_any 1 0 0 ua l.length uc _).mono ?_
  rintro e w1 ⟨rfl, hb⟩
  have HB := Lib.hid (((Below.refl w.heap.size w).alloc (Nat.le_refl _) (.cells (stepC 1 0 0 (.slice ua l.length uc)) 42)).trans (hb.mono (by simp)))
  replace HX := Lib.hid (HX.out.below hb (by simp))
  clear hb
  rw [HR.out]
  have c0 : w1.cell? ⟨w.heap.size, 0, none⟩ = some (.int .i64 1) := HX.out.cell 0 rfl
  have c3 : w1.cell? ⟨w.heap.size, 3, none⟩ = some (.slice ua l.length uc) := HX.out.cell 3 rfl
  go_wp2_with fail
  refine (HD.out w1 HB.out HB.out.size).mono ?_
  rintro e w2 ⟨rfl, hb2⟩
  rw [HV.out, ← HCC.out]
  dsimp only [Cmd.cells]
  replace HB := Lib.hid ((HB.out.trans (hb2.mono HB.out.size)).alloc (Nat.le_trans HB.out.size hb2.size) (.cells #[.int .i64 ck, .int .i64 cs, .int .i64 ci, .int .i64 ca, .int .i64 cb, .int .i64 ct, .int .i64 cp, .int .i64 cq, .int .i64 cf] 164))
  have HY := Lib.hid (Blk.new w2 #[.int .i64 ck, .int .i64 cs, .int .i64 ci, .int .i64 ca, .int .i64 cb, .int .i64 ct, .int .i64 cp, .int .i64 cq, .int .i64 cf] 164 w2.heap.size rfl)
  clear hb2 c0 c3 HX
  go_upto_region 11 with fail
  generalize w2.alloc (.cells #[.int .i64 ck, .int .i64 cs, .int .i64 ci, .int .i64 ca, .int .i64 cb, .int .i64 ct, .int .i64 cp, .int .i64 cq, .int .i64 cf] 164) = w3 at HB HY ⊢
  generalize w2.heap.size = C at HY ⊢
  have HC2 := Lib.hid (HC.out w3)
  rw [← HCC.out] at HC2
  dsimp only [Cmd.cells] at HC2
  go_wp2_with (refine load_blk (by rfl) 164 _ (by rfl) C (by rfl) _ _ HY.out _ Tryd.underlying164 rfl (by kernel_rfl) ?_)
  refine HC2.out.mono ?_
  rintro e w4 ⟨rfl, hb4⟩
  replace HB := Lib.hid (HB.out.trans (hb4.mono HB.out.size))
  clear hb4 HC2
  go_wp2_with fail
  go_ret2
  refine ⟨?_, HB.out⟩
  rw [HL.out.1, HL.out.2, HW.out, ← HCC.out]
  rfl
theorem hex_cut (d : Nat) (h : d < 16) : (⟨#[48, 49, 50, 51, 52, 53, 54, 55, 56, 57, 97, 98, 99, 100, 101, 102]⟩ : ByteArray).extract d (d + 1) = strB [hx d] := by
  apply ByteArray.ext
  have : ∀ d : Fin 16, ((⟨#[48, 49, 50, 51, 52, 53, 54, 55, 56, 57, 97, 98, 99, 100, 101, 102]⟩ : ByteArray).extract d.1 (d.1 + 1)).data = (strB [hx d.1]).data := by decide +kernel
  exact this ⟨d, h⟩
set_option maxRecDepth 20000 in
set_option maxHeartbeats 4000000 in
theorem rline_raw (M : Nat) (l : List Nat) (f : Int) (hd : decF l = .bad f) (hby : ∀ b ∈ l, b < 256) (ua : Option Addr) (uc : Nat) (hr : rightS ⟨1, 0, 0, l⟩ = true) (w : World) (hM : M ≤ w.heap.size) (ha : AtB 0 M l (.slice ua l.length uc) w) :
    Calls Tryd.prog 53 #[.agg (stepC 1 0 0 (.slice ua l.length uc))] w (LnDs ⟨1, 0, 0, l⟩ w) := by
  have HL := Lib.hid (ln_eq hr)
  have hl : l.length ≤ 64 := by
    have h : ((0 : Int) == 0 && ((0 : Int) == 0 && decide (l.length ≤ 64))) = true := hr
    simpa using h
  have hf : (f == 0) = false := beq_eq_false_iff_ne.2 (dec_bad_ne l f hd)
  have HW := Lib.hid (show joinW 32 (wordsF ⟨1, 0, 0, l⟩) = rawS l by
    unfold wordsF rawS
    dsimp only
    rw [if_neg (by decide), if_neg (by decide), if_neg (by decide), hd]
    dsimp only
    by_cases h : l = []
    · rw [if_pos h, if_pos h]; simp [joinW]
    · rw [if_neg h, if_neg h]; rfl)
  have HV := Lib.hid (show decV (decF l) = (zeroC, f) by rw [hd]; rfl)
  have HD := Lib.hid (fun w2 (hb : Below w.heap.size w w2) (hs : w.heap.size ≤ w2.heap.size) => rdecode_any M l (by omega) hby _ w2 (ha.below hM hb) (Nat.le_trans hM hs))
  have HA := Lib.hid (fun w2 (hb : Below w.heap.size w w2) => ha.below hM hb)
  have HBY := Lib.hid hby
  clear hby hd ha
  have HX := Lib.hid (Blk.new w (stepC 1 0 0 (.slice ua l.length uc)) 42 w.heap.size rfl)
  have HR := Lib.hid ((right_z ⟨1, 0, 0, l⟩).trans hr)
  clear hr
  go_enter Tryd.func53, Tryd.ntmps53
  go_wp2_with (refine load_blk (by rfl) 42 _ (by rfl) w.heap.size (by rfl) _ _ HX.out _ Tryd.underlying42 rfl (by kernel_rfl) ?_)
  refine (rsright_any 1 0 0 ua l.length uc _).mono ?_
  rintro e w1 ⟨rfl, hb⟩
  have HB := Lib.hid (((Below.refl w.heap.size w).alloc (Nat.le_refl _) (.cells (stepC 1 0 0 (.slice ua l.length uc)) 42)).trans (hb.mono (by simp)))
  replace HX := Lib.hid (HX.out.below hb (by simp))
  clear hb
  rw [HR.out]
  have c0 : w1.cell? ⟨w.heap.size, 0, none⟩ = some (.int .i64 1) := HX.out.cell 0 rfl
  have c3 : w1.cell? ⟨w.heap.size, 3, none⟩ = some (.slice ua l.length uc) := HX.out.cell 3 rfl
  go_wp2_with fail
  refine (HD.out w1 HB.out HB.out.size).mono ?_
  rintro e w2 ⟨rfl, hb2⟩
  rw [HV.out]
  dsimp only [Cmd.cells, zeroC]
  replace HB := Lib.hid ((HB.out.trans (hb2.mono HB.out.size)).alloc (Nat.le_trans HB.out.size hb2.size) (.cells zero9 164))
  replace HX := Lib.hid ((HX.out.below hb2 HX.out.lt).old (.cells zero9 164))
  clear hb2 c0 c3 HD
  go_upto_region 11 with fail
  change Code.wp _ _ _ _ (w2.alloc (.cells zero9 164))
  generalize w2.alloc (.cells zero9 164) = w3 at HB HX ⊢
  generalize w2.heap.size = C
  replace HA := Lib.hid (HA.out w3 HB.out)
  go_wp2_with fail
  go_loopw [6, 7] (fun sv iv wr => ∃ k : Nat, k ≤ l.length ∧ iv = .int .i64 (k : Int) ∧ sv = .string (strB (rawS (l.take k))) ∧ Blk wr w.heap.size (stepC 1 0 0 (.slice ua l.length uc)) 42 ∧ Below w.heap.size w wr ∧ AtB 0 M l (.slice ua l.length uc) wr) (fun _ iv _ => l.length - (intOf iv).toNat)
  case atStart => exact ⟨0, by omega, rfl, rfl, HX.out, HB.out, HA.out⟩
  case round =>
    obtain ⟨k, hk, rfl, rfl, hx, hb, ha⟩ := hrel
    replace HX := Lib.hid hx
    replace HB := Lib.hid hb
    replace HA := Lib.hid ha
    clear hx hb ha
    have c3 : wr.cell? ⟨w.heap.size, 3, none⟩ = some (.slice ua l.length uc) := HX.out.cell 3 rfl
    by_cases hlt : k < l.length
    · have g1 : (k : Int) < (l.length : Int) := by omega
      have cj : ∃ g o, ua = some ⟨g, o, none⟩ ∧ wr.cell? ⟨g, o + k, none⟩ = some (.int .u8 (l[k] : Int)) := by
        rcases HA.out with ⟨h1, -⟩ | ⟨g, o, c', he, -, -, -, -, hcell⟩
        · rw [h1] at hlt; simp at hlt
        · injection he with he1 he2 he3
          exact ⟨g, o, he1, hcell k hlt⟩
      obtain ⟨g, o, rfl, cj⟩ := cj
      have hb := HBY.out l[k] (List.getElem_mem hlt)
      have HN := Lib.hid (show rawS (l.take (k + 1)) = rawS (l.take k) ++ (if l.take k = [] then [32] else []) ++ [hx (l[k] / 16), hx (l[k] % 16)] by rw [List.take_succ_eq_append_getElem hlt, rawS_snoc])
      generalize l[k] = b at cj hb HN
      have e1 : (b : Int) / 16 = ((b / 16 : Nat) : Int) := by omega
      have e2 : (b : Int) % 16 = ((b % 16 : Nat) : Int) := by omega
      have hd1 : b / 16 < 16 := by omega
      have hd2 : b % 16 < 16 := by omega
      generalize b / 16 = d1 at e1 hd1 HN
      generalize b % 16 = d2 at e2 hd2 HN
      have x1 := hex_cut d1 hd1
      have x2 := hex_cut d2 hd2
      have hs0 : (strB (rawS (l.take k))).size ≤ 140 := by rw [strB_size]; have := rawS_len (l.take k); rw [List.length_take] at this; omega
      obtain ⟨H1, h1⟩ : ∃ H, strB [hx d1] = H := ⟨_, rfl⟩
      obtain ⟨H2, h2⟩ : ∃ H, strB [hx d2] = H := ⟨_, rfl⟩
      have z1 : H1.size = 1 := by rw [← h1, strB_size]; rfl
      have z2 : H2.size = 1 := by rw [← h2, strB_size]; rfl
      rw [h1] at x1
      rw [h2] at x2
      have HH1 := Lib.hid h1
      have HH2 := Lib.hid h2
      clear h1 h2
      have b1 : (d1 : Int) < 16 := by omega
      have b2 : (d2 : Int) < 16 := by omega
      generalize hs' : strB (rawS (l.take k)) = S0 at hs0 ⊢
      have HS := Lib.hid hs'
      clear hs'
      by_cases hk0 : k = 0
      · have HT := Lib.hid (show l.take k = [] by rw [hk0]; rfl)
        have z0 : ((k : Int) == 0) = true := beq_iff_eq.2 (by omega)
        obtain ⟨S1, hs1⟩ : ∃ P, S0 ++ (⟨#[32]⟩ : ByteArray) = P := ⟨_, rfl⟩
        have hg1 : ¬ 9223372036854775807 < S0.size + 1 := by omega
        have hz1 : S1.size ≤ 141 := by rw [← hs1, ByteArray.size_append]; show _ + 1 ≤ _; omega
        have HS1 := Lib.hid (show S1 = strB (rawS (l.take k) ++ (if l.take k = [] then [32] else [])) by rw [if_pos HT.out, ← hs1, ← HS.out, show (⟨#[32]⟩ : ByteArray) = strB [32] from rfl, strB_app])
        clear hk0
        obtain ⟨S2, hs2⟩ : ∃ P, S1 ++ H1 = P := ⟨_, rfl⟩
        have hg2 : ¬ 9223372036854775807 < (S1).size + H1.size := by omega
        have hz2 : S2.size ≤ 142 := by rw [← hs2, ByteArray.size_append]; omega
        obtain ⟨S3, hs3⟩ : ∃ P, S2 ++ H2 = P := ⟨_, rfl⟩
        have hg3 : ¬ 9223372036854775807 < S2.size + H2.size := by omega
        have HS3 := Lib.hid (show S3 = strB (rawS (l.take (k + 1))) by rw [HN.out, ← hs3, ← hs2, HS1.out, ← HH1.out, ← HH2.out, strB_app, strB_app]; congr 1; simp)
        clear hz1 hz2 hs0
        rw [z1] at hg2
        rw [z2] at hg3
        go_upto_region 19 with fail
        go_quiet (fail)
        replace HX := Lib.hid (HX.out.drewN nq)
        replace HB := Lib.hid (HB.out.drewN nq)
        replace HA := Lib.hid (HA.out.below (Nat.le_refl _) ((Below.refl _ _).drewN nq))
        go_wp2_with fail
        go_roundw
        case rel => exact ⟨k + 1, by omega, by go_num, by rw [← HS3.out], HX.out, HB.out, HA.out⟩
        case measure => simp [intOf]; omega
      · have HT := Lib.hid (show ¬ l.take k = [] by rw [List.take_eq_nil_iff]; rintro (h | h); exact hk0 h; rw [h] at hlt; simp at hlt)
        have z0 : ((k : Int) == 0) = false := beq_eq_false_iff_ne.2 (by omega)
        have HS1 := Lib.hid (show S0 = strB (rawS (l.take k) ++ (if l.take k = [] then [32] else [])) by rw [if_neg HT.out, List.append_nil, HS.out])
        have hz1 : S0.size ≤ 141 := by omega
        clear hk0
        obtain ⟨S2, hs2⟩ : ∃ P, S0 ++ H1 = P := ⟨_, rfl⟩
        have hg2 : ¬ 9223372036854775807 < (S0).size + H1.size := by omega
        have hz2 : S2.size ≤ 142 := by rw [← hs2, ByteArray.size_append]; omega
        obtain ⟨S3, hs3⟩ : ∃ P, S2 ++ H2 = P := ⟨_, rfl⟩
        have hg3 : ¬ 9223372036854775807 < S2.size + H2.size := by omega
        have HS3 := Lib.hid (show S3 = strB (rawS (l.take (k + 1))) by rw [HN.out, ← hs3, ← hs2, HS1.out, ← HH1.out, ← HH2.out, strB_app, strB_app]; congr 1; simp)
        clear hz1 hz2 hs0
        rw [z1] at hg2
        rw [z2] at hg3
        go_upto_region 19 with fail
        go_quiet (fail)
        replace HX := Lib.hid (HX.out.drewN nq)
        replace HB := Lib.hid (HB.out.drewN nq)
        replace HA := Lib.hid (HA.out.below (Nat.le_refl _) ((Below.refl _ _).drewN nq))
        go_wp2_with fail
        go_roundw
        case rel => exact ⟨k + 1, by omega, by go_num, by rw [← HS3.out], HX.out, HB.out, HA.out⟩
        case measure => simp [intOf]; omega
    · obtain rfl : k = l.length := by omega
      rw [List.take_length]
      go_wp2_with fail
      go_ret2
      refine ⟨?_, HB.out⟩
      rw [HL.out.1, HL.out.2, HW.out]
      rfl
/-- damperref35.Line, of any step. -/
theorem rline_any (M : Nat) (s : Stp) (hin : StpIn s) (hl : s.l.length ≤ 100000) (u : Value) (w : World) (hM : M ≤ w.heap.size) (ha : AtB 0 M s.l u w) :
    Calls Tryd.prog 53 #[.agg (stepC s.k s.y s.v u)] w (LineIs (lineF s) w) := by
  obtain ⟨k, y, v, l⟩ := s
  obtain ⟨hv, hb⟩ := hin
  dsimp only at *
  obtain ⟨a, c, rfl, -, -⟩ := ha.len
  cases hr : rightS ⟨k, y, v, l⟩ with
  | false => exact rline_wrong k y v l a c hr w
  | true =>
    by_cases h1 : k = 1
    · subst h1
      have h : (y == 0 && (v == 0 && decide (l.length ≤ 64))) = true := hr
      simp only [Bool.and_eq_true, beq_iff_eq] at h
      obtain ⟨rfl, rfl, -⟩ := h
      cases hd : decF l with
      | ok c' l' => exact rline_cmd M l l' c' hd hb hl a c hr w hM ha
      | bad f => exact rline_raw M l f hd hb a c hr w hM ha
    by_cases h2 : k = 2 ∨ k = 3
    · exact rline_num k y v h2 hv l a c hr w
    by_cases h4 : k = 4
    · subst h4
      have h : (l.isEmpty && (decide (0 ≤ y) && decide (y ≤ 255))) = true := hr
      simp only [Bool.and_eq_true, decide_eq_true_eq] at h
      exact rline_bid y v h.2 hv l a c hr w
    · exfalso
      have : rightS ⟨k, y, v, l⟩ = false := by unfold rightS; dsimp only; rw [if_neg h1, if_neg h2, if_neg h4]
      rw [this] at hr
      cases hr
end Go.Proofs.YtmkcooamgojbpaaDoor.Lines

/- damperref35.guess. -/
namespace Go.Proofs.YtmkcooamgojbpaaDoor.Lines
open Go.RowKit Go.Proofs.YtmkcooamgojbpaaDoor.Kit Go.Proofs.YtmkcooamgojbpaaDoor.Blk Go.Proofs.YtmkcooamgojbpaaDoor.Dec Go.Proofs.YtmkcooamgojbpaaDoor.Words Go.Proofs.YtmkcooamgojbpaaDoor.Octets Go.Proofs.YtmkcooamgojbpaaDoor.Steps Go.Proofs.YtmkcooamgojbpaaDoor.Cmds
attribute [local go_sem ↓] Go.wp_at_zero Go.wp_at_succ
set_option linter.unusedVariables false

/-- A step as an answer: its bytes are new. -/
def StepAns (s : Stp) (w : World) (e : Ending) (w' : World) : Prop := ∃ u, e = .returned (.agg (stepC s.k s.y s.v u)) ∧ BytesOf w.heap.size s.l u w' ∧ Below w.heap.size w w'
/-- What is known in guess: the answer's block, the command, the words. -/
structure GS (w : World) (C b : Nat) (ws : List Tok) (c : Cmd) (W : World) : Prop where
  z : Blk W w.heap.size (stepC 0 0 0 (.slice none 0 0)) 42
  c : Blk W C c.cells 164
  bel : Below w.heap.size w W
  row : ∀ j, (h : j < ws.length) → W.cell? ⟨b, j, none⟩ = some (.string (strB ws[j]))
  bC : b < w.heap.size
  C0 : w.heap.size < C
section
variable {w W W' : World} {C b : Nat} {ws : List Tok} {c c' : Cmd}
theorem GS.below (h : GS w C b ws c W) (hb : Below W.heap.size W W') : GS w C b ws c W' :=
  ⟨h.z.below hb h.z.lt, h.c.below hb h.c.lt, h.bel.trans (hb.mono h.bel.size), fun j hj => by rw [hb.cell (p := ⟨b, j, none⟩) (by show b < _; have := h.z.lt; have := h.bC; omega)]; exact h.row j hj, h.bC, h.C0⟩
theorem GS.drew (h : GS w C b ws c W) : GS w C b ws c W.drew := h.below (Below.refl _ _).drew
theorem GS.store (h : GS w C b ws c W) (j : Nat) (v : Value) (he : c.cells.setIfInBounds j v = c'.cells) : GS w C b ws c' (W.setCell ⟨C, j, none⟩ v) :=
  have h1 := h.C0; have h2 := h.bC
  ⟨h.z.apart _ _ (by show C ≠ _; omega), he ▸ h.c.set j v, h.bel.setCell (by show _ ≤ C; omega) _, fun i hi => by
    rw [World.cell?_of_block (w := W) (w' := W.setCell ⟨C, j, none⟩ v) (a := ⟨b, i, none⟩) (Below.heap_setCell _ _ _ _ (by show b ≠ C; omega))]; exact h.row i hi, h.bC, h.C0⟩
theorem GS.strRow {cp : Nat} (h : GS w C b ws c W) (h0 : 0 < ws.length) (hc : ws.length ≤ cp) : StrRow (.slice (some ⟨b, 0, none⟩) ws.length cp) ws W :=
  .inr ⟨h0, b, cp, rfl, hc, by have := h.z.lt; have := h.bC; omega, h.row⟩
end
theorem tok_eq (t x : Tok) : ((strB t).toList == x) = decide (t = x) := by rw [strB_toList']; by_cases h : t = x <;> simp [h]
set_option maxRecDepth 20000 in
set_option maxHeartbeats 4000000 in
theorem guess_tick (b cp : Nat) (t : Tok) (ht : t = tTick) (l : List Tok) (hl : ∀ x ∈ t :: l, x.length ≤ 100000) (hcp : l.length + 1 ≤ cp) (w : World) (hb : b < w.heap.size) (hrow : ∀ j, (h : j < (t :: l).length) → w.cell? ⟨b, j, none⟩ = some (.string (strB (t :: l)[j]))) :
    Calls Tryd.prog 81 #[.slice (some ⟨b, 0, none⟩) (l.length + 1) cp] w (StepAns (guessF (t :: l)) w) := by
  have HE := Lib.hid (show guessF (t :: l) = ⟨2, 0, nAt (t :: l) 1, []⟩ from by unfold guessF; rw [if_pos (show ((t :: l)[0]?).getD [] = tTick from ht)])
  have k1 : ((strB t).toList == [116, 105, 99, 107]) = decide (t = tTick) := tok_eq t _
  have k2 : ((strB t).toList == [105, 110, 100, 101, 120]) = decide (t = tIndex) := tok_eq t _
  have k3 : ((strB t).toList == [98, 105, 100]) = decide (t = tBid) := tok_eq t _
  have k4 : ((strB t).toList == [114, 97, 119]) = decide (t = tRaw) := tok_eq t _
  have k5 : ((strB t).toList == [99, 97, 110, 99, 101, 108]) = decide (t = tCancel) := tok_eq t _
  have k6 : ((strB t).toList == [114, 101, 112, 108, 97, 99, 101]) = decide (t = tReplace) := tok_eq t _
  have k7 : ((strB t).toList == [110, 101, 119]) = decide (t = tNew) := tok_eq t _
  rw [decide_eq_true ht] at k1
  rw [decide_eq_false (show ¬ t = tIndex from by rw [ht]; decide)] at k2
  rw [decide_eq_false (show ¬ t = tBid from by rw [ht]; decide)] at k3
  rw [decide_eq_false (show ¬ t = tRaw from by rw [ht]; decide)] at k4
  rw [decide_eq_false (show ¬ t = tCancel from by rw [ht]; decide)] at k5
  rw [decide_eq_false (show ¬ t = tReplace from by rw [ht]; decide)] at k6
  rw [decide_eq_false (show ¬ t = tNew from by rw [ht]; decide)] at k7
  clear ht
  have HZ0 := Lib.hid (Blk.new w (stepC 0 0 0 (.slice none 0 0)) 42 w.heap.size rfl)
  have HSR := Lib.hid ((show StrRow (.slice (some ⟨b, 0, none⟩) (l.length + 1) cp) (t :: l) w from .inr ⟨by simp, b, cp, rfl, by simpa using hcp, hb, hrow⟩).below ((Below.refl w.heap.size w).alloc (Nat.le_refl _) (.cells (stepC 0 0 0 (.slice none 0 0)) 42)))
  have HROW := Lib.hid hrow
  have HN := Lib.hid (fun j hj v W h => rnum_any v (t :: l) hl j hj W h)
  have HL := Lib.hid hl
  clear hrow hl
  go_enter Tryd.func81, Tryd.ntmps81
  go_wp2_with fail
  refine (HN.out 1 (by omega) _ _ HSR.out).mono ?_
  rintro e w1 ⟨rfl, hb1⟩
  replace HSR := Lib.hid (HSR.out.below hb1)
  replace HZ0 := Lib.hid (HZ0.out.below hb1 (by simp))
  have HB1 := Lib.hid (((Below.refl w.heap.size w).alloc (Nat.le_refl _) (.cells (stepC 0 0 0 (.slice none 0 0)) 42)).trans (hb1.mono (by simp)))
  clear hb1
  go_wp2_with fail
  refine (HN.out 2 (by omega) _ _ HSR.out).mono ?_
  rintro e w2 ⟨rfl, hb2⟩
  have hsz : w.heap.size < w2.heap.size := Nat.lt_of_lt_of_le HZ0.out.lt hb2.size
  have HG := Lib.hid (show GS w w2.heap.size b (t :: l) ⟨0, nAt (t :: l) 1, nAt (t :: l) 2, 0, 0, 0, 0, 0, 0⟩ (w2.alloc (.cells (Cmd.cells ⟨0, nAt (t :: l) 1, nAt (t :: l) 2, 0, 0, 0, 0, 0, 0⟩) 164)) from ⟨(HZ0.out.below hb2 HZ0.out.lt).old _, Blk.new _ _ _ _ rfl, (HB1.out.trans (hb2.mono HB1.out.size)).alloc (by omega) _, fun j hj => by
    have hx := ((HB1.out.trans (hb2.mono HB1.out.size)).alloc (by omega) (.cells (Cmd.cells ⟨0, nAt (t :: l) 1, nAt (t :: l) 2, 0, 0, 0, 0, 0, 0⟩) 164)).cell (p := ⟨b, j, none⟩) (by show b < _; omega)
    rw [hx]; exact HROW.out j hj, hb, hsz⟩)
  clear hb2 HZ0 HB1 HSR
  go_upto_region 2 with fail
  change Code.wp _ _ _ _ (w2.alloc (.cells (Cmd.cells ⟨0, nAt (t :: l) 1, nAt (t :: l) 2, 0, 0, 0, 0, 0, 0⟩) 164))
  generalize w2.alloc (.cells (Cmd.cells ⟨0, nAt (t :: l) 1, nAt (t :: l) 2, 0, 0, 0, 0, 0, 0⟩) 164) = w3 at HG ⊢
  generalize w2.heap.size = C at HG hsz ⊢
  have c0 : w3.cell? ⟨b, 0, none⟩ = some (.string (strB t)) := HG.out.row 0 (by simp)
  generalize strB t = T at c0 k1 k2 k3 k4 k5 k6 k7
  go_wp2_with fail
  refine (HN.out 1 (by omega) _ _ (HG.out.strRow (by simp) hcp)).mono ?_
  rintro e w4 ⟨rfl, hb⟩
  replace HG := Lib.hid (HG.out.below hb)
  clear hb
  go_wp2_with (refine store_blk (by rfl) 42 _ _ (by rfl) w.heap.size (by rfl) _ (stepC 2 0 (nAt (t :: l) 1) (.slice none 0 0)) 42 (HG).out.z (by rfl) rfl (by kernel_rfl) (one_stp _ _ _ _ _ _) ?_)
  refine bodyPost_ret (results_cell_row rfl _ _ _ _ _ (0, 0) _ rfl ((HG).out.z.setCells (stepC 2 0 (nAt (t :: l) 1) (.slice none 0 0)) rfl) Tryd.underlying42 rfl (by kernel_rfl)) rfl ?_
  exact ⟨_, by rw [HE.out], .inl ⟨by rw [HE.out], rfl⟩, Blk.Below.setCells _ _ _ (HG).out.bel (Nat.le_refl _)⟩
set_option maxRecDepth 20000 in
set_option maxHeartbeats 4000000 in
theorem guess_index (b cp : Nat) (t : Tok) (ht : t = tIndex) (l : List Tok) (hl : ∀ x ∈ t :: l, x.length ≤ 100000) (hcp : l.length + 1 ≤ cp) (w : World) (hb : b < w.heap.size) (hrow : ∀ j, (h : j < (t :: l).length) → w.cell? ⟨b, j, none⟩ = some (.string (strB (t :: l)[j]))) :
    Calls Tryd.prog 81 #[.slice (some ⟨b, 0, none⟩) (l.length + 1) cp] w (StepAns (guessF (t :: l)) w) := by
  have HE := Lib.hid (show guessF (t :: l) = ⟨3, 0, nAt (t :: l) 1, []⟩ from by unfold guessF; rw [if_neg (show ¬ ((t :: l)[0]?).getD [] = tTick from by rw [show ((t :: l)[0]?).getD [] = t from rfl, ht]; decide), if_pos (show ((t :: l)[0]?).getD [] = tIndex from ht)])
  have k1 : ((strB t).toList == [116, 105, 99, 107]) = decide (t = tTick) := tok_eq t _
  have k2 : ((strB t).toList == [105, 110, 100, 101, 120]) = decide (t = tIndex) := tok_eq t _
  have k3 : ((strB t).toList == [98, 105, 100]) = decide (t = tBid) := tok_eq t _
  have k4 : ((strB t).toList == [114, 97, 119]) = decide (t = tRaw) := tok_eq t _
  have k5 : ((strB t).toList == [99, 97, 110, 99, 101, 108]) = decide (t = tCancel) := tok_eq t _
  have k6 : ((strB t).toList == [114, 101, 112, 108, 97, 99, 101]) = decide (t = tReplace) := tok_eq t _
  have k7 : ((strB t).toList == [110, 101, 119]) = decide (t = tNew) := tok_eq t _
  rw [decide_eq_false (show ¬ t = tTick from by rw [ht]; decide)] at k1
  rw [decide_eq_true ht] at k2
  rw [decide_eq_false (show ¬ t = tBid from by rw [ht]; decide)] at k3
  rw [decide_eq_false (show ¬ t = tRaw from by rw [ht]; decide)] at k4
  rw [decide_eq_false (show ¬ t = tCancel from by rw [ht]; decide)] at k5
  rw [decide_eq_false (show ¬ t = tReplace from by rw [ht]; decide)] at k6
  rw [decide_eq_false (show ¬ t = tNew from by rw [ht]; decide)] at k7
  clear ht
  have HZ0 := Lib.hid (Blk.new w (stepC 0 0 0 (.slice none 0 0)) 42 w.heap.size rfl)
  have HSR := Lib.hid ((show StrRow (.slice (some ⟨b, 0, none⟩) (l.length + 1) cp) (t :: l) w from .inr ⟨by simp, b, cp, rfl, by simpa using hcp, hb, hrow⟩).below ((Below.refl w.heap.size w).alloc (Nat.le_refl _) (.cells (stepC 0 0 0 (.slice none 0 0)) 42)))
  have HROW := Lib.hid hrow
  have HN := Lib.hid (fun j hj v W h => rnum_any v (t :: l) hl j hj W h)
  have HL := Lib.hid hl
  clear hrow hl
  go_enter Tryd.func81, Tryd.ntmps81
  go_wp2_with fail
  refine (HN.out 1 (by omega) _ _ HSR.out).mono ?_
  rintro e w1 ⟨rfl, hb1⟩
  replace HSR := Lib.hid (HSR.out.below hb1)
  replace HZ0 := Lib.hid (HZ0.out.below hb1 (by simp))
  have HB1 := Lib.hid (((Below.refl w.heap.size w).alloc (Nat.le_refl _) (.cells (stepC 0 0 0 (.slice none 0 0)) 42)).trans (hb1.mono (by simp)))
  clear hb1
  go_wp2_with fail
  refine (HN.out 2 (by omega) _ _ HSR.out).mono ?_
  rintro e w2 ⟨rfl, hb2⟩
  have hsz : w.heap.size < w2.heap.size := Nat.lt_of_lt_of_le HZ0.out.lt hb2.size
  have HG := Lib.hid (show GS w w2.heap.size b (t :: l) ⟨0, nAt (t :: l) 1, nAt (t :: l) 2, 0, 0, 0, 0, 0, 0⟩ (w2.alloc (.cells (Cmd.cells ⟨0, nAt (t :: l) 1, nAt (t :: l) 2, 0, 0, 0, 0, 0, 0⟩) 164)) from ⟨(HZ0.out.below hb2 HZ0.out.lt).old _, Blk.new _ _ _ _ rfl, (HB1.out.trans (hb2.mono HB1.out.size)).alloc (by omega) _, fun j hj => by
    have hx := ((HB1.out.trans (hb2.mono HB1.out.size)).alloc (by omega) (.cells (Cmd.cells ⟨0, nAt (t :: l) 1, nAt (t :: l) 2, 0, 0, 0, 0, 0, 0⟩) 164)).cell (p := ⟨b, j, none⟩) (by show b < _; omega)
    rw [hx]; exact HROW.out j hj, hb, hsz⟩)
  clear hb2 HZ0 HB1 HSR
  go_upto_region 2 with fail
  change Code.wp _ _ _ _ (w2.alloc (.cells (Cmd.cells ⟨0, nAt (t :: l) 1, nAt (t :: l) 2, 0, 0, 0, 0, 0, 0⟩) 164))
  generalize w2.alloc (.cells (Cmd.cells ⟨0, nAt (t :: l) 1, nAt (t :: l) 2, 0, 0, 0, 0, 0, 0⟩) 164) = w3 at HG ⊢
  generalize w2.heap.size = C at HG hsz ⊢
  have c0 : w3.cell? ⟨b, 0, none⟩ = some (.string (strB t)) := HG.out.row 0 (by simp)
  generalize strB t = T at c0 k1 k2 k3 k4 k5 k6 k7
  go_wp2_with fail
  refine (HN.out 1 (by omega) _ _ (HG.out.strRow (by simp) hcp)).mono ?_
  rintro e w4 ⟨rfl, hb⟩
  replace HG := Lib.hid (HG.out.below hb)
  clear hb
  go_wp2_with (refine store_blk (by rfl) 42 _ _ (by rfl) w.heap.size (by rfl) _ (stepC 3 0 (nAt (t :: l) 1) (.slice none 0 0)) 42 (HG).out.z (by rfl) rfl (by kernel_rfl) (one_stp _ _ _ _ _ _) ?_)
  refine bodyPost_ret (results_cell_row rfl _ _ _ _ _ (0, 0) _ rfl ((HG).out.z.setCells (stepC 3 0 (nAt (t :: l) 1) (.slice none 0 0)) rfl) Tryd.underlying42 rfl (by kernel_rfl)) rfl ?_
  exact ⟨_, by rw [HE.out], .inl ⟨by rw [HE.out], rfl⟩, Blk.Below.setCells _ _ _ (HG).out.bel (Nat.le_refl _)⟩
set_option maxRecDepth 20000 in
set_option maxHeartbeats 4000000 in
theorem guess_bid (b cp : Nat) (t : Tok) (ht : t = tBid) (l : List Tok) (hl : ∀ x ∈ t :: l, x.length ≤ 100000) (hcp : l.length + 1 ≤ cp) (w : World) (hb : b < w.heap.size) (hrow : ∀ j, (h : j < (t :: l).length) → w.cell? ⟨b, j, none⟩ = some (.string (strB (t :: l)[j]))) :
    Calls Tryd.prog 81 #[.slice (some ⟨b, 0, none⟩) (l.length + 1) cp] w (StepAns (guessF (t :: l)) w) := by
  have HE := Lib.hid (show guessF (t :: l) = ⟨4, nAt (t :: l) 1, nAt (t :: l) 2, []⟩ from by unfold guessF; rw [if_neg (show ¬ ((t :: l)[0]?).getD [] = tTick from by rw [show ((t :: l)[0]?).getD [] = t from rfl, ht]; decide), if_neg (show ¬ ((t :: l)[0]?).getD [] = tIndex from by rw [show ((t :: l)[0]?).getD [] = t from rfl, ht]; decide), if_pos (show ((t :: l)[0]?).getD [] = tBid from ht)])
  have k1 : ((strB t).toList == [116, 105, 99, 107]) = decide (t = tTick) := tok_eq t _
  have k2 : ((strB t).toList == [105, 110, 100, 101, 120]) = decide (t = tIndex) := tok_eq t _
  have k3 : ((strB t).toList == [98, 105, 100]) = decide (t = tBid) := tok_eq t _
  have k4 : ((strB t).toList == [114, 97, 119]) = decide (t = tRaw) := tok_eq t _
  have k5 : ((strB t).toList == [99, 97, 110, 99, 101, 108]) = decide (t = tCancel) := tok_eq t _
  have k6 : ((strB t).toList == [114, 101, 112, 108, 97, 99, 101]) = decide (t = tReplace) := tok_eq t _
  have k7 : ((strB t).toList == [110, 101, 119]) = decide (t = tNew) := tok_eq t _
  rw [decide_eq_false (show ¬ t = tTick from by rw [ht]; decide)] at k1
  rw [decide_eq_false (show ¬ t = tIndex from by rw [ht]; decide)] at k2
  rw [decide_eq_true ht] at k3
  rw [decide_eq_false (show ¬ t = tRaw from by rw [ht]; decide)] at k4
  rw [decide_eq_false (show ¬ t = tCancel from by rw [ht]; decide)] at k5
  rw [decide_eq_false (show ¬ t = tReplace from by rw [ht]; decide)] at k6
  rw [decide_eq_false (show ¬ t = tNew from by rw [ht]; decide)] at k7
  clear ht
  have HZ0 := Lib.hid (Blk.new w (stepC 0 0 0 (.slice none 0 0)) 42 w.heap.size rfl)
  have HSR := Lib.hid ((show StrRow (.slice (some ⟨b, 0, none⟩) (l.length + 1) cp) (t :: l) w from .inr ⟨by simp, b, cp, rfl, by simpa using hcp, hb, hrow⟩).below ((Below.refl w.heap.size w).alloc (Nat.le_refl _) (.cells (stepC 0 0 0 (.slice none 0 0)) 42)))
  have HROW := Lib.hid hrow
  have HN := Lib.hid (fun j hj v W h => rnum_any v (t :: l) hl j hj W h)
  have HL := Lib.hid hl
  clear hrow hl
  go_enter Tryd.func81, Tryd.ntmps81
  go_wp2_with fail
  refine (HN.out 1 (by omega) _ _ HSR.out).mono ?_
  rintro e w1 ⟨rfl, hb1⟩
  replace HSR := Lib.hid (HSR.out.below hb1)
  replace HZ0 := Lib.hid (HZ0.out.below hb1 (by simp))
  have HB1 := Lib.hid (((Below.refl w.heap.size w).alloc (Nat.le_refl _) (.cells (stepC 0 0 0 (.slice none 0 0)) 42)).trans (hb1.mono (by simp)))
  clear hb1
  go_wp2_with fail
  refine (HN.out 2 (by omega) _ _ HSR.out).mono ?_
  rintro e w2 ⟨rfl, hb2⟩
  have hsz : w.heap.size < w2.heap.size := Nat.lt_of_lt_of_le HZ0.out.lt hb2.size
  have HG := Lib.hid (show GS w w2.heap.size b (t :: l) ⟨0, nAt (t :: l) 1, nAt (t :: l) 2, 0, 0, 0, 0, 0, 0⟩ (w2.alloc (.cells (Cmd.cells ⟨0, nAt (t :: l) 1, nAt (t :: l) 2, 0, 0, 0, 0, 0, 0⟩) 164)) from ⟨(HZ0.out.below hb2 HZ0.out.lt).old _, Blk.new _ _ _ _ rfl, (HB1.out.trans (hb2.mono HB1.out.size)).alloc (by omega) _, fun j hj => by
    have hx := ((HB1.out.trans (hb2.mono HB1.out.size)).alloc (by omega) (.cells (Cmd.cells ⟨0, nAt (t :: l) 1, nAt (t :: l) 2, 0, 0, 0, 0, 0, 0⟩) 164)).cell (p := ⟨b, j, none⟩) (by show b < _; omega)
    rw [hx]; exact HROW.out j hj, hb, hsz⟩)
  clear hb2 HZ0 HB1 HSR
  go_upto_region 2 with fail
  change Code.wp _ _ _ _ (w2.alloc (.cells (Cmd.cells ⟨0, nAt (t :: l) 1, nAt (t :: l) 2, 0, 0, 0, 0, 0, 0⟩) 164))
  generalize w2.alloc (.cells (Cmd.cells ⟨0, nAt (t :: l) 1, nAt (t :: l) 2, 0, 0, 0, 0, 0, 0⟩) 164) = w3 at HG ⊢
  generalize w2.heap.size = C at HG hsz ⊢
  have c0 : w3.cell? ⟨b, 0, none⟩ = some (.string (strB t)) := HG.out.row 0 (by simp)
  generalize strB t = T at c0 k1 k2 k3 k4 k5 k6 k7
  go_wp2_with fail
  refine (HN.out 1 (by omega) _ _ (HG.out.strRow (by simp) hcp)).mono ?_
  rintro e w4 ⟨rfl, hb⟩
  replace HG := Lib.hid (HG.out.below hb)
  clear hb
  go_wp2_with fail
  refine (HN.out 2 (by omega) _ _ (HG.out.strRow (by simp) hcp)).mono ?_
  rintro e w5 ⟨rfl, hb⟩
  replace HG := Lib.hid (HG.out.below hb)
  clear hb
  go_wp2_with (refine store_blk (by rfl) 42 _ _ (by rfl) w.heap.size (by rfl) _ (stepC 4 (nAt (t :: l) 1) (nAt (t :: l) 2) (.slice none 0 0)) 42 (HG).out.z (by rfl) rfl (by kernel_rfl) (one_stp _ _ _ _ _ _) ?_)
  refine bodyPost_ret (results_cell_row rfl _ _ _ _ _ (0, 0) _ rfl ((HG).out.z.setCells (stepC 4 (nAt (t :: l) 1) (nAt (t :: l) 2) (.slice none 0 0)) rfl) Tryd.underlying42 rfl (by kernel_rfl)) rfl ?_
  exact ⟨_, by rw [HE.out], .inl ⟨by rw [HE.out], rfl⟩, Blk.Below.setCells _ _ _ (HG).out.bel (Nat.le_refl _)⟩
set_option maxRecDepth 20000 in
set_option maxHeartbeats 4000000 in
theorem guess_raw (b cp : Nat) (t : Tok) (ht : t = tRaw) (l : List Tok) (hl : ∀ x ∈ t :: l, x.length ≤ 100000) (hcp : l.length + 1 ≤ cp) (w : World) (hb : b < w.heap.size) (hrow : ∀ j, (h : j < (t :: l).length) → w.cell? ⟨b, j, none⟩ = some (.string (strB (t :: l)[j]))) :
    Calls Tryd.prog 81 #[.slice (some ⟨b, 0, none⟩) (l.length + 1) cp] w (StepAns (guessF (t :: l)) w) := by
  have HE := Lib.hid (show guessF (t :: l) = ⟨1, 0, 0, hexG (((t :: l)[1]?).getD [])⟩ from by unfold guessF; rw [if_neg (show ¬ ((t :: l)[0]?).getD [] = tTick from by rw [show ((t :: l)[0]?).getD [] = t from rfl, ht]; decide), if_neg (show ¬ ((t :: l)[0]?).getD [] = tIndex from by rw [show ((t :: l)[0]?).getD [] = t from rfl, ht]; decide), if_neg (show ¬ ((t :: l)[0]?).getD [] = tBid from by rw [show ((t :: l)[0]?).getD [] = t from rfl, ht]; decide), if_pos (show ((t :: l)[0]?).getD [] = tRaw from ht)])
  have k1 : ((strB t).toList == [116, 105, 99, 107]) = decide (t = tTick) := tok_eq t _
  have k2 : ((strB t).toList == [105, 110, 100, 101, 120]) = decide (t = tIndex) := tok_eq t _
  have k3 : ((strB t).toList == [98, 105, 100]) = decide (t = tBid) := tok_eq t _
  have k4 : ((strB t).toList == [114, 97, 119]) = decide (t = tRaw) := tok_eq t _
  have k5 : ((strB t).toList == [99, 97, 110, 99, 101, 108]) = decide (t = tCancel) := tok_eq t _
  have k6 : ((strB t).toList == [114, 101, 112, 108, 97, 99, 101]) = decide (t = tReplace) := tok_eq t _
  have k7 : ((strB t).toList == [110, 101, 119]) = decide (t = tNew) := tok_eq t _
  rw [decide_eq_false (show ¬ t = tTick from by rw [ht]; decide)] at k1
  rw [decide_eq_false (show ¬ t = tIndex from by rw [ht]; decide)] at k2
  rw [decide_eq_false (show ¬ t = tBid from by rw [ht]; decide)] at k3
  rw [decide_eq_true ht] at k4
  rw [decide_eq_false (show ¬ t = tCancel from by rw [ht]; decide)] at k5
  rw [decide_eq_false (show ¬ t = tReplace from by rw [ht]; decide)] at k6
  rw [decide_eq_false (show ¬ t = tNew from by rw [ht]; decide)] at k7
  clear ht
  have HZ0 := Lib.hid (Blk.new w (stepC 0 0 0 (.slice none 0 0)) 42 w.heap.size rfl)
  have HSR := Lib.hid ((show StrRow (.slice (some ⟨b, 0, none⟩) (l.length + 1) cp) (t :: l) w from .inr ⟨by simp, b, cp, rfl, by simpa using hcp, hb, hrow⟩).below ((Below.refl w.heap.size w).alloc (Nat.le_refl _) (.cells (stepC 0 0 0 (.slice none 0 0)) 42)))
  have HROW := Lib.hid hrow
  have HN := Lib.hid (fun j hj v W h => rnum_any v (t :: l) hl j hj W h)
  have HL := Lib.hid hl
  clear hrow hl
  go_enter Tryd.func81, Tryd.ntmps81
  go_wp2_with fail
  refine (HN.out 1 (by omega) _ _ HSR.out).mono ?_
  rintro e w1 ⟨rfl, hb1⟩
  replace HSR := Lib.hid (HSR.out.below hb1)
  replace HZ0 := Lib.hid (HZ0.out.below hb1 (by simp))
  have HB1 := Lib.hid (((Below.refl w.heap.size w).alloc (Nat.le_refl _) (.cells (stepC 0 0 0 (.slice none 0 0)) 42)).trans (hb1.mono (by simp)))
  clear hb1
  go_wp2_with fail
  refine (HN.out 2 (by omega) _ _ HSR.out).mono ?_
  rintro e w2 ⟨rfl, hb2⟩
  have hsz : w.heap.size < w2.heap.size := Nat.lt_of_lt_of_le HZ0.out.lt hb2.size
  have HG := Lib.hid (show GS w w2.heap.size b (t :: l) ⟨0, nAt (t :: l) 1, nAt (t :: l) 2, 0, 0, 0, 0, 0, 0⟩ (w2.alloc (.cells (Cmd.cells ⟨0, nAt (t :: l) 1, nAt (t :: l) 2, 0, 0, 0, 0, 0, 0⟩) 164)) from ⟨(HZ0.out.below hb2 HZ0.out.lt).old _, Blk.new _ _ _ _ rfl, (HB1.out.trans (hb2.mono HB1.out.size)).alloc (by omega) _, fun j hj => by
    have hx := ((HB1.out.trans (hb2.mono HB1.out.size)).alloc (by omega) (.cells (Cmd.cells ⟨0, nAt (t :: l) 1, nAt (t :: l) 2, 0, 0, 0, 0, 0, 0⟩) 164)).cell (p := ⟨b, j, none⟩) (by show b < _; omega)
    rw [hx]; exact HROW.out j hj, hb, hsz⟩)
  clear hb2 HZ0 HB1 HSR
  go_upto_region 2 with fail
  change Code.wp _ _ _ _ (w2.alloc (.cells (Cmd.cells ⟨0, nAt (t :: l) 1, nAt (t :: l) 2, 0, 0, 0, 0, 0, 0⟩) 164))
  generalize w2.alloc (.cells (Cmd.cells ⟨0, nAt (t :: l) 1, nAt (t :: l) 2, 0, 0, 0, 0, 0, 0⟩) 164) = w3 at HG ⊢
  generalize w2.heap.size = C at HG hsz ⊢
  have c0 : w3.cell? ⟨b, 0, none⟩ = some (.string (strB t)) := HG.out.row 0 (by simp)
  generalize strB t = T at c0 k1 k2 k3 k4 k5 k6 k7
  have HX := Lib.hid (Blk.new w3 (stepC 1 0 0 (.slice none 0 0)) 42 w3.heap.size rfl)
  have hzl := HG.out.z.lt
  have hbel3 := HG.out.bel.size
  replace HG := Lib.hid (HG.out.below ((Below.refl w3.heap.size w3).alloc (Nat.le_refl _) (.cells (stepC 1 0 0 (.slice none 0 0)) 42)))
  go_upto_region 11 with fail
  change Code.wp _ _ _ _ (w3.alloc (.cells (stepC 1 0 0 (.slice none 0 0)) 42))
  generalize w3.alloc (.cells (stepC 1 0 0 (.slice none 0 0)) 42) = w4 at HG HX ⊢
  have hX : w.heap.size < w3.heap.size := hzl
  generalize w3.heap.size = X at HX hX ⊢
  clear c0 hzl hbel3
  cases l with
  | nil =>
    have HW := Lib.hid HX.out
    go_wp2_with (first
      | (refine load_blk (by rfl) 42 _ (by rfl) X (by rfl) _ _ HX.out _ Tryd.underlying42 rfl (by kernel_rfl) ?_)
      | (refine store_blk (by rfl) 42 _ _ (by rfl) w.heap.size (by rfl) _ (stepC 1 0 0 (.slice none 0 0)) 42 HG.out.z (by rfl) rfl (by kernel_rfl) (one_stp _ _ _ _ _ _) ?_))
    refine bodyPost_ret (results_cell_row rfl _ _ _ _ _ (0, 0) _ rfl (HG.out.z.setCells (stepC 1 0 0 (.slice none 0 0)) rfl) Tryd.underlying42 rfl (by kernel_rfl)) rfl ?_
    exact ⟨_, by rw [HE.out], .inl ⟨by rw [HE.out]; rfl, rfl⟩, Blk.Below.setCells _ _ _ HG.out.bel (Nat.le_refl _)⟩
  | cons y l2 =>
    have c1 : w4.cell? ⟨b, 1, none⟩ = some (.string (strB y)) := HG.out.row 1 (by simp)
    have g1 : (1 : Int) < (l2.length : Int) + 1 + 1 := by omega
    have HH := Lib.hid (rhex_any y (HL.out y (by simp)) w4)
    go_wp2_with fail
    refine HH.out.mono ?_
    rintro e w5 ⟨u, rfl, hby, hb5⟩
    have hs4 := HG.out.bel.size
    replace HG := Lib.hid (HG.out.below hb5)
    replace HX := Lib.hid (HX.out.below hb5 HX.out.lt)
    have HY := Lib.hid (bytes_cell (bytes_mono hby hs4) HX.out 3 u)
    obtain ⟨ua, un, uc, rfl⟩ := bytes_form hby
    clear hby hb5 HH
    have c3 : w5.cell? ⟨X, 3, none⟩ = some (.slice none 0 0) := HX.out.cell 3 rfl
    have f3 := HX.out.free 3
    have HX2 := Lib.hid (show Blk (w5.setCell ⟨X, 3, none⟩ (.slice ua un uc)) X (stepC 1 0 0 (.slice ua un uc)) 42 from HX.out.set 3 _)
    have HZ := Lib.hid (HG.out.z.apart ⟨X, 3, none⟩ (.slice ua un uc) (by show X ≠ _; omega))
    have HB := Lib.hid (HG.out.bel.setCell (p := ⟨X, 3, none⟩) (by show _ ≤ X; omega) (.slice ua un uc))
    go_upto_region 13 with fail
    change Code.wp _ _ _ _ (w5.setCell ⟨X, 3, none⟩ (.slice ua un uc))
    generalize w5.setCell ⟨X, 3, none⟩ (.slice ua un uc) = w6 at HX2 HZ HB HY ⊢
    go_wp2_with (first
      | (refine load_blk (by rfl) 42 _ (by rfl) X (by rfl) _ _ HX2.out _ Tryd.underlying42 rfl (by kernel_rfl) ?_)
      | (refine store_blk (by rfl) 42 _ _ (by rfl) w.heap.size (by rfl) _ (stepC 1 0 0 (.slice ua un uc)) 42 HZ.out (by rfl) rfl (by kernel_rfl) (one_stp _ _ _ _ _ _) ?_))
    refine bodyPost_ret (results_cell_row rfl _ _ _ _ _ (0, 0) _ rfl (HZ.out.setCells (stepC 1 0 0 (.slice ua un uc)) rfl) Tryd.underlying42 rfl (by kernel_rfl)) rfl ?_
    exact ⟨_, by rw [HE.out], by rw [HE.out]; exact bytes_cells _ _ _ _ HY.out HZ.out, Blk.Below.setCells _ _ _ HB.out (Nat.le_refl _)⟩
end Go.Proofs.YtmkcooamgojbpaaDoor.Lines
