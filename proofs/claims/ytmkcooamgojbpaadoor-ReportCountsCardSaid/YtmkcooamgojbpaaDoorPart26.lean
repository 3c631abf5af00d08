/- Parts of the proof: RRepLine. -/
import Derived.Test.YtmkcooamgojbpaaDoorPart24
import Derived.Deep.RegionHeld3
import Derived.Deep.DrawnRows

/- damperref36.Line. -/
namespace Go.Proofs.YtmkcooamgojbpaaDoor.Reports
open Go.RowKit Go.Proofs.YtmkcooamgojbpaaDoor.Kit Go.Proofs.YtmkcooamgojbpaaDoor.Blk Go.Proofs.YtmkcooamgojbpaaDoor.Dec Go.Proofs.YtmkcooamgojbpaaDoor.Words Go.Proofs.YtmkcooamgojbpaaDoor.Octets Go.Proofs.YtmkcooamgojbpaaDoor.Lines Go.Proofs.YtmkcooamgojbpaaDoor.Msgs Go.Proofs.YtmkcooamgojbpaaDoor.Open
attribute [local go_sem ↓] Go.wp_at_zero Go.wp_at_succ
set_option linter.unusedVariables false

set_option maxRecDepth 20000 in
set_option maxHeartbeats 8000000 in
theorem rrepLine_true (m : Msg) (hf : Fits m) (w : World) (hr : rightM m = true) :
    Calls Tryd.prog 43 #[.agg m.cells] w (RLineIs m w) := by
  have HX := Lib.hid (Blk.new w m.cells 62 w.heap.size rfl)
  have HR := Lib.hid hr
  obtain ⟨⟨a0, b0⟩, ⟨a1, b1⟩, ⟨a2, b2⟩, ⟨a3, b3⟩, ⟨a4, b4⟩, ⟨a5, b5⟩, ⟨a6, b6⟩, ⟨a7, b7⟩, ⟨a8, b8⟩⟩ := hf
  clear hr
  have t0 : (strB (decB m.seq)).size ≤ 20 := by rw [strB_size]; exact dec_len a2 b2
  have t1 : (strB (decB m.tick)).size ≤ 20 := by rw [strB_size]; exact dec_len a3 b3
  have t2 : (strB (decB m.sym)).size ≤ 20 := by rw [strB_size]; exact dec_len a1 b1
  have t3 : (strB (wordK m.kind)).size ≤ 20 := by rw [strB_size]; exact Nat.le_trans word_free.2.2 (by decide)
  have t4 : (strB (decB m.id)).size ≤ 20 := by rw [strB_size]; exact dec_len a4 b4
  have t5 : (strB (decB m.wth)).size ≤ 20 := by rw [strB_size]; exact dec_len a5 b5
  have t6 : (strB (decB m.price)).size ≤ 20 := by rw [strB_size]; exact dec_len a6 b6
  have t7 : (strB (decB m.qty)).size ≤ 20 := by rw [strB_size]; exact dec_len a7 b7
  have t8 : (strB (decB m.code)).size ≤ 20 := by rw [strB_size]; exact dec_len a8 b8
  obtain ⟨T0, q0⟩ : ∃ T, strB (decB m.seq) = T := ⟨_, rfl⟩
  rw [q0] at t0
  obtain ⟨T1, q1⟩ : ∃ T, strB (decB m.tick) = T := ⟨_, rfl⟩
  rw [q1] at t1
  obtain ⟨T2, q2⟩ : ∃ T, strB (decB m.sym) = T := ⟨_, rfl⟩
  rw [q2] at t2
  obtain ⟨T3, q3⟩ : ∃ T, strB (wordK m.kind) = T := ⟨_, rfl⟩
  rw [q3] at t3
  obtain ⟨T4, q4⟩ : ∃ T, strB (decB m.id) = T := ⟨_, rfl⟩
  rw [q4] at t4
  obtain ⟨T5, q5⟩ : ∃ T, strB (decB m.wth) = T := ⟨_, rfl⟩
  rw [q5] at t5
  obtain ⟨T6, q6⟩ : ∃ T, strB (decB m.price) = T := ⟨_, rfl⟩
  rw [q6] at t6
  obtain ⟨T7, q7⟩ : ∃ T, strB (decB m.qty) = T := ⟨_, rfl⟩
  rw [q7] at t7
  obtain ⟨T8, q8⟩ : ∃ T, strB (decB m.code) = T := ⟨_, rfl⟩
  rw [q8] at t8
  have p0 : T0.size ≤ 20 := t0
  obtain ⟨P1, r1⟩ : ∃ P, T0 ++ (⟨#[32]⟩ : ByteArray) = P := ⟨_, rfl⟩
  have g1 : ¬ 9223372036854775807 < T0.size + 1 := by omega
  have p1 : P1.size ≤ 21 := by rw [← r1, ByteArray.size_append]; show _ + 1 ≤ _; omega
  obtain ⟨P2, r2⟩ : ∃ P, P1 ++ T1 = P := ⟨_, rfl⟩
  have g2 : ¬ 9223372036854775807 < P1.size + T1.size := by omega
  have p2 : P2.size ≤ 41 := by rw [← r2, ByteArray.size_append]; omega
  obtain ⟨P3, r3⟩ : ∃ P, P2 ++ (⟨#[32]⟩ : ByteArray) = P := ⟨_, rfl⟩
  have g3 : ¬ 9223372036854775807 < P2.size + 1 := by omega
  have p3 : P3.size ≤ 42 := by rw [← r3, ByteArray.size_append]; show _ + 1 ≤ _; omega
  obtain ⟨P4, r4⟩ : ∃ P, P3 ++ T2 = P := ⟨_, rfl⟩
  have g4 : ¬ 9223372036854775807 < P3.size + T2.size := by omega
  have p4 : P4.size ≤ 62 := by rw [← r4, ByteArray.size_append]; omega
  obtain ⟨P5, r5⟩ : ∃ P, P4 ++ (⟨#[32]⟩ : ByteArray) = P := ⟨_, rfl⟩
  have g5 : ¬ 9223372036854775807 < P4.size + 1 := by omega
  have p5 : P5.size ≤ 63 := by rw [← r5, ByteArray.size_append]; show _ + 1 ≤ _; omega
  obtain ⟨P6, r6⟩ : ∃ P, P5 ++ T3 = P := ⟨_, rfl⟩
  have g6 : ¬ 9223372036854775807 < P5.size + T3.size := by omega
  have p6 : P6.size ≤ 83 := by rw [← r6, ByteArray.size_append]; omega
  obtain ⟨P7, r7⟩ : ∃ P, P6 ++ (⟨#[32]⟩ : ByteArray) = P := ⟨_, rfl⟩
  have g7 : ¬ 9223372036854775807 < P6.size + 1 := by omega
  have p7 : P7.size ≤ 84 := by rw [← r7, ByteArray.size_append]; show _ + 1 ≤ _; omega
  obtain ⟨P8, r8⟩ : ∃ P, P7 ++ T4 = P := ⟨_, rfl⟩
  have g8 : ¬ 9223372036854775807 < P7.size + T4.size := by omega
  have p8 : P8.size ≤ 104 := by rw [← r8, ByteArray.size_append]; omega
  obtain ⟨P9, r9⟩ : ∃ P, P8 ++ (⟨#[32]⟩ : ByteArray) = P := ⟨_, rfl⟩
  have g9 : ¬ 9223372036854775807 < P8.size + 1 := by omega
  have p9 : P9.size ≤ 105 := by rw [← r9, ByteArray.size_append]; show _ + 1 ≤ _; omega
  obtain ⟨P10, r10⟩ : ∃ P, P9 ++ T5 = P := ⟨_, rfl⟩
  have g10 : ¬ 9223372036854775807 < P9.size + T5.size := by omega
  have p10 : P10.size ≤ 125 := by rw [← r10, ByteArray.size_append]; omega
  obtain ⟨P11, r11⟩ : ∃ P, P10 ++ (⟨#[32]⟩ : ByteArray) = P := ⟨_, rfl⟩
  have g11 : ¬ 9223372036854775807 < P10.size + 1 := by omega
  have p11 : P11.size ≤ 126 := by rw [← r11, ByteArray.size_append]; show _ + 1 ≤ _; omega
  obtain ⟨P12, r12⟩ : ∃ P, P11 ++ T6 = P := ⟨_, rfl⟩
  have g12 : ¬ 9223372036854775807 < P11.size + T6.size := by omega
  have p12 : P12.size ≤ 146 := by rw [← r12, ByteArray.size_append]; omega
  obtain ⟨P13, r13⟩ : ∃ P, P12 ++ (⟨#[32]⟩ : ByteArray) = P := ⟨_, rfl⟩
  have g13 : ¬ 9223372036854775807 < P12.size + 1 := by omega
  have p13 : P13.size ≤ 147 := by rw [← r13, ByteArray.size_append]; show _ + 1 ≤ _; omega
  obtain ⟨P14, r14⟩ : ∃ P, P13 ++ T7 = P := ⟨_, rfl⟩
  have g14 : ¬ 9223372036854775807 < P13.size + T7.size := by omega
  have p14 : P14.size ≤ 167 := by rw [← r14, ByteArray.size_append]; omega
  obtain ⟨P15, r15⟩ : ∃ P, P14 ++ (⟨#[32]⟩ : ByteArray) = P := ⟨_, rfl⟩
  have g15 : ¬ 9223372036854775807 < P14.size + 1 := by omega
  have p15 : P15.size ≤ 168 := by rw [← r15, ByteArray.size_append]; show _ + 1 ≤ _; omega
  obtain ⟨P16, r16⟩ : ∃ P, P15 ++ T8 = P := ⟨_, rfl⟩
  have g16 : ¬ 9223372036854775807 < P15.size + T8.size := by omega
  have p16 : P16.size ≤ 188 := by rw [← r16, ByteArray.size_append]; omega
  clear t0 t1 t2 t3 t4 t5 t6 t7 t8 p0 p1 p2 p3 p4 p5 p6 p7 p8 p9 p10 p11 p12 p13 p14 p15 p16
  have HLN : Hid (P16 = strB (lineM m)) := Lib.hid (by rw [← r16, ← r15, ← r14, ← r13, ← r12, ← r11, ← r10, ← r9, ← r8, ← r7, ← r6, ← r5, ← r4, ← r3, ← r2, ← r1, ← q0, ← q1, ← q2, ← q3, ← q4, ← q5, ← q6, ← q7, ← q8, show (⟨#[32]⟩ : ByteArray) = strB [32] from rfl]; simp only [strB_app]; congr 1; simp [lineM, toksM, joinW])
  go_enter Tryd.func43, Tryd.ntmps43
  go_wp2_with (refine load_blk (by rfl) 62 _ (by rfl) w.heap.size (by rfl) m.cells 62 HX.out _ Tryd.underlying62 rfl (by kernel_rfl) ?_)
  refine (rmright_any m _).mono ?_
  rintro e w1 ⟨rfl, hb⟩
  have HB := Lib.hid (((Below.refl w.heap.size w).alloc (Nat.le_refl _) _).trans (hb.mono (by simp)))
  replace HX := Lib.hid (HX.out.below hb HX.out.lt)
  clear hb
  rw [HR.out]
  go_upto_region 3 with fail
  refine wp_region_held_drew (S := (fun w' => w'.cell? ⟨w.heap.size, 0, none⟩ = some (.int .i64 m.kind) ∧ w'.cell? ⟨w.heap.size, 1, none⟩ = some (.int .i64 m.sym) ∧ w'.cell? ⟨w.heap.size, 2, none⟩ = some (.int .i64 m.seq) ∧ w'.cell? ⟨w.heap.size, 3, none⟩ = some (.int .i64 m.tick) ∧ w'.cell? ⟨w.heap.size, 4, none⟩ = some (.int .i64 m.id) ∧ w'.cell? ⟨w.heap.size, 5, none⟩ = some (.int .i64 m.wth) ∧ w'.cell? ⟨w.heap.size, 6, none⟩ = some (.int .i64 m.price) ∧ w'.cell? ⟨w.heap.size, 7, none⟩ = some (.int .i64 m.qty) ∧ w'.cell? ⟨w.heap.size, 8, none⟩ = some (.int .i64 m.code))) (by kernel_rfl) ⟨HX.out.cell 0 rfl, HX.out.cell 1 rfl, HX.out.cell 2 rfl, HX.out.cell 3 rfl, HX.out.cell 4 rfl, HX.out.cell 5 rfl, HX.out.cell 6 rfl, HX.out.cell 7 rfl, HX.out.cell 8 rfl⟩ (fun hHeld => ?_)
  replace HX := Lib.hid HX.out.drew
  replace HB := Lib.hid HB.out.drew
  generalize w1.drew = w2 at HX HB hHeld ⊢
  refine wpAnyH_take (i := 0) (oi := ⟨some 7, _, _, _, _, _⟩) (v := ?_) rfl (by kernel_rfl) (by kernel_rfl) (by kernel_rfl) (fun _ _ _ h => h) (Or.inl ⟨by rfl, ?_⟩) (by assumption) ?_
  rotate_left
  · (intro w hSw; (try dsimp only at hSw); go_simp; (try with_reducible rfl))
  simp only [Act.put, List.setIfInBounds_toArray, List.set_cons_zero, List.set_cons_succ]
  refine wpAnyH_take (i := 1) (oi := ⟨some 8, _, _, _, _, _⟩) (v := ?_) rfl (by kernel_rfl) (by kernel_rfl) (by kernel_rfl) (fun _ _ _ h => h) (Or.inl ⟨by rfl, ?_⟩) (by assumption) ?_
  rotate_left
  · (intro w hSw; (try dsimp only at hSw); go_simp; (try with_reducible rfl))
  simp only [Act.put, List.setIfInBounds_toArray, List.set_cons_zero, List.set_cons_succ]
  refine wpAnyH_take (i := 4) (oi := ⟨some 11, _, _, _, _, _⟩) (v := ?_) rfl (by kernel_rfl) (by kernel_rfl) (by kernel_rfl) (fun _ _ _ h => h) (Or.inl ⟨by rfl, ?_⟩) (by assumption) ?_
  rotate_left
  · (intro w hSw; (try dsimp only at hSw); go_simp; (try with_reducible rfl))
  simp only [Act.put, List.setIfInBounds_toArray, List.set_cons_zero, List.set_cons_succ]
  refine wpAnyH_take (i := 5) (oi := ⟨some 12, _, _, _, _, _⟩) (v := ?_) rfl (by kernel_rfl) (by kernel_rfl) (by kernel_rfl) (fun _ _ _ h => h) (Or.inl ⟨by rfl, ?_⟩) (by assumption) ?_
  rotate_left
  · (intro w hSw; (try dsimp only at hSw); go_simp; (try with_reducible rfl))
  simp only [Act.put, List.setIfInBounds_toArray, List.set_cons_zero, List.set_cons_succ]
  refine wpAnyH_take (i := 9) (oi := ⟨some 16, _, _, _, _, _⟩) (v := ?_) rfl (by kernel_rfl) (by kernel_rfl) (by kernel_rfl) (fun _ _ _ h => h) (Or.inl ⟨by rfl, ?_⟩) (by assumption) ?_
  rotate_left
  · (intro w hSw; (try dsimp only at hSw); go_simp; (try with_reducible rfl))
  simp only [Act.put, List.setIfInBounds_toArray, List.set_cons_zero, List.set_cons_succ]
  refine wpAnyH_take (i := 10) (oi := ⟨some 17, _, _, _, _, _⟩) (v := ?_) rfl (by kernel_rfl) (by kernel_rfl) (by kernel_rfl) (fun _ _ _ h => h) (Or.inl ⟨by rfl, ?_⟩) (by assumption) ?_
  rotate_left
  · (intro w hSw; (try dsimp only at hSw); go_simp; (try with_reducible rfl))
  simp only [Act.put, List.setIfInBounds_toArray, List.set_cons_zero, List.set_cons_succ]
  refine wpAnyH_take (i := 14) (oi := ⟨some 21, _, _, _, _, _⟩) (v := ?_) rfl (by kernel_rfl) (by kernel_rfl) (by kernel_rfl) (fun _ _ _ h => h) (Or.inl ⟨by rfl, ?_⟩) (by assumption) ?_
  rotate_left
  · (intro w hSw; (try dsimp only at hSw); go_simp; (try with_reducible rfl))
  simp only [Act.put, List.setIfInBounds_toArray, List.set_cons_zero, List.set_cons_succ]
  refine wpAnyH_take (i := 15) (oi := ⟨some 22, _, _, _, _, _⟩) (v := ?_) rfl (by kernel_rfl) (by kernel_rfl) (by kernel_rfl) (fun _ _ _ h => h) (Or.inl ⟨by rfl, ?_⟩) (by assumption) ?_
  rotate_left
  · (intro w hSw; (try dsimp only at hSw); go_simp; (try with_reducible rfl))
  simp only [Act.put, List.setIfInBounds_toArray, List.set_cons_zero, List.set_cons_succ]
  refine wpAnyH_take (i := 19) (oi := ⟨some 26, _, _, _, _, _⟩) (v := ?_) rfl (by kernel_rfl) (by kernel_rfl) (by kernel_rfl) (fun _ _ _ h => h) (Or.inl ⟨by rfl, ?_⟩) (by assumption) ?_
  rotate_left
  · (intro w hSw; (try dsimp only at hSw); go_simp; (try with_reducible rfl))
  simp only [Act.put, List.setIfInBounds_toArray, List.set_cons_zero, List.set_cons_succ]
  refine wpAnyH_take (i := 20) (oi := ⟨some 27, _, _, _, _, _⟩) (v := ?_) rfl (by kernel_rfl) (by kernel_rfl) (by kernel_rfl) (fun _ _ _ h => h) (Or.inl ⟨by rfl, ?_⟩) (by assumption) ?_
  rotate_left
  · (intro w hSw; (try dsimp only at hSw); go_simp; (try with_reducible rfl))
  simp only [Act.put, List.setIfInBounds_toArray, List.set_cons_zero, List.set_cons_succ]
  refine wpAnyH_take (i := 24) (oi := ⟨some 31, _, _, _, _, _⟩) (v := ?_) rfl (by kernel_rfl) (by kernel_rfl) (by kernel_rfl) (fun _ _ _ h => h) (Or.inl ⟨by rfl, ?_⟩) (by assumption) ?_
  rotate_left
  · (intro w hSw; (try dsimp only at hSw); go_simp; (try with_reducible rfl))
  simp only [Act.put, List.setIfInBounds_toArray, List.set_cons_zero, List.set_cons_succ]
  refine wpAnyH_take (i := 25) (oi := ⟨some 32, _, _, _, _, _⟩) (v := ?_) rfl (by kernel_rfl) (by kernel_rfl) (by kernel_rfl) (fun _ _ _ h => h) (Or.inl ⟨by rfl, ?_⟩) (by assumption) ?_
  rotate_left
  · (intro w hSw; (try dsimp only at hSw); go_simp; (try with_reducible rfl))
  simp only [Act.put, List.setIfInBounds_toArray, List.set_cons_zero, List.set_cons_succ]
  refine wpAnyH_take (i := 29) (oi := ⟨some 36, _, _, _, _, _⟩) (v := ?_) rfl (by kernel_rfl) (by kernel_rfl) (by kernel_rfl) (fun _ _ _ h => h) (Or.inl ⟨by rfl, ?_⟩) (by assumption) ?_
  rotate_left
  · (intro w hSw; (try dsimp only at hSw); go_simp; (try with_reducible rfl))
  simp only [Act.put, List.setIfInBounds_toArray, List.set_cons_zero, List.set_cons_succ]
  refine wpAnyH_take (i := 30) (oi := ⟨some 37, _, _, _, _, _⟩) (v := ?_) rfl (by kernel_rfl) (by kernel_rfl) (by kernel_rfl) (fun _ _ _ h => h) (Or.inl ⟨by rfl, ?_⟩) (by assumption) ?_
  rotate_left
  · (intro w hSw; (try dsimp only at hSw); go_simp; (try with_reducible rfl))
  simp only [Act.put, List.setIfInBounds_toArray, List.set_cons_zero, List.set_cons_succ]
  refine wpAnyH_take (i := 34) (oi := ⟨some 41, _, _, _, _, _⟩) (v := ?_) rfl (by kernel_rfl) (by kernel_rfl) (by kernel_rfl) (fun _ _ _ h => h) (Or.inl ⟨by rfl, ?_⟩) (by assumption) ?_
  rotate_left
  · (intro w hSw; (try dsimp only at hSw); go_simp; (try with_reducible rfl))
  simp only [Act.put, List.setIfInBounds_toArray, List.set_cons_zero, List.set_cons_succ]
  refine wpAnyH_take (i := 35) (oi := ⟨some 42, _, _, _, _, _⟩) (v := ?_) rfl (by kernel_rfl) (by kernel_rfl) (by kernel_rfl) (fun _ _ _ h => h) (Or.inl ⟨by rfl, ?_⟩) (by assumption) ?_
  rotate_left
  · (intro w hSw; (try dsimp only at hSw); go_simp; (try with_reducible rfl))
  simp only [Act.put, List.setIfInBounds_toArray, List.set_cons_zero, List.set_cons_succ]
  refine wpAnyH_take (i := 39) (oi := ⟨some 46, _, _, _, _, _⟩) (v := ?_) rfl (by kernel_rfl) (by kernel_rfl) (by kernel_rfl) (fun _ _ _ h => h) (Or.inl ⟨by rfl, ?_⟩) (by assumption) ?_
  rotate_left
  · (intro w hSw; (try dsimp only at hSw); go_simp; (try with_reducible rfl))
  simp only [Act.put, List.setIfInBounds_toArray, List.set_cons_zero, List.set_cons_succ]
  refine wpAnyH_take (i := 40) (oi := ⟨some 47, _, _, _, _, _⟩) (v := ?_) rfl (by kernel_rfl) (by kernel_rfl) (by kernel_rfl) (fun _ _ _ h => h) (Or.inl ⟨by rfl, ?_⟩) (by assumption) ?_
  rotate_left
  · (intro w hSw; (try dsimp only at hSw); go_simp; (try with_reducible rfl))
  simp only [Act.put, List.setIfInBounds_toArray, List.set_cons_zero, List.set_cons_succ]
  refine wpAnyH_ready (rs := [2]) (by kernel_rfl) (by simp) ?_
  refine AllReadyH.cons (o := ⟨some 9, _, _, _, _, _⟩) rfl (fun KK hK => ?_) AllReadyH.nil
  go_simp
  refine (text_any _ (by omega) (by omega) _).mono ?_
  rintro e WX1 ⟨rfl, hb⟩
  replace HX := Lib.hid (HX.out.below hb HX.out.lt)
  replace HB := Lib.hid (HB.out.trans (hb.mono HB.out.size))
  clear hb
  refine hK.out _ _ ⟨HX.out.cell 0 rfl, HX.out.cell 1 rfl, HX.out.cell 2 rfl, HX.out.cell 3 rfl, HX.out.cell 4 rfl, HX.out.cell 5 rfl, HX.out.cell 6 rfl, HX.out.cell 7 rfl, HX.out.cell 8 rfl⟩ (fun hHeld => ?_)
  clear hK; try clear KK
  try simp only [Act.put, List.setIfInBounds_toArray, List.set_cons_zero, List.set_cons_succ]
  refine wpAnyH_take (i := 3) (oi := ⟨some 10, _, _, _, _, _⟩) (v := ?_) rfl (by kernel_rfl) (by kernel_rfl) (by kernel_rfl) (fun _ _ _ h => h) (Or.inl ⟨by rfl, ?_⟩) (by assumption) ?_
  rotate_left
  · (intro w hSw; (try dsimp only at hSw); go_simp; (try with_reducible rfl))
  simp only [Act.put, List.setIfInBounds_toArray, List.set_cons_zero, List.set_cons_succ]
  refine wpAnyH_ready (rs := [6]) (by kernel_rfl) (by simp) ?_
  refine AllReadyH.cons (o := ⟨some 13, _, _, _, _, _⟩) rfl (fun KK hK => ?_) AllReadyH.nil
  go_simp
  refine (text_any _ (by omega) (by omega) _).mono ?_
  rintro e WX2 ⟨rfl, hb⟩
  replace HX := Lib.hid (HX.out.below hb HX.out.lt)
  replace HB := Lib.hid (HB.out.trans (hb.mono HB.out.size))
  clear hb
  refine hK.out _ _ ⟨HX.out.cell 0 rfl, HX.out.cell 1 rfl, HX.out.cell 2 rfl, HX.out.cell 3 rfl, HX.out.cell 4 rfl, HX.out.cell 5 rfl, HX.out.cell 6 rfl, HX.out.cell 7 rfl, HX.out.cell 8 rfl⟩ (fun hHeld => ?_)
  clear hK; try clear KK
  try simp only [Act.put, List.setIfInBounds_toArray, List.set_cons_zero, List.set_cons_succ]
  refine wpAnyH_take (i := 7) (oi := ⟨some 14, _, _, _, _, _⟩) (v := ?_) rfl (by kernel_rfl) (by kernel_rfl) (by kernel_rfl) (fun _ _ _ h => h) (Or.inl ⟨by rfl, ?_⟩) (by assumption) ?_
  rotate_left
  · (intro w hSw; (try dsimp only at hSw); go_simp; (try with_reducible rfl))
  simp only [Act.put, List.setIfInBounds_toArray, List.set_cons_zero, List.set_cons_succ]
  refine wpAnyH_take (i := 8) (oi := ⟨some 15, _, _, _, _, _⟩) (v := ?_) rfl (by kernel_rfl) (by kernel_rfl) (by kernel_rfl) (fun _ _ _ h => h) (Or.inl ⟨by rfl, ?_⟩) (by assumption) ?_
  rotate_left
  · (intro w hSw; (try dsimp only at hSw); go_simp; (try with_reducible rfl))
  simp only [Act.put, List.setIfInBounds_toArray, List.set_cons_zero, List.set_cons_succ]
  refine wpAnyH_ready (rs := [11]) (by kernel_rfl) (by simp) ?_
  refine AllReadyH.cons (o := ⟨some 18, _, _, _, _, _⟩) rfl (fun KK hK => ?_) AllReadyH.nil
  go_simp
  refine (text_any _ (by omega) (by omega) _).mono ?_
  rintro e WX3 ⟨rfl, hb⟩
  replace HX := Lib.hid (HX.out.below hb HX.out.lt)
  replace HB := Lib.hid (HB.out.trans (hb.mono HB.out.size))
  clear hb
  refine hK.out _ _ ⟨HX.out.cell 0 rfl, HX.out.cell 1 rfl, HX.out.cell 2 rfl, HX.out.cell 3 rfl, HX.out.cell 4 rfl, HX.out.cell 5 rfl, HX.out.cell 6 rfl, HX.out.cell 7 rfl, HX.out.cell 8 rfl⟩ (fun hHeld => ?_)
  clear hK; try clear KK
  try simp only [Act.put, List.setIfInBounds_toArray, List.set_cons_zero, List.set_cons_succ]
  refine wpAnyH_take (i := 12) (oi := ⟨some 19, _, _, _, _, _⟩) (v := ?_) rfl (by kernel_rfl) (by kernel_rfl) (by kernel_rfl) (fun _ _ _ h => h) (Or.inl ⟨by rfl, ?_⟩) (by assumption) ?_
  rotate_left
  · (intro w hSw; (try dsimp only at hSw); go_simp; (try with_reducible rfl))
  simp only [Act.put, List.setIfInBounds_toArray, List.set_cons_zero, List.set_cons_succ]
  refine wpAnyH_take (i := 13) (oi := ⟨some 20, _, _, _, _, _⟩) (v := ?_) rfl (by kernel_rfl) (by kernel_rfl) (by kernel_rfl) (fun _ _ _ h => h) (Or.inl ⟨by rfl, ?_⟩) (by assumption) ?_
  rotate_left
  · (intro w hSw; (try dsimp only at hSw); go_simp; (try with_reducible rfl))
  simp only [Act.put, List.setIfInBounds_toArray, List.set_cons_zero, List.set_cons_succ]
  refine wpAnyH_ready (rs := [16]) (by kernel_rfl) (by simp) ?_
  refine AllReadyH.cons (o := ⟨some 23, _, _, _, _, _⟩) rfl (fun KK hK => ?_) AllReadyH.nil
  go_simp
  refine (rword_any _ _).mono ?_
  rintro e WX4 ⟨rfl, hb⟩
  replace HX := Lib.hid (HX.out.below hb HX.out.lt)
  replace HB := Lib.hid (HB.out.trans (hb.mono HB.out.size))
  clear hb
  refine hK.out _ _ ⟨HX.out.cell 0 rfl, HX.out.cell 1 rfl, HX.out.cell 2 rfl, HX.out.cell 3 rfl, HX.out.cell 4 rfl, HX.out.cell 5 rfl, HX.out.cell 6 rfl, HX.out.cell 7 rfl, HX.out.cell 8 rfl⟩ (fun hHeld => ?_)
  clear hK; try clear KK
  try simp only [Act.put, List.setIfInBounds_toArray, List.set_cons_zero, List.set_cons_succ]
  refine wpAnyH_take (i := 17) (oi := ⟨some 24, _, _, _, _, _⟩) (v := ?_) rfl (by kernel_rfl) (by kernel_rfl) (by kernel_rfl) (fun _ _ _ h => h) (Or.inl ⟨by rfl, ?_⟩) (by assumption) ?_
  rotate_left
  · (intro w hSw; (try dsimp only at hSw); go_simp; (try with_reducible rfl))
  simp only [Act.put, List.setIfInBounds_toArray, List.set_cons_zero, List.set_cons_succ]
  refine wpAnyH_take (i := 18) (oi := ⟨some 25, _, _, _, _, _⟩) (v := ?_) rfl (by kernel_rfl) (by kernel_rfl) (by kernel_rfl) (fun _ _ _ h => h) (Or.inl ⟨by rfl, ?_⟩) (by assumption) ?_
  rotate_left
  · (intro w hSw; (try dsimp only at hSw); go_simp; (try with_reducible rfl))
  simp only [Act.put, List.setIfInBounds_toArray, List.set_cons_zero, List.set_cons_succ]
  refine wpAnyH_ready (rs := [21]) (by kernel_rfl) (by simp) ?_
  refine AllReadyH.cons (o := ⟨some 28, _, _, _, _, _⟩) rfl (fun KK hK => ?_) AllReadyH.nil
  go_simp
  refine (text_any _ (by omega) (by omega) _).mono ?_
  rintro e WX5 ⟨rfl, hb⟩
  replace HX := Lib.hid (HX.out.below hb HX.out.lt)
  replace HB := Lib.hid (HB.out.trans (hb.mono HB.out.size))
  clear hb
  refine hK.out _ _ ⟨HX.out.cell 0 rfl, HX.out.cell 1 rfl, HX.out.cell 2 rfl, HX.out.cell 3 rfl, HX.out.cell 4 rfl, HX.out.cell 5 rfl, HX.out.cell 6 rfl, HX.out.cell 7 rfl, HX.out.cell 8 rfl⟩ (fun hHeld => ?_)
  clear hK; try clear KK
  try simp only [Act.put, List.setIfInBounds_toArray, List.set_cons_zero, List.set_cons_succ]
  refine wpAnyH_take (i := 22) (oi := ⟨some 29, _, _, _, _, _⟩) (v := ?_) rfl (by kernel_rfl) (by kernel_rfl) (by kernel_rfl) (fun _ _ _ h => h) (Or.inl ⟨by rfl, ?_⟩) (by assumption) ?_
  rotate_left
  · (intro w hSw; (try dsimp only at hSw); go_simp; (try with_reducible rfl))
  simp only [Act.put, List.setIfInBounds_toArray, List.set_cons_zero, List.set_cons_succ]
  refine wpAnyH_take (i := 23) (oi := ⟨some 30, _, _, _, _, _⟩) (v := ?_) rfl (by kernel_rfl) (by kernel_rfl) (by kernel_rfl) (fun _ _ _ h => h) (Or.inl ⟨by rfl, ?_⟩) (by assumption) ?_
  rotate_left
  · (intro w hSw; (try dsimp only at hSw); go_simp; (try with_reducible rfl))
  simp only [Act.put, List.setIfInBounds_toArray, List.set_cons_zero, List.set_cons_succ]
  refine wpAnyH_ready (rs := [26]) (by kernel_rfl) (by simp) ?_
  refine AllReadyH.cons (o := ⟨some 33, _, _, _, _, _⟩) rfl (fun KK hK => ?_) AllReadyH.nil
  go_simp
  refine (text_any _ (by omega) (by omega) _).mono ?_
  rintro e WX6 ⟨rfl, hb⟩
  replace HX := Lib.hid (HX.out.below hb HX.out.lt)
  replace HB := Lib.hid (HB.out.trans (hb.mono HB.out.size))
  clear hb
  refine hK.out _ _ ⟨HX.out.cell 0 rfl, HX.out.cell 1 rfl, HX.out.cell 2 rfl, HX.out.cell 3 rfl, HX.out.cell 4 rfl, HX.out.cell 5 rfl, HX.out.cell 6 rfl, HX.out.cell 7 rfl, HX.out.cell 8 rfl⟩ (fun hHeld => ?_)
  clear hK; try clear KK
  try simp only [Act.put, List.setIfInBounds_toArray, List.set_cons_zero, List.set_cons_succ]
  refine wpAnyH_take (i := 27) (oi := ⟨some 34, _, _, _, _, _⟩) (v := ?_) rfl (by kernel_rfl) (by kernel_rfl) (by kernel_rfl) (fun _ _ _ h => h) (Or.inl ⟨by rfl, ?_⟩) (by assumption) ?_
  rotate_left
  · (intro w hSw; (try dsimp only at hSw); go_simp; (try with_reducible rfl))
  simp only [Act.put, List.setIfInBounds_toArray, List.set_cons_zero, List.set_cons_succ]
  refine wpAnyH_take (i := 28) (oi := ⟨some 35, _, _, _, _, _⟩) (v := ?_) rfl (by kernel_rfl) (by kernel_rfl) (by kernel_rfl) (fun _ _ _ h => h) (Or.inl ⟨by rfl, ?_⟩) (by assumption) ?_
  rotate_left
  · (intro w hSw; (try dsimp only at hSw); go_simp; (try with_reducible rfl))
  simp only [Act.put, List.setIfInBounds_toArray, List.set_cons_zero, List.set_cons_succ]
  refine wpAnyH_ready (rs := [31]) (by kernel_rfl) (by simp) ?_
  refine AllReadyH.cons (o := ⟨some 38, _, _, _, _, _⟩) rfl (fun KK hK => ?_) AllReadyH.nil
  go_simp
  refine (text_any _ (by omega) (by omega) _).mono ?_
  rintro e WX7 ⟨rfl, hb⟩
  replace HX := Lib.hid (HX.out.below hb HX.out.lt)
  replace HB := Lib.hid (HB.out.trans (hb.mono HB.out.size))
  clear hb
  refine hK.out _ _ ⟨HX.out.cell 0 rfl, HX.out.cell 1 rfl, HX.out.cell 2 rfl, HX.out.cell 3 rfl, HX.out.cell 4 rfl, HX.out.cell 5 rfl, HX.out.cell 6 rfl, HX.out.cell 7 rfl, HX.out.cell 8 rfl⟩ (fun hHeld => ?_)
  clear hK; try clear KK
  try simp only [Act.put, List.setIfInBounds_toArray, List.set_cons_zero, List.set_cons_succ]
  refine wpAnyH_take (i := 32) (oi := ⟨some 39, _, _, _, _, _⟩) (v := ?_) rfl (by kernel_rfl) (by kernel_rfl) (by kernel_rfl) (fun _ _ _ h => h) (Or.inl ⟨by rfl, ?_⟩) (by assumption) ?_
  rotate_left
  · (intro w hSw; (try dsimp only at hSw); go_simp; (try with_reducible rfl))
  simp only [Act.put, List.setIfInBounds_toArray, List.set_cons_zero, List.set_cons_succ]
  refine wpAnyH_take (i := 33) (oi := ⟨some 40, _, _, _, _, _⟩) (v := ?_) rfl (by kernel_rfl) (by kernel_rfl) (by kernel_rfl) (fun _ _ _ h => h) (Or.inl ⟨by rfl, ?_⟩) (by assumption) ?_
  rotate_left
  · (intro w hSw; (try dsimp only at hSw); go_simp; (try with_reducible rfl))
  simp only [Act.put, List.setIfInBounds_toArray, List.set_cons_zero, List.set_cons_succ]
  refine wpAnyH_ready (rs := [36]) (by kernel_rfl) (by simp) ?_
  refine AllReadyH.cons (o := ⟨some 43, _, _, _, _, _⟩) rfl (fun KK hK => ?_) AllReadyH.nil
  go_simp
  refine (text_any _ (by omega) (by omega) _).mono ?_
  rintro e WX8 ⟨rfl, hb⟩
  replace HX := Lib.hid (HX.out.below hb HX.out.lt)
  replace HB := Lib.hid (HB.out.trans (hb.mono HB.out.size))
  clear hb
  refine hK.out _ _ ⟨HX.out.cell 0 rfl, HX.out.cell 1 rfl, HX.out.cell 2 rfl, HX.out.cell 3 rfl, HX.out.cell 4 rfl, HX.out.cell 5 rfl, HX.out.cell 6 rfl, HX.out.cell 7 rfl, HX.out.cell 8 rfl⟩ (fun hHeld => ?_)
  clear hK; try clear KK
  try simp only [Act.put, List.setIfInBounds_toArray, List.set_cons_zero, List.set_cons_succ]
  refine wpAnyH_take (i := 37) (oi := ⟨some 44, _, _, _, _, _⟩) (v := ?_) rfl (by kernel_rfl) (by kernel_rfl) (by kernel_rfl) (fun _ _ _ h => h) (Or.inl ⟨by rfl, ?_⟩) (by assumption) ?_
  rotate_left
  · (intro w hSw; (try dsimp only at hSw); go_simp; (try with_reducible rfl))
  simp only [Act.put, List.setIfInBounds_toArray, List.set_cons_zero, List.set_cons_succ]
  refine wpAnyH_take (i := 38) (oi := ⟨some 45, _, _, _, _, _⟩) (v := ?_) rfl (by kernel_rfl) (by kernel_rfl) (by kernel_rfl) (fun _ _ _ h => h) (Or.inl ⟨by rfl, ?_⟩) (by assumption) ?_
  rotate_left
  · (intro w hSw; (try dsimp only at hSw); go_simp; (try with_reducible rfl))
  simp only [Act.put, List.setIfInBounds_toArray, List.set_cons_zero, List.set_cons_succ]
  refine wpAnyH_ready (rs := [41]) (by kernel_rfl) (by simp) ?_
  refine AllReadyH.cons (o := ⟨some 48, _, _, _, _, _⟩) rfl (fun KK hK => ?_) AllReadyH.nil
  go_simp
  refine (text_any _ (by omega) (by omega) _).mono ?_
  rintro e WX9 ⟨rfl, hb⟩
  replace HX := Lib.hid (HX.out.below hb HX.out.lt)
  replace HB := Lib.hid (HB.out.trans (hb.mono HB.out.size))
  clear hb
  refine hK.out _ _ ⟨HX.out.cell 0 rfl, HX.out.cell 1 rfl, HX.out.cell 2 rfl, HX.out.cell 3 rfl, HX.out.cell 4 rfl, HX.out.cell 5 rfl, HX.out.cell 6 rfl, HX.out.cell 7 rfl, HX.out.cell 8 rfl⟩ (fun hHeld => ?_)
  clear hK; try clear KK
  try simp only [Act.put, List.setIfInBounds_toArray, List.set_cons_zero, List.set_cons_succ]
  refine wpAnyH_take (i := 42) (oi := ⟨some 49, _, _, _, _, _⟩) (v := ?_) rfl (by kernel_rfl) (by kernel_rfl) (by kernel_rfl) (fun _ _ _ h => h) (Or.inl ⟨by rfl, ?_⟩) (by assumption) ?_
  rotate_left
  · (intro w hSw; (try dsimp only at hSw); go_simp; (try with_reducible rfl))
  simp only [Act.put, List.setIfInBounds_toArray, List.set_cons_zero, List.set_cons_succ]
  refine wpAnyH_take (i := 43) (oi := ⟨some 2, _, _, _, _, _⟩) (v := ?_) rfl (by kernel_rfl) (by kernel_rfl) (by kernel_rfl) (fun _ _ _ h => h) (Or.inl ⟨by rfl, ?_⟩) (by assumption) ?_
  rotate_left
  · (intro w hSw; (try dsimp only at hSw); go_simp; (try with_reducible rfl))
  simp only [Act.put, List.setIfInBounds_toArray, List.set_cons_zero, List.set_cons_succ]
  refine wpAnyH_take (i := 44) (oi := ⟨some 3, _, _, _, _, _⟩) (v := ?_) rfl (by kernel_rfl) (by kernel_rfl) (by kernel_rfl) (fun _ _ _ h => h) (Or.inl ⟨by rfl, ?_⟩) (by assumption) ?_
  rotate_left
  · (intro w hSw; (try dsimp only at hSw); go_simp; (try with_reducible rfl))
  simp only [Act.put, List.setIfInBounds_toArray, List.set_cons_zero, List.set_cons_succ]
  refine wpAnyH_done (by kernel_rfl) ?_ _
  go_wp2_with fail
  go_ret2
  refine ⟨?_, HB.out⟩
  show Ending.returned (.tuple #[.string P16, _]) = _
  rw [HLN.out, HR.out]
  rfl
set_option maxRecDepth 20000 in
set_option maxHeartbeats 2000000 in
theorem rrepLine_false (m : Msg) (w : World) (hr : rightM m = false) :
    Calls Tryd.prog 43 #[.agg m.cells] w (RLineIs m w) := by
  have HX := Lib.hid (Blk.new w m.cells 62 w.heap.size rfl)
  have HR := Lib.hid hr
  clear hr
  go_enter Tryd.func43, Tryd.ntmps43
  go_wp2_with (refine load_blk (by rfl) 62 _ (by rfl) w.heap.size (by rfl) m.cells 62 HX.out _ Tryd.underlying62 rfl (by kernel_rfl) ?_)
  refine (rmright_any m _).mono ?_
  rintro e w1 ⟨rfl, hb⟩
  have HB := Lib.hid (((Below.refl w.heap.size w).alloc (Nat.le_refl _) _).trans (hb.mono (by simp)))
  clear hb
  rw [HR.out]
  go_wp2_with fail
  go_ret2
  refine ⟨?_, HB.out⟩
  rw [HR.out]; rfl
theorem rrepLine_any (m : Msg) (hf : Fits m) (w : World) : Calls Tryd.prog 43 #[.agg m.cells] w (RLineIs m w) := by
  cases hr : rightM m with
  | false => exact rrepLine_false m w hr
  | true => exact rrepLine_true m hf w hr
end Go.Proofs.YtmkcooamgojbpaaDoor.Reports
