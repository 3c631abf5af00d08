/- Parts of the proof: DepthNilsW. -/
import Derived.Test.YtogjgpiddjmpiaaPart25
import Derived.Test.YtogjgpiddjmpiaaPart26

/- DepthNils. -/
namespace Go.Proofs.Ytogjgpiddjmpiaa.Depth
open Go.RowKit Go.Shelf Go.Proofs.Ytogjgpiddjmpiaa.Kit Go.Proofs.Ytogjgpiddjmpiaa.Blk Go.Proofs.Ytogjgpiddjmpiaa.Mp Go.Proofs.Ytogjgpiddjmpiaa.Msgs
attribute [local go_sem ↓] Go.wp_at_zero Go.wp_at_succ
set_option linter.unusedVariables false

theorem lvS_one (side p q : Int) : LvS side [(p, q)] [⟨p, q, 1⟩] := by
  refine ⟨by simp, fun x => ?_⟩
  rw [List.mem_singleton]
  constructor
  · rintro rfl
    exact ⟨by simp, by simp [sumF], by simp [numF]⟩
  · rintro ⟨h1, h2, h3⟩
    obtain ⟨a, b, c⟩ := x
    dsimp only at *
    have h1 : a = p := by simpa using h1
    subst h1
    simp [sumF] at h2
    simp [numF] at h3
    rw [h2, h3]
def aliveM : Msg := ⟨1, 0, 0, 0, 1, 0, 10, 5, 0⟩
theorem alive_put : putF [] aliveM = ([((0, 1), ⟨0, 10, 5⟩)], true) := by simp [putF, aliveM, mget, mput]
theorem alive_ok : OkL [((0, 1), ⟨0, 10, 5⟩)] := by
  intro p hp
  rw [List.mem_singleton] at hp
  subst hp
  decide
theorem alive_rest : restV [((0, 1), ⟨0, 10, 5⟩)] 0 0 = [(10, 5)] := by decide

set_option maxRecDepth 20000 in
set_option maxHeartbeats 4000000 in
theorem alive_any (w : World) : Calls Try.prog 35 #[] w fun e w' => e = .returned (.bool true) ∧ Below w.heap.size w w' := by
  go_enter Try.func35, Try.ntmps35
  go_wp2_with fail
  refine (new_any w).mono ?_
  rintro e w1 ⟨rfl, hd, hb⟩
  have HP := Lib.hid (put_any _ _ [] aliveM w1 hd (by intro p hp; simp at hp) (by decide))
  rw [show aliveM.cells = #[.int .i64 1, .int .i64 0, .int .i64 0, .int .i64 0, .int .i64 1, .int .i64 0, .int .i64 10, .int .i64 5, .int .i64 0] from rfl] at HP
  have HB := Lib.hid hb
  clear hd hb
  go_wp2_with fail
  refine HP.out.mono ?_
  rintro e w2 ⟨rfl, hd, hc⟩
  rw [alive_put] at hd ⊢
  have HB2 := Lib.hid (HB.out.trans (hc.below' (m := w.heap.size) (Nat.le_refl _) HB.out.size))
  have HL := Lib.hid (levels_any _ _ _ 0 0 3 w2 hd alive_ok (by decide))
  clear hd hc HP
  dsimp only at *
  go_wp2_with fail
  refine HL.out.mono ?_
  rintro e w3 ⟨S, v, h1, rfl, h2, h3⟩
  rw [alive_rest] at h1
  obtain rfl := lvS_unique (List.Perm.refl _) h1 (lvS_one 0 10 5)
  have HB3 := Lib.hid (HB2.out.trans (h3.mono HB2.out.size))
  obtain ⟨a, c, rfl, hc1, hc2, hc3⟩ := h2
  obtain ⟨g, rfl, hg1, hg2, hcell⟩ := hc3 0 (by decide)
  have c0 : w3.cell? ⟨g, 0, none⟩ = some (.int .i64 10) := hcell 0 _ rfl
  have c1 : w3.cell? ⟨g, 1, none⟩ = some (.int .i64 5) := hcell 1 _ rfl
  have c2 : w3.cell? ⟨g, 2, none⟩ = some (.int .i64 1) := hcell 2 _ rfl
  rw [show (cutF 3 [(⟨10, 5, 1⟩ : Lvl)]).length = 1 from by decide]
  clear hcell hc3 hc1 hc2 h1 h3 HL
  go_wp2_with fail
  go_ret
  exact ⟨rfl, HB3.out⟩

set_option maxRecDepth 20000 in
set_option maxHeartbeats 4000000 in
theorem depthNils_any (m : Msg) (side most : Int) (w : World) : Calls Try.prog 11 #[.agg m.cells, .int .i64 side, .int .i64 most] w fun e w' => e = .returned (.bool true) ∧ Below w.heap.size w w' := by
  have HB0 := Lib.hid (show Below w.heap.size w (w.alloc (.cells m.cells 66)) from (Below.refl _ _).alloc (Nat.le_refl _) _)
  have HM := Lib.hid (Blk.new w m.cells 66 w.heap.size rfl)
  have HPUT := Lib.hid (put_nil m)
  unfold Msg.cells at *
  go_enter Try.func11, Try.ntmps11
  go_wp2_with fail
  refine (best_nil _ _ _).mono ?_
  rintro e w1 ⟨rfl, hb1⟩
  have c1 : w1.cell? ⟨w.heap.size, 1, none⟩ = some (.int .i64 m.sym) := (HM.out.below hb1 HM.out.lt).cell 1 rfl
  have hlt : w.heap.size < w1.heap.size := (HM.out.below hb1 HM.out.lt).lt
  have HM1 := Lib.hid ((HM.out.below hb1 HM.out.lt).old (.cells #[.int .i64 0, .int .i64 0, .int .i64 0] 90))
  have HB1 := Lib.hid ((HB0.out.trans (hb1.mono HB0.out.size)).alloc (Nat.le_trans HB0.out.size hb1.size) (.cells #[.int .i64 0, .int .i64 0, .int .i64 0] 90))
  clear hb1 HM HB0
  go_wp2_with fail
  refine (spread_nil _ _).mono ?_
  rintro e w2 ⟨rfl, hb2⟩
  have HM2 := Lib.hid (HM1.out.below hb2 HM1.out.lt)
  have HB2 := Lib.hid (HB1.out.trans (hb2.mono HB1.out.size))
  clear hb2 HM1 c1 hlt HB1
  have c0 : w2.cell? ⟨w.heap.size, 0, none⟩ = some (.int .i64 m.kind) := HM2.out.cell 0 rfl
  have c1 : w2.cell? ⟨w.heap.size, 1, none⟩ = some (.int .i64 m.sym) := HM2.out.cell 1 rfl
  have c2 : w2.cell? ⟨w.heap.size, 2, none⟩ = some (.int .i64 m.seq) := HM2.out.cell 2 rfl
  have c3 : w2.cell? ⟨w.heap.size, 3, none⟩ = some (.int .i64 m.tick) := HM2.out.cell 3 rfl
  have c4 : w2.cell? ⟨w.heap.size, 4, none⟩ = some (.int .i64 m.id) := HM2.out.cell 4 rfl
  have c5 : w2.cell? ⟨w.heap.size, 5, none⟩ = some (.int .i64 m.wth) := HM2.out.cell 5 rfl
  have c6 : w2.cell? ⟨w.heap.size, 6, none⟩ = some (.int .i64 m.price) := HM2.out.cell 6 rfl
  have c7 : w2.cell? ⟨w.heap.size, 7, none⟩ = some (.int .i64 m.qty) := HM2.out.cell 7 rfl
  have c8 : w2.cell? ⟨w.heap.size, 8, none⟩ = some (.int .i64 m.code) := HM2.out.cell 8 rfl
  go_wp2_with fail
  refine (HPUT.out w2).mono ?_
  rintro e w3 ⟨rfl, hb3⟩
  have HM3 := Lib.hid (HM2.out.below hb3 HM2.out.lt)
  have HB3 := Lib.hid (HB2.out.trans (hb3.mono HB2.out.size))
  clear hb3 HB2 HM2 HPUT c0 c1 c2 c3 c4 c5 c6 c7 c8
  have c1 : w3.cell? ⟨w.heap.size, 1, none⟩ = some (.int .i64 m.sym) := HM3.out.cell 1 rfl
  go_wp2_with fail
  refine (levels_nil _ _ _ _).mono ?_
  rintro e w4 ⟨rfl, rfl⟩
  go_wp2_with fail
  refine (alive_any _).mono ?_
  rintro e w5 ⟨rfl, hb5⟩
  have HB5 := Lib.hid (HB3.out.trans (hb5.mono HB3.out.size))
  clear hb5 HB3
  go_wp2_with fail
  go_ret
  exact ⟨rfl, HB5.out⟩
end Go.Proofs.Ytogjgpiddjmpiaa.Depth
