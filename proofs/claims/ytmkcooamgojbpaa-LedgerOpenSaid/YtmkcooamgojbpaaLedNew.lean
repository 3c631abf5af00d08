/- A ledger anew; Get; what a nil one says. -/
import Derived.Test.YtmkcooamgojbpaaLedPut
namespace Go.Proofs.Ytmkcooamgojbpaa.Ledger
open Go.RowKit Go.Proofs.Ytmkcooamgojbpaa.Kit Go.Proofs.Ytmkcooamgojbpaa.Blk Go.Proofs.Ytmkcooamgojbpaa.Mp Go.Proofs.Ytmkcooamgojbpaa.Qty Go.Proofs.Ytmkcooamgojbpaa.Msgs
attribute [local go_sem ↓] Go.wp_at_zero Go.wp_at_succ
set_option linter.unusedVariables false

theorem results_blk_tmp'' {P : Program} {fn : Func} {p u : Tmp} {ty T : TypeId} {tmps : Array Value} {w : World} {B : Nat} {cs : Array Value} {d : TypeDesc} (h : fn.results = #[.cell p ty, .tmp u]) (hp : tmps.getD p undef = .pointer (some ⟨B, 0, none⟩)) (hb : Blk w B cs T)
    (hu : P.underlying ty = some d) (hd : d.isRow = true) (hi : (P.info? ty).map (·.size) = some cs.size) : (results fn tmps).run P w = .ok (.tuple #[.agg cs, tmps.getD u undef]) w := by
  have hp' : tmps[p]?.getD undef = .pointer (some ⟨B, 0, none⟩) := by simpa using hp
  have hl := run_loadVar_mid w B 0 ty cs.toList d hb.range hu hd (by simpa using hi)
  simp [results, h, hp', asAddr, hl]
theorem new_any (w : World) : Calls Try.prog 6 #[] w fun e w' => e = .returned (.pointer (some ⟨w.heap.size + 3, 0, none⟩)) ∧ LS w' (w.heap.size + 3) w.heap.size (w.heap.size + 1) (w.heap.size + 2) led0 ∧ Below w.heap.size w w' := by
  have hmm := @run_makeMap Try.prog
  have HD := Lib.hid (show LS ((((w.alloc (.map #[] 0)).alloc (.map #[] 0)).alloc (.map #[] 0)).alloc (.cells #[.map (some w.heap.size), .map (some (w.heap.size + 1)), .map (some (w.heap.size + 2))] 51)) (w.heap.size + 3) w.heap.size (w.heap.size + 1) (w.heap.size + 2) led0 from
    ⟨Blk.new _ _ _ _ (by simp), (((mapIs_new w w.heap.size rfl ke va).old _).old _).old _, ((mapIs_new (w.alloc (.map #[] 0)) (w.heap.size + 1) (by simp) ke vi).old _).old _, (mapIs_new ((w.alloc (.map #[] 0)).alloc (.map #[] 0)) (w.heap.size + 2) (by simp) vi va).old _, by omega, by omega, by omega⟩)
  have HB := Lib.hid (((((Below.refl w.heap.size w).alloc (Nat.le_refl _) (.map #[] 0)).alloc (by simp) (.map #[] 0)).alloc (by simp; omega) (.map #[] 0)).alloc (by simp; omega) (.cells #[.map (some w.heap.size), .map (some (w.heap.size + 1)), .map (some (w.heap.size + 2))] 51))
  go_enter Try.func6, Try.ntmps6
  go_wp2_with fail
  go_ret
  exact ⟨rfl, HD.out, HB.out⟩
set_option maxRecDepth 20000 in
set_option maxHeartbeats 1000000 in
theorem get_any (L : Led) (D b1 b2 b3 : Nat) (sym id : Int) (w : World) (h : LS w D b1 b2 b3 L) :
    Calls Try.prog 11 #[.pointer (some ⟨D, 0, none⟩), .int .i64 sym, .int .i64 id] w fun e w' => e = .returned (.tuple #[.agg ((mget (sym, id) L.now).getD acc0).cells, .bool (mget (sym, id) L.now).isSome]) ∧ Below w.heap.size w w' := by
  have HX := Lib.hid (Blk.new w acc0.cells 41 w.heap.size rfl)
  have HB := Lib.hid ((Below.refl w.heap.size w).alloc (Nat.le_refl _) (.cells acc0.cells 41))
  have HL := Lib.hid (h.alloc (.cells acc0.cells 41))
  have hlk := look1 HL.out.m1 sym id
  have c0 : (w.alloc (.cells acc0.cells 41)).cell? ⟨D, 0, none⟩ = some (.map (some b1)) := HL.out.box.cell 0 rfl
  clear h
  generalize (mget (sym, id) L.now).getD acc0 = a at hlk ⊢
  generalize (mget (sym, id) L.now).isSome = is at hlk ⊢
  go_enter Try.func11, Try.ntmps11
  go_upto_region 3 with fail
  change Code.wp _ _ _ _ (w.alloc (.cells acc0.cells 41))
  generalize w.alloc (.cells acc0.cells 41) = w1 at HX HB HL hlk c0 ⊢
  go_upto_region 4 with (refine store_blk (by rfl) 41 _ _ (by rfl) w.heap.size (by rfl) _ a.cells 41 HX.out (by rfl) rfl (by kernel_rfl) (acc_one a) ?_)
  change Code.wp _ _ _ _ (w1.setCells w.heap.size 0 a.cells.toList)
  have HY := Lib.hid (HX.out.setCells a.cells rfl)
  have HB2 := Lib.hid (Blk.Below.setCells a.cells.toList 0 _ HB.out (Nat.le_refl _))
  clear HX HB HL hlk c0
  generalize w1.setCells w.heap.size 0 a.cells.toList = w2 at HY HB2 ⊢
  go_wp2_with (first
    | (refine load_blk (by rfl) 41 _ (by rfl) w.heap.size (by rfl) _ _ HY.out _ Try.underlying41 rfl (by kernel_rfl) ?_)
    | (refine store_blk (by rfl) 41 _ _ (by rfl) w.heap.size (by rfl) _ a.cells 41 HY.out (by rfl) rfl (by kernel_rfl) (acc_one a) ?_))
  refine bodyPost_ret (results_blk_tmp'' rfl rfl (HY.out.setCells a.cells rfl) Try.underlying41 rfl (by kernel_rfl)) rfl ?_
  exact ⟨by simp, Blk.Below.setCells _ _ _ HB2.out (Nat.le_refl _)⟩
/- Of a nil ledger. -/
theorem put_nil (m : Msg) (w : World) : Calls Try.prog 7 #[.pointer none, .agg m.cells] w fun e w' => e = .returned (.int .i64 1) ∧ Below w.heap.size w w' := by
  have HB := Lib.hid ((Below.refl w.heap.size w).alloc (Nat.le_refl _) (.cells m.cells 33))
  unfold Msg.cells at *
  go_enter Try.func7, Try.ntmps7
  go_wp2_with fail
  go_ret
  exact ⟨rfl, HB.out⟩
theorem get_nil (sym id : Int) (w : World) : Calls Try.prog 11 #[.pointer none, .int .i64 sym, .int .i64 id] w fun e w' => e = .returned (.tuple #[.agg acc0.cells, .bool false]) ∧ Below w.heap.size w w' := by
  have HX := Lib.hid (Blk.new w acc0.cells 41 w.heap.size rfl)
  have HB := Lib.hid ((Below.refl w.heap.size w).alloc (Nat.le_refl _) (.cells acc0.cells 41))
  go_enter Try.func11, Try.ntmps11
  go_upto_region 2 with fail
  change Code.wp _ _ _ _ (w.alloc (.cells acc0.cells 41))
  generalize w.alloc (.cells acc0.cells 41) = w1 at HX HB ⊢
  go_wp2_with (first
    | (refine load_blk (by rfl) 41 _ (by rfl) w.heap.size (by rfl) _ _ HX.out _ Try.underlying41 rfl (by kernel_rfl) ?_)
    | (refine store_blk (by rfl) 41 _ _ (by rfl) w.heap.size (by rfl) _ acc0.cells 41 HX.out (by rfl) rfl (by kernel_rfl) (acc_one acc0) ?_))
  refine bodyPost_ret (results_blk_tmp'' rfl rfl (HX.out.setCells acc0.cells rfl) Try.underlying41 rfl (by kernel_rfl)) rfl ?_
  exact ⟨by simp, Blk.Below.setCells _ _ _ HB.out (Nat.le_refl _)⟩
theorem sums_nil (sym : Int) (w : World) : Calls Try.prog 12 #[.pointer none, .int .i64 sym] w fun e w' => e = .returned (.agg acc0.cells) ∧ Below w.heap.size w w' := by
  have HX := Lib.hid (Blk.new w acc0.cells 41 w.heap.size rfl)
  have HB := Lib.hid ((Below.refl w.heap.size w).alloc (Nat.le_refl _) (.cells acc0.cells 41))
  go_enter Try.func12, Try.ntmps12
  go_upto_region 2 with fail
  change Code.wp _ _ _ _ (w.alloc (.cells acc0.cells 41))
  generalize w.alloc (.cells acc0.cells 41) = w1 at HX HB ⊢
  go_wp2_with (first
    | (refine load_blk (by rfl) 41 _ (by rfl) w.heap.size (by rfl) _ _ HX.out _ Try.underlying41 rfl (by kernel_rfl) ?_)
    | (refine store_blk (by rfl) 41 _ _ (by rfl) w.heap.size (by rfl) _ acc0.cells 41 HX.out (by rfl) rfl (by kernel_rfl) (acc_one acc0) ?_))
  have HY := Lib.hid (HX.out.setCells acc0.cells rfl)
  refine bodyPost_ret (results_cell_row rfl _ _ _ _ _ (0, 0) _ rfl HY.out Try.underlying41 rfl (by kernel_rfl)) rfl ?_
  exact ⟨by simp, Blk.Below.setCells _ _ _ HB.out (Nat.le_refl _)⟩
theorem owes_nil (sym : Int) (w : World) : Calls Try.prog 13 #[.pointer none, .int .i64 sym] w fun e w' => e = .returned (.int .i64 0) ∧ w' = w := by
  go_enter Try.func13, Try.ntmps13
  go_wp2_with fail
  go_ret
  exact ⟨rfl, rfl⟩
end Go.Proofs.Ytmkcooamgojbpaa.Ledger
