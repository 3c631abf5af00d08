/- tape.Merge: two bars together. -/
import Derived.Test.YtogjgpiddjmpiaaTapeOf
import Derived.Test.YtogjgpiddjmpiaaTapeBars
namespace Go.Proofs.Ytogjgpiddjmpiaa.Tape
set_option linter.unusedVariables false
open Go.RowKit Go.Proofs.Ytogjgpiddjmpiaa.Kit Go.Proofs.Ytogjgpiddjmpiaa.Blk Go.Proofs.Ytogjgpiddjmpiaa.Msgs
attribute [local go_sem ↓] Go.wp_at_zero Go.wp_at_succ

theorem mul_wc (x y : Nat) (hx : x < 18446744073709551616) (hy : y < 18446744073709551616) (w : World) : Calls Try.prog 76 #[.int .u64 x, .int .u64 y] w fun e w' => e = .returned (.agg (wcells (x * y))) ∧ Below w.heap.size w w' := by
  have h := Wide.mul_any (x : Int) (y : Int) w (by omega) (by omega) (by omega) (by omega)
  have e : (x : Int) * (y : Int) = ((x * y : Nat) : Int) := by rw [Int.natCast_mul]
  rw [e] at h
  exact h
theorem add_wc (x y : Nat) (h : x + y < 340282366920938463463374607431768211456) (w : World) : Calls Try.prog 77 #[.agg (wcells x), .agg (wcells y)] w fun e w' => e = .returned (.tuple #[.agg (wcells (x + y)), .bool true]) ∧ Below w.heap.size w w' := by
  have k := WideN.add_int ((x / 18446744073709551616 : Nat) : Int) ((x % 18446744073709551616 : Nat) : Int) ((y / 18446744073709551616 : Nat) : Int) ((y % 18446744073709551616 : Nat) : Int) (by omega) (by omega) (by omega) (by omega) (by omega) (by omega) (by omega) w
  have e : ((x / 18446744073709551616 : Nat) : Int) * 18446744073709551616 + ((x % 18446744073709551616 : Nat) : Int) + (((y / 18446744073709551616 : Nat) : Int) * 18446744073709551616 + ((y % 18446744073709551616 : Nat) : Int)) = ((x + y : Nat) : Int) := by omega
  rw [e] at k
  exact k
def mergedF (a b : Bar) (m : Nat) : Bar := ⟨a.frm, a.opn, max a.high b.high, min a.low b.low, b.cls, a.vol + b.vol, a.trd + b.trd, (m : Int)⟩
theorem bar_cls {w : World} {X T : Nat} {b : Bar} (h : Blk w X b.cells T) (v : Int) : Blk (w.setCell ⟨X, 4, none⟩ (.int .i64 v)) X (Bar.cells ⟨b.frm, b.opn, b.high, b.low, v, b.vol, b.trd, b.mean⟩) T := h.set 4 _
theorem bar_trd {w : World} {X T : Nat} {b : Bar} (h : Blk w X b.cells T) (v : Int) : Blk (w.setCell ⟨X, 6, none⟩ (.int .i64 v)) X (Bar.cells ⟨b.frm, b.opn, b.high, b.low, b.cls, b.vol, v, b.mean⟩) T := h.set 6 _
def wz : Array Value := #[.int .u64 0, .int .u64 0]
/-- While two bars are merged. -/
structure MI (N : Nat) (a b : Bar) (w W : World) : Prop where
  a : Blk W N a.cells 53
  b : Blk W (N + 1) b.cells 53
  r : Blk W (N + 1 + 1) Bar.zero.cells 53
  bel : Below N w W
theorem MI.below {N : Nat} {a b : Bar} {w W W' : World} (h : MI N a b w W) (hN : N ≤ W.heap.size) (hb : Below W.heap.size W W') : MI N a b w W' :=
  ⟨h.a.below hb h.a.lt, h.b.below hb h.b.lt, h.r.below hb h.r.lt, h.bel.trans (hb.mono hN)⟩
theorem MI.le {N : Nat} {a b : Bar} {w W : World} (h : MI N a b w W) : N ≤ W.heap.size := Nat.le_of_lt h.a.lt
theorem mi_set {N : Nat} {a a' b : Bar} {w W : World} {j : Nat} {v : Int} (h : MI N a b w W) (ha : Blk (W.setCell ⟨N, j, none⟩ (.int .i64 v)) N a'.cells 53) : MI N a' b w (W.setCell ⟨N, j, none⟩ (.int .i64 v)) :=
  ⟨ha, h.b.apart _ _ (by show N ≠ N + 1; omega), h.r.apart _ _ (by show N ≠ N + 1 + 1; omega), h.bel.setCell (p := ⟨N, j, none⟩) (Nat.le_refl _) _⟩

set_option maxRecDepth 20000 in
set_option maxHeartbeats 4000000 in
theorem merge_any (a b : Bar) (am av bm bv : Nat) (ham : a.mean = am) (hav : a.vol = av) (hbm : b.mean = bm) (hbv : b.vol = bv) (h1 : am ≤ 1099511627776) (h2 : bm ≤ 1099511627776) (h3 : av ≤ 1099511627776000) (h4 : bv ≤ 1099511627776000) (h5 : 0 < av + bv)
    (hat : a.trd ≠ 0) (hbt : b.trd ≠ 0) (ha0 : 0 ≤ a.trd) (hb0 : 0 ≤ b.trd) (ha1 : a.trd ≤ 100000) (hb1 : b.trd ≤ 100000) (w : World) :
    Calls Try.prog 28 #[.agg a.cells, .agg b.cells] w fun e w' => e = .returned (.agg (mergedF a b ((am * av + bm * bv) / (av + bv))).cells) ∧ Below w.heap.size w w' := by
  have HI0 : MI w.heap.size a b w (((w.alloc (.cells a.cells 53)).alloc (.cells b.cells 53)).alloc (.cells Bar.zero.cells 53)) :=
    ⟨((Blk.new w a.cells 53 w.heap.size rfl).old _).old _, (Blk.new (w.alloc (.cells a.cells 53)) b.cells 53 (w.heap.size + 1) (by simp)).old _, Blk.new ((w.alloc (.cells a.cells 53)).alloc (.cells b.cells 53)) Bar.zero.cells 53 (w.heap.size + 1 + 1) (by simp), (((Below.refl _ _).alloc (Nat.le_refl _) _).alloc (by simp) _).alloc (by simp; omega) _⟩
  have HI := Lib.hid HI0
  have HAM := Lib.hid ham
  have HAV := Lib.hid hav
  have HBM := Lib.hid hbm
  have HBV := Lib.hid hbv
  have b1 : (a.trd == 0) = false := by simpa using hat
  have b2 : (b.trd == 0) = false := by simpa using hbt
  have hp1 : am * av ≤ 1099511627776 * 1099511627776000 := Nat.mul_le_mul h1 h3
  have hp2 : bm * bv ≤ 1099511627776 * 1099511627776000 := Nat.mul_le_mul h2 h4
  have HM1 := Lib.hid (fun w => mul_wc am av (by omega) (by omega) w)
  have HM2 := Lib.hid (fun w => mul_wc bm bv (by omega) (by omega) w)
  have HAD := Lib.hid (fun w => add_wc (am * av) (bm * bv) (by omega) w)
  have e1 : IntKind.u64.wrap (am : Int) = (am : Int) := IntWalk.u64_in _ ⟨by omega, by omega⟩
  have e2 : IntKind.u64.wrap (av : Int) = (av : Int) := IntWalk.u64_in _ ⟨by omega, by omega⟩
  have e3 : IntKind.u64.wrap (bm : Int) = (bm : Int) := IntWalk.u64_in _ ⟨by omega, by omega⟩
  have e4 : IntKind.u64.wrap (bv : Int) = (bv : Int) := IntWalk.u64_in _ ⟨by omega, by omega⟩
  clear HI0 ham hav hbm hbv hat hbt hp1 hp2
  go_enter Try.func28, Try.ntmps28
  go_upto_block 0 with fail
  change Code.wp _ _ _ _ (((w.alloc (.cells a.cells 53)).alloc (.cells b.cells 53)).alloc (.cells Bar.zero.cells 53))
  generalize ((w.alloc (.cells a.cells 53)).alloc (.cells b.cells 53)).alloc (.cells Bar.zero.cells 53) = W at HI ⊢
  have ca6 : W.cell? ⟨w.heap.size, 6, none⟩ = some (.int .i64 a.trd) := HI.out.a.cell 6 rfl
  have cb6 : W.cell? ⟨w.heap.size + 1, 6, none⟩ = some (.int .i64 b.trd) := HI.out.b.cell 6 rfl
  go_upto_region 5 with fail
  go_cut [5] (fun v wx => ∃ D, v = .pointer (some ⟨D, 0, none⟩) ∧ w.heap.size + 1 + 1 < D ∧ Blk wx D (wcells (am * av + bm * bv)) 144 ∧ MI w.heap.size a b w wx)
  case first =>
    clear ca6 cb6
    replace HI := Lib.hid (HI.out.below HI.out.le (Below.refl W.heap.size W).drew)
    refine wp_region_held_drew (S := (fun w' => w'.cell? ⟨w.heap.size, 7, none⟩ = some (.int .i64 am) ∧ w'.cell? ⟨w.heap.size, 5, none⟩ = some (.int .i64 av) ∧ w'.cell? ⟨w.heap.size + 1, 7, none⟩ = some (.int .i64 bm) ∧ w'.cell? ⟨w.heap.size + 1, 5, none⟩ = some (.int .i64 bv))) (by kernel_rfl) ⟨by rw [← HAM.out]; exact HI.out.a.cell 7 rfl, by rw [← HAV.out]; exact HI.out.a.cell 5 rfl, by rw [← HBM.out]; exact HI.out.b.cell 7 rfl, by rw [← HBV.out]; exact HI.out.b.cell 5 rfl⟩ (fun hHeld => ?_)
    generalize W.drew = W at HI hHeld ⊢
    have ca7 : W.cell? ⟨w.heap.size, 7, none⟩ = some (.int .i64 am) := by rw [← HAM.out]; exact HI.out.a.cell 7 rfl
    have ca5 : W.cell? ⟨w.heap.size, 5, none⟩ = some (.int .i64 av) := by rw [← HAV.out]; exact HI.out.a.cell 5 rfl
    have cb7 : W.cell? ⟨w.heap.size + 1, 7, none⟩ = some (.int .i64 bm) := by rw [← HBM.out]; exact HI.out.b.cell 7 rfl
    have cb5 : W.cell? ⟨w.heap.size + 1, 5, none⟩ = some (.int .i64 bv) := by rw [← HBV.out]; exact HI.out.b.cell 5 rfl
    refine wpAnyH_take (i := 0) (oi := ⟨some 18, _, _, _, _, _⟩) (v := (.pointer (some ⟨w.heap.size, 7, none⟩))) rfl (by kernel_rfl) (by kernel_rfl) (by kernel_rfl) (fun _ _ _ h => h) (Or.inl ⟨by rfl, fun w hSw => by (try dsimp only at hSw); go_simp⟩) (by assumption) ?_
    simp only [Act.put, List.setIfInBounds_toArray, List.set_cons_zero, List.set_cons_succ]
    refine wpAnyH_take (i := 1) (oi := ⟨some 19, _, _, _, _, _⟩) (v := (.int .i64 am)) rfl (by kernel_rfl) (by kernel_rfl) (by kernel_rfl) (fun _ _ _ h => h) (Or.inl ⟨by rfl, fun w hSw => by (try dsimp only at hSw); go_simp⟩) (by assumption) ?_
    simp only [Act.put, List.setIfInBounds_toArray, List.set_cons_zero, List.set_cons_succ]
    refine wpAnyH_take (i := 2) (oi := ⟨some 20, _, _, _, _, _⟩) (v := (.int .u64 am)) rfl (by kernel_rfl) (by kernel_rfl) (by kernel_rfl) (fun _ _ _ h => h) (Or.inl ⟨by rfl, fun w hSw => by (try dsimp only at hSw); go_simp⟩) (by assumption) ?_
    simp only [Act.put, List.setIfInBounds_toArray, List.set_cons_zero, List.set_cons_succ]
    refine wpAnyH_take (i := 3) (oi := ⟨some 21, _, _, _, _, _⟩) (v := (.pointer (some ⟨w.heap.size, 5, none⟩))) rfl (by kernel_rfl) (by kernel_rfl) (by kernel_rfl) (fun _ _ _ h => h) (Or.inl ⟨by rfl, fun w hSw => by (try dsimp only at hSw); go_simp⟩) (by assumption) ?_
    simp only [Act.put, List.setIfInBounds_toArray, List.set_cons_zero, List.set_cons_succ]
    refine wpAnyH_take (i := 4) (oi := ⟨some 22, _, _, _, _, _⟩) (v := (.int .i64 av)) rfl (by kernel_rfl) (by kernel_rfl) (by kernel_rfl) (fun _ _ _ h => h) (Or.inl ⟨by rfl, fun w hSw => by (try dsimp only at hSw); go_simp⟩) (by assumption) ?_
    simp only [Act.put, List.setIfInBounds_toArray, List.set_cons_zero, List.set_cons_succ]
    refine wpAnyH_take (i := 5) (oi := ⟨some 23, _, _, _, _, _⟩) (v := (.int .u64 av)) rfl (by kernel_rfl) (by kernel_rfl) (by kernel_rfl) (fun _ _ _ h => h) (Or.inl ⟨by rfl, fun w hSw => by (try dsimp only at hSw); go_simp⟩) (by assumption) ?_
    simp only [Act.put, List.setIfInBounds_toArray, List.set_cons_zero, List.set_cons_succ]
    refine wpAnyH_take (i := 7) (oi := ⟨some 25, _, _, _, _, _⟩) (v := (.pointer (some ⟨w.heap.size + 1, 7, none⟩))) rfl (by kernel_rfl) (by kernel_rfl) (by kernel_rfl) (fun _ _ _ h => h) (Or.inl ⟨by rfl, fun w hSw => by (try dsimp only at hSw); go_simp⟩) (by assumption) ?_
    simp only [Act.put, List.setIfInBounds_toArray, List.set_cons_zero, List.set_cons_succ]
    refine wpAnyH_take (i := 8) (oi := ⟨some 26, _, _, _, _, _⟩) (v := (.int .i64 bm)) rfl (by kernel_rfl) (by kernel_rfl) (by kernel_rfl) (fun _ _ _ h => h) (Or.inl ⟨by rfl, fun w hSw => by (try dsimp only at hSw); go_simp⟩) (by assumption) ?_
    simp only [Act.put, List.setIfInBounds_toArray, List.set_cons_zero, List.set_cons_succ]
    refine wpAnyH_take (i := 9) (oi := ⟨some 27, _, _, _, _, _⟩) (v := (.int .u64 bm)) rfl (by kernel_rfl) (by kernel_rfl) (by kernel_rfl) (fun _ _ _ h => h) (Or.inl ⟨by rfl, fun w hSw => by (try dsimp only at hSw); go_simp⟩) (by assumption) ?_
    simp only [Act.put, List.setIfInBounds_toArray, List.set_cons_zero, List.set_cons_succ]
    refine wpAnyH_take (i := 10) (oi := ⟨some 28, _, _, _, _, _⟩) (v := (.pointer (some ⟨w.heap.size + 1, 5, none⟩))) rfl (by kernel_rfl) (by kernel_rfl) (by kernel_rfl) (fun _ _ _ h => h) (Or.inl ⟨by rfl, fun w hSw => by (try dsimp only at hSw); go_simp⟩) (by assumption) ?_
    simp only [Act.put, List.setIfInBounds_toArray, List.set_cons_zero, List.set_cons_succ]
    refine wpAnyH_take (i := 11) (oi := ⟨some 29, _, _, _, _, _⟩) (v := (.int .i64 bv)) rfl (by kernel_rfl) (by kernel_rfl) (by kernel_rfl) (fun _ _ _ h => h) (Or.inl ⟨by rfl, fun w hSw => by (try dsimp only at hSw); go_simp⟩) (by assumption) ?_
    simp only [Act.put, List.setIfInBounds_toArray, List.set_cons_zero, List.set_cons_succ]
    refine wpAnyH_take (i := 12) (oi := ⟨some 30, _, _, _, _, _⟩) (v := (.int .u64 bv)) rfl (by kernel_rfl) (by kernel_rfl) (by kernel_rfl) (fun _ _ _ h => h) (Or.inl ⟨by rfl, fun w hSw => by (try dsimp only at hSw); go_simp⟩) (by assumption) ?_
    simp only [Act.put, List.setIfInBounds_toArray, List.set_cons_zero, List.set_cons_succ]
    refine wpAnyH_ready (rs := [6, 18]) (by kernel_rfl) (by simp) ?_
    refine AllReadyH.cons (o := ⟨some 24, _, _, _, _, _⟩) rfl (fun KK hK => ?_) (AllReadyH.cons (o := ⟨some 5, _, _, _, _, _⟩) rfl (fun KK hK => ?_) AllReadyH.nil)
    ·
      go_simp
      refine (HM1.out _).mono ?_
      rintro e W ⟨rfl, hb⟩
      replace HI := Lib.hid (HI.out.below HI.out.le hb)
      clear ca7 ca5 cb7 cb5
      clear hb
      have ca7 : W.cell? ⟨w.heap.size, 7, none⟩ = some (.int .i64 am) := by rw [← HAM.out]; exact HI.out.a.cell 7 rfl
      have ca5 : W.cell? ⟨w.heap.size, 5, none⟩ = some (.int .i64 av) := by rw [← HAV.out]; exact HI.out.a.cell 5 rfl
      have cb7 : W.cell? ⟨w.heap.size + 1, 7, none⟩ = some (.int .i64 bm) := by rw [← HBM.out]; exact HI.out.b.cell 7 rfl
      have cb5 : W.cell? ⟨w.heap.size + 1, 5, none⟩ = some (.int .i64 bv) := by rw [← HBV.out]; exact HI.out.b.cell 5 rfl
      go_wp2_with fail
      refine hK.out _ _ ⟨ca7, ca5, cb7, cb5⟩ (fun hHeld => ?_)
      clear hK; try clear KK
      try simp only [Act.put, List.setIfInBounds_toArray, List.set_cons_zero, List.set_cons_succ]
      refine wpAnyH_ready (rs := [13, 18]) (by kernel_rfl) (by simp) ?_
      refine AllReadyH.cons (o := ⟨some 31, _, _, _, _, _⟩) rfl (fun KK hK => ?_) (AllReadyH.cons (o := ⟨some 5, _, _, _, _, _⟩) rfl (fun KK hK => ?_) AllReadyH.nil)
      ·
        go_simp
        refine (HM2.out _).mono ?_
        rintro e W ⟨rfl, hb⟩
        replace HI := Lib.hid (HI.out.below HI.out.le hb)
        clear ca7 ca5 cb7 cb5
        clear hb
        have ca7 : W.cell? ⟨w.heap.size, 7, none⟩ = some (.int .i64 am) := by rw [← HAM.out]; exact HI.out.a.cell 7 rfl
        have ca5 : W.cell? ⟨w.heap.size, 5, none⟩ = some (.int .i64 av) := by rw [← HAV.out]; exact HI.out.a.cell 5 rfl
        have cb7 : W.cell? ⟨w.heap.size + 1, 7, none⟩ = some (.int .i64 bm) := by rw [← HBM.out]; exact HI.out.b.cell 7 rfl
        have cb5 : W.cell? ⟨w.heap.size + 1, 5, none⟩ = some (.int .i64 bv) := by rw [← HBV.out]; exact HI.out.b.cell 5 rfl
        go_wp2_with fail
        refine hK.out _ _ ⟨ca7, ca5, cb7, cb5⟩ (fun hHeld => ?_)
        clear hK; try clear KK
        try simp only [Act.put, List.setIfInBounds_toArray, List.set_cons_zero, List.set_cons_succ]
        refine wpAnyH_ready (rs := [14, 18]) (by kernel_rfl) (by simp) ?_
        refine AllReadyH.cons (o := ⟨some 32, _, _, _, _, _⟩) rfl (fun KK hK => ?_) (AllReadyH.cons (o := ⟨some 5, _, _, _, _, _⟩) rfl (fun KK hK => ?_) AllReadyH.nil)
        ·
          go_simp
          refine (HAD.out _).mono ?_
          rintro e W ⟨rfl, hb⟩
          replace HI := Lib.hid (HI.out.below HI.out.le hb)
          clear ca7 ca5 cb7 cb5
          clear hb
          have ca7 : W.cell? ⟨w.heap.size, 7, none⟩ = some (.int .i64 am) := by rw [← HAM.out]; exact HI.out.a.cell 7 rfl
          have ca5 : W.cell? ⟨w.heap.size, 5, none⟩ = some (.int .i64 av) := by rw [← HAV.out]; exact HI.out.a.cell 5 rfl
          have cb7 : W.cell? ⟨w.heap.size + 1, 7, none⟩ = some (.int .i64 bm) := by rw [← HBM.out]; exact HI.out.b.cell 7 rfl
          have cb5 : W.cell? ⟨w.heap.size + 1, 5, none⟩ = some (.int .i64 bv) := by rw [← HBV.out]; exact HI.out.b.cell 5 rfl
          go_wp2_with fail
          refine hK.out _ _ ⟨ca7, ca5, cb7, cb5⟩ (fun hHeld => ?_)
          clear hK; try clear KK
          try simp only [Act.put, List.setIfInBounds_toArray, List.set_cons_zero, List.set_cons_succ]
          refine wpAnyH_take (i := 15) (oi := ⟨some 17, _, _, _, _, _⟩) (v := (.tuple #[.agg (wcells (am * av + bm * bv)), .bool true])) rfl (by kernel_rfl) (by kernel_rfl) (by kernel_rfl) (fun _ _ _ h => h) (Or.inl ⟨by rfl, fun w hSw => by (try dsimp only at hSw); go_simp⟩) (by assumption) ?_
          simp only [Act.put, List.setIfInBounds_toArray, List.set_cons_zero, List.set_cons_succ]
          refine wpAnyH_take (i := 16) (oi := ⟨some 33, _, _, _, _, _⟩) (v := (.agg (wcells (am * av + bm * bv)))) rfl (by kernel_rfl) (by kernel_rfl) (by kernel_rfl) (fun _ _ _ h => h) (Or.inl ⟨by rfl, fun w hSw => by (try dsimp only at hSw); go_simp⟩) (by assumption) ?_
          simp only [Act.put, List.setIfInBounds_toArray, List.set_cons_zero, List.set_cons_succ]
          refine wpAnyH_take (i := 17) (oi := ⟨some 34, _, _, _, _, _⟩) (v := (.bool true)) rfl (by kernel_rfl) (by kernel_rfl) (by kernel_rfl) (fun _ _ _ h => h) (Or.inl ⟨by rfl, fun w hSw => by (try dsimp only at hSw); go_simp⟩) (by assumption) ?_
          simp only [Act.put, List.setIfInBounds_toArray, List.set_cons_zero, List.set_cons_succ]
          refine wpAnyH_ready (rs := [18]) (by kernel_rfl) (by simp) ?_
          refine AllReadyH.cons (o := ⟨some 5, _, _, _, _, _⟩) rfl (fun KK hK => ?_) AllReadyH.nil
          go_simp
          change KK _ (W.alloc (.cells wz 144))
          have HD := Lib.hid (Blk.new W wz 144 W.heap.size rfl)
          have hDN : w.heap.size + 1 + 1 < W.heap.size := HI.out.r.lt
          have hb : Below W.heap.size W (W.alloc (.cells wz 144)) := (Below.refl _ _).alloc (Nat.le_refl _) _
          replace HI := Lib.hid (HI.out.below HI.out.le hb)
          clear ca7 ca5 cb7 cb5
          clear hb
          generalize W.heap.size = D at HD hDN ⊢
          have HDN := Lib.hid hDN
          clear hDN
          generalize W.alloc (.cells wz 144) = W at HD HI ⊢
          have ca7 : W.cell? ⟨w.heap.size, 7, none⟩ = some (.int .i64 am) := by rw [← HAM.out]; exact HI.out.a.cell 7 rfl
          have ca5 : W.cell? ⟨w.heap.size, 5, none⟩ = some (.int .i64 av) := by rw [← HAV.out]; exact HI.out.a.cell 5 rfl
          have cb7 : W.cell? ⟨w.heap.size + 1, 7, none⟩ = some (.int .i64 bm) := by rw [← HBM.out]; exact HI.out.b.cell 7 rfl
          have cb5 : W.cell? ⟨w.heap.size + 1, 5, none⟩ = some (.int .i64 bv) := by rw [← HBV.out]; exact HI.out.b.cell 5 rfl
          refine hK.out _ _ ⟨ca7, ca5, cb7, cb5⟩ (fun hHeld => ?_)
          clear hK; try clear KK
          try simp only [Act.put, List.setIfInBounds_toArray, List.set_cons_zero, List.set_cons_succ]
          refine wpAnyH_ready (rs := [19]) (by kernel_rfl) (by simp) ?_
          refine AllReadyH.cons (o := ⟨none, _, _, _, _, _⟩) rfl (fun KK hK => ?_) AllReadyH.nil
          refine step_store_blk (by rfl) 144 _ _ (by rfl) D (by rfl) wz (wcells (am * av + bm * bv)) 144 HD.out (by rfl) (by rfl) (by kernel_rfl) (one_wc _) ?_
          have hHI : MI w.heap.size a b w (W.setCells D 0 (wcells (am * av + bm * bv)).toList) := ⟨Blk.apartAll (B := D) _ 0 _ HI.out.a (by have := HDN.out; omega), Blk.apartAll (B := D) _ 0 _ HI.out.b (by have := HDN.out; omega), Blk.apartAll (B := D) _ 0 _ HI.out.r (by have := HDN.out; omega), Blk.Below.setCells (B := D) _ 0 _ HI.out.bel (by have := HDN.out; omega)⟩
          replace HI := Lib.hid hHI
          clear hHI
          replace HD := Lib.hid (HD.out.setCells (wcells (am * av + bm * bv)) rfl)
          clear ca7 ca5 cb7 cb5
          generalize W.setCells D 0 (wcells (am * av + bm * bv)).toList = W at HI HD ⊢
          have ca7 : W.cell? ⟨w.heap.size, 7, none⟩ = some (.int .i64 am) := by rw [← HAM.out]; exact HI.out.a.cell 7 rfl
          have ca5 : W.cell? ⟨w.heap.size, 5, none⟩ = some (.int .i64 av) := by rw [← HAV.out]; exact HI.out.a.cell 5 rfl
          have cb7 : W.cell? ⟨w.heap.size + 1, 7, none⟩ = some (.int .i64 bm) := by rw [← HBM.out]; exact HI.out.b.cell 7 rfl
          have cb5 : W.cell? ⟨w.heap.size + 1, 5, none⟩ = some (.int .i64 bv) := by rw [← HBV.out]; exact HI.out.b.cell 5 rfl
          refine hK.out _ _ ⟨ca7, ca5, cb7, cb5⟩ (fun hHeld => ?_)
          clear hK; try clear KK
          simp only [Act.put]
          refine wpAnyH_take (i := 20) (oi := ⟨some 6, _, _, _, _, _⟩) (v := (.bool true)) rfl (by kernel_rfl) (by kernel_rfl) (by kernel_rfl) (fun _ _ _ h => h) (Or.inl ⟨by rfl, fun w hSw => by (try dsimp only at hSw); go_simp⟩) (by assumption) ?_
          simp only [Act.put, List.setIfInBounds_toArray, List.set_cons_zero, List.set_cons_succ]
          refine wpAnyH_done (by kernel_rfl) ?_ _
          go_wp2
          go_meet
          exact ⟨D, rfl, HDN.out, HD.out, HI.out⟩
        ·
          go_simp
          change KK _ (W.alloc (.cells wz 144))
          have HD := Lib.hid (Blk.new W wz 144 W.heap.size rfl)
          have hDN : w.heap.size + 1 + 1 < W.heap.size := HI.out.r.lt
          have hb : Below W.heap.size W (W.alloc (.cells wz 144)) := (Below.refl _ _).alloc (Nat.le_refl _) _
          replace HI := Lib.hid (HI.out.below HI.out.le hb)
          clear ca7 ca5 cb7 cb5
          clear hb
          generalize W.heap.size = D at HD hDN ⊢
          have HDN := Lib.hid hDN
          clear hDN
          generalize W.alloc (.cells wz 144) = W at HD HI ⊢
          have ca7 : W.cell? ⟨w.heap.size, 7, none⟩ = some (.int .i64 am) := by rw [← HAM.out]; exact HI.out.a.cell 7 rfl
          have ca5 : W.cell? ⟨w.heap.size, 5, none⟩ = some (.int .i64 av) := by rw [← HAV.out]; exact HI.out.a.cell 5 rfl
          have cb7 : W.cell? ⟨w.heap.size + 1, 7, none⟩ = some (.int .i64 bm) := by rw [← HBM.out]; exact HI.out.b.cell 7 rfl
          have cb5 : W.cell? ⟨w.heap.size + 1, 5, none⟩ = some (.int .i64 bv) := by rw [← HBV.out]; exact HI.out.b.cell 5 rfl
          refine hK.out _ _ ⟨ca7, ca5, cb7, cb5⟩ (fun hHeld => ?_)
          clear hK; try clear KK
          try simp only [Act.put, List.setIfInBounds_toArray, List.set_cons_zero, List.set_cons_succ]
          refine wpAnyH_ready (rs := [14]) (by kernel_rfl) (by simp) ?_
          refine AllReadyH.cons (o := ⟨some 32, _, _, _, _, _⟩) rfl (fun KK hK => ?_) AllReadyH.nil
          go_simp
          refine (HAD.out _).mono ?_
          rintro e W ⟨rfl, hb⟩
          replace HD := Lib.hid (HD.out.below hb HD.out.lt)
          replace HI := Lib.hid (HI.out.below HI.out.le hb)
          clear ca7 ca5 cb7 cb5
          clear hb
          have ca7 : W.cell? ⟨w.heap.size, 7, none⟩ = some (.int .i64 am) := by rw [← HAM.out]; exact HI.out.a.cell 7 rfl
          have ca5 : W.cell? ⟨w.heap.size, 5, none⟩ = some (.int .i64 av) := by rw [← HAV.out]; exact HI.out.a.cell 5 rfl
          have cb7 : W.cell? ⟨w.heap.size + 1, 7, none⟩ = some (.int .i64 bm) := by rw [← HBM.out]; exact HI.out.b.cell 7 rfl
          have cb5 : W.cell? ⟨w.heap.size + 1, 5, none⟩ = some (.int .i64 bv) := by rw [← HBV.out]; exact HI.out.b.cell 5 rfl
          go_wp2_with fail
          refine hK.out _ _ ⟨ca7, ca5, cb7, cb5⟩ (fun hHeld => ?_)
          clear hK; try clear KK
          try simp only [Act.put, List.setIfInBounds_toArray, List.set_cons_zero, List.set_cons_succ]
          refine wpAnyH_take (i := 15) (oi := ⟨some 17, _, _, _, _, _⟩) (v := (.tuple #[.agg (wcells (am * av + bm * bv)), .bool true])) rfl (by kernel_rfl) (by kernel_rfl) (by kernel_rfl) (fun _ _ _ h => h) (Or.inl ⟨by rfl, fun w hSw => by (try dsimp only at hSw); go_simp⟩) (by assumption) ?_
          simp only [Act.put, List.setIfInBounds_toArray, List.set_cons_zero, List.set_cons_succ]
          refine wpAnyH_take (i := 16) (oi := ⟨some 33, _, _, _, _, _⟩) (v := (.agg (wcells (am * av + bm * bv)))) rfl (by kernel_rfl) (by kernel_rfl) (by kernel_rfl) (fun _ _ _ h => h) (Or.inl ⟨by rfl, fun w hSw => by (try dsimp only at hSw); go_simp⟩) (by assumption) ?_
          simp only [Act.put, List.setIfInBounds_toArray, List.set_cons_zero, List.set_cons_succ]
          refine wpAnyH_take (i := 17) (oi := ⟨some 34, _, _, _, _, _⟩) (v := (.bool true)) rfl (by kernel_rfl) (by kernel_rfl) (by kernel_rfl) (fun _ _ _ h => h) (Or.inl ⟨by rfl, fun w hSw => by (try dsimp only at hSw); go_simp⟩) (by assumption) ?_
          simp only [Act.put, List.setIfInBounds_toArray, List.set_cons_zero, List.set_cons_succ]
          refine wpAnyH_ready (rs := [19]) (by kernel_rfl) (by simp) ?_
          refine AllReadyH.cons (o := ⟨none, _, _, _, _, _⟩) rfl (fun KK hK => ?_) AllReadyH.nil
          refine step_store_blk (by rfl) 144 _ _ (by rfl) D (by rfl) wz (wcells (am * av + bm * bv)) 144 HD.out (by rfl) (by rfl) (by kernel_rfl) (one_wc _) ?_
          have hHI : MI w.heap.size a b w (W.setCells D 0 (wcells (am * av + bm * bv)).toList) := ⟨Blk.apartAll (B := D) _ 0 _ HI.out.a (by have := HDN.out; omega), Blk.apartAll (B := D) _ 0 _ HI.out.b (by have := HDN.out; omega), Blk.apartAll (B := D) _ 0 _ HI.out.r (by have := HDN.out; omega), Blk.Below.setCells (B := D) _ 0 _ HI.out.bel (by have := HDN.out; omega)⟩
          replace HI := Lib.hid hHI
          clear hHI
          replace HD := Lib.hid (HD.out.setCells (wcells (am * av + bm * bv)) rfl)
          clear ca7 ca5 cb7 cb5
          generalize W.setCells D 0 (wcells (am * av + bm * bv)).toList = W at HI HD ⊢
          have ca7 : W.cell? ⟨w.heap.size, 7, none⟩ = some (.int .i64 am) := by rw [← HAM.out]; exact HI.out.a.cell 7 rfl
          have ca5 : W.cell? ⟨w.heap.size, 5, none⟩ = some (.int .i64 av) := by rw [← HAV.out]; exact HI.out.a.cell 5 rfl
          have cb7 : W.cell? ⟨w.heap.size + 1, 7, none⟩ = some (.int .i64 bm) := by rw [← HBM.out]; exact HI.out.b.cell 7 rfl
          have cb5 : W.cell? ⟨w.heap.size + 1, 5, none⟩ = some (.int .i64 bv) := by rw [← HBV.out]; exact HI.out.b.cell 5 rfl
          refine hK.out _ _ ⟨ca7, ca5, cb7, cb5⟩ (fun hHeld => ?_)
          clear hK; try clear KK
          simp only [Act.put]
          refine wpAnyH_take (i := 20) (oi := ⟨some 6, _, _, _, _, _⟩) (v := (.bool true)) rfl (by kernel_rfl) (by kernel_rfl) (by kernel_rfl) (fun _ _ _ h => h) (Or.inl ⟨by rfl, fun w hSw => by (try dsimp only at hSw); go_simp⟩) (by assumption) ?_
          simp only [Act.put, List.setIfInBounds_toArray, List.set_cons_zero, List.set_cons_succ]
          refine wpAnyH_done (by kernel_rfl) ?_ _
          go_wp2
          go_meet
          exact ⟨D, rfl, HDN.out, HD.out, HI.out⟩
      ·
        go_simp
        change KK _ (W.alloc (.cells wz 144))
        have HD := Lib.hid (Blk.new W wz 144 W.heap.size rfl)
        have hDN : w.heap.size + 1 + 1 < W.heap.size := HI.out.r.lt
        have hb : Below W.heap.size W (W.alloc (.cells wz 144)) := (Below.refl _ _).alloc (Nat.le_refl _) _
        replace HI := Lib.hid (HI.out.below HI.out.le hb)
        clear ca7 ca5 cb7 cb5
        clear hb
        generalize W.heap.size = D at HD hDN ⊢
        have HDN := Lib.hid hDN
        clear hDN
        generalize W.alloc (.cells wz 144) = W at HD HI ⊢
        have ca7 : W.cell? ⟨w.heap.size, 7, none⟩ = some (.int .i64 am) := by rw [← HAM.out]; exact HI.out.a.cell 7 rfl
        have ca5 : W.cell? ⟨w.heap.size, 5, none⟩ = some (.int .i64 av) := by rw [← HAV.out]; exact HI.out.a.cell 5 rfl
        have cb7 : W.cell? ⟨w.heap.size + 1, 7, none⟩ = some (.int .i64 bm) := by rw [← HBM.out]; exact HI.out.b.cell 7 rfl
        have cb5 : W.cell? ⟨w.heap.size + 1, 5, none⟩ = some (.int .i64 bv) := by rw [← HBV.out]; exact HI.out.b.cell 5 rfl
        refine hK.out _ _ ⟨ca7, ca5, cb7, cb5⟩ (fun hHeld => ?_)
        clear hK; try clear KK
        try simp only [Act.put, List.setIfInBounds_toArray, List.set_cons_zero, List.set_cons_succ]
        refine wpAnyH_ready (rs := [13]) (by kernel_rfl) (by simp) ?_
        refine AllReadyH.cons (o := ⟨some 31, _, _, _, _, _⟩) rfl (fun KK hK => ?_) AllReadyH.nil
        go_simp
        refine (HM2.out _).mono ?_
        rintro e W ⟨rfl, hb⟩
        replace HD := Lib.hid (HD.out.below hb HD.out.lt)
        replace HI := Lib.hid (HI.out.below HI.out.le hb)
        clear ca7 ca5 cb7 cb5
        clear hb
        have ca7 : W.cell? ⟨w.heap.size, 7, none⟩ = some (.int .i64 am) := by rw [← HAM.out]; exact HI.out.a.cell 7 rfl
        have ca5 : W.cell? ⟨w.heap.size, 5, none⟩ = some (.int .i64 av) := by rw [← HAV.out]; exact HI.out.a.cell 5 rfl
        have cb7 : W.cell? ⟨w.heap.size + 1, 7, none⟩ = some (.int .i64 bm) := by rw [← HBM.out]; exact HI.out.b.cell 7 rfl
        have cb5 : W.cell? ⟨w.heap.size + 1, 5, none⟩ = some (.int .i64 bv) := by rw [← HBV.out]; exact HI.out.b.cell 5 rfl
        go_wp2_with fail
        refine hK.out _ _ ⟨ca7, ca5, cb7, cb5⟩ (fun hHeld => ?_)
        clear hK; try clear KK
        try simp only [Act.put, List.setIfInBounds_toArray, List.set_cons_zero, List.set_cons_succ]
        refine wpAnyH_ready (rs := [14]) (by kernel_rfl) (by simp) ?_
        refine AllReadyH.cons (o := ⟨some 32, _, _, _, _, _⟩) rfl (fun KK hK => ?_) AllReadyH.nil
        go_simp
        refine (HAD.out _).mono ?_
        rintro e W ⟨rfl, hb⟩
        replace HD := Lib.hid (HD.out.below hb HD.out.lt)
        replace HI := Lib.hid (HI.out.below HI.out.le hb)
        clear ca7 ca5 cb7 cb5
        clear hb
        have ca7 : W.cell? ⟨w.heap.size, 7, none⟩ = some (.int .i64 am) := by rw [← HAM.out]; exact HI.out.a.cell 7 rfl
        have ca5 : W.cell? ⟨w.heap.size, 5, none⟩ = some (.int .i64 av) := by rw [← HAV.out]; exact HI.out.a.cell 5 rfl
        have cb7 : W.cell? ⟨w.heap.size + 1, 7, none⟩ = some (.int .i64 bm) := by rw [← HBM.out]; exact HI.out.b.cell 7 rfl
        have cb5 : W.cell? ⟨w.heap.size + 1, 5, none⟩ = some (.int .i64 bv) := by rw [← HBV.out]; exact HI.out.b.cell 5 rfl
        go_wp2_with fail
        refine hK.out _ _ ⟨ca7, ca5, cb7, cb5⟩ (fun hHeld => ?_)
        clear hK; try clear KK
        try simp only [Act.put, List.setIfInBounds_toArray, List.set_cons_zero, List.set_cons_succ]
        refine wpAnyH_take (i := 15) (oi := ⟨some 17, _, _, _, _, _⟩) (v := (.tuple #[.agg (wcells (am * av + bm * bv)), .bool true])) rfl (by kernel_rfl) (by kernel_rfl) (by kernel_rfl) (fun _ _ _ h => h) (Or.inl ⟨by rfl, fun w hSw => by (try dsimp only at hSw); go_simp⟩) (by assumption) ?_
        simp only [Act.put, List.setIfInBounds_toArray, List.set_cons_zero, List.set_cons_succ]
        refine wpAnyH_take (i := 16) (oi := ⟨some 33, _, _, _, _, _⟩) (v := (.agg (wcells (am * av + bm * bv)))) rfl (by kernel_rfl) (by kernel_rfl) (by kernel_rfl) (fun _ _ _ h => h) (Or.inl ⟨by rfl, fun w hSw => by (try dsimp only at hSw); go_simp⟩) (by assumption) ?_
        simp only [Act.put, List.setIfInBounds_toArray, List.set_cons_zero, List.set_cons_succ]
        refine wpAnyH_take (i := 17) (oi := ⟨some 34, _, _, _, _, _⟩) (v := (.bool true)) rfl (by kernel_rfl) (by kernel_rfl) (by kernel_rfl) (fun _ _ _ h => h) (Or.inl ⟨by rfl, fun w hSw => by (try dsimp only at hSw); go_simp⟩) (by assumption) ?_
        simp only [Act.put, List.setIfInBounds_toArray, List.set_cons_zero, List.set_cons_succ]
        refine wpAnyH_ready (rs := [19]) (by kernel_rfl) (by simp) ?_
        refine AllReadyH.cons (o := ⟨none, _, _, _, _, _⟩) rfl (fun KK hK => ?_) AllReadyH.nil
        refine step_store_blk (by rfl) 144 _ _ (by rfl) D (by rfl) wz (wcells (am * av + bm * bv)) 144 HD.out (by rfl) (by rfl) (by kernel_rfl) (one_wc _) ?_
        have hHI : MI w.heap.size a b w (W.setCells D 0 (wcells (am * av + bm * bv)).toList) := ⟨Blk.apartAll (B := D) _ 0 _ HI.out.a (by have := HDN.out; omega), Blk.apartAll (B := D) _ 0 _ HI.out.b (by have := HDN.out; omega), Blk.apartAll (B := D) _ 0 _ HI.out.r (by have := HDN.out; omega), Blk.Below.setCells (B := D) _ 0 _ HI.out.bel (by have := HDN.out; omega)⟩
        replace HI := Lib.hid hHI
        clear hHI
        replace HD := Lib.hid (HD.out.setCells (wcells (am * av + bm * bv)) rfl)
        clear ca7 ca5 cb7 cb5
        generalize W.setCells D 0 (wcells (am * av + bm * bv)).toList = W at HI HD ⊢
        have ca7 : W.cell? ⟨w.heap.size, 7, none⟩ = some (.int .i64 am) := by rw [← HAM.out]; exact HI.out.a.cell 7 rfl
        have ca5 : W.cell? ⟨w.heap.size, 5, none⟩ = some (.int .i64 av) := by rw [← HAV.out]; exact HI.out.a.cell 5 rfl
        have cb7 : W.cell? ⟨w.heap.size + 1, 7, none⟩ = some (.int .i64 bm) := by rw [← HBM.out]; exact HI.out.b.cell 7 rfl
        have cb5 : W.cell? ⟨w.heap.size + 1, 5, none⟩ = some (.int .i64 bv) := by rw [← HBV.out]; exact HI.out.b.cell 5 rfl
        refine hK.out _ _ ⟨ca7, ca5, cb7, cb5⟩ (fun hHeld => ?_)
        clear hK; try clear KK
        simp only [Act.put]
        refine wpAnyH_take (i := 20) (oi := ⟨some 6, _, _, _, _, _⟩) (v := (.bool true)) rfl (by kernel_rfl) (by kernel_rfl) (by kernel_rfl) (fun _ _ _ h => h) (Or.inl ⟨by rfl, fun w hSw => by (try dsimp only at hSw); go_simp⟩) (by assumption) ?_
        simp only [Act.put, List.setIfInBounds_toArray, List.set_cons_zero, List.set_cons_succ]
        refine wpAnyH_done (by kernel_rfl) ?_ _
        go_wp2
        go_meet
        exact ⟨D, rfl, HDN.out, HD.out, HI.out⟩
    ·
      go_simp
      change KK _ (W.alloc (.cells wz 144))
      have HD := Lib.hid (Blk.new W wz 144 W.heap.size rfl)
      have hDN : w.heap.size + 1 + 1 < W.heap.size := HI.out.r.lt
      have hb : Below W.heap.size W (W.alloc (.cells wz 144)) := (Below.refl _ _).alloc (Nat.le_refl _) _
      replace HI := Lib.hid (HI.out.below HI.out.le hb)
      clear ca7 ca5 cb7 cb5
      clear hb
      generalize W.heap.size = D at HD hDN ⊢
      have HDN := Lib.hid hDN
      clear hDN
      generalize W.alloc (.cells wz 144) = W at HD HI ⊢
      have ca7 : W.cell? ⟨w.heap.size, 7, none⟩ = some (.int .i64 am) := by rw [← HAM.out]; exact HI.out.a.cell 7 rfl
      have ca5 : W.cell? ⟨w.heap.size, 5, none⟩ = some (.int .i64 av) := by rw [← HAV.out]; exact HI.out.a.cell 5 rfl
      have cb7 : W.cell? ⟨w.heap.size + 1, 7, none⟩ = some (.int .i64 bm) := by rw [← HBM.out]; exact HI.out.b.cell 7 rfl
      have cb5 : W.cell? ⟨w.heap.size + 1, 5, none⟩ = some (.int .i64 bv) := by rw [← HBV.out]; exact HI.out.b.cell 5 rfl
      refine hK.out _ _ ⟨ca7, ca5, cb7, cb5⟩ (fun hHeld => ?_)
      clear hK; try clear KK
      try simp only [Act.put, List.setIfInBounds_toArray, List.set_cons_zero, List.set_cons_succ]
      refine wpAnyH_ready (rs := [6]) (by kernel_rfl) (by simp) ?_
      refine AllReadyH.cons (o := ⟨some 24, _, _, _, _, _⟩) rfl (fun KK hK => ?_) AllReadyH.nil
      go_simp
      refine (HM1.out _).mono ?_
      rintro e W ⟨rfl, hb⟩
      replace HD := Lib.hid (HD.out.below hb HD.out.lt)
      replace HI := Lib.hid (HI.out.below HI.out.le hb)
      clear ca7 ca5 cb7 cb5
      clear hb
      have ca7 : W.cell? ⟨w.heap.size, 7, none⟩ = some (.int .i64 am) := by rw [← HAM.out]; exact HI.out.a.cell 7 rfl
      have ca5 : W.cell? ⟨w.heap.size, 5, none⟩ = some (.int .i64 av) := by rw [← HAV.out]; exact HI.out.a.cell 5 rfl
      have cb7 : W.cell? ⟨w.heap.size + 1, 7, none⟩ = some (.int .i64 bm) := by rw [← HBM.out]; exact HI.out.b.cell 7 rfl
      have cb5 : W.cell? ⟨w.heap.size + 1, 5, none⟩ = some (.int .i64 bv) := by rw [← HBV.out]; exact HI.out.b.cell 5 rfl
      go_wp2_with fail
      refine hK.out _ _ ⟨ca7, ca5, cb7, cb5⟩ (fun hHeld => ?_)
      clear hK; try clear KK
      try simp only [Act.put, List.setIfInBounds_toArray, List.set_cons_zero, List.set_cons_succ]
      refine wpAnyH_ready (rs := [13]) (by kernel_rfl) (by simp) ?_
      refine AllReadyH.cons (o := ⟨some 31, _, _, _, _, _⟩) rfl (fun KK hK => ?_) AllReadyH.nil
      go_simp
      refine (HM2.out _).mono ?_
      rintro e W ⟨rfl, hb⟩
      replace HD := Lib.hid (HD.out.below hb HD.out.lt)
      replace HI := Lib.hid (HI.out.below HI.out.le hb)
      clear ca7 ca5 cb7 cb5
      clear hb
      have ca7 : W.cell? ⟨w.heap.size, 7, none⟩ = some (.int .i64 am) := by rw [← HAM.out]; exact HI.out.a.cell 7 rfl
      have ca5 : W.cell? ⟨w.heap.size, 5, none⟩ = some (.int .i64 av) := by rw [← HAV.out]; exact HI.out.a.cell 5 rfl
      have cb7 : W.cell? ⟨w.heap.size + 1, 7, none⟩ = some (.int .i64 bm) := by rw [← HBM.out]; exact HI.out.b.cell 7 rfl
      have cb5 : W.cell? ⟨w.heap.size + 1, 5, none⟩ = some (.int .i64 bv) := by rw [← HBV.out]; exact HI.out.b.cell 5 rfl
      go_wp2_with fail
      refine hK.out _ _ ⟨ca7, ca5, cb7, cb5⟩ (fun hHeld => ?_)
      clear hK; try clear KK
      try simp only [Act.put, List.setIfInBounds_toArray, List.set_cons_zero, List.set_cons_succ]
      refine wpAnyH_ready (rs := [14]) (by kernel_rfl) (by simp) ?_
      refine AllReadyH.cons (o := ⟨some 32, _, _, _, _, _⟩) rfl (fun KK hK => ?_) AllReadyH.nil
      go_simp
      refine (HAD.out _).mono ?_
      rintro e W ⟨rfl, hb⟩
      replace HD := Lib.hid (HD.out.below hb HD.out.lt)
      replace HI := Lib.hid (HI.out.below HI.out.le hb)
      clear ca7 ca5 cb7 cb5
      clear hb
      have ca7 : W.cell? ⟨w.heap.size, 7, none⟩ = some (.int .i64 am) := by rw [← HAM.out]; exact HI.out.a.cell 7 rfl
      have ca5 : W.cell? ⟨w.heap.size, 5, none⟩ = some (.int .i64 av) := by rw [← HAV.out]; exact HI.out.a.cell 5 rfl
      have cb7 : W.cell? ⟨w.heap.size + 1, 7, none⟩ = some (.int .i64 bm) := by rw [← HBM.out]; exact HI.out.b.cell 7 rfl
      have cb5 : W.cell? ⟨w.heap.size + 1, 5, none⟩ = some (.int .i64 bv) := by rw [← HBV.out]; exact HI.out.b.cell 5 rfl
      go_wp2_with fail
      refine hK.out _ _ ⟨ca7, ca5, cb7, cb5⟩ (fun hHeld => ?_)
      clear hK; try clear KK
      try simp only [Act.put, List.setIfInBounds_toArray, List.set_cons_zero, List.set_cons_succ]
      refine wpAnyH_take (i := 15) (oi := ⟨some 17, _, _, _, _, _⟩) (v := (.tuple #[.agg (wcells (am * av + bm * bv)), .bool true])) rfl (by kernel_rfl) (by kernel_rfl) (by kernel_rfl) (fun _ _ _ h => h) (Or.inl ⟨by rfl, fun w hSw => by (try dsimp only at hSw); go_simp⟩) (by assumption) ?_
      simp only [Act.put, List.setIfInBounds_toArray, List.set_cons_zero, List.set_cons_succ]
      refine wpAnyH_take (i := 16) (oi := ⟨some 33, _, _, _, _, _⟩) (v := (.agg (wcells (am * av + bm * bv)))) rfl (by kernel_rfl) (by kernel_rfl) (by kernel_rfl) (fun _ _ _ h => h) (Or.inl ⟨by rfl, fun w hSw => by (try dsimp only at hSw); go_simp⟩) (by assumption) ?_
      simp only [Act.put, List.setIfInBounds_toArray, List.set_cons_zero, List.set_cons_succ]
      refine wpAnyH_take (i := 17) (oi := ⟨some 34, _, _, _, _, _⟩) (v := (.bool true)) rfl (by kernel_rfl) (by kernel_rfl) (by kernel_rfl) (fun _ _ _ h => h) (Or.inl ⟨by rfl, fun w hSw => by (try dsimp only at hSw); go_simp⟩) (by assumption) ?_
      simp only [Act.put, List.setIfInBounds_toArray, List.set_cons_zero, List.set_cons_succ]
      refine wpAnyH_ready (rs := [19]) (by kernel_rfl) (by simp) ?_
      refine AllReadyH.cons (o := ⟨none, _, _, _, _, _⟩) rfl (fun KK hK => ?_) AllReadyH.nil
      refine step_store_blk (by rfl) 144 _ _ (by rfl) D (by rfl) wz (wcells (am * av + bm * bv)) 144 HD.out (by rfl) (by rfl) (by kernel_rfl) (one_wc _) ?_
      have hHI : MI w.heap.size a b w (W.setCells D 0 (wcells (am * av + bm * bv)).toList) := ⟨Blk.apartAll (B := D) _ 0 _ HI.out.a (by have := HDN.out; omega), Blk.apartAll (B := D) _ 0 _ HI.out.b (by have := HDN.out; omega), Blk.apartAll (B := D) _ 0 _ HI.out.r (by have := HDN.out; omega), Blk.Below.setCells (B := D) _ 0 _ HI.out.bel (by have := HDN.out; omega)⟩
      replace HI := Lib.hid hHI
      clear hHI
      replace HD := Lib.hid (HD.out.setCells (wcells (am * av + bm * bv)) rfl)
      clear ca7 ca5 cb7 cb5
      generalize W.setCells D 0 (wcells (am * av + bm * bv)).toList = W at HI HD ⊢
      have ca7 : W.cell? ⟨w.heap.size, 7, none⟩ = some (.int .i64 am) := by rw [← HAM.out]; exact HI.out.a.cell 7 rfl
      have ca5 : W.cell? ⟨w.heap.size, 5, none⟩ = some (.int .i64 av) := by rw [← HAV.out]; exact HI.out.a.cell 5 rfl
      have cb7 : W.cell? ⟨w.heap.size + 1, 7, none⟩ = some (.int .i64 bm) := by rw [← HBM.out]; exact HI.out.b.cell 7 rfl
      have cb5 : W.cell? ⟨w.heap.size + 1, 5, none⟩ = some (.int .i64 bv) := by rw [← HBV.out]; exact HI.out.b.cell 5 rfl
      refine hK.out _ _ ⟨ca7, ca5, cb7, cb5⟩ (fun hHeld => ?_)
      clear hK; try clear KK
      simp only [Act.put]
      refine wpAnyH_take (i := 20) (oi := ⟨some 6, _, _, _, _, _⟩) (v := (.bool true)) rfl (by kernel_rfl) (by kernel_rfl) (by kernel_rfl) (fun _ _ _ h => h) (Or.inl ⟨by rfl, fun w hSw => by (try dsimp only at hSw); go_simp⟩) (by assumption) ?_
      simp only [Act.put, List.setIfInBounds_toArray, List.set_cons_zero, List.set_cons_succ]
      refine wpAnyH_done (by kernel_rfl) ?_ _
      go_wp2
      go_meet
      exact ⟨D, rfl, HDN.out, HD.out, HI.out⟩
  case rest =>
    clear HI ca6 cb6 HM1 HM2 HAD e1 e2 e3 e4
    obtain ⟨D, rfl, hdn, hd, hi⟩ := hcut
    have HI := Lib.hid hi
    have HD := Lib.hid hd
    have HDN := Lib.hid hdn
    clear hi hd hdn
    have hs : a.vol + b.vol = ((av + bv : Nat) : Int) := by have := HAV.out; have := HBV.out; omega
    have hv0 : 0 ≤ a.vol := by have := HAV.out; omega
    have hv1 : a.vol ≤ 1099511627776000 := by have := HAV.out; omega
    have hw0 : 0 ≤ b.vol := by have := HBV.out; omega
    have hw1 : b.vol ≤ 1099511627776000 := by have := HBV.out; omega
    have hvp : 0 < a.vol + b.vol := by omega
    have hX : am * av + bm * bv ≤ 1099511627776 * (av + bv) := by
      have k1 := Nat.mul_le_mul_right av h1
      have k2 := Nat.mul_le_mul_right bv h2
      omega
    have HMEAN := Lib.hid (fun w => mean_wc (am * av + bm * bv) (av + bv) (by omega) h5 (by omega) (Nat.lt_of_le_of_lt (Nat.div_le_of_le_mul (by rw [Nat.mul_comm (av + bv)]; exact hX)) (show (1099511627776 : Nat) < 9223372036854775808 by decide)) w)
    rw [← hs] at HMEAN
    clear hs hX h1 h2 h3 h4 h5 HAM HBM HAV HBV
    generalize hXX : am * av + bm * bv = X at HD HMEAN
    have HXX := Lib.hid hXX
    clear hXX
    generalize hmm : X / (av + bv) = mm at HMEAN
    have HMM := Lib.hid hmm
    clear hmm
    generalize wc = W at HI HD ⊢
    go_upto_region 6 with fail
    go_cut [] (fun wx => Blk wx D (wcells X) 144 ∧ MI w.heap.size ⟨a.frm, a.opn, max a.high b.high, min a.low b.low, b.cls, a.vol, a.trd, a.mean⟩ b w wx)
    case first =>
      refine wp_region_held_drew (S := (fun w' => w'.cell? ⟨w.heap.size + 1, 2, none⟩ = some (.int .i64 b.high) ∧ w'.cell? ⟨w.heap.size + 1, 3, none⟩ = some (.int .i64 b.low) ∧ w'.cell? ⟨w.heap.size + 1, 4, none⟩ = some (.int .i64 b.cls))) (by kernel_rfl) ⟨HI.out.b.cell 2 rfl, HI.out.b.cell 3 rfl, HI.out.b.cell 4 rfl⟩ (fun hHeld => ?_)
      replace HI := Lib.hid (HI.out.below HI.out.le (Below.refl W.heap.size W).drew)
      replace HD := Lib.hid HD.out.drew
      generalize W.drew = W at HI HD hHeld ⊢
      have k2 : W.cell? ⟨w.heap.size, 2, none⟩ = some (.int .i64 a.high) := HI.out.a.cell 2 rfl
      have k3 : W.cell? ⟨w.heap.size, 3, none⟩ = some (.int .i64 a.low) := HI.out.a.cell 3 rfl
      refine wpAnyH_take (i := 0) (oi := ⟨some 35, _, _, _, _, _⟩) (v := (.pointer (some ⟨w.heap.size, 2, none⟩))) rfl (by kernel_rfl) (by kernel_rfl) (by kernel_rfl) (fun _ _ _ h => h) (Or.inl ⟨by rfl, fun w hSw => by (try dsimp only at hSw); go_simp⟩) (by assumption) ?_
      simp only [Act.put, List.setIfInBounds_toArray, List.set_cons_zero, List.set_cons_succ]
      refine wpAnyH_take (i := 2) (oi := ⟨some 37, _, _, _, _, _⟩) (v := (.pointer (some ⟨w.heap.size + 1, 2, none⟩))) rfl (by kernel_rfl) (by kernel_rfl) (by kernel_rfl) (fun _ _ _ h => h) (Or.inl ⟨by rfl, fun w hSw => by (try dsimp only at hSw); go_simp⟩) (by assumption) ?_
      simp only [Act.put, List.setIfInBounds_toArray, List.set_cons_zero, List.set_cons_succ]
      refine wpAnyH_take (i := 3) (oi := ⟨some 38, _, _, _, _, _⟩) (v := (.int .i64 b.high)) rfl (by kernel_rfl) (by kernel_rfl) (by kernel_rfl) (fun _ _ _ h => h) (Or.inl ⟨by rfl, fun w hSw => by (try dsimp only at hSw); go_simp⟩) (by assumption) ?_
      simp only [Act.put, List.setIfInBounds_toArray, List.set_cons_zero, List.set_cons_succ]
      refine wpAnyH_take (i := 5) (oi := ⟨some 40, _, _, _, _, _⟩) (v := (.pointer (some ⟨w.heap.size, 3, none⟩))) rfl (by kernel_rfl) (by kernel_rfl) (by kernel_rfl) (fun _ _ _ h => h) (Or.inl ⟨by rfl, fun w hSw => by (try dsimp only at hSw); go_simp⟩) (by assumption) ?_
      simp only [Act.put, List.setIfInBounds_toArray, List.set_cons_zero, List.set_cons_succ]
      refine wpAnyH_take (i := 7) (oi := ⟨some 42, _, _, _, _, _⟩) (v := (.pointer (some ⟨w.heap.size + 1, 3, none⟩))) rfl (by kernel_rfl) (by kernel_rfl) (by kernel_rfl) (fun _ _ _ h => h) (Or.inl ⟨by rfl, fun w hSw => by (try dsimp only at hSw); go_simp⟩) (by assumption) ?_
      simp only [Act.put, List.setIfInBounds_toArray, List.set_cons_zero, List.set_cons_succ]
      refine wpAnyH_take (i := 8) (oi := ⟨some 43, _, _, _, _, _⟩) (v := (.int .i64 b.low)) rfl (by kernel_rfl) (by kernel_rfl) (by kernel_rfl) (fun _ _ _ h => h) (Or.inl ⟨by rfl, fun w hSw => by (try dsimp only at hSw); go_simp⟩) (by assumption) ?_
      simp only [Act.put, List.setIfInBounds_toArray, List.set_cons_zero, List.set_cons_succ]
      refine wpAnyH_take (i := 10) (oi := ⟨some 45, _, _, _, _, _⟩) (v := (.pointer (some ⟨w.heap.size + 1, 4, none⟩))) rfl (by kernel_rfl) (by kernel_rfl) (by kernel_rfl) (fun _ _ _ h => h) (Or.inl ⟨by rfl, fun w hSw => by (try dsimp only at hSw); go_simp⟩) (by assumption) ?_
      simp only [Act.put, List.setIfInBounds_toArray, List.set_cons_zero, List.set_cons_succ]
      refine wpAnyH_take (i := 11) (oi := ⟨some 46, _, _, _, _, _⟩) (v := (.int .i64 b.cls)) rfl (by kernel_rfl) (by kernel_rfl) (by kernel_rfl) (fun _ _ _ h => h) (Or.inl ⟨by rfl, fun w hSw => by (try dsimp only at hSw); go_simp⟩) (by assumption) ?_
      simp only [Act.put, List.setIfInBounds_toArray, List.set_cons_zero, List.set_cons_succ]
      refine wpAnyH_ready (rs := [1, 6]) (by kernel_rfl) (by simp) ?_
      refine AllReadyH.cons (o := ⟨some 36, _, _, _, _, _⟩) rfl (fun KK hK => ?_) (AllReadyH.cons (o := ⟨some 41, _, _, _, _, _⟩) rfl (fun KK hK => ?_) AllReadyH.nil)
      · go_simp
        refine hK.out _ _ ⟨HI.out.b.cell 2 rfl, HI.out.b.cell 3 rfl, HI.out.b.cell 4 rfl⟩ (fun hHeld => ?_)
        clear hK; try clear KK
        try simp only [Act.put, List.setIfInBounds_toArray, List.set_cons_zero, List.set_cons_succ]
        refine wpAnyH_take (i := 4) (oi := ⟨some 39, _, _, _, _, _⟩) (v := (.int .i64 (max a.high b.high))) rfl (by kernel_rfl) (by kernel_rfl) (by kernel_rfl) (fun _ _ _ h => h) (Or.inl ⟨by rfl, fun w hSw => by (try dsimp only at hSw); go_simp⟩) (by assumption) ?_
        simp only [Act.put, List.setIfInBounds_toArray, List.set_cons_zero, List.set_cons_succ]
        refine wpAnyH_ready (rs := [6]) (by kernel_rfl) (by simp) ?_
        refine AllReadyH.cons (o := ⟨some 41, _, _, _, _, _⟩) rfl (fun KK hK => ?_) AllReadyH.nil
        go_simp
        refine hK.out _ _ ⟨HI.out.b.cell 2 rfl, HI.out.b.cell 3 rfl, HI.out.b.cell 4 rfl⟩ (fun hHeld => ?_)
        clear hK; try clear KK
        try simp only [Act.put, List.setIfInBounds_toArray, List.set_cons_zero, List.set_cons_succ]
        refine wpAnyH_take (i := 9) (oi := ⟨some 44, _, _, _, _, _⟩) (v := (.int .i64 (min a.low b.low))) rfl (by kernel_rfl) (by kernel_rfl) (by kernel_rfl) (fun _ _ _ h => h) (Or.inl ⟨by rfl, fun w hSw => by (try dsimp only at hSw); go_simp⟩) (by assumption) ?_
        simp only [Act.put, List.setIfInBounds_toArray, List.set_cons_zero, List.set_cons_succ]
        refine wpAnyH_take (i := 12) (oi := ⟨some 47, _, _, _, _, _⟩) (v := (.pointer (some ⟨w.heap.size, 2, none⟩))) rfl (by kernel_rfl) (by kernel_rfl) (by kernel_rfl) (fun _ _ _ h => h) (Or.inl ⟨by rfl, fun w hSw => by (try dsimp only at hSw); go_simp⟩) (by assumption) ?_
        simp only [Act.put, List.setIfInBounds_toArray, List.set_cons_zero, List.set_cons_succ]
        clear k2 k3
        have c2 : W.cell? ⟨w.heap.size, 2, none⟩ = some (.int .i64 a.high) := HI.out.a.cell 2 rfl
        have f2 : W.frozen? ⟨w.heap.size, 2, none⟩ = false := HI.out.a.free 2
        refine wpAnyH_ready (rs := [13]) (by kernel_rfl) (by simp) ?_
        refine AllReadyH.cons (o := ⟨none, _, _, _, _, _⟩) rfl (fun KK hK => ?_) AllReadyH.nil
        go_simp
        replace HD := Lib.hid (HD.out.apart ⟨w.heap.size, 2, none⟩ (.int .i64 (max a.high b.high)) (by show w.heap.size ≠ D; have := HDN.out; omega))
        replace HI := Lib.hid (mi_set HI.out (bar_high HI.out.a (max a.high b.high)))
        clear c2 f2 hHeld
        generalize World.setCell W ⟨w.heap.size, 2, none⟩ (.int .i64 (max a.high b.high)) = W at HI HD ⊢
        refine hK.out _ _ ⟨HI.out.b.cell 2 rfl, HI.out.b.cell 3 rfl, HI.out.b.cell 4 rfl⟩ (fun hHeld => ?_)
        clear hK; try clear KK
        try simp only [Act.put, List.setIfInBounds_toArray, List.set_cons_zero, List.set_cons_succ]
        refine wpAnyH_take (i := 14) (oi := ⟨some 48, _, _, _, _, _⟩) (v := (.pointer (some ⟨w.heap.size, 3, none⟩))) rfl (by kernel_rfl) (by kernel_rfl) (by kernel_rfl) (fun _ _ _ h => h) (Or.inl ⟨by rfl, fun w hSw => by (try dsimp only at hSw); go_simp⟩) (by assumption) ?_
        simp only [Act.put, List.setIfInBounds_toArray, List.set_cons_zero, List.set_cons_succ]
        have c3 : W.cell? ⟨w.heap.size, 3, none⟩ = some (.int .i64 a.low) := HI.out.a.cell 3 rfl
        have f3 : W.frozen? ⟨w.heap.size, 3, none⟩ = false := HI.out.a.free 3
        refine wpAnyH_ready (rs := [15]) (by kernel_rfl) (by simp) ?_
        refine AllReadyH.cons (o := ⟨none, _, _, _, _, _⟩) rfl (fun KK hK => ?_) AllReadyH.nil
        go_simp
        replace HD := Lib.hid (HD.out.apart ⟨w.heap.size, 3, none⟩ (.int .i64 (min a.low b.low)) (by show w.heap.size ≠ D; have := HDN.out; omega))
        replace HI := Lib.hid (mi_set HI.out (bar_low HI.out.a (min a.low b.low)))
        clear c3 f3 hHeld
        generalize World.setCell W ⟨w.heap.size, 3, none⟩ (.int .i64 (min a.low b.low)) = W at HI HD ⊢
        refine hK.out _ _ ⟨HI.out.b.cell 2 rfl, HI.out.b.cell 3 rfl, HI.out.b.cell 4 rfl⟩ (fun hHeld => ?_)
        clear hK; try clear KK
        try simp only [Act.put, List.setIfInBounds_toArray, List.set_cons_zero, List.set_cons_succ]
        refine wpAnyH_take (i := 16) (oi := ⟨some 49, _, _, _, _, _⟩) (v := (.pointer (some ⟨w.heap.size, 4, none⟩))) rfl (by kernel_rfl) (by kernel_rfl) (by kernel_rfl) (fun _ _ _ h => h) (Or.inl ⟨by rfl, fun w hSw => by (try dsimp only at hSw); go_simp⟩) (by assumption) ?_
        simp only [Act.put, List.setIfInBounds_toArray, List.set_cons_zero, List.set_cons_succ]
        have c4 : W.cell? ⟨w.heap.size, 4, none⟩ = some (.int .i64 a.cls) := HI.out.a.cell 4 rfl
        have f4 : W.frozen? ⟨w.heap.size, 4, none⟩ = false := HI.out.a.free 4
        refine wpAnyH_ready (rs := [17]) (by kernel_rfl) (by simp) ?_
        refine AllReadyH.cons (o := ⟨none, _, _, _, _, _⟩) rfl (fun KK hK => ?_) AllReadyH.nil
        go_simp
        replace HD := Lib.hid (HD.out.apart ⟨w.heap.size, 4, none⟩ (.int .i64 (b.cls)) (by show w.heap.size ≠ D; have := HDN.out; omega))
        replace HI := Lib.hid (mi_set HI.out (bar_cls HI.out.a (b.cls)))
        clear c4 f4 hHeld
        generalize World.setCell W ⟨w.heap.size, 4, none⟩ (.int .i64 (b.cls)) = W at HI HD ⊢
        refine hK.out _ _ ⟨HI.out.b.cell 2 rfl, HI.out.b.cell 3 rfl, HI.out.b.cell 4 rfl⟩ (fun hHeld => ?_)
        clear hK; try clear KK
        refine wpAnyH_done (by kernel_rfl) ?_ _
        go_wp2
        go_meet
        exact ⟨HD.out, HI.out⟩
      · go_simp
        refine hK.out _ _ ⟨HI.out.b.cell 2 rfl, HI.out.b.cell 3 rfl, HI.out.b.cell 4 rfl⟩ (fun hHeld => ?_)
        clear hK; try clear KK
        try simp only [Act.put, List.setIfInBounds_toArray, List.set_cons_zero, List.set_cons_succ]
        refine wpAnyH_take (i := 9) (oi := ⟨some 44, _, _, _, _, _⟩) (v := (.int .i64 (min a.low b.low))) rfl (by kernel_rfl) (by kernel_rfl) (by kernel_rfl) (fun _ _ _ h => h) (Or.inl ⟨by rfl, fun w hSw => by (try dsimp only at hSw); go_simp⟩) (by assumption) ?_
        simp only [Act.put, List.setIfInBounds_toArray, List.set_cons_zero, List.set_cons_succ]
        refine wpAnyH_ready (rs := [1]) (by kernel_rfl) (by simp) ?_
        refine AllReadyH.cons (o := ⟨some 36, _, _, _, _, _⟩) rfl (fun KK hK => ?_) AllReadyH.nil
        go_simp
        refine hK.out _ _ ⟨HI.out.b.cell 2 rfl, HI.out.b.cell 3 rfl, HI.out.b.cell 4 rfl⟩ (fun hHeld => ?_)
        clear hK; try clear KK
        try simp only [Act.put, List.setIfInBounds_toArray, List.set_cons_zero, List.set_cons_succ]
        refine wpAnyH_take (i := 4) (oi := ⟨some 39, _, _, _, _, _⟩) (v := (.int .i64 (max a.high b.high))) rfl (by kernel_rfl) (by kernel_rfl) (by kernel_rfl) (fun _ _ _ h => h) (Or.inl ⟨by rfl, fun w hSw => by (try dsimp only at hSw); go_simp⟩) (by assumption) ?_
        simp only [Act.put, List.setIfInBounds_toArray, List.set_cons_zero, List.set_cons_succ]
        refine wpAnyH_take (i := 12) (oi := ⟨some 47, _, _, _, _, _⟩) (v := (.pointer (some ⟨w.heap.size, 2, none⟩))) rfl (by kernel_rfl) (by kernel_rfl) (by kernel_rfl) (fun _ _ _ h => h) (Or.inl ⟨by rfl, fun w hSw => by (try dsimp only at hSw); go_simp⟩) (by assumption) ?_
        simp only [Act.put, List.setIfInBounds_toArray, List.set_cons_zero, List.set_cons_succ]
        clear k2 k3
        have c2 : W.cell? ⟨w.heap.size, 2, none⟩ = some (.int .i64 a.high) := HI.out.a.cell 2 rfl
        have f2 : W.frozen? ⟨w.heap.size, 2, none⟩ = false := HI.out.a.free 2
        refine wpAnyH_ready (rs := [13]) (by kernel_rfl) (by simp) ?_
        refine AllReadyH.cons (o := ⟨none, _, _, _, _, _⟩) rfl (fun KK hK => ?_) AllReadyH.nil
        go_simp
        replace HD := Lib.hid (HD.out.apart ⟨w.heap.size, 2, none⟩ (.int .i64 (max a.high b.high)) (by show w.heap.size ≠ D; have := HDN.out; omega))
        replace HI := Lib.hid (mi_set HI.out (bar_high HI.out.a (max a.high b.high)))
        clear c2 f2 hHeld
        generalize World.setCell W ⟨w.heap.size, 2, none⟩ (.int .i64 (max a.high b.high)) = W at HI HD ⊢
        refine hK.out _ _ ⟨HI.out.b.cell 2 rfl, HI.out.b.cell 3 rfl, HI.out.b.cell 4 rfl⟩ (fun hHeld => ?_)
        clear hK; try clear KK
        try simp only [Act.put, List.setIfInBounds_toArray, List.set_cons_zero, List.set_cons_succ]
        refine wpAnyH_take (i := 14) (oi := ⟨some 48, _, _, _, _, _⟩) (v := (.pointer (some ⟨w.heap.size, 3, none⟩))) rfl (by kernel_rfl) (by kernel_rfl) (by kernel_rfl) (fun _ _ _ h => h) (Or.inl ⟨by rfl, fun w hSw => by (try dsimp only at hSw); go_simp⟩) (by assumption) ?_
        simp only [Act.put, List.setIfInBounds_toArray, List.set_cons_zero, List.set_cons_succ]
        have c3 : W.cell? ⟨w.heap.size, 3, none⟩ = some (.int .i64 a.low) := HI.out.a.cell 3 rfl
        have f3 : W.frozen? ⟨w.heap.size, 3, none⟩ = false := HI.out.a.free 3
        refine wpAnyH_ready (rs := [15]) (by kernel_rfl) (by simp) ?_
        refine AllReadyH.cons (o := ⟨none, _, _, _, _, _⟩) rfl (fun KK hK => ?_) AllReadyH.nil
        go_simp
        replace HD := Lib.hid (HD.out.apart ⟨w.heap.size, 3, none⟩ (.int .i64 (min a.low b.low)) (by show w.heap.size ≠ D; have := HDN.out; omega))
        replace HI := Lib.hid (mi_set HI.out (bar_low HI.out.a (min a.low b.low)))
        clear c3 f3 hHeld
        generalize World.setCell W ⟨w.heap.size, 3, none⟩ (.int .i64 (min a.low b.low)) = W at HI HD ⊢
        refine hK.out _ _ ⟨HI.out.b.cell 2 rfl, HI.out.b.cell 3 rfl, HI.out.b.cell 4 rfl⟩ (fun hHeld => ?_)
        clear hK; try clear KK
        try simp only [Act.put, List.setIfInBounds_toArray, List.set_cons_zero, List.set_cons_succ]
        refine wpAnyH_take (i := 16) (oi := ⟨some 49, _, _, _, _, _⟩) (v := (.pointer (some ⟨w.heap.size, 4, none⟩))) rfl (by kernel_rfl) (by kernel_rfl) (by kernel_rfl) (fun _ _ _ h => h) (Or.inl ⟨by rfl, fun w hSw => by (try dsimp only at hSw); go_simp⟩) (by assumption) ?_
        simp only [Act.put, List.setIfInBounds_toArray, List.set_cons_zero, List.set_cons_succ]
        have c4 : W.cell? ⟨w.heap.size, 4, none⟩ = some (.int .i64 a.cls) := HI.out.a.cell 4 rfl
        have f4 : W.frozen? ⟨w.heap.size, 4, none⟩ = false := HI.out.a.free 4
        refine wpAnyH_ready (rs := [17]) (by kernel_rfl) (by simp) ?_
        refine AllReadyH.cons (o := ⟨none, _, _, _, _, _⟩) rfl (fun KK hK => ?_) AllReadyH.nil
        go_simp
        replace HD := Lib.hid (HD.out.apart ⟨w.heap.size, 4, none⟩ (.int .i64 (b.cls)) (by show w.heap.size ≠ D; have := HDN.out; omega))
        replace HI := Lib.hid (mi_set HI.out (bar_cls HI.out.a (b.cls)))
        clear c4 f4 hHeld
        generalize World.setCell W ⟨w.heap.size, 4, none⟩ (.int .i64 (b.cls)) = W at HI HD ⊢
        refine hK.out _ _ ⟨HI.out.b.cell 2 rfl, HI.out.b.cell 3 rfl, HI.out.b.cell 4 rfl⟩ (fun hHeld => ?_)
        clear hK; try clear KK
        refine wpAnyH_done (by kernel_rfl) ?_ _
        go_wp2
        go_meet
        exact ⟨HD.out, HI.out⟩
    case rest =>
      clear HI HD
      obtain ⟨hd, hi⟩ := hcut
      have HI := Lib.hid hi
      have HD := Lib.hid hd
      clear hi hd
      generalize wc = W at HI HD ⊢
      have k5 : W.cell? ⟨w.heap.size, 5, none⟩ = some (.int .i64 a.vol) := HI.out.a.cell 5 rfl
      have q5 : W.cell? ⟨w.heap.size + 1, 5, none⟩ = some (.int .i64 b.vol) := HI.out.b.cell 5 rfl
      have f5 : W.frozen? ⟨w.heap.size, 5, none⟩ = false := HI.out.a.free 5
      go_upto_region 8 with fail
      change Code.wp _ _ _ _ (World.setCell W ⟨w.heap.size, 5, none⟩ (.int .i64 (a.vol + b.vol)))
      replace HD := Lib.hid (HD.out.apart ⟨w.heap.size, 5, none⟩ (.int .i64 (a.vol + b.vol)) (by show w.heap.size ≠ D; have := HDN.out; omega))
      replace HI := Lib.hid (mi_set HI.out (bar_vol HI.out.a (a.vol + b.vol)))
      clear k5 q5 f5
      generalize World.setCell W ⟨w.heap.size, 5, none⟩ (.int .i64 (a.vol + b.vol)) = W at HI HD ⊢
      have k6 : W.cell? ⟨w.heap.size, 6, none⟩ = some (.int .i64 a.trd) := HI.out.a.cell 6 rfl
      have q6 : W.cell? ⟨w.heap.size + 1, 6, none⟩ = some (.int .i64 b.trd) := HI.out.b.cell 6 rfl
      have f6 : W.frozen? ⟨w.heap.size, 6, none⟩ = false := HI.out.a.free 6
      go_upto_region 9 with fail
      change Code.wp _ _ _ _ (World.setCell W ⟨w.heap.size, 6, none⟩ (.int .i64 (a.trd + b.trd)))
      replace HD := Lib.hid (HD.out.apart ⟨w.heap.size, 6, none⟩ (.int .i64 (a.trd + b.trd)) (by show w.heap.size ≠ D; have := HDN.out; omega))
      replace HI := Lib.hid (mi_set HI.out (bar_trd HI.out.a (a.trd + b.trd)))
      clear k6 q6 f6
      generalize World.setCell W ⟨w.heap.size, 6, none⟩ (.int .i64 (a.trd + b.trd)) = W at HI HD ⊢
      have k7 : W.cell? ⟨w.heap.size, 7, none⟩ = some (.int .i64 a.mean) := HI.out.a.cell 7 rfl
      have f7 : W.frozen? ⟨w.heap.size, 7, none⟩ = false := HI.out.a.free 7
      go_upto_region 10 with fail
      change Code.wp _ _ _ _ (World.setCell W ⟨w.heap.size, 7, none⟩ (.int .i64 (0)))
      replace HD := Lib.hid (HD.out.apart ⟨w.heap.size, 7, none⟩ (.int .i64 (0)) (by show w.heap.size ≠ D; have := HDN.out; omega))
      replace HI := Lib.hid (mi_set HI.out (bar_mean HI.out.a (0)))
      clear k7 f7
      generalize World.setCell W ⟨w.heap.size, 7, none⟩ (.int .i64 (0)) = W at HI HD ⊢
      have k5 : W.cell? ⟨w.heap.size, 5, none⟩ = some (.int .i64 (a.vol + b.vol)) := HI.out.a.cell 5 rfl
      go_wp2_with (refine load_blk (by rfl) 144 _ (by rfl) D (by rfl) (wcells X) 144 HD.out _ Try.underlying144 rfl (by kernel_rfl) ?_)
      refine (HMEAN.out _).mono ?_
      rintro e W ⟨rfl, hb⟩
      replace HI := Lib.hid (HI.out.below HI.out.le hb)
      replace HD := Lib.hid (HD.out.below hb HD.out.lt)
      clear hb k5 HMEAN
      have k7 : W.cell? ⟨w.heap.size, 7, none⟩ = some (.int .i64 0) := HI.out.a.cell 7 rfl
      have f7 : W.frozen? ⟨w.heap.size, 7, none⟩ = false := HI.out.a.free 7
      go_upto_region 12 with fail
      change Code.wp _ _ _ _ (World.setCell W ⟨w.heap.size, 7, none⟩ (.int .i64 ((mm : Int))))
      replace HD := Lib.hid (HD.out.apart ⟨w.heap.size, 7, none⟩ (.int .i64 ((mm : Int))) (by show w.heap.size ≠ D; have := HDN.out; omega))
      replace HI := Lib.hid (mi_set HI.out (bar_mean HI.out.a ((mm : Int))))
      clear k7 f7
      generalize World.setCell W ⟨w.heap.size, 7, none⟩ (.int .i64 ((mm : Int))) = W at HI HD ⊢
      go_wp2_with (first
        | (refine load_blk (by rfl) 53 _ (by rfl) w.heap.size (by rfl) _ _ HI.out.a _ Try.underlying53 rfl (by kernel_rfl) ?_)
        | (refine store_blk (by rfl) 53 _ _ (by rfl) (w.heap.size + 1 + 1) (by rfl) Bar.zero.cells (mergedF a b mm).cells 53 HI.out.r (by rfl) (by rfl) (by kernel_rfl) (one_bar _) ?_))
      have HR3 := Lib.hid (HI.out.r.setCells (mergedF a b mm).cells rfl)
      have HB3 := Lib.hid (Blk.Below.setCells (B := w.heap.size + 1 + 1) (mergedF a b mm).cells.toList 0 _ HI.out.bel (by omega))
      refine bodyPost_ret (results_cell_row rfl _ _ _ _ _ (0, 0) _ rfl HR3.out Try.underlying53 rfl (by kernel_rfl)) rfl ?_
      exact ⟨by rw [HXX.out, HMM.out], HB3.out⟩
end Go.Proofs.Ytogjgpiddjmpiaa.Tape
