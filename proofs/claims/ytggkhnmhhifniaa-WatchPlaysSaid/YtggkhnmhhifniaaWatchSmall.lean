/- The small functions of a watch: a symbol's row, lateness, phases, bands. -/
import Derived.Test.YtggkhnmhhifniaaWatchSpec
import Derived.Deep.DeepCutAuto
import Derived.Deep.CutBlock
import Derived.Deep.RegionHeld3
import Derived.Deep.DrawnRows
namespace Go.Proofs.Ytggkhnmhhifniaa.Watch
open Go.RowKit Go.Proofs.Ytggkhnmhhifniaa.Kit Go.Proofs.Ytggkhnmhhifniaa.Blk Go.Proofs.Ytggkhnmhhifniaa.Symbol

theorem global_any (m : Msg) (w : World) : Calls Try.prog 63 #[.agg m.cells] w fun e w' => e = .returned (.bool (globalF m)) ∧ w.alloc (.cells m.cells 40) = w' := by
  unfold Msg.cells
  cases h1 : (m.kind == 2) with
  | true =>
    have HS := Lib.hid (show globalF m = true by simp [globalF, h1])
    go_enter Try.func63, Try.ntmps63
    go_wp2
    go_ret
    exact ⟨ret_bool HS.out.symm, rfl⟩
  | false =>
    have HS := Lib.hid (show globalF m = (m.kind == 9) by simp [globalF, h1])
    go_enter Try.func63, Try.ntmps63
    go_wp2
    go_ret
    exact ⟨ret_bool HS.out.symm, rfl⟩

theorem ret_pair {a b : Int} {t u : Bool} (ht : t = u) (h : a = b) : Ending.returned (.tuple #[.int .i64 a, .bool t]) = .returned (.tuple #[.int .i64 b, .bool u]) := by rw [h, ht]

theorem clip_any (lo hi p : Int) (w : World) : Calls Try.prog 102 #[.agg #[.int .i64 lo, .int .i64 hi], .int .i64 p] w fun e w' =>
    e = .returned (.tuple #[.int .i64 (if hi < lo then 0 else min (max p lo) hi), .bool (decide (lo ≤ hi))]) ∧ w.alloc (.cells #[.int .i64 lo, .int .i64 hi] 45) = w' := by
  by_cases h : hi < lo
  · have HS := Lib.hid (show decide (lo ≤ hi) = false by simp; omega)
    rw [if_pos h]
    go_enter Try.func102, Try.ntmps102
    go_wp2
    go_ret2
    exact ⟨by rw [HS.out]; rfl, rfl⟩
  · rw [if_neg h]
    have h' : lo ≤ hi := by omega
    go_enter Try.func102, Try.ntmps102
    go_wp2
    all_goals
      go_ret2
      exact ⟨ret_pair rfl (by omega), rfl⟩

theorem in_any (lo hi p : Int) (w : World) : Calls Try.prog 89 #[.agg #[.int .i64 lo, .int .i64 hi], .int .i64 p] w fun e w' =>
    e = .returned (.bool (inBand lo hi p)) ∧ Below w.heap.size w w' := by
  have HB := Lib.hid (show Below w.heap.size w ((w.alloc (.cells #[.int .i64 lo, .int .i64 hi] 45)).alloc (.cells #[.int .i64 lo, .int .i64 hi] 45)) from ((Below.refl _ _).alloc (Nat.le_refl _) _).alloc (by simp) _)
  by_cases h : lo ≤ hi
  · have hd : decide (lo ≤ hi) = true := by simp [h]
    have hv : (if hi < lo then 0 else min (max p lo) hi) = min (max p lo) hi := if_neg (by omega)
    have HV := Lib.hid hv
    have HS := Lib.hid (show inBand lo hi p = (min (max p lo) hi == p) by
      rw [Bool.eq_iff_iff]; simp [inBand]; omega)
    clear hv
    go_enter Try.func89, Try.ntmps89
    go_wp2_with fail
    refine (clip_any lo hi p _).mono ?_
    rintro e w' ⟨rfl, rfl⟩
    rw [HV.out]
    generalize min (max p lo) hi = q at HS ⊢
    go_wp2
    go_ret
    exact ⟨ret_bool HS.out.symm, HB.out⟩
  · have hd : decide (lo ≤ hi) = false := by simp; omega
    have HS := Lib.hid (show inBand lo hi p = false by simp [inBand]; omega)
    go_enter Try.func89, Try.ntmps89
    go_wp2_with fail
    refine (clip_any lo hi p _).mono ?_
    rintro e w' ⟨rfl, rfl⟩
    generalize (if hi < lo then 0 else min (max p lo) hi) = q
    go_wp2
    go_ret
    exact ⟨ret_bool HS.out.symm, HB.out⟩

/-- What a known's methods read: its phase, bands, as cells at offset o of block L. -/
structure KnAt (w : World) (L o : Nat) (k : Kn) : Prop where
  phase : w.cell? ⟨L, o + 16, none⟩ = some (.int .i64 k.phase)
  blo : w.cell? ⟨L, o + 17, none⟩ = some (.int .i64 k.blo)
  bhi : w.cell? ⟨L, o + 18, none⟩ = some (.int .i64 k.bhi)
  clo : w.cell? ⟨L, o + 19, none⟩ = some (.int .i64 k.clo)
  chi : w.cell? ⟨L, o + 20, none⟩ = some (.int .i64 k.chi)
  deadline : w.cell? ⟨L, o + 21, none⟩ = some (.int .i64 k.deadline)
theorem KnAt.below {w w' : World} {L o : Nat} {k : Kn} (h : KnAt w L o k) (hl : L < w.heap.size) (hb : Below w.heap.size w w') : KnAt w' L o k :=
  ⟨by rw [hb.cell (p := ⟨L, _, none⟩) hl]; exact h.phase, by rw [hb.cell (p := ⟨L, _, none⟩) hl]; exact h.blo, by rw [hb.cell (p := ⟨L, _, none⟩) hl]; exact h.bhi,
    by rw [hb.cell (p := ⟨L, _, none⟩) hl]; exact h.clo, by rw [hb.cell (p := ⟨L, _, none⟩) hl]; exact h.chi, by rw [hb.cell (p := ⟨L, _, none⟩) hl]; exact h.deadline⟩

theorem open_any (L o : Nat) (k : Kn) (code : Int) (w : World) (h : w.cell? ⟨L, o + 16, none⟩ = some (.int .i64 k.phase)) :
    Calls Try.prog 66 #[.pointer (some ⟨L, o, none⟩), .int .i64 code] w fun e w' => e = .returned (.bool (openF k code)) ∧ w = w' := by
  by_cases h1 : code = 1
  · have HS := Lib.hid (show openF k code = (k.phase == 2) by simp [openF, h1])
    have b1 : (code == 1) = true := by simp [h1]
    clear h1
    go_enter Try.func66, Try.ntmps66
    go_wp2
    go_ret
    exact ⟨ret_bool HS.out.symm, rfl⟩
  have b1 : (code == 1) = false := by simp [h1]
  by_cases h3 : code = 3
  · have HS := Lib.hid (show openF k code = ((k.phase == 1) || (k.phase == 4)) by simp [openF, h3])
    have b3 : (code == 3) = true := by simp [h3]
    clear h1 h3
    cases hp : (k.phase == 1) with
    | true =>
      go_enter Try.func66, Try.ntmps66
      go_wp2
      go_ret
      exact ⟨ret_bool (by rw [HS.out, hp]; rfl), rfl⟩
    | false =>
      have HP := Lib.hid hp
      go_enter Try.func66, Try.ntmps66
      go_wp2
      go_ret
      exact ⟨ret_bool (by rw [HS.out, HP.out]; rfl), rfl⟩
  have b3 : (code == 3) = false := by simp [h3]
  by_cases h2 : code = 2
  · have HS := Lib.hid (show openF k code = (k.phase == 4) by simp [openF, h2])
    have b2 : (code == 2) = true := by simp [h2]
    clear h1 h2 h3
    go_enter Try.func66, Try.ntmps66
    go_wp2
    go_ret
    exact ⟨ret_bool HS.out.symm, rfl⟩
  · have HS := Lib.hid (show openF k code = false by simp [openF, h1, h2, h3])
    have b2 : (code == 2) = false := by simp [h2]
    clear h1 h2 h3
    go_enter Try.func66, Try.ntmps66
    go_wp2
    go_ret
    exact ⟨ret_bool HS.out.symm, rfl⟩

/-- Three cells, and that they stay. -/
def Three (w : World) (p q r : Addr) (x y z : Int) : Prop := w.cell? p = some (.int .i64 x) ∧ w.cell? q = some (.int .i64 y) ∧ w.cell? r = some (.int .i64 z)
theorem Three.below {w w' : World} {p q r : Addr} {x y z : Int} (h : Three w p q r x y z) (hb : Below w.heap.size w w') : Three w' p q r x y z :=
  ⟨by rw [hb.cell (World.block_lt_of_cell? w _ h.1)]; exact h.1, by rw [hb.cell (World.block_lt_of_cell? w _ h.2.1)]; exact h.2.1, by rw [hb.cell (World.block_lt_of_cell? w _ h.2.2)]; exact h.2.2⟩

attribute [local go_sem ↓] Go.wp_at_zero Go.wp_at_succ
set_option maxHeartbeats 2000000 in
theorem kin_any (L o : Nat) (k : Kn) (m : Msg) (w : World) (hl : L < w.heap.size) (h : KnAt w L o k) :
    Calls Try.prog 68 #[.pointer (some ⟨L, o, none⟩), .agg m.cells] w fun e w' => e = .returned (.bool (inF k m)) ∧ Below w.heap.size w w' := by
  have hm : ∀ (j : Nat) (v : Value), m.cells[j]? = some v → (w.alloc (.cells m.cells 40)).cell? ⟨w.heap.size, j, none⟩ = some v := fun j v hv => cell_new _ _ _ _ _ _ rfl hv
  have hb := Lib.hid (show Below w.heap.size w (w.alloc (.cells m.cells 40)) from (Below.refl _ _).alloc (Nat.le_refl _) _)
  have K0 : Hid (Three (w.alloc (.cells m.cells 40)).drew ⟨L, o + 17, none⟩ ⟨L, o + 18, none⟩ ⟨w.heap.size, 6, none⟩ k.blo k.bhi m.price) := Lib.hid ⟨(cell_old _ _ _ hl).trans h.blo, (cell_old _ _ _ hl).trans h.bhi, hm 6 _ rfl⟩
  have J0 : Hid (Three (w.alloc (.cells m.cells 40)).drew ⟨L, o + 19, none⟩ ⟨L, o + 20, none⟩ ⟨w.heap.size, 6, none⟩ k.clo k.chi m.price) := Lib.hid ⟨(cell_old _ _ _ hl).trans h.clo, (cell_old _ _ _ hl).trans h.chi, hm 6 _ rfl⟩
  clear hm h
  unfold Msg.cells at *
  by_cases h1 : m.code = 1
  · have HS := Lib.hid (show inF k m = inBand k.blo k.bhi m.price by simp [inF, h1])
    have b1 : (m.code == 1) = true := by simp [h1]
    clear h1 J0
    go_enter Try.func68, Try.ntmps68
    go_wp2_with fail
    go_region_held3 (fun w' => w'.cell? ⟨L, o + 17, none⟩ = some (.int .i64 k.blo) ∧ w'.cell? ⟨L, o + 18, none⟩ = some (.int .i64 k.bhi) ∧ w'.cell? ⟨w.heap.size, 6, none⟩ = some (.int .i64 m.price))
      (first | exact K0.out | exact K1.out)
      (first | (go_at_call 89; refine (in_any k.blo k.bhi m.price _).mono ?_; rintro e w1 ⟨rfl, hb1⟩; have K1 := Lib.hid (K0.out.below hb1); have HB1 := Lib.hid hb1; clear hb1))
    go_wp2
    go_ret
    exact ⟨ret_bool HS.out.symm, hb.out.drew.trans (HB1.out.mono (by simp))⟩
  have b1 : (m.code == 1) = false := by simp [h1]
  by_cases h2 : m.code = 2
  · have HS := Lib.hid (show inF k m = inBand k.clo k.chi m.price by simp [inF, h2])
    have b2 : (m.code == 2) = true := by simp [h2]
    clear h1 h2 K0
    go_enter Try.func68, Try.ntmps68
    go_wp2_with fail
    go_region_held3 (fun w' => w'.cell? ⟨L, o + 19, none⟩ = some (.int .i64 k.clo) ∧ w'.cell? ⟨L, o + 20, none⟩ = some (.int .i64 k.chi) ∧ w'.cell? ⟨w.heap.size, 6, none⟩ = some (.int .i64 m.price))
      (first | exact J0.out | exact J1.out)
      (first | (go_at_call 89; refine (in_any k.clo k.chi m.price _).mono ?_; rintro e w1 ⟨rfl, hb1⟩; have J1 := Lib.hid (J0.out.below hb1); have HB1 := Lib.hid hb1; clear hb1))
    go_wp2
    go_ret
    exact ⟨ret_bool HS.out.symm, hb.out.drew.trans (HB1.out.mono (by simp))⟩
  · have HS := Lib.hid (show inF k m = (Fix.price m.price 1 == 0) by simp [inF, h1, h2])
    have b2 : (m.code == 2) = false := by simp [h2]
    clear h1 h2 K0 J0
    go_enter Try.func68, Try.ntmps68
    go_wp2_with fail
    refine (Fix.price_any _ _ _).mono ?_
    rintro e w1 ⟨rfl, rfl⟩
    go_wp2
    go_ret
    exact ⟨ret_bool HS.out.symm, hb.out⟩
end Go.Proofs.Ytggkhnmhhifniaa.Watch
