/- The walk of damperlaw37.DrillOrders: it returns true, and writes nothing that was there. -/
import Derived.Test.YtjjglddhlloodaaRefOrderW
import Derived.Test.YtjjglddhlloodaaAlive37
namespace Go.Proofs.Ytjjglddhlloodaa.Orders
open Go.RowKit Go.Proofs.Ytjjglddhlloodaa.Kit Go.Proofs.Ytjjglddhlloodaa.Blk Go.Proofs.Ytjjglddhlloodaa.Dice Go.Proofs.Ytjjglddhlloodaa.Throw Go.Proofs.Ytjjglddhlloodaa.Symbol Go.Proofs.Ytjjglddhlloodaa.Check Go.Proofs.Ytjjglddhlloodaa.Order Go.Proofs.Ytjjglddhlloodaa.Alive37
attribute [local go_sem ↓] Go.wp_at_zero Go.wp_at_succ

/-- Is an order given at all? -/
def good (c : Cfg) (kind i : Int) : Bool := decide (rightF c kind = 0) && decide (0 ≤ i) && decide (i ≤ 2000)
def orderV (c : Cfg) (x kind i : Int) : Array Value := if good c kind i then orderCells c x kind i else zeroCells
def diceV (c : Cfg) (x kind i : Int) : Int := if good c kind i then orderDice x else x

theorem bad_of {c : Cfg} {kind i : Int} (h : good c kind i = false) : rightF c kind ≠ 0 ∨ i < 0 ∨ 2000 < i := by
  simp [good] at h
  by_cases h1 : rightF c kind = 0
  · have := h h1; omega
  · exact .inl h1
theorem good_of {c : Cfg} {kind i : Int} (h : good c kind i = true) : rightF c kind = 0 ∧ 0 ≤ i ∧ i ≤ 2000 := by
  simp [good] at h; exact ⟨h.1.1, h.1.2, h.2⟩
theorem good_syms {c : Cfg} {kind : Int} (h : rightF c kind = 0) : 1 ≤ c.syms.length := by
  unfold rightF at h
  by_cases h1 : (checkF c).1 = 0
  · exact (cfg_right c h1).1
  · rw [if_neg h1] at h; exact absurd h h1

section
variable (c : Cfg) (sa ta : Option Addr) (sc tc : Nat) (d : Nat) (x kind i : Int) (w : World)
theorem order_all (hin : c.In w sa ta) (hsd : 1 ≤ c.syms.length → ∀ a, sa = some a → a.block ≠ d) (hd : Blk w d #[.int .u64 x] 93) :
    Calls Try.prog 22 #[.agg (c.cells sa ta sc tc), .pointer (some ⟨d, 0, none⟩), .int .i64 kind, .int .i64 i] w fun e w' =>
      e = .returned (.agg (orderV c x kind i)) ∧ Blk w' d #[.int .u64 (diceV c x kind i)] 93 ∧ Chg w.heap.size d w w' := by
  cases hg : good c kind i with
  | true =>
    obtain ⟨h1, h2, h3⟩ := good_of hg
    refine (order_any c sa ta sc tc d x kind i w hin (hsd (good_syms h1)) h1 h2 h3 hd).mono ?_
    rintro e w' ⟨rfl, hq1, hq2⟩
    exact ⟨by simp [orderV, hg], by simpa [diceV, hg] using hq1, hq2⟩
  | false =>
    refine (order_wrong c sa ta sc tc ⟨d, 0, none⟩ kind i w hin (bad_of hg)).mono ?_
    rintro e w' ⟨rfl, hb⟩
    exact ⟨by simp [orderV, hg], by simpa [diceV, hg] using hd.below hb hd.lt, Chg.of hb⟩
theorem ref_all (hin : c.In w sa ta) (hsd : 1 ≤ c.syms.length → ∀ a, sa = some a → a.block ≠ d) (hd : Blk w d #[.int .u64 x] 29) :
    Calls Try.prog 23 #[.agg (c.cells sa ta sc tc), .pointer (some ⟨d, 0, none⟩), .int .i64 kind, .int .i64 i] w fun e w' =>
      e = .returned (.agg (orderV c x kind i)) ∧ Blk w' d #[.int .u64 (diceV c x kind i)] 29 ∧ Chg w.heap.size d w w' := by
  cases hg : good c kind i with
  | true =>
    obtain ⟨h1, h2, h3⟩ := good_of hg
    refine (RefOrder.order_ref c sa ta sc tc d x kind i w hin (hsd (good_syms h1)) h1 h2 h3 hd).mono ?_
    rintro e w' ⟨rfl, hq1, hq2⟩
    exact ⟨by simp [orderV, hg], by simpa [diceV, hg] using hq1, hq2⟩
  | false =>
    refine (RefOrder.ref_wrong c sa ta sc tc (some ⟨d, 0, none⟩) kind i w hin (bad_of hg)).mono ?_
    rintro e w' ⟨rfl, hb⟩
    exact ⟨by simp [orderV, hg], by simpa [diceV, hg] using hd.below hb hd.lt, Chg.of hb⟩
end

theorem light_any (c : Cfg) (sa ta : Option Addr) (sc tc : Nat) (w : World) :
    Calls Try.prog 21 #[.agg (c.cells sa ta sc tc)] w fun e w' => e = .returned (.bool (decide ((c.syms.length : Int) ≤ 20) && decide ((c.tab.length : Int) ≤ 40))) ∧ Below w.heap.size w w' := by
  unfold Cfg.cells
  by_cases h1 : (c.syms.length : Int) ≤ 20
  · by_cases h2 : (c.tab.length : Int) ≤ 40
    · have HS := Lib.hid (show (decide ((c.syms.length : Int) ≤ 20) && decide ((c.tab.length : Int) ≤ 40)) = true by simp [h1, h2])
      go_enter Try.func21, Try.ntmps21
      go_wp2
      go_ret
      exact ⟨ret_bool HS.out.symm, (Below.refl _ _).alloc (Nat.le_refl _) _⟩
    · go_enter Try.func21, Try.ntmps21
      go_wp2
      go_ret
      exact ⟨ret_bool (by simp; omega), (Below.refl _ _).alloc (Nat.le_refl _) _⟩
  · have HS := Lib.hid (show (decide ((c.syms.length : Int) ≤ 20) && decide ((c.tab.length : Int) ≤ 40)) = false by simp [h1])
    go_enter Try.func21, Try.ntmps21
    go_wp2
    go_ret
    exact ⟨ret_bool HS.out.symm, (Below.refl _ _).alloc (Nat.le_refl _) _⟩

theorem eql_cmd (v0 v1 v2 v3 v4 v5 v6 v7 v8 : Int) (w : World) :
    (binOp .eql 62 (.agg #[.int .i64 v0, .int .i64 v1, .int .i64 v2, .int .i64 v3, .int .i64 v4, .int .i64 v5, .int .i64 v6, .int .i64 v7, .int .i64 v8]) (.agg #[.int .i64 v0, .int .i64 v1, .int .i64 v2, .int .i64 v3, .int .i64 v4, .int .i64 v5, .int .i64 v6, .int .i64 v7, .int .i64 v8])).run Try.prog w = .ok (.bool true) w := by
  go_simp

theorem eql_order (c : Cfg) (x kind i : Int) (w : World) : (binOp .eql 62 (.agg (orderV c x kind i)) (.agg (orderV c x kind i))).run Try.prog w = .ok (.bool true) w := by
  unfold orderV
  split
  · unfold orderCells; exact eql_cmd _ _ _ _ _ _ _ _ _ w
  · unfold zeroCells; exact eql_cmd _ _ _ _ _ _ _ _ _ w
theorem eql_zero (w : World) : (binOp .eql 62 (.agg zeroCells) (.agg #[.int .i64 0, .int .i64 0, .int .i64 0, .int .i64 0, .int .i64 0, .int .i64 0, .int .i64 0, .int .i64 0, .int .i64 0])).run Try.prog w = .ok (.bool true) w := eql_cmd _ _ _ _ _ _ _ _ _ w

/-- What is known between the calls of the statement: the boxed configuration, both dice; nothing that was there has changed. -/
structure SL (c : Cfg) (sa ta : Option Addr) (sc tc : Nat) (w : World) (d r : Nat) (W : World) (x y : Int) : Prop where
  base : Below w.heap.size w W
  box : Blk W w.heap.size (c.cells sa ta sc tc) 59
  dd : Blk W d #[.int .u64 x] 93
  rr : Blk W r #[.int .u64 y] 29
  hd : w.heap.size < d
  hr : w.heap.size < r
  ne : d ≠ r

section
variable {c : Cfg} {sa ta : Option Addr} {sc tc : Nat} {w W W' : World} {d r : Nat} {x y z : Int}
theorem SL.callD (h : SL c sa ta sc tc w d r W x y) (hd : Blk W' d #[.int .u64 z] 93) (hc : Chg W.heap.size d W W') : SL c sa ta sc tc w d r W' z y :=
  ⟨h.base.trans (hc.below' (Nat.le_of_lt h.hd) h.base.size), hc.blk h.box.lt (by have := h.hd; omega) h.box, hd, hc.blk h.rr.lt h.ne.symm h.rr, h.hd, h.hr, h.ne⟩
theorem SL.callR (h : SL c sa ta sc tc w d r W x y) (hd : Blk W' r #[.int .u64 z] 29) (hc : Chg W.heap.size r W W') : SL c sa ta sc tc w d r W' x z :=
  ⟨h.base.trans (hc.below' (Nat.le_of_lt h.hr) h.base.size), hc.blk h.box.lt (by have := h.hr; omega) h.box, hc.blk h.dd.lt h.ne h.dd, hd, h.hd, h.hr, h.ne⟩
theorem SL.below (h : SL c sa ta sc tc w d r W x y) (hb : Below W.heap.size W W') : SL c sa ta sc tc w d r W' x y :=
  h.callD (h.dd.below hb h.dd.lt) (Chg.of hb)
theorem SL.cells (h : SL c sa ta sc tc w d r W x y) : (fun w' => w'.cell? ⟨w.heap.size, 0, none⟩ = some (.slice sa c.syms.length sc) ∧ w'.cell? ⟨w.heap.size, 1, none⟩ = some (.slice ta c.tab.length tc) ∧ w'.cell? ⟨w.heap.size, 2, none⟩ = some (.int .i64 c.index) ∧ w'.cell? ⟨w.heap.size, 3, none⟩ = some (.int .i64 c.f0) ∧ w'.cell? ⟨w.heap.size, 4, none⟩ = some (.int .i64 c.f1) ∧ w'.cell? ⟨w.heap.size, 5, none⟩ = some (.int .i64 c.f2) ∧ w'.cell? ⟨w.heap.size, 6, none⟩ = some (.int .i64 c.h0) ∧ w'.cell? ⟨w.heap.size, 7, none⟩ = some (.int .i64 c.h1)) W :=
  ⟨h.box.cell 0 rfl, h.box.cell 1 rfl, h.box.cell 2 rfl, h.box.cell 3 rfl, h.box.cell 4 rfl, h.box.cell 5 rfl, h.box.cell 6 rfl, h.box.cell 7 rfl⟩
end

set_option maxRecDepth 100000 in
set_option maxHeartbeats 8000000 in
theorem walk (c : Cfg) (sa ta : Option Addr) (sc tc : Nat) (x kind i : Int) (w : World) (hin : c.In w sa ta) :
    Calls Try.prog 7 #[.agg (c.cells sa ta sc tc), .int .u64 x, .int .i64 kind, .int .i64 i] w fun e w' => e = .returned (.bool true) ∧ Below w.heap.size w w' := by
  have hbx := Lib.hid (Blk.new w (c.cells sa ta sc tc) 59 w.heap.size rfl)
  have hba := Lib.hid (show Below w.heap.size w (w.alloc (.cells (c.cells sa ta sc tc) 59)) from (Below.refl _ _).alloc (Nat.le_refl _) _)
  have hbz := Lib.hid (show (w.alloc (.cells (c.cells sa ta sc tc) 59)).heap.size = w.heap.size + 1 by simp)
  unfold Cfg.cells at hbx hba hbz ⊢
  go_enter Try.func7, Try.ntmps7
  go_wp2_with fail
  refine (light_any c sa ta sc tc _).mono ?_
  rintro e w1 ⟨rfl, hb1⟩
  have hb := hba.out.trans (hb1.mono (by rw [hbz.out]; omega))
  have hbx1 := hbx.out.below hb1 (by rw [hbz.out]; omega)
  have hz1 : w.heap.size < w1.heap.size := by have := hb1.size; rw [hbz.out] at this; omega
  cases hl : (decide ((c.syms.length : Int) ≤ 20) && decide ((c.tab.length : Int) ≤ 40)) with
  | false =>
    go_wp2_with fail
    refine (alive _).mono ?_
    rintro e w2 ⟨rfl, hb2⟩
    go_wp2
    go_ret
    exact ⟨rfl, hb.trans (hb2.mono hb.size)⟩
  | true =>
    clear hl
    go_wp2_with fail
    refine (new_any x w1).mono ?_
    rintro e w2 ⟨rfl, rfl⟩
    go_wp2_with fail
    have hs : SL c sa ta sc tc w w1.heap.size (w1.heap.size + 1) ((w1.alloc (.cells #[.int .u64 x] 93)).alloc (.cells #[.int .u64 x] 29)) x x :=
      ⟨(hb.alloc hb.size _).alloc (by have := hb.size; simp; omega) _, (hbx1.old _).old _, (Blk.new _ _ _ _ rfl).old _, Blk.new _ _ _ _ (by simp), hz1, by omega, by omega⟩
    have hsd : 1 ≤ c.syms.length → ∀ a, sa = some a → a.block ≠ w1.heap.size ∧ a.block ≠ w1.heap.size + 1 := by
      intro h a ha
      obtain ⟨b, off, hb', hlt, _⟩ := hin.syms 0 (by omega)
      rw [ha] at hb'
      cases hb'
      exact ⟨by show b ≠ _; omega, by show b ≠ _; omega⟩
    have HSD := Lib.hid hsd
    clear hsd hbx1 hbx hba hbz hb1
    generalize (w1.alloc (.cells #[.int .u64 x] 93)).alloc (.cells #[.int .u64 x] 29) = W at hs ⊢
    generalize w1.heap.size = d at hs HSD ⊢
    have H0 := Lib.hid (hs.below (Below.refl _ _).drew)
    clear hs
    have heq := eql_order c x kind i
    have hez := eql_zero
    have het : ∀ t : Int, (t == t) = true := by simp
    go_region_held3 (fun w' => w'.cell? ⟨w.heap.size, 0, none⟩ = some (.slice sa c.syms.length sc) ∧ w'.cell? ⟨w.heap.size, 1, none⟩ = some (.slice ta c.tab.length tc) ∧ w'.cell? ⟨w.heap.size, 2, none⟩ = some (.int .i64 c.index) ∧ w'.cell? ⟨w.heap.size, 3, none⟩ = some (.int .i64 c.f0) ∧ w'.cell? ⟨w.heap.size, 4, none⟩ = some (.int .i64 c.f1) ∧ w'.cell? ⟨w.heap.size, 5, none⟩ = some (.int .i64 c.f2) ∧ w'.cell? ⟨w.heap.size, 6, none⟩ = some (.int .i64 c.h0) ∧ w'.cell? ⟨w.heap.size, 7, none⟩ = some (.int .i64 c.h1))
      (first | exact H0.out.cells | exact H1.out.cells | exact H2.out.cells | exact H3.out.cells | exact H4.out.cells | exact H5.out.cells | exact H6.out.cells)
      (first
       | (go_at_call_of 22 (Value.pointer none); refine (order_nil c sa ta sc tc kind i _).mono ?_; rintro e W5 ⟨rfl, hq5⟩; have H5 := Lib.hid (H4.out.below hq5); clear hq5)
       | (go_at_call 22; refine (order_all c sa ta sc tc d x kind i _ (hin.below H0.out.base) (fun h a ha => (HSD.out h a ha).1) H0.out.dd).mono ?_; rintro e W1 ⟨rfl, hq1, hq2⟩; have H1 := Lib.hid (H0.out.callD hq1 hq2); clear hq1 hq2)
       | (go_at_call 23; refine (ref_all c sa ta sc tc (d + 1) x kind i _ (hin.below H1.out.base) (fun h a ha => (HSD.out h a ha).2) H1.out.rr).mono ?_; rintro e W2 ⟨rfl, hq1, hq2⟩; have H2 := Lib.hid (H1.out.callR hq1 hq2); clear hq1 hq2)
       | (go_at_call 11; refine (next_blk d (diceV c x kind i) 1000 _ (by decide) H2.out.dd).mono ?_; rintro e W3 ⟨rfl, hq1, hq2, -⟩; have H3 := Lib.hid (H2.out.callD hq1 hq2); clear hq1 hq2)
       | (go_at_call 12; refine (ref_blk (d + 1) (diceV c x kind i) 1000 _ (by decide) H3.out.rr).mono ?_; rintro e W4 ⟨rfl, hq1, hq2, -⟩; have H4 := Lib.hid (H3.out.callR hq1 hq2); clear hq1 hq2)
       | (go_at_call 9; refine (alive _).mono ?_; rintro e W6 ⟨rfl, hq6⟩; have H6 := Lib.hid (H5.out.below hq6); clear hq6))
    go_wp2
    go_ret
    exact ⟨rfl, H6.out.base⟩
end Go.Proofs.Ytjjglddhlloodaa.Orders
