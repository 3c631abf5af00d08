/- Parts of the proof: Order, OrderW, OrderA. -/
import Derived.Test.YtogjgpiddjmpiaaPart11
import Derived.Test.YtogjgpiddjmpiaaPart1
import Derived.Deep.RegionHeld3
import Derived.Deep.DrawnRows

/- drill.Order: an order by throws of the dice. -/
namespace Go.Proofs.Ytogjgpiddjmpiaa.Order
set_option linter.unusedVariables false
open Go.RowKit Go.Proofs.Ytogjgpiddjmpiaa.Kit Go.Proofs.Ytogjgpiddjmpiaa.Blk Go.Proofs.Ytogjgpiddjmpiaa.Dice Go.Proofs.Ytogjgpiddjmpiaa.Throw Go.Proofs.Ytogjgpiddjmpiaa.Price Go.Proofs.Ytogjgpiddjmpiaa.Symbol Go.Proofs.Ytogjgpiddjmpiaa.Check
attribute [local go_sem ↓] Go.wp_at_zero Go.wp_at_succ

/-- What drill.right says of a configuration and a kind. -/
def rightF (c : Cfg) (kind : Int) : Int := if (checkF c).1 = 0 then (if kind < 0 ∨ 4 < kind then 1 else 0) else (checkF c).1

theorem right_any (c : Cfg) (sa ta : Option Addr) (sc tc : Nat) (kind : Int) (w : World) (hin : c.In w sa ta) :
    Calls Try.prog 60 #[.agg (c.cells sa ta sc tc), .int .i64 kind] w fun e w' => e = .returned (.int .i64 (rightF c kind)) ∧ Below w.heap.size w w' := by
  have hin' := Lib.hid (hin.below ((Below.refl _ _).alloc (Nat.le_refl _) (.cells (c.cells sa ta sc tc) 34)))
  have hba := Lib.hid (show Below w.heap.size w (w.alloc (.cells (c.cells sa ta sc tc) 34)) from (Below.refl _ _).alloc (Nat.le_refl _) _)
  unfold Cfg.cells at *
  go_enter Try.func60, Try.ntmps60
  go_wp2_with fail
  refine (check_any c sa ta sc tc _ hin'.out).mono ?_
  rintro e w1 ⟨rfl, hb1⟩
  have hb := hba.out.trans (hb1.mono (by simp))
  by_cases hp : (checkF c).1 = 0
  · have hp' : ((checkF c).1 != 0) = false := by simp [hp]
    by_cases h1 : kind < 0
    · have HS := Lib.hid (show rightF c kind = 1 by simp [rightF, hp, h1])
      clear hp
      go_wp2
      go_ret
      exact ⟨ret_int HS.out.symm, hb⟩
    · by_cases h2 : 4 < kind
      · have HS := Lib.hid (show rightF c kind = 1 by simp [rightF, hp, h2])
        clear hp
        go_wp2
        go_ret
        exact ⟨ret_int HS.out.symm, hb⟩
      · have HS := Lib.hid (show rightF c kind = 0 by simp [rightF, hp, h1, h2])
        clear hp
        go_wp2
        go_ret
        exact ⟨ret_int HS.out.symm, hb⟩
  · have hp' : ((checkF c).1 != 0) = true := by simp [hp]
    have HS := Lib.hid (show rightF c kind = (checkF c).1 by simp [rightF, hp])
    clear hp
    go_wp2
    go_ret
    exact ⟨ret_int HS.out.symm, hb⟩

/-- A symbol of a configuration that is right. -/
theorem sym_right (s : Sym) (h : symFault s = 0) : 1 ≤ s.grid ∧ s.grid ≤ 1099511627776 ∧ 1 ≤ s.ref ∧ s.ref ≤ 1099511627776 ∧ s.ref % s.grid = 0 := by
  unfold symFault at h
  cases h1 : r1 s with
  | false => simp [h1] at h
  | true =>
    cases h2 : r2 s with
    | false => simp [h1, h2] at h
    | true =>
      simp [r1, allIn] at h1
      have h3 : Fix.price s.ref s.grid = 0 := by simpa [r2] using h2
      unfold Fix.price at h3
      rw [if_neg (by omega), if_neg (by omega)] at h3
      have h4 : Fix.down s.ref s.grid = s.ref := by
        by_cases h5 : Fix.down s.ref s.grid = s.ref
        · exact h5
        · rw [if_neg h5] at h3; exact absurd h3 (by decide)
      unfold Fix.down at h4
      rw [if_neg (by omega)] at h4
      have := Int.emod_add_mul_ediv s.ref s.grid
      rw [Int.mul_comm] at this
      exact ⟨by omega, by omega, by omega, by omega, by omega⟩

theorem syms_right (l : List Sym) (i : Nat) (h : (symsF l i).1 = 0) : ∀ s ∈ l, symFault s = 0 := by
  induction l generalizing i with
  | nil => intro s hs; cases hs
  | cons s l ih =>
    intro t ht
    by_cases h0 : symFault s = 0
    · simp only [symsF, h0, if_true] at h
      rcases List.mem_cons.1 ht with rfl | ht
      · exact h0
      · exact ih _ h t ht
    · simp [symsF, h0] at h

theorem cfg_right (c : Cfg) (h : (checkF c).1 = 0) : 1 ≤ c.syms.length ∧ c.syms.length ≤ 8 ∧ ∀ s ∈ c.syms, symFault s = 0 := by
  unfold checkF at h
  cases h1 : allIn 1 8 [(c.syms.length : Int)] with
  | false => simp [h1] at h
  | true =>
    simp only [h1, if_true] at h
    simp [allIn] at h1
    by_cases h2 : (symsF c.syms 0).1 = 0
    · exact ⟨by omega, by omega, syms_right _ _ h2⟩
    · rw [if_neg h2] at h; exact absurd h h2

def flagF (n : Int) : Int := if n = 0 then 4 else if n = 1 then 1 else 0

/-- The place of an order's symbol, and its price. -/
def placeF (c : Cfg) (x : Int) : Nat := (toss x (c.syms.length : Int)).toNat
def zeroSym : Sym := ⟨0, 0, 0, 0, 0, 0, 0, 0, 0, 0, 0, 0, 0, 0, 0, 0⟩
def orderPrice (c : Cfg) (x kind i : Int) : Int :=
  if kindF (turn (turn (turn (turn (turn x))))) kind = 2 then 0 else priceF (c.syms.getD (placeF c x) zeroSym) (shiftF (turn (turn x)) kind i (toss (turn x) 2))

/-- The order that the throws give. -/
def orderCells (c : Cfg) (x kind i : Int) : Array Value :=
  #[.int .i64 1, .int .i64 (toss x (c.syms.length : Int)), .int .i64 (i + 1), .int .i64 (toss (turn (turn (turn (turn x)))) 4), .int .i64 (toss (turn x) 2),
    .int .i64 (kindF (turn (turn (turn (turn (turn x))))) kind), .int .i64 (orderPrice c x kind i), .int .i64 (toss (turn (turn (turn x))) 9 + 1),
    .int .i64 (flagF (toss (turn (turn (turn (turn (turn (turn x)))))) 6))]
def zeroCells : Array Value := #[.int .i64 0, .int .i64 0, .int .i64 0, .int .i64 0, .int .i64 0, .int .i64 0, .int .i64 0, .int .i64 0, .int .i64 0]
def orderDice (x : Int) : Int := turn (turn (turn (turn (turn (turn (turn x))))))

/-- What is known between two throws: the boxed configuration's first cell, the order so far, the dice; nothing else that was there has changed. -/
structure St (w : World) (d T : Nat) (sv : Value) (W : World) (x : Int) (cs : Array Value) : Prop where
  cfg : W.cell? ⟨w.heap.size, 0, none⟩ = some sv
  cmd : Blk W (w.heap.size + 1) cs 128
  dice : Blk W d #[.int .u64 x] T
  chg : Chg w.heap.size d w W
  sz : w.heap.size + 2 ≤ W.heap.size
  lt : d < w.heap.size

section
variable {w W W' : World} {d T : Nat} {sv : Value} {x y : Int} {cs : Array Value}
theorem St.set (h : St w d T sv W x cs) (j : Nat) (v : Value) : St w d T sv (W.setCell ⟨w.heap.size + 1, j, none⟩ v) x (cs.setIfInBounds j v) :=
  ⟨by rw [World.cell?_setCell_far _ _ _ _ (by simp)]; exact h.cfg, h.cmd.set j v, h.dice.apart _ _ (by have := h.lt; show w.heap.size + 1 ≠ d; omega),
    h.chg.setCell _ _ (.inr (by show w.heap.size ≤ w.heap.size + 1; omega)), by have := h.sz; simpa [World.setCell] using this, h.lt⟩
theorem St.call (h : St w d T sv W x cs) (hd : Blk W' d #[.int .u64 y] T) (hc : Chg W.heap.size d W W') : St w d T sv W' y cs :=
  ⟨by rw [hc.cell (p := ⟨w.heap.size, 0, none⟩) (by have := h.sz; show w.heap.size < W.heap.size; omega) (by have := h.lt; show w.heap.size ≠ d; omega)]; exact h.cfg,
    hc.blk h.cmd.lt (by have := h.lt; omega) h.cmd, hd, h.chg.trans (hc.mono (by have := h.sz; omega)), Nat.le_trans h.sz hc.size, h.lt⟩
theorem St.below (h : St w d T sv W x cs) (hb : Below W.heap.size W W') : St w d T sv W' x cs :=
  h.call (h.dice.below hb h.dice.lt) (Chg.of hb)
theorem St.drew (h : St w d T sv W x cs) : St w d T sv W.drew x cs := h.below (Below.refl _ _).drew
end
end Go.Proofs.Ytogjgpiddjmpiaa.Order

/- drill.Order: its walks. -/
namespace Go.Proofs.Ytogjgpiddjmpiaa.Order
open Go.RowKit Go.Proofs.Ytogjgpiddjmpiaa.Kit Go.Proofs.Ytogjgpiddjmpiaa.Blk Go.Proofs.Ytogjgpiddjmpiaa.Dice Go.Proofs.Ytogjgpiddjmpiaa.Throw Go.Proofs.Ytogjgpiddjmpiaa.Price Go.Proofs.Ytogjgpiddjmpiaa.Symbol Go.Proofs.Ytogjgpiddjmpiaa.Check
attribute [local go_sem ↓] Go.wp_at_zero Go.wp_at_succ

set_option maxHeartbeats 1000000 in
/-- No dice, or something is wrong: no order. -/
theorem order_nil (c : Cfg) (sa ta : Option Addr) (sc tc : Nat) (kind i : Int) (w : World) :
    Calls Try.prog 63 #[.agg (c.cells sa ta sc tc), .pointer none, .int .i64 kind, .int .i64 i] w fun e w' => e = .returned (.agg zeroCells) ∧ Below w.heap.size w w' := by
  unfold Cfg.cells
  go_enter Try.func63, Try.ntmps63
  go_wp2
  refine bodyPost_ret (v := .agg zeroCells) (by simp [results, Try.results63, go_sem, zeroCells]) rfl ⟨rfl, ((Below.refl _ _).alloc (Nat.le_refl _) _).alloc (by simp) _⟩

set_option maxHeartbeats 1000000 in
theorem order_wrong (c : Cfg) (sa ta : Option Addr) (sc tc : Nat) (a : Addr) (kind i : Int) (w : World) (hin : c.In w sa ta) (h : rightF c kind ≠ 0 ∨ i < 0 ∨ 2000 < i) :
    Calls Try.prog 63 #[.agg (c.cells sa ta sc tc), .pointer (some a), .int .i64 kind, .int .i64 i] w fun e w' => e = .returned (.agg zeroCells) ∧ Below w.heap.size w w' := by
  have hb0 := Lib.hid (show Below w.heap.size w ((w.alloc (.cells (c.cells sa ta sc tc) 34)).alloc (.cells zeroCells 128)) from ((Below.refl _ _).alloc (Nat.le_refl _) _).alloc (by simp) _)
  have hin' := Lib.hid (hin.below hb0.out)
  have hblk := Lib.hid (Blk.new (w.alloc (.cells (c.cells sa ta sc tc) 34)) zeroCells 128 (w.heap.size + 1) (by simp))
  have hz := Lib.hid (show ((w.alloc (.cells (c.cells sa ta sc tc) 34)).alloc (.cells zeroCells 128)).heap.size = w.heap.size + 2 by simp)
  unfold Cfg.cells zeroCells at *
  have H := Lib.hid h
  clear h
  go_enter Try.func63, Try.ntmps63
  go_wp2_with fail
  refine (right_any c sa ta sc tc kind _ hin'.out).mono ?_
  rintro e w1 ⟨rfl, hb1⟩
  have hb := hb0.out.trans (hb1.mono (by rw [hz.out]; omega))
  have hq := hblk.out.below hb1 (by rw [hz.out]; omega)
  have c0 : w1.cell? ⟨w.heap.size + 1, 0, none⟩ = some (.int .i64 0) := hq.cell 0 rfl
  have f0 := hq.free 0
  have s0 := setCell_same _ _ _ c0
  have c1 : w1.cell? ⟨w.heap.size + 1, 1, none⟩ = some (.int .i64 0) := hq.cell 1 rfl
  have f1 := hq.free 1
  have s1 := setCell_same _ _ _ c1
  have c2 : w1.cell? ⟨w.heap.size + 1, 2, none⟩ = some (.int .i64 0) := hq.cell 2 rfl
  have f2 := hq.free 2
  have s2 := setCell_same _ _ _ c2
  have c3 : w1.cell? ⟨w.heap.size + 1, 3, none⟩ = some (.int .i64 0) := hq.cell 3 rfl
  have f3 := hq.free 3
  have s3 := setCell_same _ _ _ c3
  have c4 : w1.cell? ⟨w.heap.size + 1, 4, none⟩ = some (.int .i64 0) := hq.cell 4 rfl
  have f4 := hq.free 4
  have s4 := setCell_same _ _ _ c4
  have c5 : w1.cell? ⟨w.heap.size + 1, 5, none⟩ = some (.int .i64 0) := hq.cell 5 rfl
  have f5 := hq.free 5
  have s5 := setCell_same _ _ _ c5
  have c6 : w1.cell? ⟨w.heap.size + 1, 6, none⟩ = some (.int .i64 0) := hq.cell 6 rfl
  have f6 := hq.free 6
  have s6 := setCell_same _ _ _ c6
  have c7 : w1.cell? ⟨w.heap.size + 1, 7, none⟩ = some (.int .i64 0) := hq.cell 7 rfl
  have f7 := hq.free 7
  have s7 := setCell_same _ _ _ c7
  have c8 : w1.cell? ⟨w.heap.size + 1, 8, none⟩ = some (.int .i64 0) := hq.cell 8 rfl
  have f8 := hq.free 8
  have s8 := setCell_same _ _ _ c8
  clear hq hb1
  cases hr : (rightF c kind != 0) with
  | true =>
    go_wp2
    refine bodyPost_ret (v := .agg zeroCells) (by simp [results, Try.results63, go_sem, zeroCells, c0, c1, c2, c3, c4, c5, c6, c7, c8]) rfl ⟨rfl, ?_⟩
    exact hb
  | false =>
    have h1 : i < 0 ∨ 2000 < i := by
      rcases H.out with h | h
      · exact absurd (by simpa using hr) h
      · exact h
    have HR := Lib.hid hr
    by_cases h2 : i < 0
    · clear h1
      go_wp2
      refine bodyPost_ret (v := .agg zeroCells) (by simp [results, Try.results63, go_sem, zeroCells, c0, c1, c2, c3, c4, c5, c6, c7, c8]) rfl ⟨rfl, ?_⟩
      exact hb
    · have h3 : 2000 < i := by omega
      clear h1
      go_wp2
      refine bodyPost_ret (v := .agg zeroCells) (by simp [results, Try.results63, go_sem, zeroCells, c0, c1, c2, c3, c4, c5, c6, c7, c8]) rfl ⟨rfl, ?_⟩
      exact hb
end Go.Proofs.Ytogjgpiddjmpiaa.Order

/- drill.Order in a configuration that is right: just the order that the throws give. -/
namespace Go.Proofs.Ytogjgpiddjmpiaa.Order
open Go.RowKit Go.Proofs.Ytogjgpiddjmpiaa.Kit Go.Proofs.Ytogjgpiddjmpiaa.Blk Go.Proofs.Ytogjgpiddjmpiaa.Dice Go.Proofs.Ytogjgpiddjmpiaa.Throw Go.Proofs.Ytogjgpiddjmpiaa.Price Go.Proofs.Ytogjgpiddjmpiaa.Symbol Go.Proofs.Ytogjgpiddjmpiaa.Check
attribute [local go_sem ↓] Go.wp_at_zero Go.wp_at_succ

/-- The cells that the statement on the price reads. -/
theorem keep7 {w W : World} {d T b off m : Nat} {x sd : Int} {sv v0 v2 v3 v5 v6 v7 v8 : Value} {s : Sym} (h : St w d T sv W x #[v0, .int .i64 m, v2, v3, .int .i64 sd, v5, v6, v7, v8])
    (hb : b < w.heap.size) (hd : b ≠ d) (hc : ∀ (j : Nat) (v : Value), s.cells[j]? = some v → w.cell? ⟨b, off + m * 16 + j, none⟩ = some v) :
    W.cell? ⟨w.heap.size, 0, none⟩ = some sv ∧ W.cell? ⟨w.heap.size + 1, 1, none⟩ = some (.int .i64 m) ∧ W.cell? ⟨w.heap.size + 1, 4, none⟩ = some (.int .i64 sd) ∧
    W.cell? ⟨b, off + m * 16, none⟩ = some (.int .i64 s.grid) ∧
    W.cell? ⟨b, off + m * 16 + 1, none⟩ = some (.int .i64 s.ref) ∧
    W.cell? ⟨b, off + m * 16 + 2, none⟩ = some (.int .i64 s.static) ∧
    W.cell? ⟨b, off + m * 16 + 3, none⟩ = some (.int .i64 s.dynamic) ∧
    W.cell? ⟨b, off + m * 16 + 4, none⟩ = some (.int .i64 s.window) ∧
    W.cell? ⟨b, off + m * 16 + 5, none⟩ = some (.int .i64 s.move) ∧
    W.cell? ⟨b, off + m * 16 + 6, none⟩ = some (.int .i64 s.limit) ∧
    W.cell? ⟨b, off + m * 16 + 7, none⟩ = some (.int .i64 s.pause) ∧
    W.cell? ⟨b, off + m * 16 + 8, none⟩ = some (.int .i64 s.ext) ∧
    W.cell? ⟨b, off + m * 16 + 9, none⟩ = some (.int .i64 s.maxExt) ∧
    W.cell? ⟨b, off + m * 16 + 10, none⟩ = some (.int .i64 s.collar) ∧
    W.cell? ⟨b, off + m * 16 + 11, none⟩ = some (.int .i64 s.widen) ∧
    W.cell? ⟨b, off + m * 16 + 12, none⟩ = some (.int .i64 s.self) ∧
    W.cell? ⟨b, off + m * 16 + 13, none⟩ = some (.int .i64 s.slots) ∧
    W.cell? ⟨b, off + m * 16 + 14, none⟩ = some (.int .i64 s.levels) ∧
    W.cell? ⟨b, off + m * 16 + 15, none⟩ = some (.int .i64 s.short) := by
  have k : ∀ (j : Nat) (v : Value), s.cells[j]? = some v → W.cell? ⟨b, off + m * 16 + j, none⟩ = some v := fun j v hv => by
    rw [h.chg.cell (p := ⟨b, _, none⟩) hb hd]; exact hc j v hv
  exact ⟨h.cfg, h.cmd.cell 1 rfl, h.cmd.cell 4 rfl, k 0 _ rfl, k 1 _ rfl, k 2 _ rfl, k 3 _ rfl, k 4 _ rfl, k 5 _ rfl, k 6 _ rfl, k 7 _ rfl, k 8 _ rfl, k 9 _ rfl, k 10 _ rfl, k 11 _ rfl, k 12 _ rfl, k 13 _ rfl, k 14 _ rfl, k 15 _ rfl⟩

/-- What drill.Order answers where all is right. -/
def OrderPost (c : Cfg) (d : Nat) (x kind i : Int) (w : World) (e : Ending) (w' : World) : Prop :=
  e = .returned (.agg (orderCells c x kind i)) ∧ Blk w' d #[.int .u64 (orderDice x)] 194 ∧ Chg w.heap.size d w w'

set_option maxRecDepth 100000 in
set_option maxHeartbeats 8000000 in
theorem order_any (c : Cfg) (sa ta : Option Addr) (sc tc : Nat) (d : Nat) (x kind i : Int) (w : World) (hin : c.In w sa ta) (hsd : ∀ a, sa = some a → a.block ≠ d)
    (hr : rightF c kind = 0) (hi0 : 0 ≤ i) (hi1 : i ≤ 2000) (hd : Blk w d #[.int .u64 x] 194) :
    Calls Try.prog 63 #[.agg (c.cells sa ta sc tc), .pointer (some ⟨d, 0, none⟩), .int .i64 kind, .int .i64 i] w (OrderPost c d x kind i w) := by
  have hck : (checkF c).1 = 0 ∧ 0 ≤ kind ∧ kind ≤ 4 := by
    unfold rightF at hr
    by_cases h : (checkF c).1 = 0
    · rw [if_pos h] at hr
      by_cases h2 : kind < 0 ∨ 4 < kind
      · rw [if_pos h2] at hr; exact absurd hr (by decide)
      · exact ⟨h, by omega, by omega⟩
    · rw [if_neg h] at hr; exact absurd hr h
  obtain ⟨hck, hk0, hk1⟩ := hck
  obtain ⟨hn1, hn8, hall⟩ := cfg_right c hck
  have hr' : (rightF c kind != 0) = false := by simp [hr]
  clear hr hck
  have htn := toss_in x (c.syms.length : Int) (by omega)
  obtain ⟨m, hm⟩ : ∃ m : Nat, toss x (c.syms.length : Int) = (m : Int) := ⟨(toss x (c.syms.length : Int)).toNat, by omega⟩
  have hm1 : m < c.syms.length := by omega
  have hlt := hd.lt
  obtain ⟨b, off, hsa, hbl, hc⟩ := hin.syms m hm1
  have hbd : b ≠ d := hsd _ hsa
  have hsr := sym_right c.syms[m] (hall _ (List.getElem_mem hm1))
  have hgd : c.syms.getD (placeF c x) zeroSym = c.syms[m] := by
    unfold placeF; rw [hm]; simp [hm1]
  have HPR := Lib.hid (show orderPrice c x kind i = if kindF (turn (turn (turn (turn (turn x))))) kind = 2 then 0 else priceF c.syms[m] (shiftF (turn (turn x)) kind i (toss (turn x) 2)) by unfold orderPrice; rw [hgd])
  have HM := Lib.hid hm
  have hsa' := Lib.hid hsa
  clear hsd hgd hm htn hall
  generalize c.syms[m] = s at hc hsr HPR
  obtain ⟨s1, s2, s3, s4, s5⟩ := hsr
  have S5 := Lib.hid s5
  have hc := Lib.hid hc
  have hb0 := Lib.hid (show Below w.heap.size w ((w.alloc (.cells (c.cells sa ta sc tc) 34)).alloc (.cells zeroCells 128)) from ((Below.refl _ _).alloc (Nat.le_refl _) _).alloc (by simp) _)
  have hin' := Lib.hid (hin.below hb0.out)
  have hst : Hid (St w d 194 (.slice sa c.syms.length sc) ((w.alloc (.cells (c.cells sa ta sc tc) 34)).alloc (.cells zeroCells 128)) x zeroCells) := Lib.hid
    ⟨by rw [cell_old _ _ _ (by simp)]; exact cell_new _ _ _ _ _ _ rfl rfl, Blk.new _ _ _ _ (by simp), (hd.old _).old _, Chg.of hb0.out, by simp, hlt⟩
  have t9 := toss_in (turn (turn (turn x))) 9 (by decide)
  have t2 := toss_in (turn x) 2 (by decide)
  have sh : -1000 ≤ shiftF (turn (turn x)) kind i (toss (turn x) 2) ∧ shiftF (turn (turn x)) kind i (toss (turn x) 2) ≤ 1000 := by
    have u1 := toss_in (turn (turn x)) 81 (by decide)
    have u2 := toss_in (turn (turn x)) 9 (by decide)
    unfold shiftF
    repeat' split
    all_goals omega
  obtain ⟨t91, t92⟩ := t9
  obtain ⟨t21, t22⟩ := t2
  obtain ⟨sh1, sh2⟩ := sh
  have hi8 : (1 : Int) ≤ (c.syms.length : Int) := by omega
  have hm0 : (0 : Int) ≤ (m : Int) := by omega
  have hm2 : (m : Int) < (c.syms.length : Int) := by omega
  clear hin hd s5 hsa
  unfold Cfg.cells zeroCells at *
  go_enter Try.func63, Try.ntmps63
  go_wp2_with fail
  refine (right_any c sa ta sc tc kind _ hin'.out).mono ?_
  rintro e w1 ⟨rfl, hb1⟩
  have hs := hst.out.below hb1
  clear hb1 hst hb0 hin'
  have c0 : w1.cell? ⟨w.heap.size + 1, 0, none⟩ = some (.int .i64 (0)) := hs.cmd.cell 0 rfl
  have f0 : w1.frozen? ⟨w.heap.size + 1, 0, none⟩ = false := hs.cmd.free 0
  have c2 : w1.cell? ⟨w.heap.size + 1, 2, none⟩ = some (.int .i64 (0)) := hs.cmd.cell 2 rfl
  have f2 : w1.frozen? ⟨w.heap.size + 1, 2, none⟩ = false := hs.cmd.free 2
  have ca := hs.cfg
  go_wp2_with fail
  refine (next_blk d x (c.syms.length : Int) _ hi8 ((hs.set 0 (.int .i64 (1))).set 2 (.int .i64 (i + 1))).dice).mono ?_
  rintro e w2 ⟨rfl, hq1, hq2, -⟩
  have hs' : St w d 194 (.slice sa c.syms.length sc) w2 (turn x) #[.int .i64 (1), .int .i64 (0), .int .i64 (i + 1), .int .i64 (0), .int .i64 (0), .int .i64 (0), .int .i64 (0), .int .i64 (0), .int .i64 (0)] := ((hs.set 0 (.int .i64 (1))).set 2 (.int .i64 (i + 1))).call hq1 hq2
  clear hs hq1 hq2 ca c0 f0 c2 f2
  have hs := hs'
  clear hs'
  rw [HM.out]
  have c1 : w2.cell? ⟨w.heap.size + 1, 1, none⟩ = some (.int .i64 (0)) := hs.cmd.cell 1 rfl
  have f1 : w2.frozen? ⟨w.heap.size + 1, 1, none⟩ = false := hs.cmd.free 1
  have ca := hs.cfg
  go_wp2_with fail
  refine (next_blk d (turn x) 2 _ (by decide) (hs.set 1 (.int .i64 ((m : Int)))).dice).mono ?_
  rintro e w3 ⟨rfl, hq1, hq2, -⟩
  have hs' : St w d 194 (.slice sa c.syms.length sc) w3 (turn (turn x)) #[.int .i64 (1), .int .i64 ((m : Int)), .int .i64 (i + 1), .int .i64 (0), .int .i64 (0), .int .i64 (0), .int .i64 (0), .int .i64 (0), .int .i64 (0)] := (hs.set 1 (.int .i64 ((m : Int)))).call hq1 hq2
  clear hs hq1 hq2 ca c1 f1
  have hs := hs'
  clear hs'
  have c4 : w3.cell? ⟨w.heap.size + 1, 4, none⟩ = some (.int .i64 (0)) := hs.cmd.cell 4 rfl
  have f4 : w3.frozen? ⟨w.heap.size + 1, 4, none⟩ = false := hs.cmd.free 4
  go_wp2_with fail
  have hs' : St w d 194 (.slice sa c.syms.length sc) (w3.setCell ⟨w.heap.size + 1, 4, none⟩ (.int .i64 (toss (turn x) 2))) (turn (turn x)) #[.int .i64 (1), .int .i64 ((m : Int)), .int .i64 (i + 1), .int .i64 (0), .int .i64 (toss (turn x) 2), .int .i64 (0), .int .i64 (0), .int .i64 (0), .int .i64 (0)] := hs.set 4 _
  generalize w3.setCell ⟨w.heap.size + 1, 4, none⟩ (.int .i64 (toss (turn x) 2)) = W3 at hs' ⊢
  clear hs c4 f4
  have k7 := keep7 hs'.drew hbl hbd hc.out
  rw [hsa'.out] at k7 hs' ⊢
  have HS3 := Lib.hid hs'
  clear hs'
  have K7 := Lib.hid k7
  clear k7
  go_region_held3 (fun w' => w'.cell? ⟨w.heap.size, 0, none⟩ = some (.slice (some ⟨b, off, none⟩) c.syms.length sc) ∧ w'.cell? ⟨w.heap.size + 1, 1, none⟩ = some (.int .i64 m) ∧ w'.cell? ⟨w.heap.size + 1, 4, none⟩ = some (.int .i64 (toss (turn x) 2)) ∧ w'.cell? ⟨b, off + m * 16, none⟩ = some (.int .i64 s.grid) ∧ w'.cell? ⟨b, off + m * 16 + 1, none⟩ = some (.int .i64 s.ref) ∧ w'.cell? ⟨b, off + m * 16 + 2, none⟩ = some (.int .i64 s.static) ∧ w'.cell? ⟨b, off + m * 16 + 3, none⟩ = some (.int .i64 s.dynamic) ∧ w'.cell? ⟨b, off + m * 16 + 4, none⟩ = some (.int .i64 s.window) ∧ w'.cell? ⟨b, off + m * 16 + 5, none⟩ = some (.int .i64 s.move) ∧ w'.cell? ⟨b, off + m * 16 + 6, none⟩ = some (.int .i64 s.limit) ∧ w'.cell? ⟨b, off + m * 16 + 7, none⟩ = some (.int .i64 s.pause) ∧ w'.cell? ⟨b, off + m * 16 + 8, none⟩ = some (.int .i64 s.ext) ∧ w'.cell? ⟨b, off + m * 16 + 9, none⟩ = some (.int .i64 s.maxExt) ∧ w'.cell? ⟨b, off + m * 16 + 10, none⟩ = some (.int .i64 s.collar) ∧ w'.cell? ⟨b, off + m * 16 + 11, none⟩ = some (.int .i64 s.widen) ∧ w'.cell? ⟨b, off + m * 16 + 12, none⟩ = some (.int .i64 s.self) ∧ w'.cell? ⟨b, off + m * 16 + 13, none⟩ = some (.int .i64 s.slots) ∧ w'.cell? ⟨b, off + m * 16 + 14, none⟩ = some (.int .i64 s.levels) ∧ w'.cell? ⟨b, off + m * 16 + 15, none⟩ = some (.int .i64 s.short))
    (first | exact K7.out | exact keep7 HS4.out hbl hbd hc.out | exact keep7 HS5.out hbl hbd hc.out | exact keep7 (HS5.out.set 6 _) hbl hbd hc.out)
    (first
     | (go_at_call 106; refine (shift_any d (turn (turn x)) kind i (toss (turn x) 2) _ HS3.out.drew.dice hk0 hk1 hi0 hi1 t21 (by omega)).mono ?_; rintro e w4 ⟨rfl, hq1, hq2, -⟩; have HS4 := Lib.hid (HS3.out.drew.call hq1 hq2); clear hq1 hq2)
     | (go_at_call 105; refine (price_any s (shiftF (turn (turn x)) kind i (toss (turn x) 2)) _ s1 s2 s3 s4 S5.out sh1 sh2).mono ?_; rintro e w5 ⟨rfl, hb5⟩; have HS5 := Lib.hid (HS4.out.below hb5); clear hb5; have cc6 := HS5.out.cmd.cell 6 rfl; have ff6 := HS5.out.cmd.free 6))
  have hs' : St w d 194 (.slice (some ⟨b, off, none⟩) c.syms.length sc) (w5.setCell ⟨w.heap.size + 1, 6, none⟩ (.int .i64 (priceF s (shiftF (turn (turn x)) kind i (toss (turn x) 2))))) (turn (turn (turn x))) #[.int .i64 (1), .int .i64 ((m : Int)), .int .i64 (i + 1), .int .i64 (0), .int .i64 (toss (turn x) 2), .int .i64 (0), .int .i64 (priceF s (shiftF (turn (turn x)) kind i (toss (turn x) 2))), .int .i64 (0), .int .i64 (0)] := HS5.out.set 6 _
  generalize w5.setCell ⟨w.heap.size + 1, 6, none⟩ (.int .i64 (priceF s (shiftF (turn (turn x)) kind i (toss (turn x) 2)))) = w6 at hs' ⊢
  have hs := hs'
  clear hs' HS3 K7 HS4 HS5 cc6 ff6
  have ca := hs.cfg
  go_wp2_with fail
  refine (next_blk d (turn (turn (turn x))) 9 _ (by decide) hs.dice).mono ?_
  rintro e w7 ⟨rfl, hq1, hq2, -⟩
  have hs' : St w d 194 (.slice (some ⟨b, off, none⟩) c.syms.length sc) w7 (turn (turn (turn (turn x)))) #[.int .i64 (1), .int .i64 ((m : Int)), .int .i64 (i + 1), .int .i64 (0), .int .i64 (toss (turn x) 2), .int .i64 (0), .int .i64 (priceF s (shiftF (turn (turn x)) kind i (toss (turn x) 2))), .int .i64 (0), .int .i64 (0)] := hs.call hq1 hq2
  clear hs hq1 hq2 ca 
  have hs := hs'
  clear hs'
  have c7 : w7.cell? ⟨w.heap.size + 1, 7, none⟩ = some (.int .i64 (0)) := hs.cmd.cell 7 rfl
  have f7 : w7.frozen? ⟨w.heap.size + 1, 7, none⟩ = false := hs.cmd.free 7
  have ca := hs.cfg
  go_wp2_with fail
  refine (next_blk d (turn (turn (turn (turn x)))) 4 _ (by decide) (hs.set 7 (.int .i64 (toss (turn (turn (turn x))) 9 + 1))).dice).mono ?_
  rintro e w8 ⟨rfl, hq1, hq2, -⟩
  have hs' : St w d 194 (.slice (some ⟨b, off, none⟩) c.syms.length sc) w8 (turn (turn (turn (turn (turn x))))) #[.int .i64 (1), .int .i64 ((m : Int)), .int .i64 (i + 1), .int .i64 (0), .int .i64 (toss (turn x) 2), .int .i64 (0), .int .i64 (priceF s (shiftF (turn (turn x)) kind i (toss (turn x) 2))), .int .i64 (toss (turn (turn (turn x))) 9 + 1), .int .i64 (0)] := (hs.set 7 (.int .i64 (toss (turn (turn (turn x))) 9 + 1))).call hq1 hq2
  clear hs hq1 hq2 ca c7 f7
  have hs := hs'
  clear hs'
  have c3 : w8.cell? ⟨w.heap.size + 1, 3, none⟩ = some (.int .i64 (0)) := hs.cmd.cell 3 rfl
  have f3 : w8.frozen? ⟨w.heap.size + 1, 3, none⟩ = false := hs.cmd.free 3
  have ca := hs.cfg
  go_wp2_with fail
  refine (kind_any d (turn (turn (turn (turn (turn x))))) kind _ (hs.set 3 (.int .i64 (toss (turn (turn (turn (turn x)))) 4))).dice).mono ?_
  rintro e w9 ⟨rfl, hq1, hq2, -⟩
  have hs' : St w d 194 (.slice (some ⟨b, off, none⟩) c.syms.length sc) w9 (turn (turn (turn (turn (turn (turn x)))))) #[.int .i64 (1), .int .i64 ((m : Int)), .int .i64 (i + 1), .int .i64 (toss (turn (turn (turn (turn x)))) 4), .int .i64 (toss (turn x) 2), .int .i64 (0), .int .i64 (priceF s (shiftF (turn (turn x)) kind i (toss (turn x) 2))), .int .i64 (toss (turn (turn (turn x))) 9 + 1), .int .i64 (0)] := (hs.set 3 (.int .i64 (toss (turn (turn (turn (turn x)))) 4))).call hq1 hq2
  clear hs hq1 hq2 ca c3 f3
  have hs := hs'
  clear hs'
  generalize hkd : kindF (turn (turn (turn (turn (turn x))))) kind = kd at hs HPR ⊢
  have HKD := Lib.hid hkd
  clear hkd
  by_cases hk : kd = 2
  · have hk2 : (kd == 2) = true := by simp [hk]
    have HK2 := Lib.hid hk
    clear hk
    have c5 : w9.cell? ⟨w.heap.size + 1, 5, none⟩ = some (.int .i64 (0)) := hs.cmd.cell 5 rfl
    have f5 : w9.frozen? ⟨w.heap.size + 1, 5, none⟩ = false := hs.cmd.free 5
    have c6 : w9.cell? ⟨w.heap.size + 1, 6, none⟩ = some (.int .i64 (priceF s (shiftF (turn (turn x)) kind i (toss (turn x) 2)))) := hs.cmd.cell 6 rfl
    have f6 : w9.frozen? ⟨w.heap.size + 1, 6, none⟩ = false := hs.cmd.free 6
    have hs2 : St w d 194 (.slice (some ⟨b, off, none⟩) c.syms.length sc) (((w9.setCell ⟨w.heap.size + 1, 5, none⟩ (.int .i64 kd)).setCell ⟨w.heap.size + 1, 6, none⟩ (.int .i64 0)).alloc (.cells #[.int .i64 4, .int .i64 1, .int .i64 0, .int .i64 0, .int .i64 0, .int .i64 0] 201)) (turn (turn (turn (turn (turn (turn x)))))) #[.int .i64 (1), .int .i64 ((m : Int)), .int .i64 (i + 1), .int .i64 (toss (turn (turn (turn (turn x)))) 4), .int .i64 (toss (turn x) 2), .int .i64 (kd), .int .i64 (0), .int .i64 (toss (turn (turn (turn x))) 9 + 1), .int .i64 (0)] := ((hs.set 5 (.int .i64 kd)).set 6 (.int .i64 0)).below ((Below.refl _ _).alloc (Nat.le_refl _) _)
    have hfl : Blk (((w9.setCell ⟨w.heap.size + 1, 5, none⟩ (.int .i64 kd)).setCell ⟨w.heap.size + 1, 6, none⟩ (.int .i64 0)).alloc (.cells #[.int .i64 4, .int .i64 1, .int .i64 0, .int .i64 0, .int .i64 0, .int .i64 0] 201)) w9.heap.size #[.int .i64 4, .int .i64 1, .int .i64 0, .int .i64 0, .int .i64 0, .int .i64 0] 201 := Blk.new _ _ _ _ (by simp [World.setCell])
    have HS2 := Lib.hid hs2
    have HFL := Lib.hid hfl
    have hsz9 := hs.sz
    have hlt9 := hs.lt
    clear hs hs2 hfl
    go_wp2_with fail
    refine (next_blk d (turn (turn (turn (turn (turn (turn x)))))) 6 _ (by decide) HS2.out.dice).mono ?_
    rintro e w10 ⟨rfl, hq1, hq2, -⟩
    have hs : St w d 194 (.slice (some ⟨b, off, none⟩) c.syms.length sc) w10 (turn (turn (turn (turn (turn (turn (turn x))))))) #[.int .i64 (1), .int .i64 ((m : Int)), .int .i64 (i + 1), .int .i64 (toss (turn (turn (turn (turn x)))) 4), .int .i64 (toss (turn x) 2), .int .i64 (kd), .int .i64 (0), .int .i64 (toss (turn (turn (turn x))) 9 + 1), .int .i64 (0)] := HS2.out.call hq1 hq2
    have hfl : Blk w10 w9.heap.size #[.int .i64 4, .int .i64 1, .int .i64 0, .int .i64 0, .int .i64 0, .int .i64 0] 201 := hq2.blk HFL.out.lt (by omega) HFL.out
    clear HS2 HFL hq1 hq2 c5 f5 c6 f6
    have t6 := toss_in (turn (turn (turn (turn (turn (turn x)))))) 6 (by decide)
    obtain ⟨q, hq⟩ : ∃ q : Nat, toss (turn (turn (turn (turn (turn (turn x)))))) 6 = (q : Int) := ⟨(toss (turn (turn (turn (turn (turn (turn x)))))) 6).toNat, by omega⟩
    have HQ := Lib.hid hq
    have hq6 : q < 6 := by omega
    rw [hq]
    clear hq t6
    have hq0 : (0 : Int) ≤ (q : Int) := by omega
    have hq7 : (q : Int) < 6 := by omega
    have cq : w10.cell? ⟨w9.heap.size, q, none⟩ = some (.int .i64 (flagF q)) := by
      have : q = 0 ∨ q = 1 ∨ q = 2 ∨ q = 3 ∨ q = 4 ∨ q = 5 := by omega
      rcases this with rfl | rfl | rfl | rfl | rfl | rfl <;> exact hfl.cell _ rfl
    clear hfl
    have c8 : w10.cell? ⟨w.heap.size + 1, 8, none⟩ = some (.int .i64 (0)) := hs.cmd.cell 8 rfl
    have f0 : w10.frozen? ⟨w.heap.size + 1, 0, none⟩ = false := hs.cmd.free 0
    have f1 : w10.frozen? ⟨w.heap.size + 1, 1, none⟩ = false := hs.cmd.free 1
    have f2 : w10.frozen? ⟨w.heap.size + 1, 2, none⟩ = false := hs.cmd.free 2
    have f3 : w10.frozen? ⟨w.heap.size + 1, 3, none⟩ = false := hs.cmd.free 3
    have f4 : w10.frozen? ⟨w.heap.size + 1, 4, none⟩ = false := hs.cmd.free 4
    have f5 : w10.frozen? ⟨w.heap.size + 1, 5, none⟩ = false := hs.cmd.free 5
    have f6 : w10.frozen? ⟨w.heap.size + 1, 6, none⟩ = false := hs.cmd.free 6
    have f7 : w10.frozen? ⟨w.heap.size + 1, 7, none⟩ = false := hs.cmd.free 7
    have f8 : w10.frozen? ⟨w.heap.size + 1, 8, none⟩ = false := hs.cmd.free 8
    have hs2 : St w d 194 (.slice (some ⟨b, off, none⟩) c.syms.length sc) (w10.setCell ⟨w.heap.size + 1, 8, none⟩ (.int .i64 (flagF q))) (turn (turn (turn (turn (turn (turn (turn x))))))) #[.int .i64 (1), .int .i64 ((m : Int)), .int .i64 (i + 1), .int .i64 (toss (turn (turn (turn (turn x)))) 4), .int .i64 (toss (turn x) 2), .int .i64 (kd), .int .i64 (0), .int .i64 (toss (turn (turn (turn x))) 9 + 1), .int .i64 (flagF q)] := hs.set 8 _
    clear hs
    have e0 : (w10.setCell ⟨w.heap.size + 1, 8, none⟩ (.int .i64 (flagF q))).cell? ⟨w.heap.size + 1, 0, none⟩ = some (.int .i64 (1)) := hs2.cmd.cell 0 rfl
    have s0 := setCell_same _ _ _ e0
    have e1 : (w10.setCell ⟨w.heap.size + 1, 8, none⟩ (.int .i64 (flagF q))).cell? ⟨w.heap.size + 1, 1, none⟩ = some (.int .i64 ((m : Int))) := hs2.cmd.cell 1 rfl
    have s1 := setCell_same _ _ _ e1
    have e2 : (w10.setCell ⟨w.heap.size + 1, 8, none⟩ (.int .i64 (flagF q))).cell? ⟨w.heap.size + 1, 2, none⟩ = some (.int .i64 (i + 1)) := hs2.cmd.cell 2 rfl
    have s2 := setCell_same _ _ _ e2
    have e3 : (w10.setCell ⟨w.heap.size + 1, 8, none⟩ (.int .i64 (flagF q))).cell? ⟨w.heap.size + 1, 3, none⟩ = some (.int .i64 (toss (turn (turn (turn (turn x)))) 4)) := hs2.cmd.cell 3 rfl
    have s3 := setCell_same _ _ _ e3
    have e4 : (w10.setCell ⟨w.heap.size + 1, 8, none⟩ (.int .i64 (flagF q))).cell? ⟨w.heap.size + 1, 4, none⟩ = some (.int .i64 (toss (turn x) 2)) := hs2.cmd.cell 4 rfl
    have s4 := setCell_same _ _ _ e4
    have e5 : (w10.setCell ⟨w.heap.size + 1, 8, none⟩ (.int .i64 (flagF q))).cell? ⟨w.heap.size + 1, 5, none⟩ = some (.int .i64 (kd)) := hs2.cmd.cell 5 rfl
    have s5 := setCell_same _ _ _ e5
    have e6 : (w10.setCell ⟨w.heap.size + 1, 8, none⟩ (.int .i64 (flagF q))).cell? ⟨w.heap.size + 1, 6, none⟩ = some (.int .i64 (0)) := hs2.cmd.cell 6 rfl
    have s6 := setCell_same _ _ _ e6
    have e7 : (w10.setCell ⟨w.heap.size + 1, 8, none⟩ (.int .i64 (flagF q))).cell? ⟨w.heap.size + 1, 7, none⟩ = some (.int .i64 (toss (turn (turn (turn x))) 9 + 1)) := hs2.cmd.cell 7 rfl
    have s7 := setCell_same _ _ _ e7
    have e8 : (w10.setCell ⟨w.heap.size + 1, 8, none⟩ (.int .i64 (flagF q))).cell? ⟨w.heap.size + 1, 8, none⟩ = some (.int .i64 (flagF q)) := hs2.cmd.cell 8 rfl
    have s8 := setCell_same _ _ _ e8
    have hp1 := Lib.hid hs2.dice
    have hp2 := Lib.hid hs2.chg
    clear hs2
    go_wp2
    refine bodyPost_ret (v := .agg #[.int .i64 (1), .int .i64 ((m : Int)), .int .i64 (i + 1), .int .i64 (toss (turn (turn (turn (turn x)))) 4), .int .i64 (toss (turn x) 2), .int .i64 (kd), .int .i64 (0), .int .i64 (toss (turn (turn (turn x))) 9 + 1), .int .i64 (flagF q)]) (by simp [results, Try.results63, go_sem, e0, e1, e2, e3, e4, e5, e6, e7, e8]) rfl ⟨?_, hp1.out, hp2.out⟩
    unfold orderCells
    rw [HPR.out, HKD.out, HM.out, HQ.out]
    simp only [HK2.out, if_true]
  · have hk2 : (kd == 2) = false := by simp [hk]
    have HK2 := Lib.hid hk
    clear hk
    have c5 : w9.cell? ⟨w.heap.size + 1, 5, none⟩ = some (.int .i64 (0)) := hs.cmd.cell 5 rfl
    have f5 : w9.frozen? ⟨w.heap.size + 1, 5, none⟩ = false := hs.cmd.free 5
    have hs2 : St w d 194 (.slice (some ⟨b, off, none⟩) c.syms.length sc) ((w9.setCell ⟨w.heap.size + 1, 5, none⟩ (.int .i64 kd)).alloc (.cells #[.int .i64 4, .int .i64 1, .int .i64 0, .int .i64 0, .int .i64 0, .int .i64 0] 201)) (turn (turn (turn (turn (turn (turn x)))))) #[.int .i64 (1), .int .i64 ((m : Int)), .int .i64 (i + 1), .int .i64 (toss (turn (turn (turn (turn x)))) 4), .int .i64 (toss (turn x) 2), .int .i64 (kd), .int .i64 (priceF s (shiftF (turn (turn x)) kind i (toss (turn x) 2))), .int .i64 (toss (turn (turn (turn x))) 9 + 1), .int .i64 (0)] := (hs.set 5 (.int .i64 kd)).below ((Below.refl _ _).alloc (Nat.le_refl _) _)
    have hfl : Blk ((w9.setCell ⟨w.heap.size + 1, 5, none⟩ (.int .i64 kd)).alloc (.cells #[.int .i64 4, .int .i64 1, .int .i64 0, .int .i64 0, .int .i64 0, .int .i64 0] 201)) w9.heap.size #[.int .i64 4, .int .i64 1, .int .i64 0, .int .i64 0, .int .i64 0, .int .i64 0] 201 := Blk.new _ _ _ _ (by simp [World.setCell])
    have HS2 := Lib.hid hs2
    have HFL := Lib.hid hfl
    have hsz9 := hs.sz
    have hlt9 := hs.lt
    clear hs hs2 hfl
    go_wp2_with fail
    refine (next_blk d (turn (turn (turn (turn (turn (turn x)))))) 6 _ (by decide) HS2.out.dice).mono ?_
    rintro e w10 ⟨rfl, hq1, hq2, -⟩
    have hs : St w d 194 (.slice (some ⟨b, off, none⟩) c.syms.length sc) w10 (turn (turn (turn (turn (turn (turn (turn x))))))) #[.int .i64 (1), .int .i64 ((m : Int)), .int .i64 (i + 1), .int .i64 (toss (turn (turn (turn (turn x)))) 4), .int .i64 (toss (turn x) 2), .int .i64 (kd), .int .i64 (priceF s (shiftF (turn (turn x)) kind i (toss (turn x) 2))), .int .i64 (toss (turn (turn (turn x))) 9 + 1), .int .i64 (0)] := HS2.out.call hq1 hq2
    have hfl : Blk w10 w9.heap.size #[.int .i64 4, .int .i64 1, .int .i64 0, .int .i64 0, .int .i64 0, .int .i64 0] 201 := hq2.blk HFL.out.lt (by omega) HFL.out
    clear HS2 HFL hq1 hq2 c5 f5
    have t6 := toss_in (turn (turn (turn (turn (turn (turn x)))))) 6 (by decide)
    obtain ⟨q, hq⟩ : ∃ q : Nat, toss (turn (turn (turn (turn (turn (turn x)))))) 6 = (q : Int) := ⟨(toss (turn (turn (turn (turn (turn (turn x)))))) 6).toNat, by omega⟩
    have HQ := Lib.hid hq
    have hq6 : q < 6 := by omega
    rw [hq]
    clear hq t6
    have hq0 : (0 : Int) ≤ (q : Int) := by omega
    have hq7 : (q : Int) < 6 := by omega
    have cq : w10.cell? ⟨w9.heap.size, q, none⟩ = some (.int .i64 (flagF q)) := by
      have : q = 0 ∨ q = 1 ∨ q = 2 ∨ q = 3 ∨ q = 4 ∨ q = 5 := by omega
      rcases this with rfl | rfl | rfl | rfl | rfl | rfl <;> exact hfl.cell _ rfl
    clear hfl
    have c8 : w10.cell? ⟨w.heap.size + 1, 8, none⟩ = some (.int .i64 (0)) := hs.cmd.cell 8 rfl
    have f0 : w10.frozen? ⟨w.heap.size + 1, 0, none⟩ = false := hs.cmd.free 0
    have f1 : w10.frozen? ⟨w.heap.size + 1, 1, none⟩ = false := hs.cmd.free 1
    have f2 : w10.frozen? ⟨w.heap.size + 1, 2, none⟩ = false := hs.cmd.free 2
    have f3 : w10.frozen? ⟨w.heap.size + 1, 3, none⟩ = false := hs.cmd.free 3
    have f4 : w10.frozen? ⟨w.heap.size + 1, 4, none⟩ = false := hs.cmd.free 4
    have f5 : w10.frozen? ⟨w.heap.size + 1, 5, none⟩ = false := hs.cmd.free 5
    have f6 : w10.frozen? ⟨w.heap.size + 1, 6, none⟩ = false := hs.cmd.free 6
    have f7 : w10.frozen? ⟨w.heap.size + 1, 7, none⟩ = false := hs.cmd.free 7
    have f8 : w10.frozen? ⟨w.heap.size + 1, 8, none⟩ = false := hs.cmd.free 8
    have hs2 : St w d 194 (.slice (some ⟨b, off, none⟩) c.syms.length sc) (w10.setCell ⟨w.heap.size + 1, 8, none⟩ (.int .i64 (flagF q))) (turn (turn (turn (turn (turn (turn (turn x))))))) #[.int .i64 (1), .int .i64 ((m : Int)), .int .i64 (i + 1), .int .i64 (toss (turn (turn (turn (turn x)))) 4), .int .i64 (toss (turn x) 2), .int .i64 (kd), .int .i64 (priceF s (shiftF (turn (turn x)) kind i (toss (turn x) 2))), .int .i64 (toss (turn (turn (turn x))) 9 + 1), .int .i64 (flagF q)] := hs.set 8 _
    clear hs
    have e0 : (w10.setCell ⟨w.heap.size + 1, 8, none⟩ (.int .i64 (flagF q))).cell? ⟨w.heap.size + 1, 0, none⟩ = some (.int .i64 (1)) := hs2.cmd.cell 0 rfl
    have s0 := setCell_same _ _ _ e0
    have e1 : (w10.setCell ⟨w.heap.size + 1, 8, none⟩ (.int .i64 (flagF q))).cell? ⟨w.heap.size + 1, 1, none⟩ = some (.int .i64 ((m : Int))) := hs2.cmd.cell 1 rfl
    have s1 := setCell_same _ _ _ e1
    have e2 : (w10.setCell ⟨w.heap.size + 1, 8, none⟩ (.int .i64 (flagF q))).cell? ⟨w.heap.size + 1, 2, none⟩ = some (.int .i64 (i + 1)) := hs2.cmd.cell 2 rfl
    have s2 := setCell_same _ _ _ e2
    have e3 : (w10.setCell ⟨w.heap.size + 1, 8, none⟩ (.int .i64 (flagF q))).cell? ⟨w.heap.size + 1, 3, none⟩ = some (.int .i64 (toss (turn (turn (turn (turn x)))) 4)) := hs2.cmd.cell 3 rfl
    have s3 := setCell_same _ _ _ e3
    have e4 : (w10.setCell ⟨w.heap.size + 1, 8, none⟩ (.int .i64 (flagF q))).cell? ⟨w.heap.size + 1, 4, none⟩ = some (.int .i64 (toss (turn x) 2)) := hs2.cmd.cell 4 rfl
    have s4 := setCell_same _ _ _ e4
    have e5 : (w10.setCell ⟨w.heap.size + 1, 8, none⟩ (.int .i64 (flagF q))).cell? ⟨w.heap.size + 1, 5, none⟩ = some (.int .i64 (kd)) := hs2.cmd.cell 5 rfl
    have s5 := setCell_same _ _ _ e5
    have e6 : (w10.setCell ⟨w.heap.size + 1, 8, none⟩ (.int .i64 (flagF q))).cell? ⟨w.heap.size + 1, 6, none⟩ = some (.int .i64 (priceF s (shiftF (turn (turn x)) kind i (toss (turn x) 2)))) := hs2.cmd.cell 6 rfl
    have s6 := setCell_same _ _ _ e6
    have e7 : (w10.setCell ⟨w.heap.size + 1, 8, none⟩ (.int .i64 (flagF q))).cell? ⟨w.heap.size + 1, 7, none⟩ = some (.int .i64 (toss (turn (turn (turn x))) 9 + 1)) := hs2.cmd.cell 7 rfl
    have s7 := setCell_same _ _ _ e7
    have e8 : (w10.setCell ⟨w.heap.size + 1, 8, none⟩ (.int .i64 (flagF q))).cell? ⟨w.heap.size + 1, 8, none⟩ = some (.int .i64 (flagF q)) := hs2.cmd.cell 8 rfl
    have s8 := setCell_same _ _ _ e8
    have hp1 := Lib.hid hs2.dice
    have hp2 := Lib.hid hs2.chg
    clear hs2
    go_wp2
    refine bodyPost_ret (v := .agg #[.int .i64 (1), .int .i64 ((m : Int)), .int .i64 (i + 1), .int .i64 (toss (turn (turn (turn (turn x)))) 4), .int .i64 (toss (turn x) 2), .int .i64 (kd), .int .i64 (priceF s (shiftF (turn (turn x)) kind i (toss (turn x) 2))), .int .i64 (toss (turn (turn (turn x))) 9 + 1), .int .i64 (flagF q)]) (by simp [results, Try.results63, go_sem, e0, e1, e2, e3, e4, e5, e6, e7, e8]) rfl ⟨?_, hp1.out, hp2.out⟩
    unfold orderCells
    rw [HPR.out, HKD.out, HM.out, HQ.out]
    simp only [HK2.out, if_false]
end Go.Proofs.Ytogjgpiddjmpiaa.Order
