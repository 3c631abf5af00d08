/- drill.Order: an order by throws of the dice. -/
import Derived.Test.YtjjglddhlloodaaPrice
import Derived.Test.YtjjglddhlloodaaCheck
import Derived.Deep.RegionHeld3
import Derived.Deep.DrawnRows
namespace Go.Proofs.Ytjjglddhlloodaa.Order
open Go.RowKit Go.Proofs.Ytjjglddhlloodaa.Kit Go.Proofs.Ytjjglddhlloodaa.Blk Go.Proofs.Ytjjglddhlloodaa.Dice Go.Proofs.Ytjjglddhlloodaa.Throw Go.Proofs.Ytjjglddhlloodaa.Price Go.Proofs.Ytjjglddhlloodaa.Symbol Go.Proofs.Ytjjglddhlloodaa.Check
attribute [local go_sem ↓] Go.wp_at_zero Go.wp_at_succ

/-- What drill.right says of a configuration and a kind. -/
def rightF (c : Cfg) (kind : Int) : Int := if (checkF c).1 = 0 then (if kind < 0 ∨ 4 < kind then 1 else 0) else (checkF c).1

theorem right_any (c : Cfg) (sa ta : Option Addr) (sc tc : Nat) (kind : Int) (w : World) (hin : c.In w sa ta) :
    Calls Try.prog 46 #[.agg (c.cells sa ta sc tc), .int .i64 kind] w fun e w' => e = .returned (.int .i64 (rightF c kind)) ∧ Below w.heap.size w w' := by
  have hin' := Lib.hid (hin.below ((Below.refl _ _).alloc (Nat.le_refl _) (.cells (c.cells sa ta sc tc) 59)))
  have hba := Lib.hid (show Below w.heap.size w (w.alloc (.cells (c.cells sa ta sc tc) 59)) from (Below.refl _ _).alloc (Nat.le_refl _) _)
  unfold Cfg.cells at *
  go_enter Try.func46, Try.ntmps46
  go_wp2_with fail
  refine (check_any c sa ta sc tc _ hin'.out).mono ?_
  rintro e w1 ⟨rfl, hb1⟩
  have hb := hba.out.trans (hb1.mono (by simp))
  by_cases hp : (checkF c).1 = 0
  · have hp' : ((checkF c).1 != 0) = false := by simp [hp]
    by_cases h1 : kind < 0
    · have HS := Lib.hid (show rightF c kind = 1 by simp [rightF, hp, h1])
      clear hp
      go_wp2
      go_ret
      exact ⟨ret_int HS.out.symm, hb⟩
    · by_cases h2 : 4 < kind
      · have HS := Lib.hid (show rightF c kind = 1 by simp [rightF, hp, h2])
        clear hp
        go_wp2
        go_ret
        exact ⟨ret_int HS.out.symm, hb⟩
      · have HS := Lib.hid (show rightF c kind = 0 by simp [rightF, hp, h1, h2])
        clear hp
        go_wp2
        go_ret
        exact ⟨ret_int HS.out.symm, hb⟩
  · have hp' : ((checkF c).1 != 0) = true := by simp [hp]
    have HS := Lib.hid (show rightF c kind = (checkF c).1 by simp [rightF, hp])
    clear hp
    go_wp2
    go_ret
    exact ⟨ret_int HS.out.symm, hb⟩

/-- A symbol of a configuration that is right. -/
theorem sym_right (s : Sym) (h : symFault s = 0) : 1 ≤ s.grid ∧ s.grid ≤ 1099511627776 ∧ 1 ≤ s.ref ∧ s.ref ≤ 1099511627776 ∧ s.ref % s.grid = 0 := by
  unfold symFault at h
  cases h1 : r1 s with
  | false => simp [h1] at h
  | true =>
    cases h2 : r2 s with
    | false => simp [h1, h2] at h
    | true =>
      simp [r1, allIn] at h1
      have h3 : Fix.price s.ref s.grid = 0 := by simpa [r2] using h2
      unfold Fix.price at h3
      rw [if_neg (by omega), if_neg (by omega)] at h3
      have h4 : Fix.down s.ref s.grid = s.ref := by
        by_cases h5 : Fix.down s.ref s.grid = s.ref
        · exact h5
        · rw [if_neg h5] at h3; exact absurd h3 (by decide)
      unfold Fix.down at h4
      rw [if_neg (by omega)] at h4
      have := Int.emod_add_mul_ediv s.ref s.grid
      rw [Int.mul_comm] at this
      exact ⟨by omega, by omega, by omega, by omega, by omega⟩

theorem syms_right (l : List Sym) (i : Nat) (h : (symsF l i).1 = 0) : ∀ s ∈ l, symFault s = 0 := by
  induction l generalizing i with
  | nil => intro s hs; cases hs
  | cons s l ih =>
    intro t ht
    by_cases h0 : symFault s = 0
    · simp only [symsF, h0, if_true] at h
      rcases List.mem_cons.1 ht with rfl | ht
      · exact h0
      · exact ih _ h t ht
    · simp [symsF, h0] at h

theorem cfg_right (c : Cfg) (h : (checkF c).1 = 0) : 1 ≤ c.syms.length ∧ c.syms.length ≤ 8 ∧ ∀ s ∈ c.syms, symFault s = 0 := by
  unfold checkF at h
  cases h1 : allIn 1 8 [(c.syms.length : Int)] with
  | false => simp [h1] at h
  | true =>
    simp only [h1, if_true] at h
    simp [allIn] at h1
    by_cases h2 : (symsF c.syms 0).1 = 0
    · exact ⟨by omega, by omega, syms_right _ _ h2⟩
    · rw [if_neg h2] at h; exact absurd h h2

def flagF (n : Int) : Int := if n = 0 then 4 else if n = 1 then 1 else 0

/-- The place of an order's symbol, and its price. -/
def placeF (c : Cfg) (x : Int) : Nat := (toss x (c.syms.length : Int)).toNat
def zeroSym : Sym := ⟨0, 0, 0, 0, 0, 0, 0, 0, 0, 0, 0, 0, 0, 0, 0, 0⟩
def orderPrice (c : Cfg) (x kind i : Int) : Int :=
  if kindF (turn (turn (turn (turn (turn x))))) kind = 2 then 0 else priceF (c.syms.getD (placeF c x) zeroSym) (shiftF (turn (turn x)) kind i (toss (turn x) 2))

/-- The order that the throws give. -/
def orderCells (c : Cfg) (x kind i : Int) : Array Value :=
  #[.int .i64 1, .int .i64 (toss x (c.syms.length : Int)), .int .i64 (i + 1), .int .i64 (toss (turn (turn (turn (turn x)))) 4), .int .i64 (toss (turn x) 2),
    .int .i64 (kindF (turn (turn (turn (turn (turn x))))) kind), .int .i64 (orderPrice c x kind i), .int .i64 (toss (turn (turn (turn x))) 9 + 1),
    .int .i64 (flagF (toss (turn (turn (turn (turn (turn (turn x)))))) 6))]
def zeroCells : Array Value := #[.int .i64 0, .int .i64 0, .int .i64 0, .int .i64 0, .int .i64 0, .int .i64 0, .int .i64 0, .int .i64 0, .int .i64 0]
def orderDice (x : Int) : Int := turn (turn (turn (turn (turn (turn (turn x))))))

/-- What is known between two throws: the boxed configuration's first cell, the order so far, the dice; nothing else that was there has changed. -/
structure St (w : World) (d T : Nat) (sv : Value) (W : World) (x : Int) (cs : Array Value) : Prop where
  cfg : W.cell? ⟨w.heap.size, 0, none⟩ = some sv
  cmd : Blk W (w.heap.size + 1) cs 62
  dice : Blk W d #[.int .u64 x] T
  chg : Chg w.heap.size d w W
  sz : w.heap.size + 2 ≤ W.heap.size
  lt : d < w.heap.size

section
variable {w W W' : World} {d T : Nat} {sv : Value} {x y : Int} {cs : Array Value}
theorem St.set (h : St w d T sv W x cs) (j : Nat) (v : Value) : St w d T sv (W.setCell ⟨w.heap.size + 1, j, none⟩ v) x (cs.setIfInBounds j v) :=
  ⟨by rw [World.cell?_setCell_far _ _ _ _ (by simp)]; exact h.cfg, h.cmd.set j v, h.dice.apart _ _ (by have := h.lt; show w.heap.size + 1 ≠ d; omega),
    h.chg.setCell _ _ (.inr (by show w.heap.size ≤ w.heap.size + 1; omega)), by have := h.sz; simpa [World.setCell] using this, h.lt⟩
theorem St.call (h : St w d T sv W x cs) (hd : Blk W' d #[.int .u64 y] T) (hc : Chg W.heap.size d W W') : St w d T sv W' y cs :=
  ⟨by rw [hc.cell (p := ⟨w.heap.size, 0, none⟩) (by have := h.sz; show w.heap.size < W.heap.size; omega) (by have := h.lt; show w.heap.size ≠ d; omega)]; exact h.cfg,
    hc.blk h.cmd.lt (by have := h.lt; omega) h.cmd, hd, h.chg.trans (hc.mono (by have := h.sz; omega)), Nat.le_trans h.sz hc.size, h.lt⟩
theorem St.below (h : St w d T sv W x cs) (hb : Below W.heap.size W W') : St w d T sv W' x cs :=
  h.call (h.dice.below hb h.dice.lt) (Chg.of hb)
theorem St.drew (h : St w d T sv W x cs) : St w d T sv W.drew x cs := h.below (Below.refl _ _).drew
end
end Go.Proofs.Ytjjglddhlloodaa.Order
