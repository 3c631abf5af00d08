/- slices.Sort of a row of numbers of the walk's own. -/
import Derived.Test.YtmkcooamgojbpaaSortLay
import Derived.Test.YtmkcooamgojbpaaLedOwes
import Derived.Sort.OwnSortedInts
namespace Go.Proofs.Ytmkcooamgojbpaa.Ledger
open Go.RowKit Go.Sort Go.Shelf Go.Proofs.Ytmkcooamgojbpaa.Kit Go.Proofs.Ytmkcooamgojbpaa.Blk Go.Proofs.Ytmkcooamgojbpaa.Mp Go.Proofs.Ytmkcooamgojbpaa.Lay
set_option linter.unusedVariables false

def vals (l : List Int) : List Value := l.map (Value.int .i64)
theorem vals_len (l : List Int) : (vals l).length = l.length := by simp [vals]
theorem vals_snoc (l : List Int) (x : Int) : vals (l ++ [x]) = vals l ++ [.int .i64 x] := by simp [vals]
def rising (l : List Int) : List Int := l.mergeSort fun x y => decide (x ≤ y)
theorem rising_len (l : List Int) : (rising l).length = l.length := List.length_mergeSort l
/-- A slice of numbers that lies from B on. -/
def RowI (B : Nat) (v : Value) (l : List Int) (W : World) : Prop := W.ownsRow B 2 1 v l.length (vals l)
theorem row_cells {W : World} {B : Nat} {v : Value} {l : List Int} (h : RowI B v l W) {g : Nat} (hg : v.ownBlock = some g) : B ≤ g ∧ ∃ cur, W.heap[g]? = some (.cells cur 2 (0, 0)) := by
  rcases h.2 with ⟨rfl, _⟩ | ⟨g', cap, cur, rfl, h1, h2, _⟩
  · simp [Value.ownBlock] at hg
  · obtain rfl : g' = g := by simpa [Value.ownBlock] using hg
    exact ⟨h1, cur, h2⟩
theorem chg_grown {W W' : World} {d : Nat} (h : Chg W.heap.size d W W') : W.grownBy W' (some d) := ⟨h.os, h.tape, h.output, h.size, fun k hk hd => h.block k hk (fun e => hd (by rw [e]))⟩
theorem grown_chg {W W' : World} {d : Nat} (h : W.grownBy W' (some d)) : Chg W.heap.size d W W' := ⟨h.os, h.tape, h.output, h.size, fun k hk hd => h.block k hk (fun e => hd (by injection e))⟩
theorem RowI.below {W W' : World} {B : Nat} {v : Value} {l : List Int} (h : RowI B v l W) (hb : Below W.heap.size W W') : RowI B v l W' :=
  World.ownsRow.kept h (row := none) ⟨hb.os, hb.tape, hb.output, hb.size, fun k hk _ => hb.block k hk⟩ (by cases v.ownBlock <;> simp)
theorem sort_any (B : Nat) (v : Value) (l : List Int) (hl : l.length ≤ 1000000) (W : World) (h : RowI B v l W) : Calls Try.prog 24 #[v] W fun e w' => e = .returned (.tuple #[]) ∧ RowI B v (rising l) w' ∧ W.grownBy w' v.ownBlock := by
  rcases h.2 with ⟨rfl, h0⟩ | ⟨g, cap, cur, rfl, hg, hb, h1, h2, h3, h4⟩
  · obtain rfl := List.eq_nil_of_length_eq_zero h0
    refine (AnyM.slices_Sort_int_none sortI none 0 W).mono ?_
    rintro e w' ⟨rfl, rfl⟩
    exact ⟨rfl, by rw [show rising [] = [] by simp [rising]]; exact h, ⟨rfl, rfl, rfl, Nat.le_refl _, fun _ _ _ => rfl⟩⟩
  · refine (AnyM.slices_Sort_int sortI g 0 cap l W (holds_of_blockI hb (by rw [Nat.mul_one] at h4; exact h4)) (Array.getElem?_eq_some_iff.1 hb).1 (by omega)).mono ?_
    rintro e w' ⟨rfl, n, os, rfl⟩
    refine ⟨rfl, ?_, grownBy_sortedI _⟩
    have := ownsRow_sortedI (n := n) (os := os) (rising_len l) hg hb h1 h2 h3
    unfold RowI
    rw [rising_len]
    exact this
end Go.Proofs.Ytmkcooamgojbpaa.Ledger
