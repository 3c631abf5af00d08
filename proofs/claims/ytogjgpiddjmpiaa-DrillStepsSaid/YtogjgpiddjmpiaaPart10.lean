/- Parts of the proof: Dice. -/
import Derived.Test.YtogjgpiddjmpiaaProg
import Derived.WalkKit
import Derived.WalkLawsBesides
import Derived.WalkSpells
import Derived.Lib.Hide
import Derived.BigQuiet
import Derived.Deep.QuietTactic

/- The dice: what drill.New, (*drill.Dice).Next and (*damperref37.Dice).Next do. -/
namespace Go.Proofs.Ytogjgpiddjmpiaa.Dice
open Go.RowKit

/-- The next number of a dice. -/
def turn (x : Int) : Int := IntKind.u64.wrap (IntKind.u64.wrap (x * 6364136223846793005) + 1442695040888963407)
/-- What a dice throws, of its next number. -/
def toss (x n : Int) : Int := (wrap64 (turn x / 8589934592)).tmod n

theorem new_any (x : Int) (w : World) : Calls Try.prog 57 #[.int .u64 x] w fun e w' =>
    e = .returned (.pointer (some ⟨w.heap.size, 0, none⟩)) ∧ w.alloc (.cells #[.int .u64 x] 194) = w' := by
  go_enter Try.func57, Try.ntmps57
  go_wp2
  go_ret
  exact ⟨rfl, rfl⟩

theorem next_nil (n : Int) (w : World) : Calls Try.prog 58 #[.pointer none, .int .i64 n] w fun e w' =>
    e = .returned (.int .i64 0) ∧ w = w' := by
  go_enter Try.func58, Try.ntmps58
  go_wp2
  go_ret
  exact ⟨rfl, rfl⟩

theorem next_none (a : Addr) (n : Int) (w : World) (hn : n < 1) :
    Calls Try.prog 58 #[.pointer (some a), .int .i64 n] w fun e w' => e = .returned (.int .i64 0) ∧ w = w' := by
  go_enter Try.func58, Try.ntmps58
  go_wp2
  go_ret
  exact ⟨rfl, rfl⟩

theorem next_some (a : Addr) (x n : Int) (w : World) (hn : 1 ≤ n) (hc : w.cell? a = some (.int .u64 x)) (hf : w.frozen? a = false) :
    Calls Try.prog 58 #[.pointer (some a), .int .i64 n] w fun e w' =>
    e = .returned (.int .i64 (toss x n)) ∧ w.setCell a (.int .u64 (turn x)) = w' := by
  have hn' : ¬ n < 1 := by omega
  go_enter Try.func58, Try.ntmps58
  go_wp2
  go_ret
  exact ⟨rfl, rfl⟩

theorem ref_none (a : Addr) (n : Int) (w : World) (hn : n < 1) :
    Calls Try.prog 65 #[.pointer (some a), .int .i64 n] w fun e w' => e = .returned (.int .i64 0) ∧ w = w' := by
  go_enter Try.func65, Try.ntmps65
  go_wp2
  go_ret
  exact ⟨rfl, rfl⟩

theorem quo33 (z : Int) : IntKind.u64.wrap ((IntKind.u64.wrap z).tdiv 8589934592) = IntKind.u64.wrap z / 8589934592 := by
  have h : 0 ≤ IntKind.u64.wrap z ∧ IntKind.u64.wrap z ≤ 18446744073709551615 := by
    simp only [IntKind.wrap, IntKind.bits, IntKind.signed]; simp; omega
  exact IntWalk.u64_quo _ _ ⟨h.1, h.2, by decide⟩

theorem ref_some (a : Addr) (x n : Int) (w : World) (hn : 1 ≤ n) (hc : w.cell? a = some (.int .u64 x)) (hf : w.frozen? a = false) :
    Calls Try.prog 65 #[.pointer (some a), .int .i64 n] w fun e w' =>
    e = .returned (.int .i64 (toss x n)) ∧ w.setCell a (.int .u64 (turn x)) = w' := by
  have hn' : ¬ n < 1 := by omega
  go_enter Try.func65, Try.ntmps65
  go_wp2
  go_ret
  exact ⟨by simp only [quo33]; rfl, rfl⟩

/-- Both in one: what a toss is, and what the dice bears then. -/
def tossOr (x n : Int) : Int := if n < 1 then 0 else toss x n
def turnOr (x n : Int) : Int := if n < 1 then x else turn x

theorem setCell_same (w : World) (a : Addr) (v : Value) (hc : w.cell? a = some v) : w.setCell a v = w := by
  have hsp := World.cell?_spot hc
  unfold World.cell? at hc
  unfold World.setCell
  cases w with
  | mk heap tape drawn os output =>
    congr 1
    dsimp only at hc ⊢
    apply Array.ext
    · simp
    · intro i h1 h2
      rw [Array.getElem_modify]
      split
      · rename_i h
        subst h
        rw [Array.getElem?_eq_getElem h2] at hc
        split at hc <;> simp_all
        rename_i c e' f _
        apply Array.ext
        · simp
        · intro k hk1 hk2
          rw [Array.getElem_setIfInBounds]
          split
          · rename_i h; subst h; rw [Array.getElem?_eq_getElem hk2] at hc; simp_all
          · rfl
      · rfl

theorem next_any (a : Addr) (x n : Int) (w : World) (hc : w.cell? a = some (.int .u64 x)) (hf : w.frozen? a = false) :
    Calls Try.prog 58 #[.pointer (some a), .int .i64 n] w fun e w' =>
    e = .returned (.int .i64 (tossOr x n)) ∧ w.setCell a (.int .u64 (turnOr x n)) = w' := by
  by_cases hn : n < 1
  · refine (next_none a n w hn).mono ?_
    rintro e w' ⟨rfl, rfl⟩
    simp only [tossOr, turnOr, if_pos hn]
    exact ⟨trivial, setCell_same _ _ _ hc⟩
  · simp only [tossOr, turnOr, if_neg hn]
    exact next_some a x n w (by omega) hc hf

theorem ref_any (a : Addr) (x n : Int) (w : World) (hc : w.cell? a = some (.int .u64 x)) (hf : w.frozen? a = false) :
    Calls Try.prog 65 #[.pointer (some a), .int .i64 n] w fun e w' =>
    e = .returned (.int .i64 (tossOr x n)) ∧ w.setCell a (.int .u64 (turnOr x n)) = w' := by
  by_cases hn : n < 1
  · refine (ref_none a n w hn).mono ?_
    rintro e w' ⟨rfl, rfl⟩
    simp only [tossOr, turnOr, if_pos hn]
    exact ⟨trivial, setCell_same _ _ _ hc⟩
  · simp only [tossOr, turnOr, if_neg hn]
    exact ref_some a x n w (by omega) hc hf
end Go.Proofs.Ytogjgpiddjmpiaa.Dice
