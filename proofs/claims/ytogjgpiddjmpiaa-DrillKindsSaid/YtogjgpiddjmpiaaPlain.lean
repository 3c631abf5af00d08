/- The one-symbol configuration of damperlaw07.Plain; cells of new and old blocks. -/
import Derived.Test.YtogjgpiddjmpiaaProg
import Derived.WalkKit
import Derived.WalkLawsBesides
import Derived.WalkSpells
import Derived.Lib.Hide
import Derived.BigQuiet
import Derived.Deep.QuietTactic
import Derived.Deep.AppendLies
import Derived.KernelRfl
namespace Go.Proofs.Ytogjgpiddjmpiaa.Plain
open Go.RowKit

theorem cell_new (w : World) (cs : Array Value) (T : TypeId) (n j : Nat) (v : Value) (hn : w.heap.size = n) (h : cs[j]? = some v) :
    (w.alloc (.cells cs T)).cell? ⟨n, j, none⟩ = some v := by
  subst hn
  simp only [World.cell?, heap_alloc_new]
  simpa using h
theorem cell_old (w : World) (o : Obj) (a : Addr) (h : a.block < w.heap.size) : (w.alloc o).cell? a = w.cell? a :=
  World.cell?_of_block (Below.heap_alloc w o a.block h)

def sym1 : Array Value := #[.int .i64 5, .int .i64 1000, .int .i64 2000, .int .i64 500, .int .i64 20, .int .i64 100, .int .i64 3, .int .i64 10, .int .i64 5, .int .i64 2, .int .i64 500, .int .i64 500, .int .i64 1, .int .i64 40, .int .i64 12, .int .i64 1000]
def tab1 : Array Value := #[.int .i64 5, .int .i64 1, .int .i64 10, .int .i64 2, .int .i64 500, .int .i64 0]

/-- What damperlaw07.Plain(1) makes: one symbol, three rows, in new memory. -/
def Plain1 (w : World) (e : Ending) (w' : World) : Prop :=
  ∃ g cap h, e = .returned (.agg #[.slice (some ⟨g, 0, none⟩) 1 cap, .slice (some ⟨h, 0, none⟩) 3 3, .int .i64 10000, .int .i64 700, .int .i64 1300, .int .i64 2000, .int .i64 15, .int .i64 30]) ∧
    w.heap.size ≤ g ∧ w.heap.size ≤ h ∧ g < w'.heap.size ∧ h < w'.heap.size ∧ Below w.heap.size w w' ∧
    (∀ j v, sym1[j]? = some v → w'.cell? ⟨g, j, none⟩ = some v) ∧ (∀ j v, tab1[j]? = some v → w'.cell? ⟨h, j, none⟩ = some v)

set_option maxHeartbeats 4000000 in
theorem plain1 (w : World) : Calls Try.prog 56 #[.int .i64 1] w (Plain1 w) := by
  go_enter Try.func56, Try.ntmps56
  go_wp2
  refine wp_loop_rounds 2 ?_; rw [rounds_succ]
  go_wp2
  rw [rounds_succ]
  go_wp2
  refine bodyPost_ret (v := .agg #[.slice (some ⟨w.heap.size + 1 + 1 + 1 + 1 + 1, 0, none⟩) 1 ((Question.appendCap 1 0 136).cut (w.tape w.drawn (Question.appendCap 1 0 136))),
    .slice (some ⟨w.heap.size + 1 + 1, 0, none⟩) 3 3, .int .i64 10000, .int .i64 700, .int .i64 1300, .int .i64 2000, .int .i64 15, .int .i64 30]) (by simp [results, Try.results56, go_sem]) rfl
    ⟨_, _, _, rfl, by omega, by omega, by simp, by simp <;> omega, ?_, ?_, ?_⟩
  · exact ((((((Below.refl _ _).alloc (Nat.le_refl _) _).alloc (by simp) _).alloc (by simp <;> omega) _).alloc (by simp <;> omega) _).alloc (by simp <;> omega) _ |>.alloc (by simp <;> omega) _).drew
  · intro j v hv
    show World.cell? (World.alloc _ _) _ = _
    refine cell_new _ _ _ _ _ _ (by simp) ?_
    rw [Array.getElem?_append_left]
    · exact hv
    · exact (Array.getElem?_eq_some_iff.1 hv).1
  · intro j v hv
    show World.cell? (World.alloc _ _) _ = _
    rw [cell_old _ _ _ (by simp <;> omega), cell_old _ _ _ (by simp <;> omega), cell_old _ _ _ (by simp <;> omega)]
    exact cell_new _ _ _ _ _ _ (by simp) hv

end Go.Proofs.Ytogjgpiddjmpiaa.Plain
