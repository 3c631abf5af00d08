/- Parts of the proof: Plain, Start, Alive37. -/
import Derived.Test.YtogjgpiddjmpiaaProg
import Derived.WalkKit
import Derived.WalkLawsBesides
import Derived.WalkSpells
import Derived.Lib.Hide
import Derived.BigQuiet
import Derived.Deep.QuietTactic
import Derived.Deep.AppendLies
import Derived.KernelRfl
import Derived.Test.YtogjgpiddjmpiaaPart10

/- The one-symbol configuration of damperlaw07.Plain; cells of new and old blocks. -/
namespace Go.Proofs.Ytogjgpiddjmpiaa.Plain
open Go.RowKit

theorem cell_new (w : World) (cs : Array Value) (T : TypeId) (n j : Nat) (v : Value) (hn : w.heap.size = n) (h : cs[j]? = some v) :
    (w.alloc (.cells cs T)).cell? ⟨n, j, none⟩ = some v := by
  subst hn
  simp only [World.cell?, heap_alloc_new]
  simpa using h
theorem cell_old (w : World) (o : Obj) (a : Addr) (h : a.block < w.heap.size) : (w.alloc o).cell? a = w.cell? a :=
  World.cell?_of_block (Below.heap_alloc w o a.block h)

def sym1 : Array Value := #[.int .i64 5, .int .i64 1000, .int .i64 2000, .int .i64 500, .int .i64 20, .int .i64 100, .int .i64 3, .int .i64 10, .int .i64 5, .int .i64 2, .int .i64 500, .int .i64 500, .int .i64 1, .int .i64 40, .int .i64 12, .int .i64 1000]
def tab1 : Array Value := #[.int .i64 5, .int .i64 1, .int .i64 10, .int .i64 2, .int .i64 500, .int .i64 0]

/-- What damperlaw07.Plain(1) makes: one symbol, three rows, in new memory. -/
def Plain1 (w : World) (e : Ending) (w' : World) : Prop :=
  ∃ g cap h, e = .returned (.agg #[.slice (some ⟨g, 0, none⟩) 1 cap, .slice (some ⟨h, 0, none⟩) 3 3, .int .i64 10000, .int .i64 700, .int .i64 1300, .int .i64 2000, .int .i64 15, .int .i64 30]) ∧
    w.heap.size ≤ g ∧ w.heap.size ≤ h ∧ g < w'.heap.size ∧ h < w'.heap.size ∧ Below w.heap.size w w' ∧
    (∀ j v, sym1[j]? = some v → w'.cell? ⟨g, j, none⟩ = some v) ∧ (∀ j v, tab1[j]? = some v → w'.cell? ⟨h, j, none⟩ = some v)

set_option maxHeartbeats 4000000 in
theorem plain1 (w : World) : Calls Try.prog 56 #[.int .i64 1] w (Plain1 w) := by
  go_enter Try.func56, Try.ntmps56
  go_wp2
  refine wp_loop_rounds 2 ?_; rw [rounds_succ]
  go_wp2
  rw [rounds_succ]
  go_wp2
  refine bodyPost_ret (v := .agg #[.slice (some ⟨w.heap.size + 1 + 1 + 1 + 1 + 1, 0, none⟩) 1 ((Question.appendCap 1 0 136).cut (w.tape w.drawn (Question.appendCap 1 0 136))),
    .slice (some ⟨w.heap.size + 1 + 1, 0, none⟩) 3 3, .int .i64 10000, .int .i64 700, .int .i64 1300, .int .i64 2000, .int .i64 15, .int .i64 30]) (by simp [results, Try.results56, go_sem]) rfl
    ⟨_, _, _, rfl, by omega, by omega, by simp, by simp <;> omega, ?_, ?_, ?_⟩
  · exact ((((((Below.refl _ _).alloc (Nat.le_refl _) _).alloc (by simp) _).alloc (by simp <;> omega) _).alloc (by simp <;> omega) _).alloc (by simp <;> omega) _ |>.alloc (by simp <;> omega) _).drew
  · intro j v hv
    show World.cell? (World.alloc _ _) _ = _
    refine cell_new _ _ _ _ _ _ (by simp) ?_
    rw [Array.getElem?_append_left]
    · exact hv
    · exact (Array.getElem?_eq_some_iff.1 hv).1
  · intro j v hv
    show World.cell? (World.alloc _ _) _ = _
    rw [cell_old _ _ _ (by simp <;> omega), cell_old _ _ _ (by simp <;> omega), cell_old _ _ _ (by simp <;> omega)]
    exact cell_new _ _ _ _ _ _ (by simp) hv

end Go.Proofs.Ytogjgpiddjmpiaa.Plain

/- drill.Start: the first row of a configuration's table whose phase is continuous; and the one-symbol configuration of damperlaw07.Plain. -/
namespace Go.Proofs.Ytogjgpiddjmpiaa.Start
open Go.RowKit Go.Proofs.Ytogjgpiddjmpiaa.Plain

/-- The closure of Start: is a row's phase continuous? -/
theorem start1 (a p : Int) (w : World) : Calls Try.prog 69 #[.agg #[.int .i64 a, .int .i64 p]] w fun e w' =>
    e = .returned (.bool (p == 2)) ∧ w.alloc (.cells #[.int .i64 a, .int .i64 p] 140) = w' := by
  go_enter Try.func69, Try.ntmps69
  go_wp2
  go_ret
  exact ⟨rfl, rfl⟩

def firstRow : List (Int × Int) → Nat → Int
  | [], _ => -1
  | (_, p) :: l, i => if p == 2 then i else firstRow l (i + 1)

theorem firstRow_hit (l : List (Int × Int)) (k i : Nat) (h : k < l.length) (hp : (l[k].2 == 2) = true) : firstRow (l.drop k) i = i := by
  rw [List.drop_eq_getElem_cons h]
  simp only [firstRow, hp, if_true]
theorem firstRow_miss (l : List (Int × Int)) (k i : Nat) (h : k < l.length) (hp : (l[k].2 == 2) = false) : firstRow (l.drop k) i = firstRow (l.drop (k + 1)) (i + 1) := by
  rw [List.drop_eq_getElem_cons h]
  simp [firstRow, hp]

set_option maxHeartbeats 1000000 in
theorem indexRow (b off cap : Nat) (rows : List (Int × Int)) (w : World) (hm : rows.length ≤ maxLen) (hbl : b < w.heap.size)
    (hc : ∀ i, (h : i < rows.length) → w.cell? ⟨b, off + i * 2, none⟩ = some (.int .i64 (rows[i]).1) ∧ w.cell? ⟨b, off + i * 2 + 1, none⟩ = some (.int .i64 (rows[i]).2)) :
    Calls Try.prog 68 #[.slice (some ⟨b, off, none⟩) rows.length cap, .func (.func 69) #[] #[]] w fun e w' =>
    e = .returned (.int .i64 (firstRow rows 0)) ∧ Below w.heap.size w w' := by
  unfold maxLen at hm
  go_enter Try.func68, Try.ntmps68
  go_wp2
  go_loopw [8] (fun i wr => ∃ k : Nat, k ≤ rows.length ∧ i = .int .i64 k ∧ Below w.heap.size w wr ∧ firstRow (rows.drop k) k = firstRow rows 0) (fun i _ => rows.length - (intOf i).toNat)
  case atStart => exact ⟨0, by omega, rfl, Below.refl _ _, rfl⟩
  case round =>
    obtain ⟨k, hk, rfl, hb, hf⟩ := hrel
    have HF := Lib.hid hf
    clear hf
    by_cases hlt : k < rows.length
    · have ⟨hc1, hc2⟩ := hc k hlt
      rw [← hb.cell (p := ⟨b, _, none⟩) hbl] at hc1 hc2
      clear hc
      by_cases hp : (rows[k].2 == 2) = true
      · have HH := Lib.hid (firstRow_hit rows k k hlt hp)
        go_wp2_with (go_at_call 69; refine (start1 _ _ _).mono ?_; rintro e w' ⟨rfl, rfl⟩)
        go_ret
        exact ⟨by rw [← HF.out, HH.out]; rfl, hb.alloc hb.size _⟩
      · have hp : (rows[k].2 == 2) = false := by simpa using hp
        have HH := Lib.hid (firstRow_miss rows k k hlt hp)
        go_wp2_with (go_at_call 69; refine (start1 _ _ _).mono ?_; rintro e w' ⟨rfl, rfl⟩)
        go_roundw
        case rel => exact ⟨k + 1, by omega, by go_num, hb.alloc hb.size _, by rw [← HH.out, HF.out]⟩
        case measure => simp [intOf]; omega
    · go_wp2
      go_ret
      exact ⟨by rw [← HF.out, List.drop_eq_nil_of_le (by omega)]; rfl, hb⟩

set_option maxHeartbeats 1000000 in
theorem start_any (sy : Value) (b off cap : Nat) (rows : List (Int × Int)) (x f0 f1 f2 h0 h1 : Int) (w : World) (hm : rows.length ≤ maxLen) (hbl : b < w.heap.size)
    (hsy : ∃ a n c, sy = .slice a n c)
    (hc : ∀ i, (h : i < rows.length) → w.cell? ⟨b, off + i * 2, none⟩ = some (.int .i64 (rows[i]).1) ∧ w.cell? ⟨b, off + i * 2 + 1, none⟩ = some (.int .i64 (rows[i]).2))
    (r : Nat) (hr : r < rows.length) (hf : firstRow rows 0 = r) :
    Calls Try.prog 20 #[.agg #[sy, .slice (some ⟨b, off, none⟩) rows.length cap, .int .i64 x, .int .i64 f0, .int .i64 f1, .int .i64 f2, .int .i64 h0, .int .i64 h1]] w fun e w' =>
    e = .returned (.tuple #[.int .i64 (rows[r]).1, .bool true]) ∧ Below w.heap.size w w' := by
  obtain ⟨sa, sn, sc, rfl⟩ := hsy
  have ⟨hc1, hc2⟩ := hc r hr
  have hm' := hm
  unfold maxLen at hm'
  go_enter Try.func20, Try.ntmps20
  go_wp2_with fail
  refine (indexRow b off cap rows _ hm (by simp; omega) (fun i h => by rw [cell_old _ _ _ hbl, cell_old _ _ _ hbl]; exact hc i h)).mono ?_
  rintro e w1 ⟨rfl, hb⟩
  have hb' : Below w.heap.size w w1 := ((Below.refl _ _).alloc (Nat.le_refl _) _).trans (hb.mono (by simp))
  rw [hf]
  have hc0 : w1.cell? ⟨w.heap.size, 1, none⟩ = some (.slice (some ⟨b, off, none⟩) rows.length cap) := by
    rw [hb.cell (p := ⟨w.heap.size, 1, none⟩) (by simp)]
    exact cell_new _ _ _ _ _ _ rfl rfl
  rw [← hb'.cell (p := ⟨b, off + r * 2, none⟩) hbl] at hc1
  clear hc hc2
  go_wp2
  go_ret2
  exact ⟨rfl, hb'⟩
end Go.Proofs.Ytogjgpiddjmpiaa.Start

/- damperlaw37.alive returns true, and leaves what was there as it was. -/
namespace Go.Proofs.Ytogjgpiddjmpiaa.Alive37
open Go.RowKit Go.Proofs.Ytogjgpiddjmpiaa.Plain Go.Proofs.Ytogjgpiddjmpiaa.Start Go.Proofs.Ytogjgpiddjmpiaa.Dice

set_option maxHeartbeats 1000000 in
theorem alive (w : World) : Calls Try.prog 14 #[] w fun e w' => e = .returned (.bool true) ∧ Below w.heap.size w w' := by
  go_enter Try.func14, Try.ntmps14
  go_wp2_with fail
  refine (plain1 w).mono ?_
  rintro e w1 ⟨g, cap, h, rfl, hg, hh, hg1, hh1, hb1, hsy, htab⟩
  go_wp2_with fail
  refine (start_any _ h 0 3 [(5, 1), (10, 2), (500, 0)] 10000 700 1300 2000 15 30 w1 (by decide) hh1 ⟨_, _, _, rfl⟩ ?_ 1 (by decide) rfl).mono ?_
  · intro i hi
    have : i = 0 ∨ i = 1 ∨ i = 2 := by simp at hi; omega
    rcases this with rfl | rfl | rfl <;> exact ⟨htab _ _ rfl, htab _ _ rfl⟩
  rintro e w2 ⟨rfl, hb2⟩
  have hb := hb1.trans (hb2.mono hb1.size)
  clear hsy htab hb1 hb2 hg hh hg1 hh1
  go_wp2_with fail
  refine (new_any 1 w2).mono ?_
  rintro e w3 ⟨rfl, rfl⟩
  go_wp2_with fail
  refine (next_some _ 1 10 _ (by decide) (cell_new _ _ _ _ _ _ rfl rfl) (by simp)).mono ?_
  rintro e w3 ⟨rfl, rfl⟩
  have ht : toss 1 10 = 4 := by decide +kernel
  rw [ht]
  go_wp2
  go_ret
  exact ⟨rfl, hb.alloc hb.size _⟩
end Go.Proofs.Ytogjgpiddjmpiaa.Alive37
