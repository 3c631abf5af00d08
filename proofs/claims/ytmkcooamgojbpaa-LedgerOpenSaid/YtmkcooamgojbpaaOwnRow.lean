/- Rows of structs in memory that a function owns: each cell, one cell set. -/
import Derived.Test.YtmkcooamgojbpaaBlk
import Derived.Deep.MidRow
namespace Go.Proofs.Ytmkcooamgojbpaa.Own
open Go.RowKit Go.Proofs.Ytmkcooamgojbpaa.Kit Go.Proofs.Ytmkcooamgojbpaa.Blk
set_option linter.unusedVariables false

section
variable {α : Type} (c : α → Array Value) (s : Nat) (hs : ∀ x, (c x).size = s)
include hs
theorem flat_at (l : List α) : ∀ (i : Nat) (h : i < l.length) (j : Nat) (v : Value), (c l[i])[j]? = some v → (l.flatMap fun m => (c m).toList)[i * s + j]? = some v := by
  induction l with
  | nil => intro i h; simp at h
  | cons m l ih =>
    intro i h j v hv
    have hc : ((m :: l).flatMap fun m => (c m).toList) = (c m).toList ++ (l.flatMap fun m => (c m).toList) := by simp
    have hsz : (c m).toList.length = s := by simpa using hs m
    rw [hc]
    cases i with
    | zero =>
      rw [List.getElem_cons_zero] at hv
      have hj : j < s := by have := (Array.getElem?_eq_some_iff.1 hv).1; rw [hs] at this; exact this
      rw [show 0 * s + j = j by simp, List.getElem?_append_left (by omega)]
      simpa using hv
    | succ i =>
      rw [List.getElem_cons_succ] at hv
      have he : (i + 1) * s + j = s + (i * s + j) := by rw [Nat.add_mul]; omega
      rw [he, List.getElem?_append_right (by omega), hsz, Nat.add_sub_cancel_left]
      exact ih i (by simpa using h) j v hv
theorem flat_len (l : List α) : (l.flatMap fun m => (c m).toList).length = l.length * s := by
  induction l with
  | nil => simp
  | cons m l ih =>
    have hc : ((m :: l).flatMap fun m => (c m).toList) = (c m).toList ++ (l.flatMap fun m => (c m).toList) := by simp
    rw [hc, List.length_append, ih, List.length_cons, Nat.add_mul]
    have : (c m).toList.length = s := by simpa using hs m
    omega
/-- A row that is owned: each of its cells. -/
theorem owned_at {w : World} {N T : Nat} {v : Value} {l : List α} (h : w.ownsRow N T s v l.length (l.flatMap fun m => (c m).toList)) :
    ∃ a cap, v = .slice a l.length cap ∧ l.length ≤ cap ∧ cap ≤ maxLen ∧ ∀ i, (hi : i < l.length) → ∃ g, a = some ⟨g, 0, none⟩ ∧ N ≤ g ∧ g < w.heap.size ∧ w.rangeAt g (i * s) (c l[i]).toList := by
  rcases h.2 with ⟨rfl, h0⟩ | ⟨g, cap, cur, rfl, hg, hgb, hn, hc, hsz, htk⟩
  · exact ⟨none, 0, by rw [h0], by omega, Nat.zero_le _, fun i hi => by omega⟩
  · refine ⟨_, cap, rfl, hn, hc, fun i hi => ⟨g, rfl, hg, (Array.getElem?_eq_some_iff.1 hgb).1, fun j u hu => ?_⟩⟩
    have hu' : (c l[i])[j]? = some u := by simpa using hu
    have h1 := flat_at c s hs l i hi j u hu'
    have h2 := h.cellAt (g := g) (cap := cap) (i * s + j) (by
      have hj : j < s := by have := (Array.getElem?_eq_some_iff.1 hu').1; rw [hs] at this; exact this
      have : (i + 1) * s ≤ l.length * s := Nat.mul_le_mul_right _ hi
      rw [Nat.add_mul] at this; omega)
    rw [h2]; exact h1
end

section
variable {α : Type} (c : α → Array Value) (s : Nat) (hs : ∀ x, (c x).size = s)
include hs
theorem flat_set (u : Value) (x' : α) : ∀ (l : List α) (i : Nat) (h : i < l.length) (j : Nat), j < s → (c x').toList = (c l[i]).toList.set j u → (l.flatMap fun m => (c m).toList).set (i * s + j) u = (l.set i x').flatMap fun m => (c m).toList := by
  intro l
  induction l with
  | nil => intro i h; simp at h
  | cons m l ih =>
    intro i h j hj hx
    have hsz : (c m).toList.length = s := by simpa using hs m
    cases i with
    | zero =>
      rw [List.getElem_cons_zero] at hx
      rw [List.set_cons_zero, List.flatMap_cons, List.flatMap_cons, hx, show 0 * s + j = j by simp, List.set_append_left _ _ (by omega)]
    | succ i =>
      rw [List.getElem_cons_succ] at hx
      rw [List.set_cons_succ, List.flatMap_cons, List.flatMap_cons, List.set_append_right _ _ (by rw [hsz, Nat.add_mul]; omega), hsz, show (i + 1) * s + j - s = i * s + j by rw [Nat.add_mul]; omega, ih i (by simpa using h) j hj hx]
/-- One cell of an owned row is set. -/
theorem own_row1 {w : World} {N T g cap : Nat} {l : List α} (h : w.ownsRow N T s (.slice (some ⟨g, 0, none⟩) l.length cap) l.length (l.flatMap fun m => (c m).toList)) (i : Nat) (hi : i < l.length) (j : Nat) (hj : j < s) (u : Value) (x' : α) (hx : (c x').toList = (c l[i]).toList.set j u) :
    (w.setCell ⟨g, i * s + j, none⟩ u).ownsRow N T s (.slice (some ⟨g, 0, none⟩) (l.set i x').length cap) (l.set i x').length ((l.set i x').flatMap fun m => (c m).toList) := by
  rcases h.2 with ⟨h0, _⟩ | ⟨g', cap', cur, hv, hg, hgb, hn, hc, hsz, htk⟩
  · cases h0
  · injection hv with hv hv1 hv2
    injection hv with hv
    injection hv with hv
    subst hv hv2
    rw [List.length_set]
    refine ⟨by rw [flat_len c s hs, List.length_set], .inr ⟨g, cap, cur.setIfInBounds (i * s + j) u, rfl, hg, (show Blk w g cur T from hgb).set _ u, hn, hc, by simpa using hsz, ?_⟩⟩
    rw [Array.toList_setIfInBounds, List.take_set, htk, flat_set c s hs u x' l i hi j hj hx]
end
end Go.Proofs.Ytmkcooamgojbpaa.Own
