/- Words, byte by byte: plain. -/
import Derived.Test.YtmkcooamgojbpaaDoorReadF
namespace Go.Proofs.YtmkcooamgojbpaaDoor.Words
set_option linter.unusedVariables false

theorem cut_snoc_sep (b : UInt8) (l : List UInt8) : cutW b (l ++ [b]) = cutW b l ++ [[]] := by
  induction l with
  | nil => simp [cutW]
  | cons c l ih =>
    by_cases h : c = b
    · subst h; rw [List.cons_append, cut_sep, cut_sep, ih]; rfl
    · cases e : cutW b l with
      | nil => exact absurd e (cutW_ne _ _)
      | cons w ws =>
        rw [e] at ih
        rw [List.cons_append, cut_cons h ih, cut_cons h e]; rfl
theorem cut_snoc {b c : UInt8} (h : c ≠ b) (l : List UInt8) : ∃ ws w, cutW b l = ws ++ [w] ∧ cutW b (l ++ [c]) = ws ++ [w ++ [c]] := by
  induction l with
  | nil => exact ⟨[], [], rfl, by simp [cutW, h]⟩
  | cons a l ih =>
    obtain ⟨ws, w, h1, h2⟩ := ih
    by_cases ha : a = b
    · subst ha
      exact ⟨[] :: ws, w, by rw [cut_sep, h1]; rfl, by rw [List.cons_append, cut_sep, h2]; rfl⟩
    · cases ws with
      | nil => exact ⟨[], a :: w, cut_cons ha h1, by rw [List.cons_append, cut_cons ha h2]; rfl⟩
      | cons v ws => exact ⟨(a :: v) :: ws, w, cut_cons ha h1, by rw [List.cons_append, cut_cons ha h2]; rfl⟩
theorem split_len (l : List UInt8) : (splitW l).length ≤ l.length + 1 := by
  unfold splitW
  split
  · simp
  · rw [cut_len]; have := List.count_le_length (a := (32 : UInt8)) (l := l); omega
theorem cut_bytes (b : UInt8) (l : List UInt8) : ∀ w ∈ cutW b l, w.length ≤ l.length := by
  induction l with
  | nil => intro w hw; simp [cutW] at hw; subst hw; simp
  | cons c l ih =>
    intro w hw
    by_cases h : c = b
    · subst h
      rw [cut_sep] at hw
      rcases List.mem_cons.1 hw with rfl | hw
      · simp
      · have := ih w hw; simp; omega
    · cases e : cutW b l with
      | nil => exact absurd e (cutW_ne _ _)
      | cons v ws =>
        rw [cut_cons h e] at hw
        rw [e] at ih
        rcases List.mem_cons.1 hw with rfl | hw
        · have := ih v (by simp); simp; omega
        · have := ih w (List.mem_cons_of_mem _ hw); simp; omega
theorem split_bytes (l : List UInt8) : ∀ w ∈ splitW l, w.length ≤ l.length := by
  unfold splitW
  split
  · intro w hw; cases hw
  · exact cut_bytes 32 l
end Go.Proofs.YtmkcooamgojbpaaDoor.Words
