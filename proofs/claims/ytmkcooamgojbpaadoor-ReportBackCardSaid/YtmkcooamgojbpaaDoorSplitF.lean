/- Words of a line: plain lists of bytes; the shelf's split is this one. -/
import Derived.Lib.SplitLaws
import Derived.Lib.Join
namespace Go.Proofs.YtmkcooamgojbpaaDoor.Words
open Go.Lib
set_option linter.unusedVariables false

/-- A line's words: what stands between its blanks. -/
def cutW (b : UInt8) : List UInt8 → List (List UInt8)
  | [] => [[]]
  | c :: l => if c = b then [] :: cutW b l else match cutW b l with
    | w :: ws => (c :: w) :: ws
    | [] => [[c]]
def joinW (b : UInt8) : List (List UInt8) → List UInt8
  | [] => []
  | [w] => w
  | w :: v :: ws => w ++ b :: joinW b (v :: ws)
theorem cutW_ne (b : UInt8) (l : List UInt8) : cutW b l ≠ [] := by
  cases l with
  | nil => simp [cutW]
  | cons c l => unfold cutW; split; simp; split <;> simp
theorem join_cons {b : UInt8} {w : List UInt8} {ws : List (List UInt8)} (h : ws ≠ []) : joinW b (w :: ws) = w ++ b :: joinW b ws := by
  cases ws with
  | nil => exact absurd rfl h
  | cons v ws => rfl
theorem cut_cons {b c : UInt8} {l w : List UInt8} {ws : List (List UInt8)} (h : c ≠ b) (e : cutW b l = w :: ws) : cutW b (c :: l) = (c :: w) :: ws := by
  rw [cutW, if_neg h, e]
theorem cut_sep (b : UInt8) (l : List UInt8) : cutW b (b :: l) = [] :: cutW b l := by rw [cutW, if_pos rfl]
theorem join_cut (b : UInt8) (l : List UInt8) : joinW b (cutW b l) = l := by
  induction l with
  | nil => rfl
  | cons c l ih =>
    by_cases h : c = b
    · subst h
      rw [cut_sep, join_cons (cutW_ne _ _), ih, List.nil_append]
    · cases e : cutW b l with
      | nil => exact absurd e (cutW_ne _ _)
      | cons w ws =>
        rw [cut_cons h e]
        rw [e] at ih
        cases ws with
        | nil => simp only [joinW] at ih ⊢; rw [ih]
        | cons v ws => rw [join_cons (by simp)] at ih ⊢; rw [List.cons_append, ih]
theorem cut_clean (b : UInt8) (l : List UInt8) : ∀ w ∈ cutW b l, b ∉ w := by
  induction l with
  | nil => intro w hw; simp [cutW] at hw; subst hw; simp
  | cons c l ih =>
    intro w hw
    by_cases h : c = b
    · subst h
      rw [cut_sep] at hw
      rcases List.mem_cons.1 hw with rfl | hw
      · simp
      · exact ih w hw
    · cases e : cutW b l with
      | nil => exact absurd e (cutW_ne _ _)
      | cons v ws =>
        rw [cut_cons h e] at hw
        rw [e] at ih
        rcases List.mem_cons.1 hw with rfl | hw
        · have := ih v List.mem_cons_self
          intro hm
          rcases List.mem_cons.1 hm with hm | hm
          · exact h hm.symm
          · exact this hm
        · exact ih w (List.mem_cons_of_mem _ hw)
theorem cut_app {b : UInt8} : ∀ {w : List UInt8}, b ∉ w → ∀ l, cutW b (w ++ b :: l) = w :: cutW b l := by
  intro w
  induction w with
  | nil => intro _ l; exact cut_sep b l
  | cons c w ih =>
    intro h l
    have h1 : c ≠ b := fun e => h (by simp [e])
    rw [List.cons_append, cut_cons h1 (ih (fun hm => h (List.mem_cons_of_mem _ hm)) l)]
theorem cut_one {b : UInt8} : ∀ {w : List UInt8}, b ∉ w → cutW b w = [w] := by
  intro w
  induction w with
  | nil => intro _; rfl
  | cons c w ih =>
    intro h
    have h1 : c ≠ b := fun e => h (by simp [e])
    rw [cut_cons h1 (ih (fun hm => h (List.mem_cons_of_mem _ hm)))]
theorem cut_join {b : UInt8} : ∀ {ws : List (List UInt8)}, ws ≠ [] → (∀ w ∈ ws, b ∉ w) → cutW b (joinW b ws) = ws := by
  intro ws
  induction ws with
  | nil => intro h; exact absurd rfl h
  | cons w ws ih =>
    intro _ h
    cases ws with
    | nil => exact cut_one (h w (by simp))
    | cons v ws =>
      rw [join_cons (by simp), cut_app (h w (by simp)), ih (by simp) (fun x hx => h x (List.mem_cons_of_mem _ hx))]
theorem cut_inj {b : UInt8} {l m : List UInt8} (h : cutW b l = cutW b m) : l = m := by rw [← join_cut b l, ← join_cut b m, h]
theorem cut_len (b : UInt8) (l : List UInt8) : (cutW b l).length = l.count b + 1 := by
  induction l with
  | nil => rfl
  | cons c l ih =>
    by_cases h : c = b
    · subst h; rw [cut_sep]; simp [ih]
    · cases e : cutW b l with
      | nil => exact absurd e (cutW_ne _ _)
      | cons w ws =>
        rw [cut_cons h e]
        rw [e] at ih
        rw [List.count_cons_of_ne h]
        simpa using ih
/-- The kit's intercalate. -/
theorem lib_join (b : UInt8) : ∀ ws : List (List UInt8), Lib.join ws [b] = joinW b ws := by
  intro ws
  induction ws with
  | nil => rfl
  | cons w ws ih =>
    cases ws with
    | nil => simp [Lib.join, joinW, List.intercalate]
    | cons v ws =>
      rw [join_cons (by simp), ← ih]
      simp [Lib.join, List.intercalate, List.intersperse]
/-- The kit's index at one byte. -/
theorem index_miss {b : UInt8} : ∀ {l : List UInt8}, b ∉ l → Lib.index l [b] = -1 := by
  intro l h
  rcases index_spec l [b] with ⟨h1, _⟩ | ⟨i, h1, h2, h3, _⟩
  · exact h1
  · exfalso
    simp only [occAt] at h3
    have : b ∈ l := by
      have h4 : [b].isPrefixOf (l.drop i) = true := h3
      cases hd : l.drop i with
      | nil => rw [hd] at h4; simp at h4
      | cons a t =>
        rw [hd] at h4
        have : b = a := by simpa using h4
        subst this
        exact List.mem_of_mem_drop (by rw [hd]; simp)
    exact h this
theorem index_app {b : UInt8} : ∀ {w : List UInt8}, b ∉ w → ∀ l, Lib.index (w ++ b :: l) [b] = w.length := by
  intro w
  induction w with
  | nil => intro _ l; simp [Lib.index, List.isPrefixOf]
  | cons c w ih =>
    intro h l
    have h1 : c ≠ b := fun e => h (by simp [e])
    have := ih (fun hm => h (List.mem_cons_of_mem _ hm)) l
    rw [List.cons_append]
    unfold Lib.index
    rw [this]
    have hp : ([b].isPrefixOf (c :: (w ++ b :: l))) = false := by
      have : (b == c) = false := beq_eq_false_iff_ne.2 (Ne.symm h1)
      simp [List.isPrefixOf, this]
    rw [hp]
    have : (((w.length : Nat) : Int) == -1) = false := by rw [beq_eq_false_iff_ne]; omega
    simp [this]
theorem part_at (b : UInt8) : ∀ l : List UInt8, b ∉ l ∨ ∃ w m, b ∉ w ∧ l = w ++ b :: m := by
  intro l
  induction l with
  | nil => exact .inl (by simp)
  | cons c l ih =>
    by_cases h : c = b
    · subst h; exact .inr ⟨[], l, by simp, rfl⟩
    · rcases ih with ih | ⟨w, m, h1, rfl⟩
      · exact .inl (fun hm => by rcases List.mem_cons.1 hm with hm | hm; exact h hm.symm; exact ih hm)
      · exact .inr ⟨c :: w, m, fun hm => by rcases List.mem_cons.1 hm with hm | hm; exact h hm.symm; exact h1 hm, rfl⟩
theorem splitK_cut (b : UInt8) : ∀ (k : Nat) (l : List UInt8), l.count b ≤ k → splitK [b] 0 k l = cutW b l := by
  intro k
  induction k with
  | zero =>
    intro l h
    have : b ∉ l := fun hm => by have := List.count_pos_iff.2 hm; omega
    rw [cut_one this]
    rfl
  | succ k ih =>
    intro l h
    rcases part_at b l with hn | ⟨w, m, hw, rfl⟩
    · rw [cut_one hn]
      unfold splitK
      rw [if_pos (by rw [index_miss hn]; rfl)]
    · rw [cut_app hw]
      unfold splitK
      have hne : ¬ (Lib.index (w ++ b :: m) [b] == -1) = true := by
        rw [index_app hw]
        intro e
        have := beq_iff_eq.1 e
        omega
      rw [if_neg hne, index_app hw]
      have e1 : (((w.length : Nat) : Int)).toNat = w.length := by omega
      rw [e1]
      congr 1
      · simp
      · rw [show w.length + [b].length = w.length + 1 from rfl, show (w ++ b :: m).drop (w.length + 1) = m by simp [List.drop_append]]
        refine ih m ?_
        rw [List.count_append, List.count_cons_self] at h
        omega
theorem split_cut (b : UInt8) (l : List UInt8) : Lib.split l [b] = cutW b l := by
  unfold Lib.split
  rw [count_one]
  exact splitK_cut b _ l (Nat.le_refl _)
end Go.Proofs.YtmkcooamgojbpaaDoor.Words
