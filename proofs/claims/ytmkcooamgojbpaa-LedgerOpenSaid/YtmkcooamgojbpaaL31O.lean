/- The document's Open, plain: ids put in one by one are the ids rising. -/
import Derived.Test.YtmkcooamgojbpaaL31R
import Derived.Test.YtmkcooamgojbpaaLedOpenI
namespace Go.Proofs.Ytmkcooamgojbpaa.Ledger
open Go.Proofs.Ytmkcooamgojbpaa.Mp Go.Proofs.Ytmkcooamgojbpaa.Msgs
set_option linter.unusedVariables false

def below (x : Int) (S : List Int) : List Int := S.takeWhile fun y => decide (y < x)
def insD (x : Int) (S : List Int) : List Int := below x S ++ [x] ++ S.drop (below x S).length
theorem ins_cons (x y : Int) (S : List Int) : insD x (y :: S) = if y < x then y :: insD x S else x :: y :: S := by
  unfold insD below
  rw [List.takeWhile_cons]
  by_cases h : y < x
  · rw [if_pos h]; simp [h]
  · rw [if_neg h]; simp [h]
theorem ins_perm (x : Int) (S : List Int) : (insD x S).Perm (x :: S) := by
  induction S with
  | nil => exact List.Perm.refl _
  | cons y S ih =>
    rw [ins_cons]
    split
    · exact (ih.cons y).trans (List.Perm.swap x y S)
    · exact List.Perm.refl _
theorem ins_sorted (x : Int) (S : List Int) (h : S.Pairwise (· ≤ ·)) : (insD x S).Pairwise (· ≤ ·) := by
  induction S with
  | nil => exact List.pairwise_singleton _ _
  | cons y S ih =>
    rw [List.pairwise_cons] at h
    rw [ins_cons]
    split
    · rename_i hy
      refine List.pairwise_cons.2 ⟨fun z hz => ?_, ih h.2⟩
      rcases List.mem_cons.1 ((ins_perm x S).mem_iff.1 hz) with rfl | hz
      · omega
      · exact h.1 z hz
    · rename_i hy
      refine List.pairwise_cons.2 ⟨fun z hz => ?_, List.pairwise_cons.2 h⟩
      rcases List.mem_cons.1 hz with rfl | hz
      · omega
      · have := h.1 z hz; omega
/-- Does a row count? -/
def openB (sym : Int) (r : DRow) : Bool := (r.sym == sym && !r.old) && r.a.rest != 0
def openD (sym : Int) : List DRow → List Int := fun l => (l.filter (openB sym)).foldl (fun S r => insD r.id S) []
theorem fold_rising (ids : List Int) : ∀ S : List Int, S.Pairwise (· ≤ ·) → (ids.foldl (fun S x => insD x S) S).Pairwise (· ≤ ·) ∧ (ids.foldl (fun S x => insD x S) S).Perm (ids ++ S) := by
  induction ids with
  | nil => exact fun S h => ⟨h, List.Perm.refl _⟩
  | cons x ids ih =>
    intro S h
    rw [List.foldl_cons]
    obtain ⟨h1, h2⟩ := ih (insD x S) (ins_sorted x S h)
    refine ⟨h1, h2.trans ?_⟩
    exact (List.Perm.append_left ids (ins_perm x S)).trans List.perm_middle
theorem open_rising (sym : Int) (l : List DRow) : openD sym l = rising ((l.filter (openB sym)).map (·.id)) := by
  have e : openD sym l = ((l.filter (openB sym)).map (·.id)).foldl (fun S x => insD x S) [] := by
    unfold openD
    rw [List.foldl_map]
  obtain ⟨h1, h2⟩ := fold_rising ((l.filter (openB sym)).map (·.id)) [] List.Pairwise.nil
  rw [← e] at h1 h2
  rw [List.append_nil] at h2
  have ht : ∀ a b c : Int, decide (a ≤ b) = true → decide (b ≤ c) = true → decide (a ≤ c) = true := fun a b c => by simp; omega
  have hs : ∀ a b : Int, (decide (a ≤ b) || decide (b ≤ a)) = true := fun a b => by simp; omega
  exact (h2.trans (List.mergeSort_perm _ _).symm).eq_of_pairwise (le := fun a b => decide (a ≤ b) = true) (fun a b _ _ h1 h2 => by simp at h1 h2; omega) (h1.imp fun h => by simpa using h) (List.pairwise_mergeSort ht hs _)
end Go.Proofs.Ytmkcooamgojbpaa.Ledger
