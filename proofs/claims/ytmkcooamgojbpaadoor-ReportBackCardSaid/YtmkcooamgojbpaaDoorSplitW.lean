/- words.Split and words.Number. -/
import Derived.Test.YtmkcooamgojbpaaDoorRepNum
import Derived.Test.YtmkcooamgojbpaaDoorSplitG
namespace Go.Proofs.YtmkcooamgojbpaaDoor.Lines
open Go.RowKit Go.Proofs.YtmkcooamgojbpaaDoor.Kit Go.Proofs.YtmkcooamgojbpaaDoor.Blk Go.Proofs.YtmkcooamgojbpaaDoor.Dec Go.Proofs.YtmkcooamgojbpaaDoor.Words Go.Proofs.YtmkcooamgojbpaaDoor.Octets
attribute [local go_sem ↓] Go.wp_at_zero Go.wp_at_succ
set_option linter.unusedVariables false

/-- Words in memory: a slice, and its cells. -/
def StrRow (v : Value) (ws : List (List UInt8)) (W : World) : Prop :=
  (ws = [] ∧ v = .slice none 0 0) ∨ (0 < ws.length ∧ ∃ b c, v = .slice (some ⟨b, 0, none⟩) ws.length c ∧ ws.length ≤ c ∧ b < W.heap.size ∧ ∀ j, (h : j < ws.length) → W.cell? ⟨b, j, none⟩ = some (.string (strB ws[j])))
theorem StrRow.below {v : Value} {ws : List (List UInt8)} {W W' : World} (h : StrRow v ws W) (hb : Below W.heap.size W W') : StrRow v ws W' := by
  rcases h with h | ⟨h0, b, c, h1, h2, h3, h4⟩
  · exact .inl h
  · exact .inr ⟨h0, b, c, h1, h2, Nat.lt_of_lt_of_le h3 hb.size, fun j hj => by rw [hb.cell (p := ⟨b, j, none⟩) h3]; exact h4 j hj⟩
def SplitIs (l : List UInt8) (w : World) (e : Ending) (w' : World) : Prop := ∃ v, e = .returned v ∧ StrRow v (splitW l) w' ∧ Below w.heap.size w w'
theorem of_data {xs : List ByteArray} {ws : List (List UInt8)} (h : xs.map (·.data.toList) = ws) : xs = ws.map strB := by
  rw [← h, List.map_map]
  have : strB ∘ (fun x : ByteArray => x.data.toList) = id := funext fun x => by simp [strB]
  rw [this, List.map_id]
theorem count32 (l : List UInt8) : Lib.countB (strB l) ⟨#[32]⟩ = l.count 32 := by
  show Lib.count (strB l).data.toList [32] = _
  rw [strB_list, Lib.count_one]
theorem split_pieces (l : List UInt8) : Lib.splitB ⟨#[32]⟩ 0 (Lib.countB (strB l) ⟨#[32]⟩) (strB l) = (cutW 32 l).map strB := by
  apply of_data
  rw [Lib.splitB_data, strB_list, count32]
  exact splitK_cut 32 _ l (Nat.le_refl _)
theorem split_any (l : List UInt8) (hl : l.length ≤ 100000) (w : World) (hm : MX w) :
    Calls Tryd.prog 31 #[.string (strB l)] w (SplitIs l w) := by
  by_cases h : l = []
  · subst h
    have b1 : (strB []).toList = [] := by rw [ByteArray.toList_eq, strB_list]
    go_enter Tryd.func31, Tryd.ntmps31
    go_wp2_with fail
    go_ret
    exact ⟨_, rfl, .inl ⟨rfl, rfl⟩, Below.refl _ _⟩
  · obtain ⟨m, hm⟩ := hm
    have HS := Lib.hid (show SplitIs l w (.returned (.slice (some ⟨w.heap.size, 0, none⟩) (Lib.countB (strB l) ⟨#[32]⟩ + 1) (Lib.countB (strB l) ⟨#[32]⟩ + 1))) (w.alloc (.cells ((Lib.splitB ⟨#[32]⟩ 0 (Lib.countB (strB l) ⟨#[32]⟩) (strB l)).map Value.string).toArray 9)) from by
      have e1 : Lib.countB (strB l) ⟨#[32]⟩ + 1 = (cutW 32 l).length := by rw [cut_len, count32]
      have e2 : splitW l = cutW 32 l := by unfold splitW; rw [if_neg h]
      refine ⟨_, rfl, .inr ⟨?_, w.heap.size, (cutW 32 l).length, ?_, ?_, by simp, fun j hj => ?_⟩, (Below.refl _ _).alloc (Nat.le_refl _) _⟩
      · rw [e2]; exact List.length_pos_iff.2 (cutW_ne _ _)
      · rw [e1, e2]
      · rw [e2]; exact Nat.le_refl _
      · rw [e2] at hj
        refine cell_new _ _ _ _ _ _ rfl ?_
        rw [split_pieces]
        simp [hj, e2])
    have HC := Lib.hid (Shelf.strings_Split (strB l) ⟨#[32]⟩ m w (by rw [strB_size]; omega) hm (by decide))
    have b1 : ((strB l).toList == []) = false := by rw [ByteArray.toList_eq, strB_list]; simpa using h
    have b2 : ((strB l).toList.isEmpty) = false := by rw [ByteArray.toList_eq, strB_list]; simpa using h
    clear hm
    go_enter Tryd.func31, Tryd.ntmps31
    go_wp2_with fail
    refine HC.out.mono ?_
    rintro e w1 ⟨rfl, rfl⟩
    go_wp2_with fail
    go_ret
    exact HS.out
end Go.Proofs.YtmkcooamgojbpaaDoor.Lines
