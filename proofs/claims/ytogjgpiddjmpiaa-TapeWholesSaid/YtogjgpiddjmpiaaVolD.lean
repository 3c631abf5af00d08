/- The map of volumes by price, as a datum: plain. -/
import Derived.Test.YtogjgpiddjmpiaaVol
import Derived.Maps.Own
import Derived.Lib.SlKeysI
namespace Go.Proofs.Ytogjgpiddjmpiaa.Tape
open Go.RowKit Go.Proofs.Ytogjgpiddjmpiaa.Msgs Go.Maps

abbrev key64 (p : Int) : Lit := .int .i64 p
def valD (D : DataW Unit) (p : Int) : Int := match D.atKey (key64 p) (.lit (.int .i64 0)) with | .lit (.int _ c) => c | _ => 0
def volStep (D : DataW Unit) (m : Msg) : DataW Unit := D.put (key64 m.price) (.lit (.int .i64 (valD D m.price + m.qty)))
def volD (L : List Msg) : DataW Unit := L.foldl volStep (.map [])
theorem volD_snoc (L : List Msg) (m : Msg) : volD (L ++ [m]) = volStep (volD L) m := by simp [volD, List.foldl_append]
theorem rev_ind' {α : Type} {p : List α → Prop} (h0 : p []) (h1 : ∀ l x, p l → p (l ++ [x])) (l : List α) : p l := by
  have : ∀ l : List α, p l.reverse := fun l => by
    induction l with
    | nil => exact h0
    | cons x l ih => rw [List.reverse_cons]; exact h1 _ _ ih
  have h := this l.reverse
  rwa [List.reverse_reverse] at h
theorem volD_map (L : List Msg) : IsMap (volD L) := rev_ind' (p := fun L => IsMap (volD L)) isMap_empty (fun L m h => by rw [volD_snoc]; exact h.put _ _) L
theorem volD_at (L : List Msg) (p : Int) : (volD L).atKey (key64 p) (.lit (.int .i64 0)) = .lit (.int .i64 (volP L p)) := by
  refine rev_ind' (p := fun L => ∀ p, (volD L).atKey (key64 p) (.lit (.int .i64 0)) = .lit (.int .i64 (volP L p))) (fun p => rfl) (fun L m ih p => ?_) L p
  have hv : valD (volD L) m.price = volP L m.price := by unfold valD; rw [ih]
  rw [volD_snoc, volStep, hv, vol_snoc]
  by_cases h : m.price = p
  · subst h; rw [atKey_put_same (volD_map L) (by trivial), if_pos rfl]
  · rw [atKey_put_other (fun e => h (by injection e with _ e; exact e.symm)), ih, if_neg h, Int.add_zero]
theorem volD_put (L : List Msg) (m : Msg) : (volD L).put (key64 m.price) (.lit (.int .i64 (volP L m.price + m.qty))) = volD (L ++ [m]) := by
  rw [volD_snoc, volStep]
  have hv : valD (volD L) m.price = volP L m.price := by unfold valD; rw [volD_at]
  rw [hv]
theorem mem_insert {H : Type} (x p : Lit × DataW H) (l : List (Lit × DataW H)) : p ∈ DataW.insert x l ↔ p = x ∨ p ∈ l := by
  induction l with
  | nil => simp [DataW.insert]
  | cons y l ih =>
    unfold DataW.insert
    split
    · simp
    · simp only [List.mem_cons, ih]
      constructor
      · rintro (h | h | h)
        · exact .inr (.inl h)
        · exact .inl h
        · exact .inr (.inr h)
      · rintro (h | h | h)
        · exact .inr (.inl h)
        · exact .inl h
        · exact .inr (.inr h)
theorem volD_keys (L : List Msg) (x : Int) : x ∈ intKeys (volD L) ↔ x ∈ L.map (·.price) := by
  refine rev_ind' (p := fun L => ∀ x, x ∈ intKeys (volD L) ↔ x ∈ L.map (·.price)) (fun x => by simp [volD, intKeys]) (fun L m ih x => ?_) L x
  rw [volD_snoc, volStep]
  obtain ⟨es, he⟩ := volD_map L
  have hi := ih x
  have hi2 := ih
  rw [he] at hi ⊢
  show x ∈ (DataW.insert _ _).map (fun p : Lit × DataW Unit => Go.intOf p.1) ↔ _
  have hi' : x ∈ es.map (fun p : Lit × DataW Unit => Go.intOf p.1) ↔ x ∈ L.map (·.price) := hi
  rw [List.map_append, List.mem_append, ← hi', List.mem_map, List.mem_map]
  constructor
  · rintro ⟨p, hp, rfl⟩
    rcases (mem_insert _ _ _).1 hp with rfl | hp
    · exact .inr (by simp [Go.intOf])
    · exact .inl ⟨p, (List.mem_filter.1 hp).1, rfl⟩
  · rintro (⟨p, hp, rfl⟩ | h)
    · by_cases hs : p.1.sameKey (key64 m.price) = true
      · refine ⟨_, (mem_insert _ _ _).2 (.inl rfl), ?_⟩
        cases hk : p.1 <;> simp_all [Lit.sameKey, Go.intOf]
      · exact ⟨p, (mem_insert _ _ _).2 (.inr (List.mem_filter.2 ⟨hp, by simpa using hs⟩)), rfl⟩
    · obtain rfl : x = m.price := by simpa using h
      exact ⟨_, (mem_insert _ _ _).2 (.inl rfl), rfl⟩
theorem owns_size {H : Type} {w : World} {P : Program} {k : TypeId} {R : Value → Option (DataW H × List MemPlace)} {b n : Nat} {D : DataW H} (h : w.ownsMap P k R b n D) : Maps.size D ≤ n := by
  obtain ⟨es, clock, _, _, hs, rfl⟩ := h
  show (List.foldr DataW.insert [] _).length ≤ n
  rw [length_sorted]
  simpa using hs
theorem perm_keys {ss : List Int} {L : List Msg} (h : ss.Perm (intKeys (volD L))) (x : Int) : x ∈ ss.mergeSort leI ↔ x ∈ L.map (·.price) := by
  rw [(List.mergeSort_perm ss leI).mem_iff, h.mem_iff, volD_keys]
theorem sorted_keys (ss : List Int) : (ss.mergeSort leI).Pairwise (fun a b => a ≤ b) := by
  have h := List.pairwise_mergeSort (le := leI) (fun a b c h1 h2 => by simp only [leI, decide_eq_true_eq] at *; omega) (fun a b => by simp only [leI, Bool.or_eq_true, decide_eq_true_eq]; omega) ss
  exact h.imp fun h => by simpa [leI] using h
end Go.Proofs.Ytogjgpiddjmpiaa.Tape
