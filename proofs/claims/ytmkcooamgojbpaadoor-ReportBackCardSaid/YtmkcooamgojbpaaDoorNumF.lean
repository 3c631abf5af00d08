/- What the loops that read a number come to: plain. -/
import Derived.Test.YtmkcooamgojbpaaDoorReadF
namespace Go.Proofs.YtmkcooamgojbpaaDoor.Dec
open Go.Proofs.YtmkcooamgojbpaaDoor.Words
set_option linter.unusedVariables false

/-- So far only digits, and not worth too much. -/
def DigsOk (l : List UInt8) : Prop := (∀ c ∈ l, isDg c = true) ∧ valN l ≤ 9223372036854775808
theorem good_nil : DigsOk [] := ⟨fun c h => absurd h List.not_mem_nil, by decide⟩
theorem good_next {l : List UInt8} {k : Nat} (h : k < l.length) (hg : DigsOk (l.take k)) (h1 : 48 ≤ l[k].toNat) (h2 : l[k].toNat ≤ 57) (h3 : valN (l.take k) * 10 + (l[k].toNat - 48) ≤ 9223372036854775808) : DigsOk (l.take (k + 1)) := by
  refine ⟨fun c hc => ?_, by rw [val_next h]; exact h3⟩
  rw [List.take_succ_eq_append_getElem h] at hc
  rcases List.mem_append.1 hc with hc | hc
  · exact hg.1 c hc
  · rw [List.mem_singleton] at hc
    subst hc
    simp [isDg, h1, h2]
theorem good_not_dig {l : List UInt8} {k : Nat} (h : k < l.length) (hd : l[k].toNat < 48 ∨ 57 < l[k].toNat) : ¬ DigsOk l := fun hg => by
  have := hg.1 l[k] (List.getElem_mem h)
  simp only [isDg, Bool.and_eq_true, decide_eq_true_eq] at this
  omega
theorem good_not_big {l : List UInt8} {k : Nat} (h : k < l.length) (hd : 9223372036854775808 < valN (l.take k) * 10 + (l[k].toNat - 48)) : ¬ DigsOk l := fun hg => by
  have h1 := val_take l (k + 1)
  rw [val_next h] at h1
  have := hg.2
  omega
/-- A number's sign, and the rest. -/
structure Part (s : List UInt8) (m : Bool) (t : List UInt8) : Prop where
  yes : m = true → s = 45 :: t
  no : m = false → s = t ∧ s.head? ≠ some 45
theorem part_of (s : List UInt8) : ∃ m t, Part s m t := by
  cases s with
  | nil => exact ⟨false, [], fun h => absurd h (by decide), fun _ => ⟨rfl, by simp⟩⟩
  | cons c s =>
    by_cases h : c = 45
    · subst h; exact ⟨true, s, fun _ => rfl, fun h => (by cases h)⟩
    · exact ⟨false, c :: s, fun h => absurd h (by decide), fun _ => ⟨rfl, by simp [h]⟩⟩
theorem numF_part {s t : List UInt8} {m : Bool} (h : Part s m t) : numF s =
    if m = true then (if decN (valN t) = t ∧ 1 ≤ valN t ∧ valN t ≤ 9223372036854775808 then some (-(valN t : Int)) else none)
    else if decN (valN t) = t ∧ valN t ≤ 9223372036854775807 then some (valN t : Int) else none := by
  cases m with
  | true =>
    have := h.yes rfl
    subst this
    unfold numF
    rw [if_pos (by simp), if_pos rfl]
    rfl
  | false =>
    obtain ⟨rfl, h2⟩ := h.no rfl
    unfold numF
    rw [if_neg h2]
    rfl
theorem numF_bad {s t : List UInt8} {m : Bool} (h : Part s m t) (hg : ¬ DigsOk t) : numF s = none := by
  rw [numF_part h]
  have key : decN (valN t) = t → valN t ≤ 9223372036854775808 → False := fun h1 h2 => hg ⟨((canon_iff t).1 h1).dig, h2⟩
  split
  · rw [if_neg]; rintro ⟨h1, -, h2⟩; exact key h1 h2
  · rw [if_neg]; rintro ⟨h1, h2⟩; exact key h1 (by omega)
theorem numF_nil {s : List UInt8} {m : Bool} (h : Part s m []) : numF s = none := by
  rw [numF_part h]
  have : ¬ decN (valN []) = ([] : List UInt8) := by decide +kernel
  split <;> rw [if_neg] <;> rintro ⟨h1, -⟩ <;> exact this h1
theorem numF_zero {s t : List UInt8} {m : Bool} (h : Part s m t) (h1 : 1 < t.length) (h2 : t.head? = some 48) : numF s = none := by
  rw [numF_part h]
  have : ¬ decN (valN t) = t := fun e => ((canon_iff t).1 e).head h1 h2
  split <;> rw [if_neg] <;> rintro ⟨h1, -⟩ <;> exact this h1
theorem numF_minus0 {s : List UInt8} (h : Part s true [48]) : numF s = none := by
  rw [numF_part h, if_pos rfl, if_neg]
  rintro ⟨-, h1, -⟩
  exact absurd h1 (by decide)
theorem canon_of {t : List UInt8} (hg : DigsOk t) (hne : t ≠ []) (hz : 1 < t.length → t.head? ≠ some 48) : decN (valN t) = t := (canon_iff t).2 ⟨hne, hg.1, hz⟩
theorem numF_neg {s t : List UInt8} (h : Part s true t) (hg : DigsOk t) (hne : t ≠ []) (hz : 1 < t.length → t.head? ≠ some 48) (h0 : t ≠ [48]) : numF s = some (-(valN t : Int)) := by
  have h1 : 1 ≤ valN t := by
    refine val_pos _ t rfl hne hg.1 ?_
    cases t with
    | nil => exact absurd rfl hne
    | cons a l =>
      cases l with
      | nil => intro e; simp at e; subst e; exact h0 rfl
      | cons b l => exact hz (by simp)
  rw [numF_part h, if_pos rfl, if_pos ⟨canon_of hg hne hz, h1, hg.2⟩]
theorem numF_pos {s t : List UInt8} (h : Part s false t) (hg : DigsOk t) (hne : t ≠ []) (hz : 1 < t.length → t.head? ≠ some 48) (h1 : valN t ≤ 9223372036854775807) : numF s = some (valN t : Int) := by
  rw [numF_part h, if_neg (by decide), if_pos ⟨canon_of hg hne hz, h1⟩]
theorem numF_big {s t : List UInt8} (h : Part s false t) (h1 : valN t = 9223372036854775808) : numF s = none := by
  rw [numF_part h, if_neg (by decide), if_neg (by omega)]
theorem numF_long {s : List UInt8} (h : s = [] ∨ 20 < s.length) : numF s = none := by
  cases e : numF s with
  | none => rfl
  | some n =>
    obtain ⟨h1, h2, h3⟩ := (numF_iff s n).1 e
    have h4 := dec_len h2 h3
    have h5 := dec_ne n
    rw [← h1] at h4 h5
    rcases h with h | h
    · exact absurd h h5
    · omega
/-- The document's: what was read, spelled again. -/
theorem numF_again {s : List UInt8} {n : Int} (h1 : -9223372036854775808 ≤ n) (h2 : n ≤ 9223372036854775807) (h : decB n = s) : numF s = some n := (numF_iff s n).2 ⟨h.symm, h1, h2⟩
theorem numF_other {s t : List UInt8} {m : Bool} {n : Int} (h : Part s m t) (hn : n = if m = true then -(valN t : Int) else (valN t : Int)) (hne : decB n ≠ s) : numF s = none := by
  cases e : numF s with
  | none => rfl
  | some k =>
    exfalso
    have hk := (numF_iff s k).1 e
    rw [numF_part h] at e
    have : k = n := by
      split at e
      · rename_i hm
        rw [if_pos hm] at hn
        split at e
        · injection e with e; omega
        · cases e
      · rename_i hm
        rw [if_neg hm] at hn
        split at e
        · injection e with e; omega
        · cases e
    subst this
    exact hne hk.1.symm
end Go.Proofs.YtmkcooamgojbpaaDoor.Dec
