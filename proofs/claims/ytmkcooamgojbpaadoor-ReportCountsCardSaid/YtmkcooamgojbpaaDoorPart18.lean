/- Parts of the proof: Dec. -/
import Derived.Lib.SplitLaws

/- Numbers as text: bytes, and what they are worth. Plain lists. -/
namespace Go.Proofs.YtmkcooamgojbpaaDoor.Dec
set_option linter.unusedVariables false

def dg (d : Nat) : UInt8 := UInt8.ofNat (48 + d)
def decN (n : Nat) : List UInt8 := if n < 10 then [dg n] else decN (n / 10) ++ [dg (n % 10)]
decreasing_by omega
def decB (n : Int) : List UInt8 := if n < 0 then 45 :: decN n.natAbs else decN n.natAbs
def isDg (c : UInt8) : Bool := decide (48 ≤ c.toNat) && decide (c.toNat ≤ 57)
def valN (l : List UInt8) : Nat := l.foldl (fun a c => a * 10 + (c.toNat - 48)) 0
theorem val_snoc (l : List UInt8) (c : UInt8) : valN (l ++ [c]) = valN l * 10 + (c.toNat - 48) := by simp [valN, List.foldl_append]
theorem dg_nat {d : Nat} (h : d < 10) : (dg d).toNat = 48 + d := by
  unfold dg
  rw [UInt8.toNat_ofNat']
  omega
theorem dg_of {c : UInt8} (h : isDg c = true) : dg (c.toNat - 48) = c := by
  simp only [isDg, Bool.and_eq_true, decide_eq_true_eq] at h
  apply UInt8.toNat_inj.1
  rw [dg_nat (by omega)]
  omega
theorem dg_is {d : Nat} (h : d < 10) : isDg (dg d) = true := by
  simp only [isDg, Bool.and_eq_true, decide_eq_true_eq]
  rw [dg_nat h]
  omega
/-- Digits as a number has them. -/
structure Canon (l : List UInt8) : Prop where
  ne : l ≠ []
  dig : ∀ c ∈ l, isDg c = true
  head : 1 < l.length → l.head? ≠ some 48
theorem val_decN : ∀ n, valN (decN n) = n := by
  intro n
  induction n using Nat.strongRecOn with
  | _ n ih =>
    rw [decN]
    split
    · rename_i h
      simp only [valN, List.foldl_cons, List.foldl_nil]
      rw [dg_nat h]
      omega
    · rename_i h
      rw [val_snoc, ih (n / 10) (by omega), dg_nat (by omega)]
      omega
theorem canon_decN : ∀ n, Canon (decN n) ∧ (1 ≤ n → (decN n).head? ≠ some 48) := by
  intro n
  induction n using Nat.strongRecOn with
  | _ n ih =>
    rw [decN]
    split
    · rename_i h
      refine ⟨⟨by simp, fun c hc => ?_, fun h => by simp at h⟩, fun h1 => ?_⟩
      · rw [List.mem_singleton] at hc
        subst hc
        exact dg_is h
      · simp only [List.head?_cons, ne_eq, Option.some.injEq]
        intro e
        have := congrArg UInt8.toNat e
        rw [dg_nat h] at this
        have : 48 + n = 48 := this
        omega
    · rename_i h
      obtain ⟨hc, hh⟩ := ih (n / 10) (by omega)
      have hh := hh (by omega)
      have e : (decN (n / 10) ++ [dg (n % 10)]).head? = (decN (n / 10)).head? := by
        cases hd : decN (n / 10) with
        | nil => exact absurd hd hc.ne
        | cons a l => rfl
      refine ⟨⟨by simp, fun c hm => ?_, fun _ => by rw [e]; exact hh⟩, fun _ => by rw [e]; exact hh⟩
      rcases List.mem_append.1 hm with hm | hm
      · exact hc.dig c hm
      · rw [List.mem_singleton] at hm
        subst hm
        exact dg_is (by omega)
theorem snoc (l : List UInt8) : l = [] ∨ ∃ m c, l = m ++ [c] := by
  rcases List.eq_nil_or_concat l with h | ⟨m, c, h⟩
  · exact .inl h
  · exact .inr ⟨m, c, by rw [h, List.concat_eq_append]⟩
theorem val_pos : ∀ (k : Nat) (l : List UInt8), l.length = k → l ≠ [] → (∀ c ∈ l, isDg c = true) → l.head? ≠ some 48 → 1 ≤ valN l := by
  intro k
  induction k with
  | zero => intro l h hn; exact absurd (List.length_eq_zero_iff.1 h) hn
  | succ k ih =>
    intro l h hn hd hh
    rcases snoc l with rfl | ⟨m, c, rfl⟩
    · exact absurd rfl hn
    rw [val_snoc]
    cases m with
    | nil =>
      have hc := hd c (by simp)
      simp only [isDg, Bool.and_eq_true, decide_eq_true_eq] at hc
      have : c.toNat ≠ 48 := fun e => hh (by simp; exact UInt8.toNat_inj.1 e)
      simp only [valN, List.foldl_nil]
      omega
    | cons a m =>
      have := ih (a :: m) (by simp at h ⊢; omega) (by simp) (fun c hc => hd c (by simp at hc ⊢; rcases hc with h | h; exact .inl h; exact .inr (.inl h))) (by simpa using hh)
      omega
theorem dec_val : ∀ (k : Nat) (l : List UInt8), l.length = k → Canon l → decN (valN l) = l := by
  intro k
  induction k with
  | zero => intro l h hc; exact absurd (List.length_eq_zero_iff.1 h) hc.ne
  | succ k ih =>
    intro l h hc
    rcases snoc l with rfl | ⟨m, c, rfl⟩
    · exact absurd rfl hc.ne
    have hdc := hc.dig c (by simp)
    have hdc' := hdc
    simp only [isDg, Bool.and_eq_true, decide_eq_true_eq] at hdc
    rw [val_snoc]
    cases m with
    | nil =>
      simp only [valN, List.foldl_nil, List.nil_append]
      rw [decN, if_pos (by omega), show 0 * 10 + (c.toNat - 48) = c.toNat - 48 by omega, dg_of hdc']
    | cons a m =>
      have hd : ∀ c ∈ a :: m, isDg c = true := fun c hm => hc.dig c (List.mem_append_left _ hm)
      have hh : (a :: m).head? ≠ some 48 := by simpa using hc.head (by simp)
      have hp := val_pos _ (a :: m) rfl (by simp) hd hh
      have := ih (a :: m) (by simp at h ⊢; omega) ⟨by simp, hd, fun _ => hh⟩
      rw [decN, if_neg (by omega), show (valN (a :: m) * 10 + (c.toNat - 48)) / 10 = valN (a :: m) by omega, this,
        show (valN (a :: m) * 10 + (c.toNat - 48)) % 10 = c.toNat - 48 by omega, dg_of hdc']
theorem dec_of {l : List UInt8} (h : Canon l) : decN (valN l) = l := dec_val _ l rfl h
theorem decN_inj {a b : Nat} (h : decN a = decN b) : a = b := by rw [← val_decN a, ← val_decN b, h]
theorem minus_no {n : Nat} {t : List UInt8} : decN n ≠ 45 :: t := fun h => by
  have := (canon_decN n).1.dig 45 (by rw [h]; simp)
  exact absurd this (by decide)
theorem decB_inj {a b : Int} (h : decB a = decB b) : a = b := by
  unfold decB at h
  split at h <;> split at h
  · injection h with _ h
    have := decN_inj h
    omega
  · exact absurd h.symm minus_no
  · exact absurd h minus_no
  · have := decN_inj h
    omega
/-- A number's digits with, or without, a minus. -/
def numF (s : List UInt8) : Option Int :=
  if s.head? = some 45 then
    if decN (valN s.tail) = s.tail ∧ 1 ≤ valN s.tail ∧ valN s.tail ≤ 9223372036854775808 then some (-(valN s.tail : Int)) else none
  else if decN (valN s) = s ∧ valN s ≤ 9223372036854775807 then some (valN s : Int) else none
theorem numF_iff (s : List UInt8) (n : Int) : numF s = some n ↔ s = decB n ∧ -9223372036854775808 ≤ n ∧ n ≤ 9223372036854775807 := by
  unfold numF
  constructor
  · intro h
    split at h
    · rename_i hm
      split at h
      · rename_i hc
        injection h with h
        subst h
        obtain ⟨h1, h2, h3⟩ := hc
        refine ⟨?_, by omega, by omega⟩
        cases s with
        | nil => simp at hm
        | cons a s =>
          simp at hm
          subst hm
          rw [decB, if_pos (by omega)]
          simp only [List.tail_cons] at *
          rw [show (-(valN s : Int)).natAbs = valN s by omega, h1]
      · cases h
    · split at h
      · rename_i hc
        injection h with h
        subst h
        refine ⟨?_, by omega, by omega⟩
        rw [decB, if_neg (by omega), show ((valN s : Int)).natAbs = valN s by omega, hc.1]
      · cases h
  · rintro ⟨rfl, h1, h2⟩
    unfold decB
    split
    · rename_i hn
      have e : valN (decN n.natAbs) = n.natAbs := val_decN _
      simp only [List.head?_cons, List.tail_cons, if_true, e, true_and]
      rw [if_pos ⟨by omega, by omega⟩]
      congr 1
      omega
    · rename_i hn
      have : (decN n.natAbs).head? ≠ some 45 := fun e => by
        cases hd : decN n.natAbs with
        | nil => rw [hd] at e; simp at e
        | cons a t =>
          rw [hd] at e
          simp at e
          subst e
          exact minus_no hd
      rw [if_neg this, val_decN, if_pos ⟨rfl, by omega⟩]
      congr 1
      omega
theorem numF_dec {n : Int} (h1 : -9223372036854775808 ≤ n) (h2 : n ≤ 9223372036854775807) : numF (decB n) = some n := (numF_iff _ _).2 ⟨rfl, h1, h2⟩
/-- A prefix is worth less. -/
theorem val_app (l m : List UInt8) : valN l ≤ valN (l ++ m) := by
  have : ∀ (m : List UInt8) (a : Nat), a ≤ m.foldl (fun a c => a * 10 + (c.toNat - 48)) a := fun m => by
    induction m with
    | nil => intro a; exact Nat.le_refl _
    | cons c m ih => intro a; exact Nat.le_trans (by omega) (ih (a * 10 + (c.toNat - 48)))
  unfold valN
  rw [List.foldl_append]
  exact this m _
theorem val_take (l : List UInt8) (k : Nat) : valN (l.take k) ≤ valN l := by
  have := val_app (l.take k) (l.drop k)
  rwa [List.take_append_drop] at this
theorem val_next {l : List UInt8} {k : Nat} (h : k < l.length) : valN (l.take (k + 1)) = valN (l.take k) * 10 + (l[k].toNat - 48) := by
  rw [List.take_succ_eq_append_getElem h, val_snoc]
theorem canon_iff (l : List UInt8) : decN (valN l) = l ↔ Canon l := ⟨fun h => h ▸ (canon_decN _).1, dec_of⟩
end Go.Proofs.YtmkcooamgojbpaaDoor.Dec
