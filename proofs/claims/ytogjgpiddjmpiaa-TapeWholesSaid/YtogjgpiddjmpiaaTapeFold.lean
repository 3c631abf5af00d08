/- The bars of trades, in plain numbers: as the program makes them, one trade behind the other. -/
import Derived.Test.YtogjgpiddjmpiaaTapeDone
namespace Go.Proofs.Ytogjgpiddjmpiaa.Tape
open Go.RowKit Go.Proofs.Ytogjgpiddjmpiaa.Kit Go.Proofs.Ytogjgpiddjmpiaa.Blk Go.Proofs.Ytogjgpiddjmpiaa.Msgs

structure St where
  out : List Bar
  b : Bar
  x : Nat
def doneF (b : Bar) (x : Nat) : Bar := withMean b ((x / b.vol.toNat : Nat) : Int)
def stepB (wd : Int) (s : St) (m : Msg) : St :=
  if s.b.trd = 0 ∨ s.b.frm = m.tick / wd * wd then ⟨s.out, addF s.b (m.tick / wd * wd) m, s.x + wo m⟩
  else ⟨s.out ++ [doneF s.b s.x], addF Bar.zero (m.tick / wd * wd) m, wo m⟩
def foldB (wd : Int) (l : List Msg) : St := l.foldl (stepB wd) ⟨[], Bar.zero, 0⟩
theorem foldB_snoc (wd : Int) (l : List Msg) (m : Msg) : foldB wd (l ++ [m]) = stepB wd (foldB wd l) m := by
  unfold foldB; rw [List.foldl_append]; rfl
def barsF (wd : Int) (l : List Msg) : List Bar := if 0 < (foldB wd l).b.trd then (foldB wd l).out ++ [doneF (foldB wd l).b (foldB wd l).x] else (foldB wd l).out

/-- What is true of a maker behind n trades. -/
structure Sound (b : Bar) (x n : Nat) : Prop where
  t0 : 0 ≤ b.trd
  t1 : b.trd ≤ n
  v0 : 0 ≤ b.vol
  v1 : b.vol ≤ n * 4294967296
  xv : (x : Int) ≤ 1099511627776 * b.vol
  pos : b.trd ≠ 0 → 0 < b.vol
  zero : b.trd = 0 → x = 0
theorem sound_zero (n : Nat) : Sound Bar.zero 0 n := ⟨by show (0 : Int) ≤ 0; omega, by show (0 : Int) ≤ n; omega, by show (0 : Int) ≤ 0; omega, by show (0 : Int) ≤ n * 4294967296; omega, by show ((0 : Nat) : Int) ≤ 1099511627776 * 0; omega, fun h => absurd rfl h, fun _ => rfl⟩
theorem sound_add {b : Bar} {x n : Nat} (h : Sound b x n) (f : Int) {m : Msg} (hg : Good m) : Sound (addF b f m) (x + wo m) (n + 1) := by
  have hw := (wo_le hg).1
  have hq := hg.q1
  have hq2 := hg.q2
  have hpq : m.price * m.qty ≤ 1099511627776 * m.qty := Int.mul_le_mul_of_nonneg_right hg.p2 (by omega)
  unfold addF firstF
  by_cases hz : b.trd = 0
  · rw [if_pos hz]
    have hx := h.zero hz
    subst hx
    refine ⟨?_, ?_, ?_, ?_, ?_, ?_, ?_⟩ <;> dsimp only [nextF] <;> omega
  · rw [if_neg hz]
    have := h.t0; have := h.t1; have := h.v0; have := h.v1; have := h.xv; have := h.pos hz
    refine ⟨?_, ?_, ?_, ?_, ?_, ?_, ?_⟩ <;> dsimp only [nextF] <;> omega
theorem sound_step (wd : Int) {s : St} {n : Nat} (h : Sound s.b s.x n) {m : Msg} (hg : Good m) : Sound (stepB wd s m).b (stepB wd s m).x (n + 1) := by
  unfold stepB
  split
  · exact sound_add h _ hg
  · have h2 := sound_add (sound_zero n) (m.tick / wd * wd) hg
    rw [Nat.zero_add] at h2
    exact h2
theorem rev_ind {α : Type} {p : List α → Prop} (h0 : p []) (hs : ∀ l x, p l → p (l ++ [x])) (l : List α) : p l := by
  rw [← List.reverse_reverse l]
  induction l.reverse with
  | nil => exact h0
  | cons x t ih => rw [List.reverse_cons]; exact hs _ _ ih
theorem sound_fold (wd : Int) (l : List Msg) (hl : ∀ m ∈ l, Good m) : Sound (foldB wd l).b (foldB wd l).x l.length ∧ (foldB wd l).out.length ≤ l.length := by
  revert hl
  refine rev_ind (p := fun l => (∀ m ∈ l, Good m) → Sound (foldB wd l).b (foldB wd l).x l.length ∧ (foldB wd l).out.length ≤ l.length) ?_ ?_ l
  · exact fun _ => ⟨sound_zero 0, Nat.le_refl _⟩
  · intro l m ih hl
    obtain ⟨h1, h2⟩ := ih (fun x hx => hl x (List.mem_append_left _ hx))
    rw [foldB_snoc, List.length_append]
    refine ⟨sound_step wd h1 (hl m (List.mem_append_right _ List.mem_cons_self)), ?_⟩
    unfold stepB
    split
    · simp; omega
    · simp; omega
theorem sound_mean {b : Bar} {x n : Nat} (h : Sound b x n) (hz : b.trd ≠ 0) (hn : n ≤ 1000) : b.vol = (b.vol.toNat : Int) ∧ 0 < b.vol.toNat ∧ b.vol.toNat < 9223372036854775808 ∧ x < 340282366920938463463374607431768211456 ∧ x / b.vol.toNat < 9223372036854775808 := by
  have h1 := h.pos hz
  have h2 := h.v1
  have h3 := h.xv
  refine ⟨by omega, by omega, by omega, by omega, ?_⟩
  have h4 : x / b.vol.toNat ≤ 1099511627776 := Nat.div_le_of_le_mul (by omega)
  exact Nat.lt_of_le_of_lt h4 (by decide)
theorem sound_small {b : Bar} {x n : Nat} (h : Sound b x n) (hn : n ≤ 1000) : b.trd ≤ 1000 ∧ b.vol ≤ 4611686018427387904 ∧ x ≤ 170141183460469231731687303715884105728 := by
  have h2 := h.v1
  have h3 := h.xv
  have h4 := h.t1
  exact ⟨by omega, by omega, by omega⟩
end Go.Proofs.Ytogjgpiddjmpiaa.Tape
