/- A text's lines, each read by itself: plain. -/
import Derived.Test.YtmkcooamgojbpaaDoorDec
import Derived.Test.YtmkcooamgojbpaaDoorSplitF
namespace Go.Proofs.YtmkcooamgojbpaaDoor.Words
open Go.Proofs.YtmkcooamgojbpaaDoor.Dec
set_option linter.unusedVariables false

/-- A line's words; an empty one has none. -/
def splitW (l : List UInt8) : List (List UInt8) := if l = [] then [] else cutW 32 l
theorem join_split (l : List UInt8) : joinW 32 (splitW l) = l := by
  unfold splitW
  split
  · rename_i h; subst h; rfl
  · exact join_cut 32 l
theorem split_join {ws : List (List UInt8)} (h2 : 2 ≤ ws.length) (h : ∀ w ∈ ws, (32 : UInt8) ∉ w) : splitW (joinW 32 ws) = ws := by
  have hc : cutW 32 (joinW 32 ws) = ws := cut_join (by intro e; subst e; simp at h2) h
  unfold splitW
  rw [if_neg, hc]
  intro e
  rw [e] at hc
  rw [← hc] at h2
  simp [cutW] at h2
theorem dig_free {b : UInt8} (hb : isDg b = false) {l : List UInt8} (h : Canon l) : b ∉ l := fun hm => by rw [h.dig b hm] at hb; cases hb
theorem dec_free {b : UInt8} (hb : isDg b = false) (h45 : b ≠ 45) (n : Int) : b ∉ decB n := by
  unfold decB
  split
  · intro hm
    rcases List.mem_cons.1 hm with hm | hm
    · exact h45 hm
    · exact dig_free hb (canon_decN _).1 hm
  · exact dig_free hb (canon_decN _).1
theorem dec_32 (n : Int) : (32 : UInt8) ∉ decB n := dec_free (by decide) (by decide) n
theorem dec_10 (n : Int) : (10 : UInt8) ∉ decB n := dec_free (by decide) (by decide) n
theorem decN_len : ∀ (k n : Nat), n < 10 ^ (k + 1) → (decN n).length ≤ k + 1 := by
  intro k
  induction k with
  | zero =>
    intro n h
    unfold decN
    rw [if_pos (by simpa using h)]
    simp
  | succ k ih =>
    intro n h
    unfold decN
    split
    · simp
    · have := ih (n / 10) (by rw [Nat.div_lt_iff_lt_mul (by decide)]; rw [Nat.pow_succ] at h; omega)
      simp only [List.length_append, List.length_cons, List.length_nil]
      omega
theorem dec_len {n : Int} (h1 : -9223372036854775808 ≤ n) (h2 : n ≤ 9223372036854775807) : (decB n).length ≤ 20 := by
  unfold decB
  have := decN_len 18 n.natAbs (by rw [show (10:Nat) ^ 19 = 10000000000000000000 by decide]; omega)
  split
  · simp only [List.length_cons]; omega
  · omega
theorem dec_ne (n : Int) : decB n ≠ [] := by
  unfold decB
  split
  · simp
  · exact (canon_decN _).1.ne
theorem mem_join {b c : UInt8} (hc : c ≠ b) : ∀ {ws : List (List UInt8)}, (∀ w ∈ ws, c ∉ w) → c ∉ joinW b ws := by
  intro ws
  induction ws with
  | nil => intro _; simp [joinW]
  | cons w ws ih =>
    intro h
    cases ws with
    | nil => exact h w (by simp)
    | cons v ws =>
      rw [join_cons (by simp)]
      intro hm
      rcases List.mem_append.1 hm with hm | hm
      · exact h w (by simp) hm
      · rcases List.mem_cons.1 hm with hm | hm
        · exact hc hm
        · exact ih (fun x hx => h x (List.mem_cons_of_mem _ hx)) hm

section
variable {α : Type} (p : List UInt8 → Option α)
/-- What lines come to: the number of the first that is none, or all. -/
def readG : List (List UInt8) → Nat ⊕ List α
  | [] => .inr []
  | x :: xs => match xs with
    | [] => if x = [] then .inr [] else .inl 1
    | _ :: _ => match p x with
      | none => .inl 1
      | some m => match readG xs with
        | .inl n => .inl (n + 1)
        | .inr l => .inr (m :: l)
/-- What stands in front of a result. -/
def behind (ms : List α) : Nat ⊕ List α → Nat ⊕ List α
  | .inl n => .inl (ms.length + n)
  | .inr l => .inr (ms ++ l)
def readT (t : List UInt8) : Nat ⊕ List α := readG p (cutW 10 t)
theorem behind_nil (r : Nat ⊕ List α) : behind [] r = r := by cases r <;> simp [behind]
theorem read_none {t : List UInt8} (h : (10 : UInt8) ∉ t) : readT p t = if t = [] then .inr [] else .inl 1 := by
  unfold readT
  rw [cut_one h]
  rfl
theorem read_bad {x t : List UInt8} (h : (10 : UInt8) ∉ x) (hp : p x = none) : readT p (x ++ 10 :: t) = .inl 1 := by
  unfold readT
  rw [cut_app h]
  cases e : cutW 10 t with
  | nil => exact absurd e (cutW_ne _ _)
  | cons y ys => simp only [readG, hp]
theorem read_ok {x t : List UInt8} {m : α} (h : (10 : UInt8) ∉ x) (hp : p x = some m) : readT p (x ++ 10 :: t) = behind [m] (readT p t) := by
  unfold readT
  rw [cut_app h]
  cases e : cutW 10 t with
  | nil => exact absurd e (cutW_ne _ _)
  | cons y ys =>
    rw [readG]
    simp only [hp]
    cases readG p (y :: ys) with
    | inl n => simp [behind]; omega
    | inr l => simp [behind]
theorem behind_app (a b : List α) (r : Nat ⊕ List α) : behind a (behind b r) = behind (a ++ b) r := by
  cases r with
  | inl n => simp [behind]; omega
  | inr l => simp [behind]
/-- Lines that are read one by one. -/
theorem read_lines (line : α → List UInt8) : ∀ l : List α, (∀ m ∈ l, (10 : UInt8) ∉ line m ∧ p (line m) = some m) → readT p (l.flatMap fun m => line m ++ [10]) = .inr l := by
  intro l
  induction l with
  | nil => intro _; rfl
  | cons m l ih =>
    intro h
    have h1 := h m (by simp)
    rw [List.flatMap_cons, List.append_assoc, List.singleton_append, read_ok p h1.1 h1.2, ih (fun x hx => h x (List.mem_cons_of_mem _ hx))]
    rfl
end
end Go.Proofs.YtmkcooamgojbpaaDoor.Words
