/- Parts of the proof: SplitF, ReadF, NumF, SplitG. -/
import Derived.Lib.SplitLaws
import Derived.Lib.Join
import Derived.Test.YtmkcooamgojbpaaDoorPart18

/- Words of a line: plain lists of bytes; the shelf's split is this one. -/
namespace Go.Proofs.YtmkcooamgojbpaaDoor.Words
open Go.Lib
set_option linter.unusedVariables false

/-- A line's words: what stands between its blanks. -/
def cutW (b : UInt8) : List UInt8 → List (List UInt8)
  | [] => [[]]
  | c :: l => if c = b then [] :: cutW b l else match cutW b l with
    | w :: ws => (c :: w) :: ws
    | [] => [[c]]
def joinW (b : UInt8) : List (List UInt8) → List UInt8
  | [] => []
  | [w] => w
  | w :: v :: ws => w ++ b :: joinW b (v :: ws)
theorem cutW_ne (b : UInt8) (l : List UInt8) : cutW b l ≠ [] := by
  cases l with
  | nil => simp [cutW]
  | cons c l => unfold cutW; split; simp; split <;> simp
theorem join_cons {b : UInt8} {w : List UInt8} {ws : List (List UInt8)} (h : ws ≠ []) : joinW b (w :: ws) = w ++ b :: joinW b ws := by
  cases ws with
  | nil => exact absurd rfl h
  | cons v ws => rfl
theorem cut_cons {b c : UInt8} {l w : List UInt8} {ws : List (List UInt8)} (h : c ≠ b) (e : cutW b l = w :: ws) : cutW b (c :: l) = (c :: w) :: ws := by
  rw [cutW, if_neg h, e]
theorem cut_sep (b : UInt8) (l : List UInt8) : cutW b (b :: l) = [] :: cutW b l := by rw [cutW, if_pos rfl]
theorem join_cut (b : UInt8) (l : List UInt8) : joinW b (cutW b l) = l := by
  induction l with
  | nil => rfl
  | cons c l ih =>
    by_cases h : c = b
    · subst h
      rw [cut_sep, join_cons (cutW_ne _ _), ih, List.nil_append]
    · cases e : cutW b l with
      | nil => exact absurd e (cutW_ne _ _)
      | cons w ws =>
        rw [cut_cons h e]
        rw [e] at ih
        cases ws with
        | nil => simp only [joinW] at ih ⊢; rw [ih]
        | cons v ws => rw [join_cons (by simp)] at ih ⊢; rw [List.cons_append, ih]
theorem cut_clean (b : UInt8) (l : List UInt8) : ∀ w ∈ cutW b l, b ∉ w := by
  induction l with
  | nil => intro w hw; simp [cutW] at hw; subst hw; simp
  | cons c l ih =>
    intro w hw
    by_cases h : c = b
    · subst h
      rw [cut_sep] at hw
      rcases List.mem_cons.1 hw with rfl | hw
      · simp
      · exact ih w hw
    · cases e : cutW b l with
      | nil => exact absurd e (cutW_ne _ _)
      | cons v ws =>
        rw [cut_cons h e] at hw
        rw [e] at ih
        rcases List.mem_cons.1 hw with rfl | hw
        · have := ih v List.mem_cons_self
          intro hm
          rcases List.mem_cons.1 hm with hm | hm
          · exact h hm.symm
          · exact this hm
        · exact ih w (List.mem_cons_of_mem _ hw)
theorem cut_app {b : UInt8} : ∀ {w : List UInt8}, b ∉ w → ∀ l, cutW b (w ++ b :: l) = w :: cutW b l := by
  intro w
  induction w with
  | nil => intro _ l; exact cut_sep b l
  | cons c w ih =>
    intro h l
    have h1 : c ≠ b := fun e => h (by simp [e])
    rw [List.cons_append, cut_cons h1 (ih (fun hm => h (List.mem_cons_of_mem _ hm)) l)]
theorem cut_one {b : UInt8} : ∀ {w : List UInt8}, b ∉ w → cutW b w = [w] := by
  intro w
  induction w with
  | nil => intro _; rfl
  | cons c w ih =>
    intro h
    have h1 : c ≠ b := fun e => h (by simp [e])
    rw [cut_cons h1 (ih (fun hm => h (List.mem_cons_of_mem _ hm)))]
theorem cut_join {b : UInt8} : ∀ {ws : List (List UInt8)}, ws ≠ [] → (∀ w ∈ ws, b ∉ w) → cutW b (joinW b ws) = ws := by
  intro ws
  induction ws with
  | nil => intro h; exact absurd rfl h
  | cons w ws ih =>
    intro _ h
    cases ws with
    | nil => exact cut_one (h w (by simp))
    | cons v ws =>
      rw [join_cons (by simp), cut_app (h w (by simp)), ih (by simp) (fun x hx => h x (List.mem_cons_of_mem _ hx))]
theorem cut_inj {b : UInt8} {l m : List UInt8} (h : cutW b l = cutW b m) : l = m := by rw [← join_cut b l, ← join_cut b m, h]
theorem cut_len (b : UInt8) (l : List UInt8) : (cutW b l).length = l.count b + 1 := by
  induction l with
  | nil => rfl
  | cons c l ih =>
    by_cases h : c = b
    · subst h; rw [cut_sep]; simp [ih]
    · cases e : cutW b l with
      | nil => exact absurd e (cutW_ne _ _)
      | cons w ws =>
        rw [cut_cons h e]
        rw [e] at ih
        rw [List.count_cons_of_ne h]
        simpa using ih
/-- The kit's intercalate. -/
theorem lib_join (b : UInt8) : ∀ ws : List (List UInt8), Lib.join ws [b] = joinW b ws := by
  intro ws
  induction ws with
  | nil => rfl
  | cons w ws ih =>
    cases ws with
    | nil => simp [Lib.join, joinW, List.intercalate]
    | cons v ws =>
      rw [join_cons (by simp), ← ih]
      simp [Lib.join, List.intercalate, List.intersperse]
/-- The kit's index at one byte. -/
theorem index_miss {b : UInt8} : ∀ {l : List UInt8}, b ∉ l → Lib.index l [b] = -1 := by
  intro l h
  rcases index_spec l [b] with ⟨h1, _⟩ | ⟨i, h1, h2, h3, _⟩
  · exact h1
  · exfalso
    simp only [occAt] at h3
    have : b ∈ l := by
      have h4 : [b].isPrefixOf (l.drop i) = true := h3
      cases hd : l.drop i with
      | nil => rw [hd] at h4; simp at h4
      | cons a t =>
        rw [hd] at h4
        have : b = a := by simpa using h4
        subst this
        exact List.mem_of_mem_drop (by rw [hd]; simp)
    exact h this
theorem index_app {b : UInt8} : ∀ {w : List UInt8}, b ∉ w → ∀ l, Lib.index (w ++ b :: l) [b] = w.length := by
  intro w
  induction w with
  | nil => intro _ l; simp [Lib.index, List.isPrefixOf]
  | cons c w ih =>
    intro h l
    have h1 : c ≠ b := fun e => h (by simp [e])
    have := ih (fun hm => h (List.mem_cons_of_mem _ hm)) l
    rw [List.cons_append]
    unfold Lib.index
    rw [this]
    have hp : ([b].isPrefixOf (c :: (w ++ b :: l))) = false := by
      have : (b == c) = false := beq_eq_false_iff_ne.2 (Ne.symm h1)
      simp [List.isPrefixOf, this]
    rw [hp]
    have : (((w.length : Nat) : Int) == -1) = false := by rw [beq_eq_false_iff_ne]; omega
    simp [this]
theorem part_at (b : UInt8) : ∀ l : List UInt8, b ∉ l ∨ ∃ w m, b ∉ w ∧ l = w ++ b :: m := by
  intro l
  induction l with
  | nil => exact .inl (by simp)
  | cons c l ih =>
    by_cases h : c = b
    · subst h; exact .inr ⟨[], l, by simp, rfl⟩
    · rcases ih with ih | ⟨w, m, h1, rfl⟩
      · exact .inl (fun hm => by rcases List.mem_cons.1 hm with hm | hm; exact h hm.symm; exact ih hm)
      · exact .inr ⟨c :: w, m, fun hm => by rcases List.mem_cons.1 hm with hm | hm; exact h hm.symm; exact h1 hm, rfl⟩
theorem splitK_cut (b : UInt8) : ∀ (k : Nat) (l : List UInt8), l.count b ≤ k → splitK [b] 0 k l = cutW b l := by
  intro k
  induction k with
  | zero =>
    intro l h
    have : b ∉ l := fun hm => by have := List.count_pos_iff.2 hm; omega
    rw [cut_one this]
    rfl
  | succ k ih =>
    intro l h
    rcases part_at b l with hn | ⟨w, m, hw, rfl⟩
    · rw [cut_one hn]
      unfold splitK
      rw [if_pos (by rw [index_miss hn]; rfl)]
    · rw [cut_app hw]
      unfold splitK
      have hne : ¬ (Lib.index (w ++ b :: m) [b] == -1) = true := by
        rw [index_app hw]
        intro e
        have := beq_iff_eq.1 e
        omega
      rw [if_neg hne, index_app hw]
      have e1 : (((w.length : Nat) : Int)).toNat = w.length := by omega
      rw [e1]
      congr 1
      · simp
      · rw [show w.length + [b].length = w.length + 1 from rfl, show (w ++ b :: m).drop (w.length + 1) = m by simp [List.drop_append]]
        refine ih m ?_
        rw [List.count_append, List.count_cons_self] at h
        omega
theorem split_cut (b : UInt8) (l : List UInt8) : Lib.split l [b] = cutW b l := by
  unfold Lib.split
  rw [count_one]
  exact splitK_cut b _ l (Nat.le_refl _)
end Go.Proofs.YtmkcooamgojbpaaDoor.Words

/- A text's lines, each read by itself: plain. -/
namespace Go.Proofs.YtmkcooamgojbpaaDoor.Words
open Go.Proofs.YtmkcooamgojbpaaDoor.Dec
set_option linter.unusedVariables false

/-- A line's words; an empty one has none. -/
def splitW (l : List UInt8) : List (List UInt8) := if l = [] then [] else cutW 32 l
theorem join_split (l : List UInt8) : joinW 32 (splitW l) = l := by
  unfold splitW
  split
  · rename_i h; subst h; rfl
  · exact join_cut 32 l
theorem split_join {ws : List (List UInt8)} (h2 : 2 ≤ ws.length) (h : ∀ w ∈ ws, (32 : UInt8) ∉ w) : splitW (joinW 32 ws) = ws := by
  have hc : cutW 32 (joinW 32 ws) = ws := cut_join (by intro e; subst e; simp at h2) h
  unfold splitW
  rw [if_neg, hc]
  intro e
  rw [e] at hc
  rw [← hc] at h2
  simp [cutW] at h2
theorem dig_free {b : UInt8} (hb : isDg b = false) {l : List UInt8} (h : Canon l) : b ∉ l := fun hm => by rw [h.dig b hm] at hb; cases hb
theorem dec_free {b : UInt8} (hb : isDg b = false) (h45 : b ≠ 45) (n : Int) : b ∉ decB n := by
  unfold decB
  split
  · intro hm
    rcases List.mem_cons.1 hm with hm | hm
    · exact h45 hm
    · exact dig_free hb (canon_decN _).1 hm
  · exact dig_free hb (canon_decN _).1
theorem dec_32 (n : Int) : (32 : UInt8) ∉ decB n := dec_free (by decide) (by decide) n
theorem dec_10 (n : Int) : (10 : UInt8) ∉ decB n := dec_free (by decide) (by decide) n
theorem decN_len : ∀ (k n : Nat), n < 10 ^ (k + 1) → (decN n).length ≤ k + 1 := by
  intro k
  induction k with
  | zero =>
    intro n h
    unfold decN
    rw [if_pos (by simpa using h)]
    simp
  | succ k ih =>
    intro n h
    unfold decN
    split
    · simp
    · have := ih (n / 10) (by rw [Nat.div_lt_iff_lt_mul (by decide)]; rw [Nat.pow_succ] at h; omega)
      simp only [List.length_append, List.length_cons, List.length_nil]
      omega
theorem dec_len {n : Int} (h1 : -9223372036854775808 ≤ n) (h2 : n ≤ 9223372036854775807) : (decB n).length ≤ 20 := by
  unfold decB
  have := decN_len 18 n.natAbs (by rw [show (10:Nat) ^ 19 = 10000000000000000000 by decide]; omega)
  split
  · simp only [List.length_cons]; omega
  · omega
theorem dec_ne (n : Int) : decB n ≠ [] := by
  unfold decB
  split
  · simp
  · exact (canon_decN _).1.ne
theorem mem_join {b c : UInt8} (hc : c ≠ b) : ∀ {ws : List (List UInt8)}, (∀ w ∈ ws, c ∉ w) → c ∉ joinW b ws := by
  intro ws
  induction ws with
  | nil => intro _; simp [joinW]
  | cons w ws ih =>
    intro h
    cases ws with
    | nil => exact h w (by simp)
    | cons v ws =>
      rw [join_cons (by simp)]
      intro hm
      rcases List.mem_append.1 hm with hm | hm
      · exact h w (by simp) hm
      · rcases List.mem_cons.1 hm with hm | hm
        · exact hc hm
        · exact ih (fun x hx => h x (List.mem_cons_of_mem _ hx)) hm

section
variable {α : Type} (p : List UInt8 → Option α)
/-- What lines come to: the number of the first that is none, or all. -/
def readG : List (List UInt8) → Nat ⊕ List α
  | [] => .inr []
  | x :: xs => match xs with
    | [] => if x = [] then .inr [] else .inl 1
    | _ :: _ => match p x with
      | none => .inl 1
      | some m => match readG xs with
        | .inl n => .inl (n + 1)
        | .inr l => .inr (m :: l)
/-- What stands in front of a result. -/
def behind (ms : List α) : Nat ⊕ List α → Nat ⊕ List α
  | .inl n => .inl (ms.length + n)
  | .inr l => .inr (ms ++ l)
def readT (t : List UInt8) : Nat ⊕ List α := readG p (cutW 10 t)
theorem behind_nil (r : Nat ⊕ List α) : behind [] r = r := by cases r <;> simp [behind]
theorem read_none {t : List UInt8} (h : (10 : UInt8) ∉ t) : readT p t = if t = [] then .inr [] else .inl 1 := by
  unfold readT
  rw [cut_one h]
  rfl
theorem read_bad {x t : List UInt8} (h : (10 : UInt8) ∉ x) (hp : p x = none) : readT p (x ++ 10 :: t) = .inl 1 := by
  unfold readT
  rw [cut_app h]
  cases e : cutW 10 t with
  | nil => exact absurd e (cutW_ne _ _)
  | cons y ys => simp only [readG, hp]
theorem read_ok {x t : List UInt8} {m : α} (h : (10 : UInt8) ∉ x) (hp : p x = some m) : readT p (x ++ 10 :: t) = behind [m] (readT p t) := by
  unfold readT
  rw [cut_app h]
  cases e : cutW 10 t with
  | nil => exact absurd e (cutW_ne _ _)
  | cons y ys =>
    rw [readG]
    simp only [hp]
    cases readG p (y :: ys) with
    | inl n => simp [behind]; omega
    | inr l => simp [behind]
theorem behind_app (a b : List α) (r : Nat ⊕ List α) : behind a (behind b r) = behind (a ++ b) r := by
  cases r with
  | inl n => simp [behind]; omega
  | inr l => simp [behind]
/-- Lines that are read one by one. -/
theorem read_lines (line : α → List UInt8) : ∀ l : List α, (∀ m ∈ l, (10 : UInt8) ∉ line m ∧ p (line m) = some m) → readT p (l.flatMap fun m => line m ++ [10]) = .inr l := by
  intro l
  induction l with
  | nil => intro _; rfl
  | cons m l ih =>
    intro h
    have h1 := h m (by simp)
    rw [List.flatMap_cons, List.append_assoc, List.singleton_append, read_ok p h1.1 h1.2, ih (fun x hx => h x (List.mem_cons_of_mem _ hx))]
    rfl
end
end Go.Proofs.YtmkcooamgojbpaaDoor.Words

/- What the loops that read a number come to: plain. -/
namespace Go.Proofs.YtmkcooamgojbpaaDoor.Dec
open Go.Proofs.YtmkcooamgojbpaaDoor.Words
set_option linter.unusedVariables false

/-- So far only digits, and not worth too much. -/
def DigsOk (l : List UInt8) : Prop := (∀ c ∈ l, isDg c = true) ∧ valN l ≤ 9223372036854775808
theorem good_nil : DigsOk [] := ⟨fun c h => absurd h List.not_mem_nil, by decide⟩
theorem good_next {l : List UInt8} {k : Nat} (h : k < l.length) (hg : DigsOk (l.take k)) (h1 : 48 ≤ l[k].toNat) (h2 : l[k].toNat ≤ 57) (h3 : valN (l.take k) * 10 + (l[k].toNat - 48) ≤ 9223372036854775808) : DigsOk (l.take (k + 1)) := by
  refine ⟨fun c hc => ?_, by rw [val_next h]; exact h3⟩
  rw [List.take_succ_eq_append_getElem h] at hc
  rcases List.mem_append.1 hc with hc | hc
  · exact hg.1 c hc
  · rw [List.mem_singleton] at hc
    subst hc
    simp [isDg, h1, h2]
theorem good_not_dig {l : List UInt8} {k : Nat} (h : k < l.length) (hd : l[k].toNat < 48 ∨ 57 < l[k].toNat) : ¬ DigsOk l := fun hg => by
  have := hg.1 l[k] (List.getElem_mem h)
  simp only [isDg, Bool.and_eq_true, decide_eq_true_eq] at this
  omega
theorem good_not_big {l : List UInt8} {k : Nat} (h : k < l.length) (hd : 9223372036854775808 < valN (l.take k) * 10 + (l[k].toNat - 48)) : ¬ DigsOk l := fun hg => by
  have h1 := val_take l (k + 1)
  rw [val_next h] at h1
  have := hg.2
  omega
/-- A number's sign, and the rest. -/
structure Part (s : List UInt8) (m : Bool) (t : List UInt8) : Prop where
  yes : m = true → s = 45 :: t
  no : m = false → s = t ∧ s.head? ≠ some 45
theorem part_of (s : List UInt8) : ∃ m t, Part s m t := by
  cases s with
  | nil => exact ⟨false, [], fun h => absurd h (by decide), fun _ => ⟨rfl, by simp⟩⟩
  | cons c s =>
    by_cases h : c = 45
    · subst h; exact ⟨true, s, fun _ => rfl, fun h => (by cases h)⟩
    · exact ⟨false, c :: s, fun h => absurd h (by decide), fun _ => ⟨rfl, by simp [h]⟩⟩
theorem numF_part {s t : List UInt8} {m : Bool} (h : Part s m t) : numF s =
    if m = true then (if decN (valN t) = t ∧ 1 ≤ valN t ∧ valN t ≤ 9223372036854775808 then some (-(valN t : Int)) else none)
    else if decN (valN t) = t ∧ valN t ≤ 9223372036854775807 then some (valN t : Int) else none := by
  cases m with
  | true =>
    have := h.yes rfl
    subst this
    unfold numF
    rw [if_pos (by simp), if_pos rfl]
    rfl
  | false =>
    obtain ⟨rfl, h2⟩ := h.no rfl
    unfold numF
    rw [if_neg h2]
    rfl
theorem numF_bad {s t : List UInt8} {m : Bool} (h : Part s m t) (hg : ¬ DigsOk t) : numF s = none := by
  rw [numF_part h]
  have key : decN (valN t) = t → valN t ≤ 9223372036854775808 → False := fun h1 h2 => hg ⟨((canon_iff t).1 h1).dig, h2⟩
  split
  · rw [if_neg]; rintro ⟨h1, -, h2⟩; exact key h1 h2
  · rw [if_neg]; rintro ⟨h1, h2⟩; exact key h1 (by omega)
theorem numF_nil {s : List UInt8} {m : Bool} (h : Part s m []) : numF s = none := by
  rw [numF_part h]
  have : ¬ decN (valN []) = ([] : List UInt8) := by decide +kernel
  split <;> rw [if_neg] <;> rintro ⟨h1, -⟩ <;> exact this h1
theorem numF_zero {s t : List UInt8} {m : Bool} (h : Part s m t) (h1 : 1 < t.length) (h2 : t.head? = some 48) : numF s = none := by
  rw [numF_part h]
  have : ¬ decN (valN t) = t := fun e => ((canon_iff t).1 e).head h1 h2
  split <;> rw [if_neg] <;> rintro ⟨h1, -⟩ <;> exact this h1
theorem numF_minus0 {s : List UInt8} (h : Part s true [48]) : numF s = none := by
  rw [numF_part h, if_pos rfl, if_neg]
  rintro ⟨-, h1, -⟩
  exact absurd h1 (by decide)
theorem canon_of {t : List UInt8} (hg : DigsOk t) (hne : t ≠ []) (hz : 1 < t.length → t.head? ≠ some 48) : decN (valN t) = t := (canon_iff t).2 ⟨hne, hg.1, hz⟩
theorem numF_neg {s t : List UInt8} (h : Part s true t) (hg : DigsOk t) (hne : t ≠ []) (hz : 1 < t.length → t.head? ≠ some 48) (h0 : t ≠ [48]) : numF s = some (-(valN t : Int)) := by
  have h1 : 1 ≤ valN t := by
    refine val_pos _ t rfl hne hg.1 ?_
    cases t with
    | nil => exact absurd rfl hne
    | cons a l =>
      cases l with
      | nil => intro e; simp at e; subst e; exact h0 rfl
      | cons b l => exact hz (by simp)
  rw [numF_part h, if_pos rfl, if_pos ⟨canon_of hg hne hz, h1, hg.2⟩]
theorem numF_pos {s t : List UInt8} (h : Part s false t) (hg : DigsOk t) (hne : t ≠ []) (hz : 1 < t.length → t.head? ≠ some 48) (h1 : valN t ≤ 9223372036854775807) : numF s = some (valN t : Int) := by
  rw [numF_part h, if_neg (by decide), if_pos ⟨canon_of hg hne hz, h1⟩]
theorem numF_big {s t : List UInt8} (h : Part s false t) (h1 : valN t = 9223372036854775808) : numF s = none := by
  rw [numF_part h, if_neg (by decide), if_neg (by omega)]
theorem numF_long {s : List UInt8} (h : s = [] ∨ 20 < s.length) : numF s = none := by
  cases e : numF s with
  | none => rfl
  | some n =>
    obtain ⟨h1, h2, h3⟩ := (numF_iff s n).1 e
    have h4 := dec_len h2 h3
    have h5 := dec_ne n
    rw [← h1] at h4 h5
    rcases h with h | h
    · exact absurd h h5
    · omega
/-- The document's: what was read, spelled again. -/
theorem numF_again {s : List UInt8} {n : Int} (h1 : -9223372036854775808 ≤ n) (h2 : n ≤ 9223372036854775807) (h : decB n = s) : numF s = some n := (numF_iff s n).2 ⟨h.symm, h1, h2⟩
theorem numF_other {s t : List UInt8} {m : Bool} {n : Int} (h : Part s m t) (hn : n = if m = true then -(valN t : Int) else (valN t : Int)) (hne : decB n ≠ s) : numF s = none := by
  cases e : numF s with
  | none => rfl
  | some k =>
    exfalso
    have hk := (numF_iff s k).1 e
    rw [numF_part h] at e
    have : k = n := by
      split at e
      · rename_i hm
        rw [if_pos hm] at hn
        split at e
        · injection e with e; omega
        · cases e
      · rename_i hm
        rw [if_neg hm] at hn
        split at e
        · injection e with e; omega
        · cases e
    subst this
    exact hne hk.1.symm
end Go.Proofs.YtmkcooamgojbpaaDoor.Dec

/- Words, byte by byte: plain. -/
namespace Go.Proofs.YtmkcooamgojbpaaDoor.Words
set_option linter.unusedVariables false

theorem cut_snoc_sep (b : UInt8) (l : List UInt8) : cutW b (l ++ [b]) = cutW b l ++ [[]] := by
  induction l with
  | nil => simp [cutW]
  | cons c l ih =>
    by_cases h : c = b
    · subst h; rw [List.cons_append, cut_sep, cut_sep, ih]; rfl
    · cases e : cutW b l with
      | nil => exact absurd e (cutW_ne _ _)
      | cons w ws =>
        rw [e] at ih
        rw [List.cons_append, cut_cons h ih, cut_cons h e]; rfl
theorem cut_snoc {b c : UInt8} (h : c ≠ b) (l : List UInt8) : ∃ ws w, cutW b l = ws ++ [w] ∧ cutW b (l ++ [c]) = ws ++ [w ++ [c]] := by
  induction l with
  | nil => exact ⟨[], [], rfl, by simp [cutW, h]⟩
  | cons a l ih =>
    obtain ⟨ws, w, h1, h2⟩ := ih
    by_cases ha : a = b
    · subst ha
      exact ⟨[] :: ws, w, by rw [cut_sep, h1]; rfl, by rw [List.cons_append, cut_sep, h2]; rfl⟩
    · cases ws with
      | nil => exact ⟨[], a :: w, cut_cons ha h1, by rw [List.cons_append, cut_cons ha h2]; rfl⟩
      | cons v ws => exact ⟨(a :: v) :: ws, w, cut_cons ha h1, by rw [List.cons_append, cut_cons ha h2]; rfl⟩
theorem split_len (l : List UInt8) : (splitW l).length ≤ l.length + 1 := by
  unfold splitW
  split
  · simp
  · rw [cut_len]; have := List.count_le_length (a := (32 : UInt8)) (l := l); omega
theorem cut_bytes (b : UInt8) (l : List UInt8) : ∀ w ∈ cutW b l, w.length ≤ l.length := by
  induction l with
  | nil => intro w hw; simp [cutW] at hw; subst hw; simp
  | cons c l ih =>
    intro w hw
    by_cases h : c = b
    · subst h
      rw [cut_sep] at hw
      rcases List.mem_cons.1 hw with rfl | hw
      · simp
      · have := ih w hw; simp; omega
    · cases e : cutW b l with
      | nil => exact absurd e (cutW_ne _ _)
      | cons v ws =>
        rw [cut_cons h e] at hw
        rw [e] at ih
        rcases List.mem_cons.1 hw with rfl | hw
        · have := ih v (by simp); simp; omega
        · have := ih w (List.mem_cons_of_mem _ hw); simp; omega
theorem split_bytes (l : List UInt8) : ∀ w ∈ splitW l, w.length ≤ l.length := by
  unfold splitW
  split
  · intro w hw; cases hw
  · exact cut_bytes 32 l
end Go.Proofs.YtmkcooamgojbpaaDoor.Words
