/- Parts of the proof: RepF. -/
import Derived.Test.YtmkcooamgojbpaaDoorPart19
import Derived.Test.YtmkcooamgojbpaaDoorPart9

/- Messages as text: plain. -/
namespace Go.Proofs.YtmkcooamgojbpaaDoor.Reports
open Go.Proofs.YtmkcooamgojbpaaDoor.Dec Go.Proofs.YtmkcooamgojbpaaDoor.Words Go.Proofs.YtmkcooamgojbpaaDoor.Msgs Go.Proofs.YtmkcooamgojbpaaDoor.Open
set_option linter.unusedVariables false

abbrev Tok := List UInt8
def kindsF : List Tok := [[], [97, 99, 107], [114, 101, 106, 101, 99, 116], [116, 114, 97, 100, 101], [100, 111, 110, 101], [98, 97, 110, 100, 115], [115, 116, 97, 116, 117, 115], [114, 101, 115, 116, 114, 105, 99, 116], [101, 120, 116, 101, 110, 100], [108, 101, 118, 101, 108]]
def wordK (k : Int) : Tok := if 1 ≤ k ∧ k ≤ 9 then (kindsF[k.toNat]?).getD [] else []
def kindF (w : Tok) : Int := ((kindsF.findIdx? (· == w)).getD 0 : Nat)
theorem kind_word (w : Tok) (h : 1 ≤ kindF w) : wordK (kindF w) = w := by
  unfold kindF at h ⊢
  cases e : kindsF.findIdx? (· == w) with
  | none => rw [e] at h; simp at h
  | some i =>
    rw [e] at h
    obtain ⟨h1, h2, _⟩ := List.findIdx?_eq_some_iff_getElem.1 e
    have h3 : kindsF.length = 10 := rfl
    have h4 : kindsF[i] = w := beq_iff_eq.1 h2
    simp only [Option.getD_some] at h ⊢
    unfold wordK
    rw [if_pos (by omega), Int.toNat_natCast, List.getElem?_eq_getElem h1, h4]
    rfl
theorem kind_le (w : Tok) : 0 ≤ kindF w ∧ kindF w ≤ 9 := by
  unfold kindF
  cases e : kindsF.findIdx? (· == w) with
  | none => simp
  | some i =>
    obtain ⟨h1, _, _⟩ := List.findIdx?_eq_some_iff_getElem.1 e
    have h3 : kindsF.length = 10 := rfl
    simp only [Option.getD_some]
    omega
theorem cases9 {k : Int} (h : 1 ≤ k ∧ k ≤ 9) : k = 1 ∨ k = 2 ∨ k = 3 ∨ k = 4 ∨ k = 5 ∨ k = 6 ∨ k = 7 ∨ k = 8 ∨ k = 9 := by omega
theorem word_kind {k : Int} (h : 1 ≤ k ∧ k ≤ 9) : kindF (wordK k) = k := by
  rcases cases9 h with rfl | rfl | rfl | rfl | rfl | rfl | rfl | rfl | rfl <;> decide
theorem word_free {k : Int} : (32 : UInt8) ∉ wordK k ∧ (10 : UInt8) ∉ wordK k ∧ (wordK k).length ≤ 8 := by
  unfold wordK
  split
  · rename_i h
    rcases cases9 h with rfl | rfl | rfl | rfl | rfl | rfl | rfl | rfl | rfl <;> decide
  · decide
def rightM (m : Msg) : Bool := decide (1 ≤ m.kind ∧ m.kind ≤ 9) && (decide (0 ≤ m.sym ∧ m.sym ≤ 255) && (decide (0 ≤ m.code ∧ m.code ≤ 255) && (decide (0 ≤ m.seq ∧ m.seq ≤ 4611686018427387904) && (decide (0 ≤ m.tick ∧ m.tick ≤ 4611686018427387904) && (decide (-1 ≤ m.id ∧ m.id ≤ 4611686018427387904) && decide (-1 ≤ m.wth ∧ m.wth ≤ 4611686018427387904))))))
def toksM (m : Msg) : List Tok := [decB m.seq, decB m.tick, decB m.sym, wordK m.kind, decB m.id, decB m.wth, decB m.price, decB m.qty, decB m.code]
def lineM (m : Msg) : Tok := joinW 32 (toksM m)
/-- The message of nine words. -/
def msgW (a b c d e f g h i : Tok) : Msg := ⟨kindF d, (numF c).getD 0, (numF a).getD 0, (numF b).getD 0, (numF e).getD 0, (numF f).getD 0, (numF g).getD 0, (numF h).getD 0, (numF i).getD 0⟩
def numsOk (l : List Tok) : Bool := l.all fun w => (numF w).isSome
def parseW : List Tok → Option Msg
  | [a, b, c, d, e, f, g, h, i] => if numsOk [a, b, c, e, f, g, h, i] = true ∧ rightM (msgW a b c d e f g h i) = true then some (msgW a b c d e f g h i) else none
  | _ => none
def parseM (l : Tok) : Option Msg := parseW (splitW l)
/-- As the document has it. -/
def guessW (l : Tok) : List Tok → Option Msg
  | [a, b, c, d, e, f, g, h, i] => if rightM (msgW a b c d e f g h i) = true ∧ lineM (msgW a b c d e f g h i) = l then some (msgW a b c d e f g h i) else none
  | _ => none
theorem num_some {w : Tok} (h : (numF w).isSome = true) : w = decB ((numF w).getD 0) := by
  cases e : numF w with
  | none => rw [e] at h; cases h
  | some n => exact ((numF_iff w n).1 e).1
theorem toks_free (m : Msg) : ∀ w ∈ toksM m, (32 : UInt8) ∉ w := by
  intro w hw
  simp only [toksM, List.mem_cons, List.not_mem_nil, or_false] at hw
  rcases hw with rfl | rfl | rfl | rfl | rfl | rfl | rfl | rfl | rfl <;> first | exact dec_32 _ | exact word_free.1
theorem toks_free10 (m : Msg) : ∀ w ∈ toksM m, (10 : UInt8) ∉ w := by
  intro w hw
  simp only [toksM, List.mem_cons, List.not_mem_nil, or_false] at hw
  rcases hw with rfl | rfl | rfl | rfl | rfl | rfl | rfl | rfl | rfl <;> first | exact dec_10 _ | exact word_free.2.1
theorem line_free (m : Msg) : (10 : UInt8) ∉ lineM m := mem_join (by decide) (toks_free10 m)
theorem split_line (m : Msg) : splitW (lineM m) = toksM m := split_join (by simp [toksM]) (toks_free m)
theorem toks_msg (m : Msg) (hr : rightM m = true) (hf : Fits m) : parseW (toksM m) = some m := by
  obtain ⟨k, s, sq, tk, i, wt, p, q, c⟩ := m
  obtain ⟨h1, h2, h3, h4, h5, h6, h7, h8, h9⟩ := hf
  simp only [in64] at h1 h2 h3 h4 h5 h6 h7 h8 h9
  have hk : 1 ≤ k ∧ k ≤ 9 := by simp only [rightM, Bool.and_eq_true, decide_eq_true_eq] at hr; exact hr.1
  have e : msgW (decB sq) (decB tk) (decB s) (wordK k) (decB i) (decB wt) (decB p) (decB q) (decB c) = ⟨k, s, sq, tk, i, wt, p, q, c⟩ := by
    unfold msgW
    rw [word_kind hk, numF_dec (n := sq) (by omega) (by omega), numF_dec (n := tk) (by omega) (by omega), numF_dec (n := s) (by omega) (by omega), numF_dec (n := i) (by omega) (by omega), numF_dec (n := wt) (by omega) (by omega), numF_dec (n := p) (by omega) (by omega), numF_dec (n := q) (by omega) (by omega), numF_dec (n := c) (by omega) (by omega)]
    rfl
  show (if _ then _ else _) = _
  rw [e, if_pos]
  refine ⟨?_, hr⟩
  simp only [numsOk, List.all_cons, List.all_nil]
  rw [numF_dec (n := sq) (by omega) (by omega), numF_dec (n := tk) (by omega) (by omega), numF_dec (n := s) (by omega) (by omega), numF_dec (n := i) (by omega) (by omega), numF_dec (n := wt) (by omega) (by omega), numF_dec (n := p) (by omega) (by omega), numF_dec (n := q) (by omega) (by omega), numF_dec (n := c) (by omega) (by omega)]
  rfl
theorem parse_line {m : Msg} (hr : rightM m = true) (hf : Fits m) : parseM (lineM m) = some m := by
  unfold parseM
  rw [split_line, toks_msg m hr hf]
theorem parse_sound {l : Tok} {m : Msg} (h : parseM l = some m) : rightM m = true ∧ lineM m = l ∧ guessW l (splitW l) = some m := by
  unfold parseM at h
  have hj := join_split l
  match e : splitW l, h with
  | [a, b, c, d, x, f, g, y, i], h =>
    rw [e] at hj
    rw [parseW] at h
    split at h
    · rename_i hc
      injection h with h
      obtain ⟨hn, hr⟩ := hc
      simp only [numsOk, List.all_cons, List.all_nil, Bool.and_eq_true] at hn
      obtain ⟨n1, n2, n3, n5, n6, n7, n8, n9, -⟩ := hn
      have hk : 1 ≤ kindF d := by
        have h0 := hr
        simp only [rightM, msgW, Bool.and_eq_true] at h0
        exact (of_decide_eq_true h0.1).1
      have hl : lineM (msgW a b c d x f g y i) = l := by
        rw [← hj]
        unfold lineM toksM msgW
        dsimp only
        rw [← num_some n1, ← num_some n2, ← num_some n3, ← num_some n5, ← num_some n6, ← num_some n7, ← num_some n8, ← num_some n9, kind_word d hk]
      subst h
      refine ⟨hr, hl, ?_⟩
      unfold guessW
      exact if_pos ⟨hr, hl⟩
    · cases h
theorem fits_msgW (a b c d e f g h i : Tok) : Fits (msgW a b c d e f g h i) := by
  have hn : ∀ w : Tok, in64 ((numF w).getD 0) := fun w => by
    cases e : numF w with
    | none => simp [in64]
    | some n => have := (numF_iff w n).1 e; simp [in64]; omega
  have hk := kind_le d
  exact ⟨by simp only [msgW, in64]; omega, hn _, hn _, hn _, hn _, hn _, hn _, hn _, hn _⟩
theorem guess_eq (l : Tok) : guessW l (splitW l) = parseM l := by
  cases e : parseM l with
  | some m => exact (parse_sound e).2.2
  | none =>
    cases g : guessW l (splitW l) with
    | none => rfl
    | some m =>
      exfalso
      match hs : splitW l, g with
      | [a, b, c, d, x, f, g, y, i], h =>
        rw [guessW] at h
        split at h
        · rename_i hc
          have := parse_line hc.1 (fits_msgW a b c d x f g y i)
          rw [hc.2, e] at this
          cases this
        · cases h
theorem parse_fits {l : Tok} {m : Msg} (h : parseM l = some m) : Fits m := by
  unfold parseM at h
  match e : splitW l, h with
  | [a, b, c, d, x, f, g, y, i], h =>
    rw [parseW] at h
    split at h
    · injection h with h; subst h; exact fits_msgW _ _ _ _ _ _ _ _ _
    · cases h
theorem line_len {m : Msg} (hf : Fits m) : (lineM m).length ≤ 200 := by
  obtain ⟨h1, h2, h3, h4, h5, h6, h7, h8, h9⟩ := hf
  simp only [in64] at h1 h2 h3 h4 h5 h6 h7 h8 h9
  have hw := (word_free (k := m.kind)).2.2
  have d : ∀ n : Int, -9223372036854775808 ≤ n → n ≤ 9223372036854775807 → (decB n).length ≤ 20 := fun n a b => dec_len a b
  have := d m.seq (by omega) (by omega)
  have := d m.tick (by omega) (by omega)
  have := d m.sym (by omega) (by omega)
  have := d m.id (by omega) (by omega)
  have := d m.wth (by omega) (by omega)
  have := d m.price (by omega) (by omega)
  have := d m.qty (by omega) (by omega)
  have := d m.code (by omega) (by omega)
  simp only [lineM, toksM, joinW, List.length_append, List.length_cons]
  omega
/-- A text of messages: none, if one is not right. -/
def textM (l : List Msg) : Option Tok := if l.all rightM = true then some (l.flatMap fun m => lineM m ++ [10]) else none
theorem read_text {l : List Msg} {t : Tok} (h : textM l = some t) (hf : ∀ m ∈ l, Fits m) : readT parseM t = .inr l := by
  unfold textM at h
  split at h
  · rename_i hr
    injection h with h
    subst h
    exact read_lines parseM lineM l (fun m hm => ⟨line_free m, parse_line (List.all_eq_true.1 hr m hm) (hf m hm)⟩)
  · cases h
end Go.Proofs.YtmkcooamgojbpaaDoor.Reports
