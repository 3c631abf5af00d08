/- Parts of the proof: ShF, ShT, ShNat. -/
import Derived.Test.YtmkcooamgojbpaaGreatDoorPart6
import Derived.Test.YtmkcooamgojbpaaGreatDoorPart3

/- Sheets as plain functions: a part's numbers of a line, a row, a symbol, a configuration of a text. -/
namespace Go.Proofs.YtmkcooamgojbpaaGreatDoor.Sheet
open Go.Proofs.YtmkcooamgojbpaaGreatDoor.Dec Go.Proofs.YtmkcooamgojbpaaGreatDoor.Words Go.Proofs.YtmkcooamgojbpaaGreatDoor.Symbol Go.Proofs.YtmkcooamgojbpaaGreatDoor.Check
set_option linter.unusedVariables false

abbrev Txt := List UInt8
def wIndex : Txt := [105, 110, 100, 101, 120]
def wFalls : Txt := [102, 97, 108, 108, 115]
def wHalts : Txt := [104, 97, 108, 116, 115]
def wRow : Txt := [114, 111, 119]
def wSymbol : Txt := [115, 121, 109, 98, 111, 108]
def wClosed : Txt := [99, 108, 111, 115, 101, 100]
def wOpening : Txt := [111, 112, 101, 110, 105, 110, 103]
def wContinuous : Txt := [99, 111, 110, 116, 105, 110, 117, 111, 117, 115]
def valW (x : Txt) : Int := (numF x).getD 0
def posW (x : Txt) : Bool := (numF x).isSome && decide (0 ≤ valW x)
def partW (w : Txt) (n : Nat) : List Txt → Option (List Int)
  | [] => none
  | x :: r => if x = w ∧ r.length = n ∧ r.all posW = true then some (r.map valW) else none
def partF (w : Txt) (n : Nat) (l : Txt) : Option (List Int) := partW w n (splitW l)
def phaseI (w : Txt) : Option Int := if w = wClosed then some 0 else if w = wOpening then some 1 else if w = wContinuous then some 2 else none
def rowW : List Txt → Option (Int × Int)
  | [a, b, c] => if a = wRow ∧ posW b = true then (phaseI c).map fun p => (valW b, p) else none
  | _ => none
def rowF (l : Txt) : Option (Int × Int) := rowW (splitW l)
def symL (n : List Int) : Sym := ⟨n.getD 0 0, n.getD 1 0, n.getD 2 0, n.getD 3 0, n.getD 4 0, n.getD 5 0, n.getD 6 0, n.getD 7 0, n.getD 8 0, n.getD 9 0, n.getD 10 0, n.getD 11 0, n.getD 12 0, n.getD 13 0, n.getD 14 0, n.getD 15 0⟩
def symF (l : Txt) : Option Sym := (partF wSymbol 16 l).map symL
theorem part_len {w : Txt} {n : Nat} {l : Txt} {ns : List Int} (h : partF w n l = some ns) : ns.length = n := by
  unfold partF at h
  cases e : splitW l with
  | nil => rw [e] at h; cases h
  | cons x r =>
    rw [e, partW] at h
    split at h
    · rename_i hc; injection h with h; rw [← h, List.length_map]; exact hc.2.1
    · cases h
theorem part_no {x : Txt} {n : Nat} {l : Txt} (h : (splitW l).length ≠ n + 1) : partF x n l = none := by
  unfold partF
  cases e : splitW l with
  | nil => rfl
  | cons y r =>
    rw [e] at h
    rw [partW, if_neg]
    rintro ⟨-, h2, -⟩
    exact h (by simp [h2])
theorem part_word {x y : Txt} {n : Nat} {l : Txt} {r : List Txt} (e : splitW l = y :: r) (h : y ≠ x) : partF x n l = none := by
  unfold partF
  rw [e, partW, if_neg]
  rintro ⟨h1, -, -⟩
  exact h h1
theorem part_bad {x y : Txt} {n : Nat} {l : Txt} {r : List Txt} (e : splitW l = y :: r) (k : Nat) (hk : k < r.length) (h : posW r[k] = false) : partF x n l = none := by
  unfold partF
  rw [e, partW, if_neg]
  rintro ⟨-, -, h3⟩
  rw [List.all_eq_true.1 h3 _ (List.getElem_mem hk)] at h
  cases h
theorem part_all {x : Txt} {n : Nat} {l : Txt} {r : List Txt} (e : splitW l = x :: r) (hr : r.length = n) (h : ∀ k, (hk : k < r.length) → posW r[k] = true) : partF x n l = some (r.map valW) := by
  unfold partF
  rw [e, partW, if_pos]
  refine ⟨rfl, hr, List.all_eq_true.2 fun y hy => ?_⟩
  obtain ⟨k, hk, rfl⟩ := List.mem_iff_getElem.1 hy
  exact h k hk
theorem pos_none {x : Txt} (h : numF x = none) : posW x = false := by unfold posW; rw [h]; rfl
theorem pos_neg {x : Txt} {n : Int} (h : numF x = some n) (h0 : n < 0) : posW x = false := by unfold posW valW; rw [h]; simp; omega
theorem pos_yes {x : Txt} {n : Int} (h : numF x = some n) (h0 : 0 ≤ n) : posW x = true ∧ valW x = n := by unfold posW valW; rw [h]; simp; omega
/- Rows. -/
theorem split_two {a t : Txt} (h : (32 : UInt8) ∉ a) : splitW (a ++ 32 :: t) = a :: cutW 32 t := by
  unfold splitW
  rw [if_neg (by simp), cut_app h]
theorem row_free : (32 : UInt8) ∉ wRow := by decide
theorem row_no {l : Txt} (h : ∀ t, l ≠ wRow ++ 32 :: t) : rowF l = none := by
  unfold rowF
  match e : splitW l with
  | [] => rfl
  | [_] => rfl
  | [_, _] => rfl
  | _ :: _ :: _ :: _ :: _ => rfl
  | [a, b, c] =>
    rw [rowW, if_neg]
    rintro ⟨rfl, -⟩
    have := join_split l
    rw [e] at this
    exact h (joinW 32 [b, c]) (by rw [← this]; rfl)
theorem row_one {t : Txt} (h : (32 : UInt8) ∉ t) : rowF (wRow ++ 32 :: t) = none := by
  unfold rowF
  rw [split_two row_free, cut_one h]
  rfl
theorem phase_free {p : Txt} {k : Int} (h : phaseI p = some k) : (32 : UInt8) ∉ p := by
  unfold phaseI at h
  split at h
  · rename_i e; subst e; decide
  · split at h
    · rename_i e; subst e; decide
    · split at h
      · rename_i e; subst e; decide
      · cases h
theorem row_two {a p : Txt} (h : (32 : UInt8) ∉ a) : rowF (wRow ++ 32 :: (a ++ 32 :: p)) = if posW a = true then (phaseI p).map (fun k => (valW a, k)) else none := by
  unfold rowF
  rw [split_two row_free, cut_app h]
  by_cases hp : (32 : UInt8) ∈ p
  · have e : phaseI p = none := by
      cases e : phaseI p with
      | none => rfl
      | some k => exact absurd hp (phase_free e)
    rw [e]
    rcases part_at 32 p with h2 | ⟨x, y, hx, rfl⟩
    · exact absurd hp h2
    · rw [cut_app hx]
      cases e2 : cutW 32 y with
      | nil => exact absurd e2 (cutW_ne 32 y)
      | cons u us => simp [rowW]
  · rw [cut_one hp, rowW]
    simp
theorem part_row {a : Txt} (h : (32 : UInt8) ∉ a) : partF wRow 1 (wRow ++ 32 :: a) = if posW a = true then some [valW a] else none := by
  unfold partF
  rw [split_two row_free, cut_one h, partW]
  simp
/- Texts. -/
section
variable {α : Type} (p : Txt → Option α)
/-- Lines, as long as they are taken; the last piece has no line feed behind it. -/
def takeG : List Txt → List α × List Txt
  | [] => ([], [])
  | x :: xs => match xs with
    | [] => ([], [x])
    | y :: ys => match p x with
      | none => ([], x :: y :: ys)
      | some a => (a :: (takeG (y :: ys)).1, (takeG (y :: ys)).2)
theorem take_one (x : Txt) : takeG p [x] = ([], [x]) := rfl
theorem take_no {x y : Txt} {ys : List Txt} (h : p x = none) : takeG p (x :: y :: ys) = ([], x :: y :: ys) := by
  rw [takeG, h]
theorem take_yes {x y : Txt} {ys : List Txt} {a : α} (h : p x = some a) : takeG p (x :: y :: ys) = (a :: (takeG p (y :: ys)).1, (takeG p (y :: ys)).2) := by
  rw [takeG, h]
theorem take_ne : ∀ {l : List Txt}, l ≠ [] → (takeG p l).2 ≠ []
  | [], h => absurd rfl h
  | [x], _ => by simp [takeG]
  | x :: y :: ys, _ => by
    cases h : p x with
    | none => rw [take_no p h]; simp
    | some a => rw [take_yes p h]; exact take_ne (by simp)
end
def oneG (w : Txt) (n : Nat) : List Txt → Option (List Int × List Txt)
  | x :: y :: r => (partF w n x).map fun l => (l, y :: r)
  | _ => none
inductive RRes where
  | bad (n : Nat)
  | wrong (f : Int)
  | good (c : Cfg)
def cfgL (a b c : List Int) (t : List (Int × Int)) (s : List Sym) : Cfg := ⟨s, t, a.getD 0 0, b.getD 0 0, b.getD 1 0, b.getD 2 0, c.getD 0 0, c.getD 1 0⟩
def endF (a b c : List Int) (t : List (Int × Int)) (y : List Sym × List Txt) : RRes :=
  if y.2 = [[]] then (if (checkF (cfgL a b c t y.1)).1 = 0 then .good (cfgL a b c t y.1) else .wrong (checkF (cfgL a b c t y.1)).1)
  else .bad (3 + t.length + y.1.length + 1)
def bodyF (a b c : List Int) (l : List Txt) : RRes := endF a b c (takeG rowF l).1 (takeG symF (takeG rowF l).2)
def readF (s : Txt) : RRes :=
  match oneG wIndex 1 (cutW 10 s) with
  | none => .bad 1
  | some a => match oneG wFalls 3 a.2 with
    | none => .bad 2
    | some b => match oneG wHalts 2 b.2 with
      | none => .bad 3
      | some c => bodyF a.1 b.1 c.1 c.2
end Go.Proofs.YtmkcooamgojbpaaGreatDoor.Sheet

/- The text of a configuration, plain: what is right is read of its text as it was; what is read has just that text. -/
namespace Go.Proofs.YtmkcooamgojbpaaGreatDoor.Sheet
open Go.Proofs.YtmkcooamgojbpaaGreatDoor.Dec Go.Proofs.YtmkcooamgojbpaaGreatDoor.Words Go.Proofs.YtmkcooamgojbpaaGreatDoor.Symbol Go.Proofs.YtmkcooamgojbpaaGreatDoor.Check Go.Proofs.YtmkcooamgojbpaaGreatDoor.All Go.Proofs.YtmkcooamgojbpaaGreatDoor.Table
set_option linter.unusedVariables false

def lineP (w : Txt) (ns : List Int) : Txt := joinW 32 (w :: ns.map decB)
def phaseT (p : Int) : Txt := if p = 0 then wClosed else if p = 1 then wOpening else wContinuous
def rowT (r : Int × Int) : Txt := joinW 32 [wRow, decB r.1, phaseT r.2]
def symT (s : Sym) : Txt := lineP wSymbol s.vals
def linesT (c : Cfg) : List Txt := lineP wIndex [c.index] :: lineP wFalls [c.f0, c.f1, c.f2] :: lineP wHalts [c.h0, c.h1] :: (c.tab.map rowT ++ c.syms.map symT)
def feedT (ls : List Txt) : Txt := ls.flatMap fun x => x ++ [10]
def sheetF (c : Cfg) : Txt := feedT (linesT c)
theorem cut_feed {ls : List Txt} (h : ∀ x ∈ ls, (10 : UInt8) ∉ x) : cutW 10 (feedT ls) = ls ++ [[]] := by
  induction ls with
  | nil => rfl
  | cons x ls ih =>
    rw [feedT, List.flatMap_cons, List.append_assoc, List.singleton_append, cut_app (h x List.mem_cons_self)]
    rw [show List.flatMap (fun x => x ++ [10]) ls = feedT ls from rfl, ih fun y hy => h y (List.mem_cons_of_mem _ hy)]
    rfl
theorem join_feed (ls : List Txt) : joinW 10 (ls ++ [[]]) = feedT ls := by
  induction ls with
  | nil => rfl
  | cons x ls ih =>
    rw [List.cons_append, join_cons (by simp), ih]
    simp [feedT]
def nat64 (n : Int) : Prop := 0 ≤ n ∧ n ≤ 9223372036854775807
theorem pos_dec {n : Int} (h : nat64 n) : posW (decB n) = true ∧ valW (decB n) = n := by
  have e := numF_dec (n := n) (by have := h.1; omega) h.2
  unfold posW valW
  rw [e]
  simp [h.1]
theorem dec_val {x : Txt} (h : posW x = true) : decB (valW x) = x := by
  unfold posW valW at *
  cases e : numF x with
  | none => rw [e] at h; cases h
  | some n => exact ((numF_iff x n).1 e).1.symm
theorem part_line {w : Txt} {ns : List Int} (hw : (32 : UInt8) ∉ w) (h0 : 0 < ns.length) (hn : ∀ n ∈ ns, nat64 n) : partF w ns.length (lineP w ns) = some ns := by
  unfold partF lineP
  rw [split_join (by simp; omega) (by
    intro x hx
    rcases List.mem_cons.1 hx with rfl | hx
    · exact hw
    · obtain ⟨n, -, rfl⟩ := List.mem_map.1 hx
      exact dec_32 n), partW, if_pos]
  · congr 1
    rw [List.map_map]
    conv => rhs; rw [← List.map_id ns]
    exact List.map_congr_left fun n hn' => (pos_dec (hn n hn')).2
  · refine ⟨rfl, by simp, ?_⟩
    rw [List.all_eq_true]
    intro x hx
    obtain ⟨n, hn', rfl⟩ := List.mem_map.1 hx
    exact (pos_dec (hn n hn')).1
theorem line_part {w l : Txt} {n : Nat} {ns : List Int} (h : partF w n l = some ns) : l = lineP w ns := by
  unfold partF at h
  have hj := join_split l
  cases e : splitW l with
  | nil => rw [e] at h; cases h
  | cons x r =>
    rw [e] at h hj
    rw [partW] at h
    split at h
    · rename_i hc
      obtain ⟨rfl, -, hall⟩ := hc
      injection h with h
      rw [← hj, lineP, ← h, List.map_map]
      congr 2
      conv => lhs; rw [← List.map_id r]
      exact List.map_congr_left fun y hy => (dec_val (List.all_eq_true.1 hall y hy)).symm
    · cases h
theorem vals_symL {ns : List Int} (h : ns.length = 16) : (symL ns).vals = ns := by
  match ns, h with
  | [_, _, _, _, _, _, _, _, _, _, _, _, _, _, _, _], _ => rfl
theorem symL_vals (s : Sym) : symL s.vals = s := rfl
theorem sym_line {s : Sym} (h : ∀ n ∈ s.vals, nat64 n) : symF (symT s) = some s := by
  unfold symF symT
  have := part_line (w := wSymbol) (ns := s.vals) (by decide) (by simp [Sym.vals]) h
  rw [show (16 : Nat) = s.vals.length from rfl, this]
  rfl
theorem line_sym {l : Txt} {s : Sym} (h : symF l = some s) : l = symT s := by
  obtain ⟨ns, h1, rfl⟩ := Option.map_eq_some_iff.1 h
  rw [symT, vals_symL (part_len h1)]
  exact line_part h1
theorem phase_T {p : Int} (h : 0 ≤ p ∧ p ≤ 2) : phaseI (phaseT p) = some p := by
  have : p = 0 ∨ p = 1 ∨ p = 2 := by omega
  rcases this with rfl | rfl | rfl <;> decide
theorem T_phase {x : Txt} {p : Int} (h : phaseI x = some p) : phaseT p = x := by
  unfold phaseI at h
  split at h
  · rename_i e; injection h with h; subst h; exact e.symm
  · split at h
    · rename_i e; injection h with h; subst h; exact e.symm
    · split at h
      · rename_i e; injection h with h; subst h; exact e.symm
      · cases h
theorem row_line {r : Int × Int} (h1 : nat64 r.1) (h2 : 0 ≤ r.2 ∧ r.2 ≤ 2) : rowF (rowT r) = some r := by
  have e : rowT r = wRow ++ 32 :: (decB r.1 ++ 32 :: phaseT r.2) := rfl
  rw [e, row_two (dec_32 _), if_pos (pos_dec h1).1, phase_T h2, (pos_dec h1).2]
  rfl
theorem line_row {l : Txt} {r : Int × Int} (h : rowF l = some r) : l = rowT r := by
  unfold rowF at h
  have hj := join_split l
  match e : splitW l, h with
  | [a, b, c], h =>
    rw [e] at hj
    rw [rowW] at h
    split at h
    · rename_i hc
      obtain ⟨p, hp, rfl⟩ := Option.map_eq_some_iff.1 h
      obtain ⟨rfl, hb⟩ := hc
      rw [← hj, rowT, dec_val hb, T_phase hp]
    · cases h
theorem row_sym (s : Sym) : rowF (symT s) = none := by
  refine row_no fun t h => ?_
  have : (symT s).head? = some 115 := by
    unfold symT lineP
    rw [join_cons (by simp [Sym.vals])]
    rfl
  rw [h] at this
  cases this
section
variable {α : Type} {p : Txt → Option α} {f : α → Txt}
theorem take_lines (l : List α) (hl : ∀ a ∈ l, p (f a) = some a) (y : Txt) (ys : List Txt) (hy : takeG p (y :: ys) = ([], y :: ys)) : takeG p (l.map f ++ y :: ys) = (l, y :: ys) := by
  induction l with
  | nil => exact hy
  | cons a l ih =>
    have ih := ih fun b hb => hl b (List.mem_cons_of_mem _ hb)
    cases h : l.map f ++ y :: ys with
    | nil => simp at h
    | cons z zs =>
      rw [List.map_cons, List.cons_append, h, take_yes p (hl a List.mem_cons_self), ← h, ih]
theorem lines_take (hp : ∀ x a, p x = some a → x = f a) : ∀ ls : List Txt, ls = (takeG p ls).1.map f ++ (takeG p ls).2
  | [] => rfl
  | [x] => rfl
  | x :: y :: ys => by
    cases h : p x with
    | none => rw [take_no p h]; rfl
    | some a =>
      rw [take_yes p h]
      have := lines_take hp (y :: ys)
      show x :: y :: ys = f a :: (List.map f (takeG p (y :: ys)).1 ++ (takeG p (y :: ys)).2)
      rw [← this, ← hp x a h]
end
/-- What a right configuration's numbers are. -/
structure NatC (c : Cfg) : Prop where
  head : nat64 c.index ∧ (nat64 c.f0 ∧ nat64 c.f1 ∧ nat64 c.f2) ∧ nat64 c.h0 ∧ nat64 c.h1
  rows : ∀ r ∈ c.tab, nat64 r.1 ∧ 0 ≤ r.2 ∧ r.2 ≤ 2
  syms : ∀ s ∈ c.syms, ∀ n ∈ s.vals, nat64 n
theorem line_free {w : Txt} {ns : List Int} (hw : (10 : UInt8) ∉ w) : (10 : UInt8) ∉ lineP w ns := mem_join (by decide) (by
  intro x hx
  rcases List.mem_cons.1 hx with rfl | hx
  · exact hw
  · obtain ⟨n, -, rfl⟩ := List.mem_map.1 hx
    exact dec_10 n)
theorem row_free10 (r : Int × Int) : (10 : UInt8) ∉ rowT r := mem_join (by decide) (by
  intro x hx
  simp only [List.mem_cons, List.not_mem_nil, or_false] at hx
  rcases hx with rfl | rfl | rfl
  · decide
  · exact dec_10 _
  · unfold phaseT
    split
    · decide
    · split <;> decide)
theorem lines_free (c : Cfg) : ∀ x ∈ linesT c, (10 : UInt8) ∉ x := by
  intro x hx
  simp only [linesT, List.mem_cons, List.mem_append, List.mem_map] at hx
  rcases hx with rfl | rfl | rfl | ⟨r, -, rfl⟩ | ⟨s, -, rfl⟩
  · exact line_free (by decide)
  · exact line_free (by decide)
  · exact line_free (by decide)
  · exact row_free10 r
  · exact line_free (by decide)
theorem read_sheet {c : Cfg} (hn : NatC c) (hc : (checkF c).1 = 0) : readF (sheetF c) = .good c := by
  obtain ⟨⟨h1, h2, h3⟩, h4, h5⟩ := hn
  have hT : takeG rowF (c.tab.map rowT ++ (c.syms.map symT ++ [[]])) = (c.tab, c.syms.map symT ++ [[]]) := by
    cases hs : c.syms with
    | nil => exact take_lines c.tab (fun r hr => row_line (h4 r hr).1 (h4 r hr).2) [] [] rfl
    | cons s ss =>
      cases hz : List.map symT ss ++ [[]] with
      | nil => simp at hz
      | cons z zs =>
        rw [List.map_cons, List.cons_append, hz]
        exact take_lines c.tab (fun r hr => row_line (h4 r hr).1 (h4 r hr).2) _ _ (take_no rowF (row_sym s))
  have hS : takeG symF (c.syms.map symT ++ [[]]) = (c.syms, [[]]) := take_lines c.syms (fun s hs => sym_line (h5 s hs)) [] [] rfl
  have hb : bodyF [c.index] [c.f0, c.f1, c.f2] [c.h0, c.h1] (c.tab.map rowT ++ (c.syms.map symT ++ [[]])) = .good c := by
    unfold bodyF
    rw [hT, hS, endF, if_pos rfl]
    exact if_pos hc
  have one : ∀ (w : Txt) (ns : List Int) (r : List Txt), (32 : UInt8) ∉ w → 0 < ns.length → (∀ n ∈ ns, nat64 n) → r ≠ [] → oneG w ns.length (lineP w ns :: r) = some (ns, r) := by
    intro w ns r hw h0 hns hr
    cases r with
    | nil => exact absurd rfl hr
    | cons y ys => rw [oneG, part_line hw h0 hns]; rfl
  unfold readF sheetF
  rw [cut_feed (lines_free c), linesT]
  simp only [List.cons_append, List.append_assoc]
  rw [show (1 : Nat) = [c.index].length from rfl, one wIndex [c.index] _ (by decide) (by simp) (by simp [h1]) (by simp)]
  dsimp only
  rw [show (3 : Nat) = [c.f0, c.f1, c.f2].length from rfl, one wFalls [c.f0, c.f1, c.f2] _ (by decide) (by simp) (by simp [h2]) (by simp)]
  dsimp only
  rw [show (2 : Nat) = [c.h0, c.h1].length from rfl, one wHalts [c.h0, c.h1] _ (by decide) (by simp) (by simp [h3]) (by simp)]
  exact hb
theorem one_line {w : Txt} {n : Nat} {l : List Txt} {a : List Int × List Txt} (h : oneG w n l = some a) : l = lineP w a.1 :: a.2 ∧ a.1.length = n := by
  match l, h with
  | x :: y :: r, h =>
    obtain ⟨ns, h1, rfl⟩ := Option.map_eq_some_iff.1 (show (partF w n x).map (fun l => (l, y :: r)) = some a from h)
    exact ⟨by rw [← line_part h1], part_len h1⟩
theorem sheet_read {s : Txt} {c : Cfg} (h : readF s = .good c) : sheetF c = s ∧ (checkF c).1 = 0 := by
  unfold readF at h
  split at h
  · cases h
  · rename_i a ha
    split at h
    · cases h
    · rename_i b hb
      split at h
      · cases h
      · rename_i d hd
        obtain ⟨e1, l1⟩ := one_line ha
        obtain ⟨e2, l2⟩ := one_line hb
        obtain ⟨e3, l3⟩ := one_line hd
        unfold bodyF endF at h
        split at h
        · rename_i he
          split at h
          · rename_i hc
            injection h with h
            subst h
            refine ⟨?_, hc⟩
            have r1 := lines_take (p := rowF) (f := rowT) (fun x a h => line_row h) d.2
            have r2 := lines_take (p := symF) (f := symT) (fun x a h => line_sym h) (takeG rowF d.2).2
            rw [he] at r2
            have hj := join_cut 10 s
            rw [e1, e2, e3, r1, r2, ← List.append_assoc] at hj
            rw [← hj, sheetF, ← join_feed, linesT]
            obtain ⟨a, ar⟩ := a
            obtain ⟨b, br⟩ := b
            obtain ⟨d, dr⟩ := d
            dsimp only at l1 l2 l3 ⊢
            match a, l1, b, l2, d, l3 with
            | [a0], _, [b0, b1, b2], _, [d0, d1], _ => rfl
          · cases h
        · cases h
end Go.Proofs.YtmkcooamgojbpaaGreatDoor.Sheet

/- What a right configuration's numbers are, plain. -/
namespace Go.Proofs.YtmkcooamgojbpaaGreatDoor.Sheet
open Go.Proofs.YtmkcooamgojbpaaGreatDoor.Kit Go.Proofs.YtmkcooamgojbpaaGreatDoor.Dec Go.Proofs.YtmkcooamgojbpaaGreatDoor.Words Go.Proofs.YtmkcooamgojbpaaGreatDoor.Symbol Go.Proofs.YtmkcooamgojbpaaGreatDoor.Check Go.Proofs.YtmkcooamgojbpaaGreatDoor.All Go.Proofs.YtmkcooamgojbpaaGreatDoor.Table
set_option linter.unusedVariables false

theorem sym_nat {s : Sym} (h : symFault s = 0) : ∀ n ∈ s.vals, nat64 n := by
  unfold symFault at h
  have hr : r1 s = true ∧ r3 s = true ∧ r4 s = true ∧ r5 s = true ∧ r6 s = true := by
    revert h
    cases r1 s <;> cases r2 s <;> cases r3 s <;> cases r4 s <;> cases r5 s <;> cases r6 s <;> cases r7 s <;> decide
  obtain ⟨h1, h3, h4, h5, h6⟩ := hr
  simp [r1, r3, r4, r5, r6, allIn] at h1 h3 h4 h5 h6
  intro n hn
  simp only [Sym.vals, List.mem_cons, List.not_mem_nil, or_false] at hn
  unfold nat64
  rcases hn with rfl | rfl | rfl | rfl | rfl | rfl | rfl | rfl | rfl | rfl | rfl | rfl | rfl | rfl | rfl | rfl <;> omega
theorem syms_nat : ∀ (l : List Sym) (i : Nat), (symsF l i).1 = 0 → ∀ s ∈ l, symFault s = 0
  | [], _, _, s, hs => by cases hs
  | x :: l, i, h, s, hs => by
    rw [symsF] at h
    split at h
    · rename_i hx
      rcases List.mem_cons.1 hs with rfl | hs
      · exact hx
      · exact syms_nat l (i + 1) h s hs
    · rename_i hx; exact absurd h hx
theorem tab_nat : ∀ (l : List (Int × Int)) (last : Int) (i : Nat), -1 ≤ last → (tabFault l last i).1 = 0 → ∀ r ∈ l, nat64 r.1 ∧ 0 ≤ r.2 ∧ r.2 ≤ 2
  | [], _, _, _, _, r, hr => by cases hr
  | (t, p) :: l, last, i, h0, h, r, hr => by
    rw [tabFault] at h
    split at h
    · cases h
    · rename_i h1
      split at h
      · rename_i h2
        simp [late] at h1
        simp [allIn] at h2
        rcases List.mem_cons.1 hr with rfl | hr
        · exact ⟨⟨by show 0 ≤ t; omega, by show t ≤ _; omega⟩, h2⟩
        · exact tab_nat l t (i + 1) (by omega) h r hr
      · cases h
theorem check_nat {c : Cfg} (h : (checkF c).1 = 0) : NatC c := by
  unfold checkF at h
  split at h
  · split at h
    · rename_i hs
      split at h
      · rename_i ht
        unfold restF at h
        have hk : k1 c = true ∧ k2 c = true ∧ k3 c = true := by
          dsimp only at h
          revert h
          cases k1 c <;> cases k2 c <;> cases k3 c <;> decide
        obtain ⟨h1, h2, h3⟩ := hk
        simp [k1, k2, k3, allIn] at h1 h2 h3
        refine ⟨⟨⟨?_, ?_⟩, ⟨⟨?_, ?_⟩, ⟨?_, ?_⟩, ⟨?_, ?_⟩⟩, ⟨?_, ?_⟩, ⟨?_, ?_⟩⟩, ?_, fun s hs' => sym_nat (syms_nat _ _ hs s hs')⟩
        any_goals omega
        unfold tableF at ht
        split at ht
        · exact tab_nat _ _ _ (by omega) ht
        · cases ht
      · rename_i ht; exact absurd h ht
    · rename_i hs; exact absurd h hs
  · cases h
end Go.Proofs.YtmkcooamgojbpaaGreatDoor.Sheet
