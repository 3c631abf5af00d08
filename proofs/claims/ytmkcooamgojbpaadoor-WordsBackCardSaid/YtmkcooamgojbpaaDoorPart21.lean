/- Parts of the proof: WRd, WOne, WTables, LineN, WStep, WCmd, WStepC, WCmd3, WCmd1, WStepD, WParse, WAlive. -/
import Derived.Test.YtmkcooamgojbpaaDoorPart20
import Derived.Test.YtmkcooamgojbpaaDoorPart14
import Derived.Deep.DeepCutAuto
import Derived.Deep.CutBlock
import Derived.WalkMore
import Derived.Test.YtmkcooamgojbpaaDoorPart10
import Derived.Test.YtmkcooamgojbpaaDoorPart13
import Derived.Laws.OwnMore
import Derived.Deep.QuietTactic
import Derived.Deep.RegionHeld3
import Derived.Deep.DrawnRows
import Derived.Test.YtmkcooamgojbpaaDoorPart5
import Derived.Recover

/- words.reader: its state in memory; must, word, num, in. -/
namespace Go.Proofs.YtmkcooamgojbpaaDoor.Lines
open Go.RowKit Go.Proofs.YtmkcooamgojbpaaDoor.Kit Go.Proofs.YtmkcooamgojbpaaDoor.Blk Go.Proofs.YtmkcooamgojbpaaDoor.Dec Go.Proofs.YtmkcooamgojbpaaDoor.Words Go.Proofs.YtmkcooamgojbpaaDoor.Octets
attribute [local go_sem ↓] Go.wp_at_zero Go.wp_at_succ
set_option linter.unusedVariables false

/-- What a text that is none panics with. -/
def errW : Value := .iface 25 (.int .i64 4)
abbrev badE : Ending := .panicked [{ v := errW, recovered := false }]
theorem must_true (w : World) : Calls Tryd.prog 135 #[.bool true] w fun e w' => e = .returned (.tuple #[]) ∧ w = w' := by
  go_enter Tryd.func135, Tryd.ntmps135
  go_wp2_with fail
  go_end0
  exact ⟨rfl, rfl⟩
theorem must_false (w : World) : Calls Tryd.prog 135 #[.bool false] w fun e w' => e = badE ∧ w = w' := by
  go_enter Tryd.func135, Tryd.ntmps135
  go_wp2_with fail
  exact ⟨rfl, rfl, rfl⟩
/-- Words somewhere in a block below M. -/
def StrAt (M : Nat) (ws : List (List UInt8)) (v : Value) (W : World) : Prop :=
  (ws = [] ∧ ∃ a c, v = .slice a 0 c) ∨ ∃ g o c, v = .slice (some ⟨g, o, none⟩) ws.length c ∧ ws.length ≤ c ∧ g < M ∧ ∀ j, (h : j < ws.length) → W.cell? ⟨g, o + j, none⟩ = some (.string (strB ws[j]))
/-- A reader at P, and the words that are left. -/
def WRd (P : Nat) (ws : List (List UInt8)) (W : World) : Prop := (∀ x ∈ ws, x.length ≤ 100000) ∧ ∃ v, Blk W P #[v] 119 ∧ StrAt P ws v W
theorem StrAt.chg {M n d : Nat} {ws : List (List UInt8)} {v : Value} {W W' : World} (h : StrAt M ws v W) (hM : M ≤ n) (hd : M ≤ d) (hc : Chg n d W W') : StrAt M ws v W' := by
  rcases h with h | ⟨g, o, c, h1, h2, h3, h4⟩
  · exact .inl h
  · exact .inr ⟨g, o, c, h1, h2, h3, fun j hj => by rw [hc.cell (p := ⟨g, o + j, none⟩) (by show g < n; omega) (by show g ≠ d; omega)]; exact h4 j hj⟩
theorem WRd.chg {P n d : Nat} {ws : List (List UInt8)} {W W' : World} (h : WRd P ws W) (hP : P < n) (hd : P < d) (hc : Chg n d W W') : WRd P ws W' := by
  obtain ⟨h0, v, h1, h2⟩ := h
  exact ⟨h0, v, hc.blk hP (by omega) h1, h2.chg (by omega) (by omega) hc⟩
theorem WRd.below {P n : Nat} {ws : List (List UInt8)} {W W' : World} (h : WRd P ws W) (hP : P < n) (hb : Below n W W') : WRd P ws W' := by
  refine h.chg (n := n) (d := n) hP hP ⟨hb.os, hb.tape, hb.output, hb.size, fun k hk _ => hb.block k hk⟩
theorem WRd.lt {P : Nat} {ws : List (List UInt8)} {W : World} (h : WRd P ws W) : P < W.heap.size := by obtain ⟨h0, v, h1, h2⟩ := h; exact h1.lt
/-- What a reading answers. -/
def RdIs {α : Type} (val : α → Value) (o : Option (α × List (List UInt8))) (P : Nat) (w : World) (e : Ending) (w' : World) : Prop :=
  (o = none ∧ e = badE ∧ Chg w.heap.size P w w') ∨ ∃ x l, o = some (x, l) ∧ e = .returned (val x) ∧ WRd P l w' ∧ Chg w.heap.size P w w'
theorem word_any' (P : Nat) (ws : List (List UInt8)) (w : World) (h : WRd P ws w) : Calls Tryd.prog 130 #[.pointer (some ⟨P, 0, none⟩)] w (RdIs (fun x => .string (strB x)) (wordP ws) P w) := by
  obtain ⟨h0, v, hb, hat⟩ := h
  have HL := Lib.hid h0
  clear h0
  cases ws with
  | nil =>
    obtain ⟨a, c, rfl⟩ : ∃ a c, v = .slice a 0 c := by
      rcases hat with ⟨_, h⟩ | ⟨g, o, c, h, _⟩
      · exact h
      · exact ⟨_, _, h⟩
    have c0 := hb.cell 0 rfl
    clear hb hat
    go_enter Tryd.func130, Tryd.ntmps130
    go_wp2_with fail
    refine (must_false _).mono ?_
    rintro e w1 ⟨rfl, rfl⟩
    go_wp2_with fail
    exact ⟨rfl, .inl ⟨rfl, rfl, Chg.refl _ _ _⟩⟩
  | cons x ws =>
    obtain ⟨g, o, c, rfl, hc, hg, hcells⟩ : ∃ g o c, v = .slice (some ⟨g, o, none⟩) (ws.length + 1) c ∧ ws.length + 1 ≤ c ∧ g < P ∧ ∀ j, (h : j < (x :: ws).length) → w.cell? ⟨g, o + j, none⟩ = some (.string (strB (x :: ws)[j])) := by
      rcases hat with ⟨h, _⟩ | h
      · cases h
      · exact h
    have c0 : w.cell? ⟨P, 0, none⟩ = some (.slice (some ⟨g, o, none⟩) (ws.length + 1) c) := hb.cell 0 rfl
    have ck : w.cell? ⟨g, o, none⟩ = some (.string (strB x)) := hcells 0 (by simp)
    have f0 := hb.free 0
    have HS := Lib.hid (show ∀ v, ((ws = [] ∧ ∃ a c, v = .slice a 0 c) ∨ v = .slice (some ⟨g, o + 1, none⟩) ws.length (c - 1)) → WRd P ws (w.setCell ⟨P, 0, none⟩ v) from by
      intro v hv
      refine ⟨fun y hy => HL.out y (List.mem_cons_of_mem _ hy), v, hb.set 0 v, ?_⟩
      rcases hv with hv | rfl
      · exact .inl hv
      · refine .inr ⟨g, o + 1, c - 1, rfl, by omega, hg, fun j hj => ?_⟩
        rw [World.cell?_of_block (w := w) (a := ⟨g, o + 1 + j, none⟩) (Below.heap_setCell _ _ _ _ (by show g ≠ P; omega))]
        have := hcells (j + 1) (by simp; omega)
        rw [show o + (j + 1) = o + 1 + j by omega] at this
        exact this)
    have HC := Lib.hid (fun v => show Chg w.heap.size P w (w.setCell ⟨P, 0, none⟩ v) from (Chg.refl _ _ _).setCell _ _ (.inl rfl))
    have g1 : (ws.length : Int) + 1 ≤ c := by omega
    have g2 : (0 : Int) < (ws.length : Int) + 1 := by omega
    have g3 : (1 : Int) ≤ (ws.length : Int) + 1 := by omega
    have hz : Hid (ws.length = 0 → ws = []) := Lib.hid (fun h => List.length_eq_zero_iff.1 h)
    clear hb hcells hat
    go_enter Tryd.func130, Tryd.ntmps130
    go_wp2_with fail
    refine (must_true _).mono ?_
    rintro e w1 ⟨rfl, rfl⟩
    go_wp2_with fail
    all_goals go_ret
    · exact .inr ⟨x, ws, rfl, rfl, HS.out _ (.inl ⟨hz.out (by omega), _, _, by rw [hz.out (by omega)]; rfl⟩), HC.out _⟩
    · exact .inr ⟨x, ws, rfl, rfl, HS.out _ (.inr rfl), HC.out _⟩
theorem WRd.len {P : Nat} {ws : List (List UInt8)} {W : World} (h : WRd P ws W) : ∀ x ∈ ws, x.length ≤ 100000 := h.1
theorem num_any' (P : Nat) (ws : List (List UInt8)) (w : World) (h : WRd P ws w) : Calls Tryd.prog 131 #[.pointer (some ⟨P, 0, none⟩)] w (RdIs (fun x => .int .i64 x) (numP ws) P w) := by
  have HW := Lib.hid (word_any' P ws w h)
  have HL := Lib.hid h.len
  have hP := h.lt
  clear h
  go_enter Tryd.func131, Tryd.ntmps131
  go_wp2_with fail
  refine HW.out.mono ?_
  rintro e w1 (⟨ho, rfl, hc⟩ | ⟨x, l, ho, rfl, hr, hc⟩)
  · have HN := Lib.hid (show numP ws = none by unfold numP; rw [ho]; rfl)
    have HC := Lib.hid hc
    clear ho hc HW HL
    go_wp2_with fail
    exact ⟨rfl, .inl ⟨HN.out, rfl, HC.out⟩⟩
  · have hx : x.length ≤ 100000 := HL.out x (by cases ws with | nil => cases ho | cons a b => injection ho with ho; injection ho with h1 h2; subst h1; exact List.mem_cons_self)
    have HN := Lib.hid (show numP ws = (numF x).map fun n => (n, l) by unfold numP; rw [ho]; rfl)
    have HB := Lib.hid (wnumber_any x hx w1)
    have HR := Lib.hid hr
    have HC := Lib.hid hc
    have hsz := hr.lt
    clear ho hr hc HW HL hx
    go_wp2_with fail
    refine HB.out.mono ?_
    rintro e w2 ⟨rfl, hb⟩
    have HR2 := Lib.hid (HR.out.below hsz hb)
    have HC2 := Lib.hid (HC.out.step (hb.mono HC.out.size))
    clear hb HB HR HC
    cases hn : numF x with
    | none =>
      rw [hn] at HN
      go_wp2_with fail
      refine (must_false _).mono ?_
      rintro e w3 ⟨rfl, rfl⟩
      go_wp2_with fail
      exact ⟨rfl, .inl ⟨HN.out, rfl, HC2.out⟩⟩
    | some n =>
      rw [hn] at HN
      clear hn
      go_wp2_with fail
      refine (must_true _).mono ?_
      rintro e w3 ⟨rfl, rfl⟩
      go_wp2_with fail
      go_ret
      exact .inr ⟨n, l, HN.out, rfl, HR2.out, HC2.out⟩
set_option maxRecDepth 20000 in
theorem in_any' (P : Nat) (most : Int) (ws : List (List UInt8)) (w : World) (h : WRd P ws w) : Calls Tryd.prog 132 #[.pointer (some ⟨P, 0, none⟩), .int .i64 most] w (RdIs (fun x => .int .i64 x) (inP most ws) P w) := by
  have HW := Lib.hid (num_any' P ws w h)
  have hP := h.lt
  clear h
  go_enter Tryd.func132, Tryd.ntmps132
  go_wp2_with fail
  refine HW.out.mono ?_
  rintro e w1 (⟨ho, rfl, hc⟩ | ⟨n, l, ho, rfl, hr, hc⟩)
  · have HN := Lib.hid (show inP most ws = none by unfold inP; rw [ho]; rfl)
    have HC := Lib.hid hc
    clear ho hc HW
    go_wp2_with fail
    exact ⟨rfl, .inl ⟨HN.out, rfl, HC.out⟩⟩
  · have HN := Lib.hid (show inP most ws = if 0 ≤ n ∧ n ≤ most then some (n, l) else none by unfold inP; rw [ho]; rfl)
    have HR := Lib.hid hr
    have HC := Lib.hid hc
    clear ho hr hc HW
    by_cases g1 : 0 ≤ n
    · by_cases g2 : n ≤ most
      · have HY := Lib.hid (show inP most ws = some (n, l) by rw [HN.out, if_pos ⟨g1, g2⟩])
        clear HN
        go_wp2_with fail
        refine (must_true _).mono ?_
        rintro e w3 ⟨rfl, rfl⟩
        go_wp2_with fail
        go_ret
        exact .inr ⟨n, l, HY.out, rfl, HR.out, HC.out⟩
      · have HY := Lib.hid (show inP most ws = none by rw [HN.out, if_neg (fun h => g2 h.2)])
        clear HN
        have d2 : decide (n ≤ most) = false := decide_eq_false g2
        go_wp2_with fail
        refine (must_false _).mono ?_
        rintro e w3 ⟨rfl, rfl⟩
        go_wp2_with fail
        exact ⟨rfl, .inl ⟨HY.out, rfl, HC.out⟩⟩
    · have HY := Lib.hid (show inP most ws = none by rw [HN.out, if_neg (fun h => g1 h.1)])
      clear HN
      have g3 : ¬ (n ≥ 0) := g1
      have g4 : n < 0 := by omega
      go_wp2_with fail
      all_goals first
        | (exfalso; omega)
        | (refine (must_false _).mono ?_
           rintro e w3 ⟨rfl, rfl⟩
           go_wp2_with fail
           exact ⟨rfl, .inl ⟨HY.out, rfl, HC.out⟩⟩)
end Go.Proofs.YtmkcooamgojbpaaDoor.Lines

/- words.reader's one: which of some words the next is. -/
namespace Go.Proofs.YtmkcooamgojbpaaDoor.Lines
open Go.RowKit Go.Proofs.YtmkcooamgojbpaaDoor.Kit Go.Proofs.YtmkcooamgojbpaaDoor.Blk Go.Proofs.YtmkcooamgojbpaaDoor.Dec Go.Proofs.YtmkcooamgojbpaaDoor.Words Go.Proofs.YtmkcooamgojbpaaDoor.Octets
attribute [local go_sem ↓] Go.wp_at_zero Go.wp_at_succ
set_option linter.unusedVariables false

theorem place_drop (ws : List Tok) (x : Tok) (k : Nat) (hk : k < ws.length) : placeF (ws.drop k) x = if ws[k] = x then some 0 else (placeF (ws.drop (k + 1)) x).map (· + 1) := by
  rw [List.drop_eq_getElem_cons hk]; rfl
theorem strB_toList' (l : List UInt8) : (strB l).toList = l := by rw [ByteArray.toList_eq, strB_list]
theorem strB_ne {a b : Tok} (h : a ≠ b) : ((strB a).toList == (strB b).toList) = false := by
  rw [strB_toList', strB_toList']; simpa using h
set_option maxRecDepth 20000 in
set_option maxHeartbeats 4000000 in
theorem one_any' (P B cap : Nat) (toks ws : List Tok) (htl : toks.length ≤ 100) (w : World) (h : WRd P ws w) (hB : B < w.heap.size) (hBP : B ≠ P) (hcell : ∀ j, (h : j < toks.length) → w.cell? ⟨B, j, none⟩ = some (.string (strB toks[j]))) :
    Calls Tryd.prog 183 #[.pointer (some ⟨P, 0, none⟩), .slice (some ⟨B, 0, none⟩) toks.length cap] w (RdIs (fun k : Nat => .int .i64 k) (oneP toks ws) P w) := by
  have HW := Lib.hid (word_any' P ws w h)
  have hP := h.lt
  have HCE := Lib.hid hcell
  clear h hcell
  go_enter Tryd.func183, Tryd.ntmps183
  go_wp2_with fail
  go_step3
  go_wp2_with fail
  refine HW.out.mono ?_
  rintro e w1 (⟨ho, rfl, hc⟩ | ⟨x, l, ho, rfl, hr, hc⟩)
  · have HN := Lib.hid (show oneP toks ws = none by unfold oneP; rw [ho]; rfl)
    have HC := Lib.hid hc
    clear ho hc HW
    go_wp2_with fail
    exact ⟨rfl, .inl ⟨HN.out, rfl, HC.out⟩⟩
  have HO := Lib.hid (show oneP toks ws = (placeF toks x).map fun k => (k, l) by unfold oneP; rw [ho]; rfl)
  have HR := Lib.hid hr
  have HC := Lib.hid hc
  have HC1 := Lib.hid (fun j (hj : j < toks.length) => show w1.cell? ⟨B, j, none⟩ = some (.string (strB toks[j])) by rw [hc.cell (p := ⟨B, j, none⟩) hB hBP]; exact HCE.out j hj)
  clear ho hr hc HW HCE
  go_wp2_with fail
  go_step3
  go_wp2_with fail
  go_loopw [12] (fun i wr => ∃ k : Nat, k ≤ toks.length ∧ i = .int .i64 k ∧ w1 = wr ∧ Hid (placeF toks x = (placeF (toks.drop k) x).map (· + k))) (fun i _ => toks.length - (intOf i).toNat)
  case atStart => exact ⟨0, by omega, rfl, rfl, Lib.hid (by simp)⟩
  case round =>
    obtain ⟨k, hk, rfl, rfl, HPL⟩ := hrel
    by_cases hlt : k < toks.length
    · have ck : w1.cell? ⟨B, k, none⟩ = some (.string (strB toks[k])) := HC1.out k hlt
      have hkl : (k : Int) < (toks.length : Int) := by omega
      have HPD := Lib.hid (place_drop toks x k hlt)
      by_cases hx : toks[k] = x
      · have HN := Lib.hid (show oneP toks ws = some (k, l) by rw [HO.out, HPL.out, HPD.out, if_pos hx]; simp)
        have e1 : ((strB x).toList == (strB x).toList) = true := by simp
        rw [hx] at ck
        clear HPL HPD HO hx
        generalize hS : strB x = S at ck e1 ⊢
        go_wp2_with fail
        go_ret
        exact .inr ⟨k, l, HN.out, rfl, HR.out, HC.out⟩
      · have e1 := strB_ne hx
        have HPL2 := Lib.hid (show placeF toks x = (placeF (toks.drop (k + 1)) x).map (· + (k + 1)) by rw [HPL.out, HPD.out, if_neg hx, Option.map_map]; congr 1; funext n; simp; omega)
        clear HPL HPD hx
        generalize strB toks[k] = T at ck e1
        go_wp2_with fail
        go_roundw
        case rel => exact ⟨k + 1, by omega, by go_num, trivial, HPL2⟩
        case measure => simp [intOf]; omega
    · have HN := Lib.hid (show oneP toks ws = none by rw [HO.out, HPL.out, List.drop_of_length_le (by omega)]; rfl)
      clear HPL HO
      go_wp2_with fail
      refine (must_false _).mono ?_
      rintro e w4 ⟨rfl, rfl⟩
      go_wp2_with fail
      exact ⟨rfl, .inl ⟨HN.out, rfl, HC.out⟩⟩
end Go.Proofs.YtmkcooamgojbpaaDoor.Lines

/- words.sides, types, flags; the reader's flags. -/
namespace Go.Proofs.YtmkcooamgojbpaaDoor.Lines
open Go.RowKit Go.Proofs.YtmkcooamgojbpaaDoor.Kit Go.Proofs.YtmkcooamgojbpaaDoor.Blk Go.Proofs.YtmkcooamgojbpaaDoor.Dec Go.Proofs.YtmkcooamgojbpaaDoor.Words Go.Proofs.YtmkcooamgojbpaaDoor.Octets
attribute [local go_sem ↓] Go.wp_at_zero Go.wp_at_succ
set_option linter.unusedVariables false

def flagsT : List Tok := [tShort, tExempt, tReprice]
def sidesC : Array Value := (strs sidesF).toArray
def typesC : Array Value := (strs typesF).toArray
def flagsC : Array Value := (strs flagsT).toArray
set_option maxRecDepth 20000 in
theorem sides_any (w : World) : Calls Tryd.prog 171 #[] w fun e w' => e = .returned (.agg sidesC) ∧ Below w.heap.size w w' := by
  go_enter Tryd.func171, Tryd.ntmps171
  go_wp2_with fail
  refine bodyPost_ret (v := .agg sidesC) (by simp [results, Tryd.results171, go_sem]; rfl) rfl ⟨rfl, (Below.refl _ _).alloc (Nat.le_refl _) _⟩
set_option maxRecDepth 20000 in
theorem types_any (w : World) : Calls Tryd.prog 172 #[] w fun e w' => e = .returned (.agg typesC) ∧ Below w.heap.size w w' := by
  go_enter Tryd.func172, Tryd.ntmps172
  go_wp2_with fail
  refine bodyPost_ret (v := .agg typesC) (by simp [results, Tryd.results172, go_sem]; rfl) rfl ⟨rfl, (Below.refl _ _).alloc (Nat.le_refl _) _⟩
set_option maxRecDepth 20000 in
theorem flags_tab (w : World) : Calls Tryd.prog 173 #[] w fun e w' => e = .returned (.agg flagsC) ∧ Below w.heap.size w w' := by
  go_enter Tryd.func173, Tryd.ntmps173
  go_wp2_with fail
  refine bodyPost_ret (v := .agg flagsC) (by simp [results, Tryd.results173, go_sem]; rfl) rfl ⟨rfl, (Below.refl _ _).alloc (Nat.le_refl _) _⟩
theorem WRd.empty {P : Nat} {W : World} (h : WRd P [] W) : ∃ a c, W.cell? ⟨P, 0, none⟩ = some (.slice a 0 c) := by
  obtain ⟨_, v, h1, h2⟩ := h
  rcases h2 with ⟨_, a, c, rfl⟩ | ⟨g, o, c, rfl, -⟩
  · exact ⟨a, c, h1.cell 0 rfl⟩
  · exact ⟨_, c, h1.cell 0 rfl⟩
theorem WRd.head {P : Nat} {y : Tok} {l : List Tok} {W : World} (h : WRd P (y :: l) W) : ∃ g o c, W.cell? ⟨P, 0, none⟩ = some (.slice (some ⟨g, o, none⟩) (l.length + 1) c) ∧ W.cell? ⟨g, o, none⟩ = some (.string (strB y)) ∧ l.length + 1 ≤ c := by
  obtain ⟨_, v, h1, h2⟩ := h
  rcases h2 with ⟨h, _⟩ | ⟨g, o, c, rfl, h2, h3, h4⟩
  · cases h
  · exact ⟨g, o, c, h1.cell 0 rfl, h4 0 (by simp), h2⟩
def flagsK (ws : List Tok) : Nat → Nat × List Tok
  | 0 => (0, ws)
  | 1 => flagP tShort 1 (0, ws)
  | 2 => flagP tExempt 2 (flagP tShort 1 (0, ws))
  | _ => flagsP ws
theorem flag_le (t : Tok) (b : Nat) (x : Nat × List Tok) : (flagP t b x).1 ≤ x.1 + b := by
  obtain ⟨n, l⟩ := x
  cases l with
  | nil => simp [flagP]
  | cons y l => unfold flagP; dsimp only; split <;> simp
theorem flagsK_le (ws : List Tok) (k : Nat) (h : k ≤ 2) : (flagsK ws k).1 < 2 ^ k := by
  have : k = 0 ∨ k = 1 ∨ k = 2 := by omega
  rcases this with rfl | rfl | rfl
  · exact Nat.zero_lt_one
  · have := flag_le tShort 1 (0, ws); show (flagP tShort 1 (0, ws)).1 < 2; dsimp only at this; omega
  · have h1 := flag_le tShort 1 (0, ws)
    have h2 := flag_le tExempt 2 (flagP tShort 1 (0, ws))
    show (flagP tExempt 2 (flagP tShort 1 (0, ws))).1 < 4
    dsimp only at h1
    omega
theorem or_flag (k : Nat) (hk : k < 3) (x : Nat) (hx : x < 2 ^ k) : Go.bits .or .i64 (x : Int) ((2 ^ k : Nat) : Int) = ((x + 2 ^ k : Nat) : Int) := by
  have h : ∀ k : Nat, k < 3 → ∀ x : Nat, x < 2 ^ k → Go.bits .or .i64 (x : Int) ((2 ^ k : Nat) : Int) = ((x + 2 ^ k : Nat) : Int) := by decide +kernel
  exact h k hk x hx
def FlagsIs (ws : List Tok) (P : Nat) (w : World) (e : Ending) (w' : World) : Prop := e = .returned (.int .i64 ((flagsP ws).1 : Int)) ∧ WRd P (flagsP ws).2 w' ∧ Chg w.heap.size P w w'
set_option maxRecDepth 20000 in
set_option maxHeartbeats 4000000 in
theorem rflags_any (P : Nat) (ws : List Tok) (w : World) (h : WRd P ws w) : Calls Tryd.prog 184 #[.pointer (some ⟨P, 0, none⟩)] w (FlagsIs ws P w) := by
  have hP := h.lt
  have i0 : ∀ W, (Instr.index 103 (.agg flagsC) (.int .i64 0)).run Tryd.prog W = .ok (.string (strB tShort)) W := fun W => by kernel_rfl
  have i1 : ∀ W, (Instr.index 103 (.agg flagsC) (.int .i64 1)).run Tryd.prog W = .ok (.string (strB tExempt)) W := fun W => by kernel_rfl
  have i2 : ∀ W, (Instr.index 103 (.agg flagsC) (.int .i64 2)).run Tryd.prog W = .ok (.string (strB tReprice)) W := fun W => by kernel_rfl
  go_enter Tryd.func184, Tryd.ntmps184
  go_wp2_with fail
  refine (flags_tab w).mono ?_
  rintro e w1 ⟨rfl, hb⟩
  have HR1 := Lib.hid (h.below hP hb)
  have HC1 := Lib.hid (show Chg w.heap.size P w w1 from Chg.of hb)
  clear h hb
  go_wp2_with fail
  go_loopw [6, 2] (fun i s wr => ∃ k : Nat, k ≤ 3 ∧ i = .int .i64 k ∧ s = .int .i64 ((flagsK ws k).1 : Int) ∧ WRd P (flagsK ws k).2 wr ∧ Chg w.heap.size P w wr) (fun i _ _ => 3 - (intOf i).toNat)
  case atStart => exact ⟨0, by omega, rfl, rfl, HR1.out, HC1.out⟩
  case round =>
    obtain ⟨k, hk, rfl, rfl, hrd, hc⟩ := hrel
    have HC := Lib.hid hc
    clear hc HR1 HC1
    by_cases hlt : k < 3
    · have : k = 0 ∨ k = 1 ∨ k = 2 := by omega
      rcases this with rfl | rfl | rfl
      · have HF := Lib.hid (show flagsK ws (0 + 1) = flagP tShort 1 (flagsK ws 0) from rfl)
        have HX := Lib.hid (flagsK_le ws 0 (by decide))
        have ix := i0
        generalize flagsK ws 0 = xl at HF HX hrd
        obtain ⟨x, l⟩ := xl
        cases l with
        | nil =>
          obtain ⟨ra, rc, c0⟩ := hrd.empty
          have HR := Lib.hid hrd
          clear hrd
          dsimp only
          go_wp2_with fail
          go_roundw
          case rel => exact ⟨0 + 1, by omega, by go_num, by rw [HF.out]; rfl, by rw [HF.out]; exact HR.out, HC.out⟩
          case measure => simp [intOf]
        | cons y l =>
          obtain ⟨g, o, c, c0, ck, hgc⟩ := hrd.head
          have HR := Lib.hid hrd
          clear hrd
          have g1 : (0 : Int) < (l.length : Int) + 1 := by omega
          dsimp only
          by_cases hy : y = tShort
          · have HF2 := Lib.hid (show flagsK ws (0 + 1) = (x + 1, l) by rw [HF.out]; show (if y = tShort then (x + 1, l) else (x, y :: l)) = _; rw [if_pos hy])
            have HW := Lib.hid (word_any' P _ _ HR.out)
            have e1 : ((strB y).toList == (strB tShort).toList) = true := by simp [hy]
            generalize strB y = S at ck e1
            go_wp2_with fail
            refine HW.out.mono ?_
            rintro e w2 (⟨ho, rfl, hc⟩ | ⟨x', l', ho, rfl, hr, hc⟩)
            · cases ho
            injection ho with ho
            injection ho with h1 h2
            subst h1 h2
            have HR2 := Lib.hid hr
            have HC2 := Lib.hid (HC.out.trans (hc.mono HC.out.size))
            clear hr hc ck c0 e1 HW HR HC
            have hx := HX.out
            go_wp2_with fail
            go_roundw
            case rel =>
              refine ⟨0 + 1, by omega, by go_num, ?_, by rw [HF2.out]; exact HR2.out, HC2.out⟩
              rw [HF2.out]
              exact congrArg (Value.int .i64) (or_flag 0 (by decide) x hx)
            case measure => simp [intOf]
          · have HF2 := Lib.hid (show flagsK ws (0 + 1) = (x, y :: l) by rw [HF.out]; show (if y = tShort then (x + 1, l) else (x, y :: l)) = _; rw [if_neg hy])
            have e1 := strB_ne hy
            generalize strB y = S at ck e1
            go_wp2_with fail
            go_roundw
            case rel => exact ⟨0 + 1, by omega, by go_num, by rw [HF2.out], by rw [HF2.out]; exact HR.out, HC.out⟩
            case measure => simp [intOf]
      · have HF := Lib.hid (show flagsK ws (1 + 1) = flagP tExempt 2 (flagsK ws 1) from rfl)
        have HX := Lib.hid (flagsK_le ws 1 (by decide))
        have ix := i1
        generalize flagsK ws 1 = xl at HF HX hrd
        obtain ⟨x, l⟩ := xl
        cases l with
        | nil =>
          obtain ⟨ra, rc, c0⟩ := hrd.empty
          have HR := Lib.hid hrd
          clear hrd
          dsimp only
          go_wp2_with fail
          go_roundw
          case rel => exact ⟨1 + 1, by omega, by go_num, by rw [HF.out]; rfl, by rw [HF.out]; exact HR.out, HC.out⟩
          case measure => simp [intOf]
        | cons y l =>
          obtain ⟨g, o, c, c0, ck, hgc⟩ := hrd.head
          have HR := Lib.hid hrd
          clear hrd
          have g1 : (0 : Int) < (l.length : Int) + 1 := by omega
          dsimp only
          by_cases hy : y = tExempt
          · have HF2 := Lib.hid (show flagsK ws (1 + 1) = (x + 2, l) by rw [HF.out]; show (if y = tExempt then (x + 2, l) else (x, y :: l)) = _; rw [if_pos hy])
            have HW := Lib.hid (word_any' P _ _ HR.out)
            have e1 : ((strB y).toList == (strB tExempt).toList) = true := by simp [hy]
            generalize strB y = S at ck e1
            go_wp2_with fail
            refine HW.out.mono ?_
            rintro e w2 (⟨ho, rfl, hc⟩ | ⟨x', l', ho, rfl, hr, hc⟩)
            · cases ho
            injection ho with ho
            injection ho with h1 h2
            subst h1 h2
            have HR2 := Lib.hid hr
            have HC2 := Lib.hid (HC.out.trans (hc.mono HC.out.size))
            clear hr hc ck c0 e1 HW HR HC
            have hx := HX.out
            go_wp2_with fail
            go_roundw
            case rel =>
              refine ⟨1 + 1, by omega, by go_num, ?_, by rw [HF2.out]; exact HR2.out, HC2.out⟩
              rw [HF2.out]
              exact congrArg (Value.int .i64) (or_flag 1 (by decide) x hx)
            case measure => simp [intOf]
          · have HF2 := Lib.hid (show flagsK ws (1 + 1) = (x, y :: l) by rw [HF.out]; show (if y = tExempt then (x + 2, l) else (x, y :: l)) = _; rw [if_neg hy])
            have e1 := strB_ne hy
            generalize strB y = S at ck e1
            go_wp2_with fail
            go_roundw
            case rel => exact ⟨1 + 1, by omega, by go_num, by rw [HF2.out], by rw [HF2.out]; exact HR.out, HC.out⟩
            case measure => simp [intOf]
      · have HF := Lib.hid (show flagsK ws (2 + 1) = flagP tReprice 4 (flagsK ws 2) from rfl)
        have HX := Lib.hid (flagsK_le ws 2 (by decide))
        have ix := i2
        generalize flagsK ws 2 = xl at HF HX hrd
        obtain ⟨x, l⟩ := xl
        cases l with
        | nil =>
          obtain ⟨ra, rc, c0⟩ := hrd.empty
          have HR := Lib.hid hrd
          clear hrd
          dsimp only
          go_wp2_with fail
          go_roundw
          case rel => exact ⟨2 + 1, by omega, by go_num, by rw [HF.out]; rfl, by rw [HF.out]; exact HR.out, HC.out⟩
          case measure => simp [intOf]
        | cons y l =>
          obtain ⟨g, o, c, c0, ck, hgc⟩ := hrd.head
          have HR := Lib.hid hrd
          clear hrd
          have g1 : (0 : Int) < (l.length : Int) + 1 := by omega
          dsimp only
          by_cases hy : y = tReprice
          · have HF2 := Lib.hid (show flagsK ws (2 + 1) = (x + 4, l) by rw [HF.out]; show (if y = tReprice then (x + 4, l) else (x, y :: l)) = _; rw [if_pos hy])
            have HW := Lib.hid (word_any' P _ _ HR.out)
            have e1 : ((strB y).toList == (strB tReprice).toList) = true := by simp [hy]
            generalize strB y = S at ck e1
            go_wp2_with fail
            refine HW.out.mono ?_
            rintro e w2 (⟨ho, rfl, hc⟩ | ⟨x', l', ho, rfl, hr, hc⟩)
            · cases ho
            injection ho with ho
            injection ho with h1 h2
            subst h1 h2
            have HR2 := Lib.hid hr
            have HC2 := Lib.hid (HC.out.trans (hc.mono HC.out.size))
            clear hr hc ck c0 e1 HW HR HC
            have hx := HX.out
            go_wp2_with fail
            go_roundw
            case rel =>
              refine ⟨2 + 1, by omega, by go_num, ?_, by rw [HF2.out]; exact HR2.out, HC2.out⟩
              rw [HF2.out]
              exact congrArg (Value.int .i64) (or_flag 2 (by decide) x hx)
            case measure => simp [intOf]
          · have HF2 := Lib.hid (show flagsK ws (2 + 1) = (x, y :: l) by rw [HF.out]; show (if y = tReprice then (x + 4, l) else (x, y :: l)) = _; rw [if_neg hy])
            have e1 := strB_ne hy
            generalize strB y = S at ck e1
            go_wp2_with fail
            go_roundw
            case rel => exact ⟨2 + 1, by omega, by go_num, by rw [HF2.out], by rw [HF2.out]; exact HR.out, HC.out⟩
            case measure => simp [intOf]
    · obtain rfl : k = 3 := by omega
      have HR := Lib.hid hrd
      clear hrd
      go_wp2_with fail
      go_ret
      exact ⟨rfl, HR.out, HC.out⟩
end Go.Proofs.YtmkcooamgojbpaaDoor.Lines

/- (*words.line).nums over any block that begins with some numbers; (*words.line).command. -/
namespace Go.Proofs.YtmkcooamgojbpaaDoor.Lines
open Go.RowKit Go.Proofs.YtmkcooamgojbpaaDoor.Kit Go.Proofs.YtmkcooamgojbpaaDoor.Blk Go.Proofs.YtmkcooamgojbpaaDoor.Dec Go.Proofs.YtmkcooamgojbpaaDoor.Words Go.Proofs.YtmkcooamgojbpaaDoor.Octets Go.Proofs.YtmkcooamgojbpaaDoor.Cmds
attribute [local go_sem ↓] Go.wp_at_zero Go.wp_at_succ
set_option linter.unusedVariables false

set_option maxRecDepth 20000 in
set_option maxHeartbeats 2000000 in
theorem nums_cs (N P : Nat) (hNP : N ≤ P) (ws : List (List UInt8)) (hk : ws.length ≤ 1000) (l : List Int) (hl : l.length ≤ 1000) (hin : ∀ n ∈ l, -9223372036854775808 ≤ n ∧ n ≤ 9223372036854775807) (B c : Nat) (cs : Array Value) (hcs : ∀ k, (h : k < l.length) → cs[k]? = some (.int .i64 l[k])) (w : World) (hN : N ≤ w.heap.size) (hw : LnS N P ws w) (hB : Blk w B cs 2) :
    Calls Tryd.prog 110 #[.pointer (some ⟨P, 0, none⟩), .slice (some ⟨B, 0, none⟩) l.length c] w (LnIs N P (ws ++ l.map decB) w) := by
  have HIN := Lib.hid hin
  have HCS := Lib.hid hcs
  have HB := Lib.hid hB
  have HW := Lib.hid hw
  clear hin hB hw hcs
  go_enter Tryd.func110, Tryd.ntmps110
  go_wp2_with fail
  go_loopw [8] (fun i wr => ∃ k : Nat, k ≤ l.length ∧ i = .int .i64 k ∧ LnS N P (ws ++ (l.take k).map decB) wr ∧ KeepL N w wr) (fun i _ => l.length - (intOf i).toNat)
  case atStart => exact ⟨0, by omega, rfl, by simpa using HW.out, KeepB.refl _ _ _ _⟩
  case round =>
    obtain ⟨k, hkl, rfl, hs, hkp⟩ := hrel
    have HS := Lib.hid hs
    have HK := Lib.hid hkp
    clear hs hkp
    by_cases hlt : k < l.length
    · have hb := HK.out.blk _ _ _ HB.out (by decide) (by decide)
      have ck : wr.cell? ⟨B, k, none⟩ = some (.int .i64 l[k]) := by
        obtain ⟨h1, h2⟩ := Array.getElem?_eq_some_iff.1 (HCS.out k hlt)
        rw [← h2]
        exact hb.cell k (Array.getElem?_eq_getElem h1)
      have hi := HIN.out _ (List.getElem_mem hlt)
      have HT := Lib.hid (take_map hlt ws)
      have hlen : (ws ++ (l.take k).map decB).length ≤ 10000 := by simp; omega
      generalize (ws ++ (l.take k).map decB) = us at HS HT hlen
      generalize l[k] = n at ck hi HT
      clear hb
      have hNr : N ≤ wr.heap.size := Nat.le_trans hN HK.out.bel.size
      go_wp2_with fail
      refine (decimal_any n hi.1 hi.2 _).mono ?_
      rintro e w1 ⟨rfl, hb1⟩
      have HS1 := Lib.hid (HS.out.below hb1)
      have HK1 := Lib.hid (HK.out.trans (KeepB.below hNr hb1))
      have hN1 : N ≤ w1.heap.size := Nat.le_trans hNr hb1.size
      clear HS HK hb1 ck
      go_wp2_with fail
      refine (put_any N P hNP us [decB n] hlen (by simp) (by simp) w1.heap.size _ _ (by simp; omega) (HS1.out.alloc _) (Blk.new _ _ _ _ rfl)).mono ?_
      rintro e w2 h2
      have HR := Lib.hid (h2.keep (HK1.out.trans (KeepB.alloc hN1 _)))
      obtain ⟨rfl, -, -⟩ := h2
      clear HS1 HK1
      go_wp2_with fail
      go_roundw
      case rel => exact ⟨k + 1, by omega, by go_num, by rw [HT.out]; exact HR.out.1, HR.out.2⟩
      case measure => simp [intOf]; omega
    · have hk2 : k = l.length := by omega
      have HR := Lib.hid (show LnS N P (ws ++ l.map decB) wr by have := HS.out; rw [hk2, List.take_length] at this; exact this)
      go_wp2_with fail
      go_end0
      exact ⟨rfl, HR.out, HK.out⟩
/-- What is known in (*words.line).command: the line, the command's box, the first numbers. -/
structure CL (w W : World) (N P A B : Nat) (ws : List Tok) (cs ds : Array Value) : Prop where
  l : LnS N P ws W
  k : KeepL N w W
  x : Blk W A cs 164
  i : Blk W B ds 2
  n : N ≤ W.heap.size
section
variable {w W W' : World} {N P A B : Nat} {ws ws' : List Tok} {cs ds : Array Value}
theorem CL.step (h : CL w W N P A B ws cs ds) (hl : LnS N P ws' W') (hk : KeepL N W W') : CL w W' N P A B ws' cs ds :=
  ⟨hl, h.k.trans hk, hk.blk _ _ _ h.x (by decide) (by decide), hk.blk _ _ _ h.i (by decide) (by decide), Nat.le_trans h.n hk.bel.size⟩
theorem CL.below (h : CL w W N P A B ws cs ds) (hb : Below W.heap.size W W') : CL w W' N P A B ws cs ds := h.step (h.l.below hb) (KeepB.below h.n hb)
theorem CL.alloc (h : CL w W N P A B ws cs ds) (o : Obj) : CL w (W.alloc o) N P A B ws cs ds := h.below ((Below.refl _ _).alloc (Nat.le_refl _) o)
theorem CL.drew (h : CL w W N P A B ws cs ds) : CL w W.drew N P A B ws cs ds := h.below (Below.refl _ _).drew
end
theorem ints_two (s i : Int) : ∀ k, (h : k < [s, i].length) → (#[.int .i64 s, .int .i64 i] : Array Value)[k]? = some (.int .i64 [s, i][k]) := fun k h => by
  have : k = 0 ∨ k = 1 := by simp at h; omega
  rcases this with rfl | rfl <;> rfl
set_option maxRecDepth 20000 in
set_option maxHeartbeats 4000000 in
theorem lcmd_cancel (N P : Nat) (hNP : N ≤ P) (ws : List Tok) (hkw : ws.length ≤ 100) (k s i a b t p q f : Int) (hk : k = 2) (hs : 0 ≤ s ∧ s ≤ 255) (hi : 0 ≤ i ∧ i ≤ 4611686018427387904) (w : World) (hN : N ≤ w.heap.size) (hw : LnS N P ws w) :
    Calls Tryd.prog 112 #[.pointer (some ⟨P, 0, none⟩), .agg (Cmd.cells ⟨k, s, i, a, b, t, p, q, f⟩)] w (LnIs N P (ws ++ [tCancel, decB s, decB i]) w) := by
  have H0 := Lib.hid (show CL w ((w.alloc (.cells (Cmd.cells ⟨k, s, i, a, b, t, p, q, f⟩) 164)).alloc (.cells #[.int .i64 s, .int .i64 i] 2)) N P w.heap.size (w.heap.size + 1) ws (Cmd.cells ⟨k, s, i, a, b, t, p, q, f⟩) #[.int .i64 s, .int .i64 i] from
    ⟨(hw.alloc _).alloc _, (KeepB.alloc hN _).trans (KeepB.alloc (by simp; omega) _), (Blk.new w (Cmd.cells ⟨k, s, i, a, b, t, p, q, f⟩) 164 w.heap.size rfl).old _, Blk.new _ _ _ _ (by simp), by simp; omega⟩)
  have HK := Lib.hid hk
  clear hk hw
  dsimp only [Cmd.cells] at H0 ⊢
  go_enter Tryd.func112, Tryd.ntmps112
  go_upto_region 2 with fail
  generalize (w.alloc (.cells #[.int .i64 k, .int .i64 s, .int .i64 i, .int .i64 a, .int .i64 b, .int .i64 t, .int .i64 p, .int .i64 q, .int .i64 f] 164)).alloc (.cells #[.int .i64 s, .int .i64 i] 2) = w1 at H0 ⊢
  have H := H0
  clear H0
  have c0 : w1.cell? ⟨w.heap.size, 0, none⟩ = some (.int .i64 k) := H.out.x.cell 0 rfl
  rw [HK.out] at c0
  go_wp2_with fail
  refine (put_any N P hNP (ws) [tCancel] (by first | omega | (simp; omega)) (by simp) (by simp) w1.heap.size _ _ (by simp; have := H.out.n; omega) (H.out.l.alloc _) (Blk.new _ _ _ _ rfl)).mono ?_
  rintro e w2 ⟨rfl, h1, h2⟩
  replace H := Lib.hid (H.out.step h1 ((KeepB.alloc H.out.n _).trans h2))
  clear h1 h2
  go_wp2_with fail
  refine (nums_cs N P hNP (ws ++ [tCancel]) (by simp; omega) [s, i] (by simp) (fun n hn => by simp at hn; omega) (w.heap.size + 1) _ _ (ints_two s i) w2 H.out.n H.out.l H.out.i).mono ?_
  rintro e w3 ⟨rfl, h1, h2⟩
  replace H := Lib.hid (H.out.step h1 h2)
  clear h1 h2
  go_wp2_with fail
  go_end0
  exact ⟨rfl, by have := H.out.l; rw [List.append_assoc] at this; exact this, H.out.k⟩
theorem infoI64 : (Tryd.prog.info? 2).map (fun i => (i.zero, i.size, i.bytes)) = some (some (.int .i64 0), 1, 8) := by kernel_rfl
theorem own_of_blk {W : World} {B T base : Nat} {cs : Array Value} (h : Blk W B cs T) (hb : base ≤ B) (hm : cs.size ≤ maxLen) : W.ownsRow base T 1 (.slice (some ⟨B, 0, none⟩) cs.size cs.size) cs.size cs.toList :=
  ⟨by simp, .inr ⟨B, cs.size, cs, rfl, hb, h, Nat.le_refl _, hm, by simp, List.take_of_length_le (by rw [Array.length_toList]; omega)⟩⟩
theorem blk_of_own {W : World} {T base n cap g : Nat} {xs : List Value} (h : W.ownsRow base T 1 (.slice (some ⟨g, 0, none⟩) n cap) n xs) : ∃ cur, Blk W g cur T ∧ base ≤ g ∧ ∀ (k : Nat) (v : Value), xs[k]? = some v → cur[k]? = some v := by
  have hl : xs.length = n * 1 := h.1
  rcases h.2 with ⟨h1, _⟩ | ⟨g', cap', cur, h1, h2, h3, h4, h5, h6, h7⟩
  · cases h1
  · injection h1 with h1 _ h8
    injection h1 with h1
    injection h1 with h1 _ _
    subst h1
    refine ⟨cur, h3, h2, fun k v hk => ?_⟩
    rw [← h7] at hk
    obtain ⟨hk1, hk2⟩ := List.getElem?_eq_some_iff.1 hk
    rw [List.getElem_take] at hk2
    rw [List.length_take, Array.length_toList] at hk1
    rw [Array.getElem?_eq_some_iff]
    exact ⟨by omega, by rw [← hk2, Array.getElem_toList]⟩
section
variable {w W W1 : World} {N P A B : Nat} {ws : List Tok} {cs ds : Array Value}
theorem blk_grown {D U : Nat} {es : Array Value} (h : Blk W D es U) (hi : Blk W B ds 2) (hU : U ≠ 2) (hg : W.grownBy W1 (some B)) : Blk W1 D es U := by
  have hne : D ≠ B := fun e => by
    subst e
    have := Eq.trans (Eq.symm (show W.heap[D]? = _ from h)) (show W.heap[D]? = _ from hi)
    injection this with this
    injection this with _ this _
    exact hU this
  exact (hg.block D h.lt (fun e => by injection e with e; exact hne e)).trans h
theorem ln_grown (h : LnS N P ws W) (hi : Blk W B ds 2) (hg : W.grownBy W1 (some B)) : LnS N P ws W1 := by
  obtain ⟨v, hv, hr⟩ := h
  refine ⟨v, blk_grown hv hi (by decide) hg, World.ownsRow.kept hr hg ?_⟩
  cases hu : v.ownBlock with
  | none => exact .inl rfl
  | some j =>
    right
    intro e
    injection e with e
    subst e
    obtain ⟨_, cur, hc⟩ := row_from' hr hu
    rw [show W.heap[j]? = _ from hi] at hc
    injection hc with hc
    injection hc with _ hc _
    exact absurd hc (by decide)
/-- Behind the growth of the numbers' row. -/
theorem CL.grown (h : CL w W N P A B ws cs ds) (hNw : N ≤ w.heap.size) (hB : w.heap.size ≤ B) (hg : W.grownBy W1 (some B)) : LnS N P ws W1 ∧ KeepL N w W1 ∧ Blk W1 A cs 164 ∧ N ≤ W1.heap.size := by
  refine ⟨ln_grown h.l h.i hg, ⟨?_, fun D es U hD h1 h2 => ?_⟩, blk_grown h.x h.i (by decide) hg, Nat.le_trans h.n hg.size⟩
  · exact h.k.bel.grown hg h.n (fun k e => by injection e with e; omega)
  · have hD2 := h.k.blk D es U hD h1 h2
    have := hD.lt
    exact (hg.block D hD2.lt (fun e => by injection e with e; omega)).trans hD2
end
theorem news_ints {w : World} {B : Nat} {cs : Array Value} {T : TypeId} (h : Blk w B cs T) : ∀ j u, cs.toList[j]? = some u → w.cell? ((⟨B, 0, none⟩ : Addr).add j) = some u := fun j u hu => by
  rw [Addr.add_mid, Nat.zero_add]; exact h.cell j (by simpa using hu)
theorem one_ints (l : List Int) : ∀ u ∈ (ints l).toArray.toList, u.oneCell' = true := fun u hu => by
  simp only [ints] at hu
  obtain ⟨n, _, rfl⟩ := List.mem_map.1 (by simpa using hu)
  rfl
theorem ints_of {l : List Int} {xs : List Value} {cur : Array Value} (hx : xs = ints l) (h : ∀ (k : Nat) (v : Value), xs[k]? = some v → cur[k]? = some v) : ∀ k, (h : k < l.length) → cur[k]? = some (.int .i64 l[k]) := fun k hk => by
  subst hx
  refine h k _ ?_
  unfold ints
  rw [List.getElem?_map, List.getElem?_eq_getElem hk]
  rfl
set_option maxRecDepth 20000 in
set_option maxHeartbeats 4000000 in
theorem lcmd_replace (N P : Nat) (hNP : N ≤ P) (ws : List Tok) (hkw : ws.length ≤ 100) (k s i a b t p q f : Int) (hk : k = 3) (hs : 0 ≤ s ∧ s ≤ 255) (hi : 0 ≤ i ∧ i ≤ 4611686018427387904) (hp : -9223372036854775808 ≤ p ∧ p ≤ 9223372036854775807) (hq : -9223372036854775808 ≤ q ∧ q ≤ 9223372036854775807) (w : World) (hN : N ≤ w.heap.size) (hw : LnS N P ws w) :
    Calls Tryd.prog 112 #[.pointer (some ⟨P, 0, none⟩), .agg (Cmd.cells ⟨k, s, i, a, b, t, p, q, f⟩)] w (LnIs N P (ws ++ [tReplace, decB s, decB i, decB p, decB q]) w) := by
  obtain ⟨i0, hi0, hz0, hz1, hz2⟩ := info_parts infoI64
  have H0 := Lib.hid (show CL w ((w.alloc (.cells (Cmd.cells ⟨k, s, i, a, b, t, p, q, f⟩) 164)).alloc (.cells #[.int .i64 s, .int .i64 i] 2)) N P w.heap.size (w.heap.size + 1) ws (Cmd.cells ⟨k, s, i, a, b, t, p, q, f⟩) #[.int .i64 s, .int .i64 i] from
    ⟨(hw.alloc _).alloc _, (KeepB.alloc hN _).trans (KeepB.alloc (by simp; omega) _), (Blk.new w (Cmd.cells ⟨k, s, i, a, b, t, p, q, f⟩) 164 w.heap.size rfl).old _, Blk.new _ _ _ _ (by simp), by simp; omega⟩)
  have HK := Lib.hid hk
  clear hk hw
  dsimp only [Cmd.cells] at H0 ⊢
  go_enter Tryd.func112, Tryd.ntmps112
  go_upto_region 2 with fail
  generalize (w.alloc (.cells #[.int .i64 k, .int .i64 s, .int .i64 i, .int .i64 a, .int .i64 b, .int .i64 t, .int .i64 p, .int .i64 q, .int .i64 f] 164)).alloc (.cells #[.int .i64 s, .int .i64 i] 2) = w1 at H0 ⊢
  have H := H0
  clear H0
  have c0 : w1.cell? ⟨w.heap.size, 0, none⟩ = some (.int .i64 k) := H.out.x.cell 0 rfl
  rw [HK.out] at c0
  go_wp2_with fail
  refine (put_any N P hNP (ws) [tReplace] (by first | omega | (simp; omega)) (by simp) (by simp) w1.heap.size _ _ (by simp; have := H.out.n; omega) (H.out.l.alloc _) (Blk.new _ _ _ _ rfl)).mono ?_
  rintro e w2 ⟨rfl, h1, h2⟩
  replace H := Lib.hid (H.out.step h1 ((KeepB.alloc H.out.n _).trans h2))
  clear h1 h2
  have k6 : w2.cell? ⟨w.heap.size, 6, none⟩ = some (.int .i64 p) := H.out.x.cell 6 rfl
  have k7 : w2.cell? ⟨w.heap.size, 7, none⟩ = some (.int .i64 q) := H.out.x.cell 7 rfl
  clear c0
  have HNB := Lib.hid (Blk.new w2 ((ints [p, q]).toArray) 2 w2.heap.size rfl)
  have HO := Lib.hid (World.ownsRow.alloc (own_of_blk (base := w.heap.size) H.out.i (by omega) (by show 2 ≤ maxLen; unfold maxLen; decide)) (.cells ((ints [p, q]).toArray) 2))
  have HLA := Lib.hid (H.out.alloc (.cells ((ints [p, q]).toArray) 2))
  have hsw := H.out.k.bel.size
  go_wp2_with (at_builtin; refine wpList_append_lies _ (by rfl) _ _ _ (by rfl) w.heap.size 2 i0 (.int .i64 0) 1 8 Tryd.underlying37 hi0 hz0 hz1 hz2 (by rfl) (by decide) _ 2 [.int .i64 s, .int .i64 i] (by rfl) HO.out ⟨w2.heap.size, 0, none⟩ 2 2 ((ints [p, q]).toArray).toList (by rfl) (by rfl) (news_ints HNB.out) (one_ints [p, q]) (by decide) (by unfold maxLen; omega) (by omega) (by simp; omega) (w2.heap.size + 1) (by simp) ?_; intro g cap2 w9 hown9 hgrow9 hat9 hlt9; obtain ⟨cur, hcur, hgb, hcells⟩ := blk_of_own hown9; have HCUR := Lib.hid hcur; have HCE := Lib.hid hcells; have HG := Lib.hid (HLA.out.grown hN (by omega) hgrow9); clear hown9 hgrow9 hat9 hlt9 hcur hcells)
  refine (nums_cs N P hNP (ws ++ [tReplace]) (by simp; omega) [s, i, p, q] (by simp) (fun n hn => by simp at hn; omega) g cap2 cur (ints_of rfl HCE.out) w9 HG.out.2.2.2 HG.out.1 HCUR.out).mono ?_
  rintro e w3 ⟨rfl, h1, h2⟩
  have HR := Lib.hid (HG.out.2.1.trans h2)
  have HL := Lib.hid h1
  clear h1 h2
  go_wp2_with fail
  go_end0
  exact ⟨rfl, by have := HL.out; rw [List.append_assoc] at this; exact this, HR.out⟩
end Go.Proofs.YtmkcooamgojbpaaDoor.Lines

/- A step as a value, its bytes in a block of their own (lemmas of XOther, for other seats). -/
namespace Go.Proofs.YtmkcooamgojbpaaDoor.Lines
open Go.RowKit Go.Proofs.YtmkcooamgojbpaaDoor.Kit Go.Proofs.YtmkcooamgojbpaaDoor.Blk Go.Proofs.YtmkcooamgojbpaaDoor.Dec Go.Proofs.YtmkcooamgojbpaaDoor.Words Go.Proofs.YtmkcooamgojbpaaDoor.Octets Go.Proofs.YtmkcooamgojbpaaDoor.Steps Go.Proofs.YtmkcooamgojbpaaDoor.Cmds
attribute [local go_sem ↓] Go.wp_at_zero Go.wp_at_succ
set_option linter.unusedVariables false

theorem one_stp (k y v : Int) (a : Option Addr) (n c : Nat) : (stepC k y v (.slice a n c)).all (·.oneCell') = true := by simp [stepC, Value.oneCell']
theorem bytes_form {N : Nat} {l : List Nat} {u : Value} {W : World} (h : BytesOf N l u W) : ∃ a n c, u = .slice a n c := by
  rcases h with ⟨_, rfl⟩ | ⟨h0, h⟩
  · exact ⟨_, _, _, rfl⟩
  · obtain ⟨g, cap, e, -, -⟩ := World.ownsRow.form h h0
    exact ⟨_, _, _, e⟩
theorem bytes_mono {N M : Nat} {l : List Nat} {u : Value} {W : World} (h : BytesOf M l u W) (hN : N ≤ M) : BytesOf N l u W :=
  h.elim .inl fun h => .inr ⟨h.1, own_mono h.2 hN⟩
theorem bytes_cell {N B : Nat} {l : List Nat} {u : Value} {cs : Array Value} {W : World} (h : BytesOf N l u W) (hB : Blk W B cs 42) (j : Nat) (x : Value) : BytesOf N l u (W.setCell ⟨B, j, none⟩ x) := by
  rcases h with h | ⟨h0, h⟩
  · exact .inl h
  · refine .inr ⟨h0, own_set h (fun hu => ?_) j x⟩
    obtain ⟨_, cur, hc⟩ := row_from' h hu
    rw [show W.heap[B]? = _ from hB] at hc
    injection hc with hc
    injection hc with _ hc _
    exact absurd hc (by decide)
theorem bytes_cells {N B : Nat} {l : List Nat} {u : Value} (vs : List Value) : ∀ (o : Nat) (cs : Array Value) (W : World), BytesOf N l u W → Blk W B cs 42 → BytesOf N l u (W.setCells B o vs) := by
  induction vs with
  | nil => intro o cs W h _; exact h
  | cons v vs ih => intro o cs W h hB; exact ih (o + 1) _ _ (bytes_cell h hB o v) (hB.set o v)
theorem bytes_alloc {N : Nat} {l : List Nat} {u : Value} {W : World} (h : BytesOf N l u W) (o : Obj) : BytesOf N l u (W.alloc o) := bytes_below h ((Below.refl _ _).alloc (Nat.le_refl _) o)


/-- The value of a step. -/
def StepV (N : Nat) (s : Stp) (v : Value) (W : World) : Prop := ∃ u, v = .agg (stepC s.k s.y s.v u) ∧ BytesOf N s.l u W
/-- What a reading answers whose value lies in memory. -/
def RdV {α : Type} (rel : α → Value → World → Prop) (o : Option (α × List (List UInt8))) (P : Nat) (w : World) (e : Ending) (w' : World) : Prop :=
  (o = none ∧ e = badE ∧ Chg w.heap.size P w w') ∨ ∃ x l v, o = some (x, l) ∧ e = .returned v ∧ rel x v w' ∧ WRd P l w' ∧ Chg w.heap.size P w w'
def zStep : Array Value := stepC 0 0 0 (.slice none 0 0)
theorem one_cmd (c : Cmd) : c.cells.all (·.oneCell') = true := by simp [Cmd.cells, Value.oneCell']
end Go.Proofs.YtmkcooamgojbpaaDoor.Lines

/- words.reader's command. -/
namespace Go.Proofs.YtmkcooamgojbpaaDoor.Lines
open Go.RowKit Go.Proofs.YtmkcooamgojbpaaDoor.Kit Go.Proofs.YtmkcooamgojbpaaDoor.Blk Go.Proofs.YtmkcooamgojbpaaDoor.Dec Go.Proofs.YtmkcooamgojbpaaDoor.Words Go.Proofs.YtmkcooamgojbpaaDoor.Octets Go.Proofs.YtmkcooamgojbpaaDoor.Steps Go.Proofs.YtmkcooamgojbpaaDoor.Cmds
attribute [local go_sem ↓] Go.wp_at_zero Go.wp_at_succ
set_option linter.unusedVariables false

theorem cmd_none {k : Int} {ws : List Tok} (h : inP 255 ws = none) : cmdP k ws = none := by unfold cmdP; rw [h]; rfl
theorem cmd_none2 {k s : Int} {ws l : List Tok} (h : inP 255 ws = some (s, l)) (h2 : inP 4611686018427387904 l = none) : cmdP k ws = none := by unfold cmdP; rw [h]; dsimp only [Option.bind]; rw [h2]
theorem cmd_two_eq {s i : Int} {ws l l2 : List Tok} (h : inP 255 ws = some (s, l)) (h2 : inP 4611686018427387904 l = some (i, l2)) :
    cmdP 2 ws = if rightC ⟨2, s, i, 0, 0, 0, 0, 0, 0⟩ = true then some (⟨1, 0, 0, formC ⟨2, s, i, 0, 0, 0, 0, 0, 0⟩⟩, l2) else none := by unfold cmdP; rw [h]; dsimp only [Option.bind]; rw [h2]; rfl
set_option maxRecDepth 20000 in
set_option maxHeartbeats 4000000 in
theorem cmd_two (P : Nat) (ws : List Tok) (w : World) (h : WRd P ws w) :
    Calls Tryd.prog 133 #[.pointer (some ⟨P, 0, none⟩), .int .i64 2] w (RdV (StepV w.heap.size) (cmdP 2 ws) P w) := by
  have hmf : ∀ (fn : Fn) (first cap : Array Value) (w : World), (Instr.makeFunc fn first cap).run Tryd.prog w = .ok (.func fn first cap) w := fun _ _ _ _ => rfl
  have hP := h.lt
  have hR0 := h.below (P := P) hP ((Below.refl w.heap.size w).alloc (Nat.le_refl _) (.cells zStep 42))
  have HI := Lib.hid (in_any' P 255 ws (w.alloc (.cells zStep 42)) hR0)
  have HZ0 := Lib.hid (Blk.new w zStep 42 w.heap.size rfl)
  have HC0 := Lib.hid ((Chg.refl w.heap.size P w).alloc (Nat.le_refl _) (.cells zStep 42))
  clear h hR0
  go_enter Tryd.func133, Tryd.ntmps133
  go_wp2_with fail
  refine HI.out.mono ?_
  rintro e w1 (⟨ho, rfl, hc⟩ | ⟨s, l, ho, rfl, hr, hc⟩)
  · have HN := Lib.hid (cmd_none (k := 2) ho)
    have HC := Lib.hid (HC0.out.trans (hc.mono (by simp)))
    clear ho hc
    go_wp2_with fail
    exact ⟨rfl, .inl ⟨HN.out, rfl, HC.out⟩⟩
  have HO := Lib.hid ho
  have HC := Lib.hid (HC0.out.trans (hc.mono (by simp)))
  have HZ := Lib.hid (hc.blk (by simp) (by omega) HZ0.out)
  have HJ := Lib.hid (in_any' P 4611686018427387904 l w1 hr)
  have HL1 := Lib.hid hr.lt
  clear ho hr hc HI HZ0 HC0
  go_wp2_with fail
  refine HJ.out.mono ?_
  rintro e w2 (⟨ho, rfl, hc⟩ | ⟨i, l2, ho, rfl, hr, hc⟩)
  · have HN := Lib.hid (cmd_none2 (k := 2) HO.out ho)
    replace HC := Lib.hid (HC.out.trans (hc.mono HC.out.size))
    clear ho hc
    go_wp2_with fail
    exact ⟨rfl, .inl ⟨HN.out, rfl, HC.out⟩⟩
  have HO2 := Lib.hid ho
  replace HC := Lib.hid (HC.out.trans (hc.mono HC.out.size))
  replace HZ := Lib.hid (hc.blk HZ.out.lt (by omega) HZ.out)
  have HR := Lib.hid hr
  clear ho hr hc HJ HL1
  go_wp2_with fail
  have HE := Lib.hid (cmd_two_eq HO.out HO2.out)
  replace HC := Lib.hid (HC.out.alloc HC.out.size (.cells (Cmd.cells ⟨2, s, i, 0, 0, 0, 0, 0, 0⟩) 164))
  replace HZ := Lib.hid (HZ.out.old (.cells (Cmd.cells ⟨2, s, i, 0, 0, 0, 0, 0, 0⟩) 164))
  replace HR := Lib.hid (HR.out.below HR.out.lt ((Below.refl _ _).alloc (Nat.le_refl _) (.cells (Cmd.cells ⟨2, s, i, 0, 0, 0, 0, 0, 0⟩) 164)))
  change Calls _ _ _ (w2.alloc (.cells (Cmd.cells ⟨2, s, i, 0, 0, 0, 0, 0, 0⟩) 164)) _
  generalize w2.alloc (.cells (Cmd.cells ⟨2, s, i, 0, 0, 0, 0, 0, 0⟩) 164) = w3 at HC HZ HR ⊢
  generalize w2.heap.size = C2
  refine (of_any ⟨2, s, i, 0, 0, 0, 0, 0, 0⟩ w3 (by dsimp only; omega) (by dsimp only; omega) (by dsimp only; omega) (by dsimp only; omega)).mono ?_
  rintro e w5 (⟨hrc, v, rfl, hv, hb⟩ | ⟨hrc, rfl, hb⟩)
  · obtain ⟨g, cap, rfl, -, -⟩ := World.ownsRow.form hv (by simp [formC])
    have HE5 := Lib.hid (show cmdP 2 ws = some (⟨1, 0, 0, formC ⟨2, s, i, 0, 0, 0, 0, 0, 0⟩⟩, l2) by rw [HE.out, if_pos hrc])
    have HY5 := Lib.hid (show BytesOf w.heap.size (formC ⟨2, s, i, 0, 0, 0, 0, 0, 0⟩) (.slice (some ⟨g, 0, none⟩) (formC ⟨2, s, i, 0, 0, 0, 0, 0, 0⟩).length cap) w5 from .inr ⟨by simp [formC], own_mono hv HC.out.size⟩)
    generalize formC ⟨2, s, i, 0, 0, 0, 0, 0, 0⟩ = bs at HE5 HY5 ⊢
    generalize bs.length = bn at HY5 ⊢
    have HC6 := Lib.hid ((HC.out.step (hb.mono HC.out.size)).alloc (Nat.le_trans HC.out.size hb.size) (.cells (stepC 1 0 0 (.slice (some ⟨g, 0, none⟩) bn cap)) 42))
    have HZ6 := Lib.hid ((HZ.out.below hb HZ.out.lt).old (.cells (stepC 1 0 0 (.slice (some ⟨g, 0, none⟩) bn cap)) 42))
    have HR6 := Lib.hid ((HR.out.below HR.out.lt hb).below (P := P) (n := w5.heap.size) (Nat.lt_of_lt_of_le HR.out.lt hb.size) ((Below.refl w5.heap.size w5).alloc (Nat.le_refl _) (.cells (stepC 1 0 0 (.slice (some ⟨g, 0, none⟩) bn cap)) 42)))
    have HY6 := Lib.hid (bytes_alloc HY5.out (.cells (stepC 1 0 0 (.slice (some ⟨g, 0, none⟩) bn cap)) 42))
    have HX6 := Lib.hid (Blk.new w5 (stepC 1 0 0 (.slice (some ⟨g, 0, none⟩) bn cap)) 42 w5.heap.size rfl)
    clear hrc hv hb HC HZ HR HY5 HE
    have HZ5 := Lib.hid (Blk.new w5 (stepC 0 0 0 (.slice none 0 0)) 42 w5.heap.size rfl)
    go_wp2_with (refine store_blk (by rfl) 42 _ _ (by rfl) w5.heap.size (by rfl) (stepC 0 0 0 (.slice none 0 0)) (stepC 1 0 0 (.slice (some ⟨g, 0, none⟩) bn cap)) 42 HZ5.out (by rfl) rfl (by kernel_rfl) (one_stp _ _ _ _ _ _) ?_; change wpList _ _ _ _ _ (World.setCells (w5.alloc (.cells (stepC 0 0 0 (.slice none 0 0)) 42)) w5.heap.size 0 ((stepC 1 0 0 (.slice (some ⟨g, 0, none⟩) bn cap))).toList); rw [alloc_setCells w5 (stepC 0 0 0 (.slice none 0 0)) (stepC 1 0 0 (.slice (some ⟨g, 0, none⟩) bn cap)) 42 rfl w5.heap.size rfl]; generalize w5.alloc (.cells (stepC 1 0 0 (.slice (some ⟨g, 0, none⟩) bn cap)) 42) = w6 at HC6 HZ6 HR6 HY6 HX6 ⊢; generalize w5.heap.size = X6 at HX6 ⊢; clear HZ5)
    refine (must_true _).mono ?_
    rintro e w6' ⟨rfl, rfl⟩
    go_wp2_with (first
      | (refine load_blk (by rfl) 42 _ (by rfl) X6 (by rfl) _ _ HX6.out _ Tryd.underlying42 rfl (by kernel_rfl) ?_)
      | (refine store_blk (by rfl) 42 _ _ (by rfl) w.heap.size (by rfl) _ (stepC 1 0 0 (.slice (some ⟨g, 0, none⟩) bn cap)) 42 HZ6.out (by rfl) rfl (by kernel_rfl) (one_stp _ _ _ _ _ _) ?_))
    refine bodyPost_ret (results_cell_row rfl _ _ _ _ _ (0, 0) _ rfl (HZ6.out.setCells (stepC 1 0 0 (.slice (some ⟨g, 0, none⟩) bn cap)) rfl) Tryd.underlying42 rfl (by kernel_rfl)) rfl ?_
    have hbel := Blk.Below.setCells (stepC 1 0 0 (.slice (some ⟨g, 0, none⟩) bn cap)).toList 0 _ (Below.refl w.heap.size w6) (B := w.heap.size) (Nat.le_refl _)
    exact .inr ⟨_, l2, _, HE5.out, rfl, ⟨_, rfl, bytes_cells _ _ _ _ HY6.out HZ6.out⟩, HR6.out.below hP hbel, HC6.out.step hbel⟩
  · have HE5 := Lib.hid (show cmdP 2 ws = none by rw [HE.out, if_neg (by rw [hrc]; decide)])
    have HC5 := Lib.hid (HC.out.step (hb.mono HC.out.size))
    have HC6 := Lib.hid (HC5.out.alloc (Nat.le_trans HC.out.size hb.size) (.cells zStep 42))
    clear hrc hb HC HZ HR HE
    have HZ5 := Lib.hid (Blk.new w5 (stepC 0 0 0 (.slice none 0 0)) 42 w5.heap.size rfl)
    go_wp2_with (refine store_blk (by rfl) 42 _ _ (by rfl) w5.heap.size (by rfl) (stepC 0 0 0 (.slice none 0 0)) (stepC 0 0 0 (.slice none 0 0)) 42 HZ5.out (by rfl) rfl (by kernel_rfl) (one_stp _ _ _ _ _ _) ?_; change wpList _ _ _ _ _ (World.setCells (w5.alloc (.cells (stepC 0 0 0 (.slice none 0 0)) 42)) w5.heap.size 0 ((stepC 0 0 0 (.slice none 0 0))).toList); rw [alloc_setCells w5 (stepC 0 0 0 (.slice none 0 0)) (stepC 0 0 0 (.slice none 0 0)) 42 rfl w5.heap.size rfl]; change wpList _ _ _ _ _ (w5.alloc (.cells zStep 42)); generalize w5.alloc (.cells zStep 42) = w6 at HC6 ⊢; clear HZ5)
    refine (must_false _).mono ?_
    rintro e w6' ⟨rfl, rfl⟩
    go_wp2_with fail
    exact ⟨rfl, .inl ⟨HE5.out, rfl, HC6.out⟩⟩
end Go.Proofs.YtmkcooamgojbpaaDoor.Lines

/- words.reader's step: the word 'cancel'. -/
namespace Go.Proofs.YtmkcooamgojbpaaDoor.Lines
open Go.RowKit Go.Proofs.YtmkcooamgojbpaaDoor.Kit Go.Proofs.YtmkcooamgojbpaaDoor.Blk Go.Proofs.YtmkcooamgojbpaaDoor.Dec Go.Proofs.YtmkcooamgojbpaaDoor.Words Go.Proofs.YtmkcooamgojbpaaDoor.Octets Go.Proofs.YtmkcooamgojbpaaDoor.Steps Go.Proofs.YtmkcooamgojbpaaDoor.Cmds
attribute [local go_sem ↓] Go.wp_at_zero Go.wp_at_succ
set_option linter.unusedVariables false

def StepIs (o : Option Stp) (P : Nat) (w : World) (e : Ending) (w' : World) : Prop :=
  (o = none ∧ e = badE ∧ Chg w.heap.size P w w') ∨ ∃ s v, o = some s ∧ e = .returned v ∧ StepV w.heap.size s v w' ∧ Chg w.heap.size P w w'
theorem strB_toList (l : List UInt8) : (strB l).toList = l := by rw [ByteArray.toList_eq, strB_list]
theorem step_eq {x : Tok} {l : List Tok} {o : Option (Stp × List Tok)} (h : bodyP x l = o) : stepP (x :: l) = o.bind fun y => if y.2 = [] then some y.1 else none := by unfold stepP wordP; dsimp only [Option.bind]; rw [h]
theorem WRd.slice {P : Nat} {ws : List Tok} {W : World} (h : WRd P ws W) : ∃ a c, Blk W P #[.slice a ws.length c] 119 := by
  obtain ⟨_, v, h1, h2⟩ := h
  rcases h2 with ⟨rfl, a, c, rfl⟩ | ⟨g, o, c, rfl, -⟩
  · exact ⟨a, c, h1⟩
  · exact ⟨_, c, h1⟩
set_option maxRecDepth 20000 in
set_option maxHeartbeats 4000000 in
theorem step_cancel (P : Nat) (l : List Tok) (w : World) (h : WRd P (tCancel :: l) w) :
    Calls Tryd.prog 80 #[.pointer (some ⟨P, 0, none⟩)] w (StepIs (stepP (tCancel :: l)) P w) := by
  have hP := h.lt
  have hR0 := h.below (P := P) hP ((Below.refl w.heap.size w).alloc (Nat.le_refl _) (.cells (stepC 0 0 0 (.slice none 0 0)) 42))
  have HI := Lib.hid (word_any' P _ _ hR0)
  have HZ0 := Lib.hid (Blk.new w (stepC 0 0 0 (.slice none 0 0)) 42 w.heap.size rfl)
  have HC0 := Lib.hid ((Chg.refl w.heap.size P w).alloc (Nat.le_refl _) (.cells (stepC 0 0 0 (.slice none 0 0)) 42))
  have HE := Lib.hid (step_eq (show bodyP tCancel l = cmdP 2 l from rfl))
  clear h hR0
  go_enter Tryd.func80, Tryd.ntmps80
  go_wp2_with fail
  refine HI.out.mono ?_
  rintro e w1 (⟨ho, rfl, hc⟩ | ⟨x, l', ho, rfl, hr, hc⟩)
  · cases ho
  injection ho with ho
  injection ho with h1 h2
  subst h1 h2
  have HC := Lib.hid (HC0.out.trans (hc.mono (by simp)))
  have HZ := Lib.hid (hc.blk (by simp) (by omega) HZ0.out)
  have HR := Lib.hid hr
  have HM := Lib.hid (cmd_two P l w1 hr)
  clear hr hc HI HZ0 HC0
  have k1 : ((strB tCancel).toList == [116, 105, 99, 107]) = false := by rw [strB_toList]; decide
  have k2 : ((strB tCancel).toList == [105, 110, 100, 101, 120]) = false := by rw [strB_toList]; decide
  have k3 : ((strB tCancel).toList == [98, 105, 100]) = false := by rw [strB_toList]; decide
  have k4 : ((strB tCancel).toList == [110, 101, 119]) = false := by rw [strB_toList]; decide
  have k5 : ((strB tCancel).toList == [99, 97, 110, 99, 101, 108]) = true := by rw [strB_toList]; decide
  go_wp2_with fail
  refine HM.out.mono ?_
  rintro e w2 (⟨ho, rfl, hc⟩ | ⟨st, l3, v, ho, rfl, ⟨u, rfl, hby⟩, hr, hc⟩)
  · have HN := Lib.hid (show stepP (tCancel :: l) = none by rw [HE.out, ho]; rfl)
    replace HC := Lib.hid (HC.out.trans (hc.mono HC.out.size))
    clear ho hc HM HE k1 k2 k3 k4 k5
    go_wp2_with fail
    exact ⟨rfl, .inl ⟨HN.out, rfl, HC.out⟩⟩
  rw [ho] at HE
  replace HE := Lib.hid (show stepP (tCancel :: l) = if l3 = [] then some st else none from HE.out)
  obtain ⟨ua, un, uc, rfl⟩ := bytes_form hby
  replace HZ := Lib.hid (hc.blk HZ.out.lt (by omega) HZ.out)
  have HY := Lib.hid (bytes_cells (stepC st.k st.y st.v (.slice ua un uc)).toList 0 _ _ (bytes_mono hby HC.out.size) HZ.out)
  have hbel := Blk.Below.setCells (stepC st.k st.y st.v (.slice ua un uc)).toList 0 _ (Below.refl w.heap.size w2) (B := w.heap.size) (Nat.le_refl _)
  replace HR := Lib.hid (hr.below hP hbel)
  replace HC := Lib.hid ((HC.out.trans (hc.mono HC.out.size)).step hbel)
  have HZ3 := Lib.hid (HZ.out.setCells (stepC st.k st.y st.v (.slice ua un uc)) rfl)
  clear ho hby hr hc hbel HM k1 k2 k3 k4 k5
  go_wp2_with (refine store_blk (by rfl) 42 _ _ (by rfl) w.heap.size (by rfl) _ (stepC st.k st.y st.v (.slice ua un uc)) 42 HZ.out (by rfl) rfl (by kernel_rfl) (one_stp _ _ _ _ _ _) ?_; clear HZ; generalize w2.setCells w.heap.size 0 (stepC st.k st.y st.v (.slice ua un uc)).toList = w3 at HC HZ3 HR HY ⊢; have HZ := HZ3; clear HZ3; obtain ⟨ra, rc, hrs⟩ := HR.out.slice; have c0 : w3.cell? ⟨P, 0, none⟩ = some (.slice ra l3.length rc) := hrs.cell 0 rfl; clear hrs)
  by_cases hl3 : l3 = []
  · have HE3 := Lib.hid (show stepP (tCancel :: l) = some st by rw [HE.out, if_pos hl3])
    have hz : ((l3.length : Int) == 0) = true := by rw [hl3]; rfl
    clear HE c0
    rw [hz]
    refine (must_true _).mono ?_
    rintro e w4 ⟨rfl, rfl⟩
    go_wp2_with (first
      | (refine load_blk (by rfl) 42 _ (by rfl) w.heap.size (by rfl) _ _ HZ.out _ Tryd.underlying42 rfl (by kernel_rfl) ?_)
      | (refine store_blk (by rfl) 42 _ _ (by rfl) w.heap.size (by rfl) _ (stepC st.k st.y st.v (.slice ua un uc)) 42 HZ.out (by rfl) rfl (by kernel_rfl) (one_stp _ _ _ _ _ _) ?_))
    refine bodyPost_ret (results_cell_row rfl _ _ _ _ _ (0, 0) _ rfl (HZ.out.setCells (stepC st.k st.y st.v (.slice ua un uc)) rfl) Tryd.underlying42 rfl (by kernel_rfl)) rfl ?_
    have hbel := Blk.Below.setCells (stepC st.k st.y st.v (.slice ua un uc)).toList 0 _ (Below.refl w.heap.size w3) (B := w.heap.size) (Nat.le_refl _)
    exact .inr ⟨st, _, HE3.out, rfl, ⟨_, rfl, bytes_cells _ _ _ _ HY.out HZ.out⟩, HC.out.step hbel⟩
  · have HE3 := Lib.hid (show stepP (tCancel :: l) = none by rw [HE.out]; exact if_neg hl3)
    have hz : ((l3.length : Int) == 0) = false := by
      have : l3.length ≠ 0 := fun h => hl3 (List.length_eq_zero_iff.1 h)
      simp; omega
    clear HE
    rw [hz]
    refine (must_false _).mono ?_
    rintro e w4 ⟨rfl, rfl⟩
    go_wp2_with fail
    exact ⟨rfl, .inl ⟨HE3.out, rfl, HC.out⟩⟩
end Go.Proofs.YtmkcooamgojbpaaDoor.Lines

/- words.reader's command: 'replace'. -/
namespace Go.Proofs.YtmkcooamgojbpaaDoor.Lines
open Go.RowKit Go.Proofs.YtmkcooamgojbpaaDoor.Kit Go.Proofs.YtmkcooamgojbpaaDoor.Blk Go.Proofs.YtmkcooamgojbpaaDoor.Dec Go.Proofs.YtmkcooamgojbpaaDoor.Words Go.Proofs.YtmkcooamgojbpaaDoor.Octets Go.Proofs.YtmkcooamgojbpaaDoor.Steps Go.Proofs.YtmkcooamgojbpaaDoor.Cmds
attribute [local go_sem ↓] Go.wp_at_zero Go.wp_at_succ
set_option linter.unusedVariables false

/-- Where the reading of a command stands. -/
structure CS (w : World) (P C : Nat) (l : List Tok) (cs : Array Value) (W : World) : Prop where
  chg : Chg w.heap.size P w W
  z : Blk W w.heap.size (stepC 0 0 0 (.slice none 0 0)) 42
  r : WRd P l W
  c : Blk W C cs 164
  PC : w.heap.size < C
  P0 : P < w.heap.size
section
variable {w W W' : World} {P C : Nat} {l l' : List Tok} {cs : Array Value}
theorem CS.rd (h : CS w P C l cs W) (hc : Chg W.heap.size P W W') (hr : WRd P l' W') : CS w P C l' cs W' :=
  have h1 := h.PC; have h2 := h.P0
  ⟨h.chg.trans (hc.mono h.chg.size), hc.blk h.z.lt (by omega) h.z, hr, hc.blk h.c.lt (by omega) h.c, h.PC, h.P0⟩
theorem CS.put (h : CS w P C l cs W) (j : Nat) (v : Value) : CS w P C l (cs.setIfInBounds j v) (W.setCell ⟨C, j, none⟩ v) :=
  have h1 := h.PC; have h2 := h.P0
  have hb : Below w.heap.size W (W.setCell ⟨C, j, none⟩ v) := (Below.refl _ _).setCell (by show w.heap.size ≤ C; omega) _
  ⟨h.chg.step hb, h.z.apart _ _ (by show C ≠ _; omega), h.r.below h2 hb, h.c.set j v, h.PC, h.P0⟩
theorem CS.below (h : CS w P C l cs W) (hb : Below W.heap.size W W') : CS w P C l cs W' :=
  ⟨h.chg.step (hb.mono h.chg.size), h.z.below hb h.z.lt, h.r.below h.r.lt hb, h.c.below hb h.c.lt, h.PC, h.P0⟩
theorem CS.alloc (h : CS w P C l cs W) (o : Obj) : CS w P C l cs (W.alloc o) := h.below ((Below.refl _ _).alloc (Nat.le_refl _) o)
theorem CS.start {w w2 : World} {P : Nat} {l : List Tok} (hc : Chg w.heap.size P w w2) (hz : Blk w2 w.heap.size (stepC 0 0 0 (.slice none 0 0)) 42) (hr : WRd P l w2) (hP : P < w.heap.size) (cs : Array Value) :
    CS w P w2.heap.size l cs (w2.alloc (.cells cs 164)) :=
  ⟨hc.alloc hc.size _, hz.old _, hr.below hr.lt ((Below.refl _ _).alloc (Nat.le_refl _) _), Blk.new _ _ _ _ rfl, hz.lt, hP⟩
end
theorem cmd_eq {k s i : Int} {ws l l2 : List Tok} (h : inP 255 ws = some (s, l)) (h2 : inP 4611686018427387904 l = some (i, l2)) :
    cmdP k ws = (if k = 1 then newC s i l2 else if k = 3 then repC s i l2 else some (⟨k, s, i, 0, 0, 0, 0, 0, 0⟩, l2)).bind fun c => if rightC c.1 = true then some (⟨1, 0, 0, formC c.1⟩, c.2) else none := by unfold cmdP; rw [h]; dsimp only [Option.bind]; rw [h2]
theorem rep_none {s i : Int} {l : List Tok} (h : numP l = none) : repC s i l = none := by unfold repC; rw [h]; rfl
theorem rep_none2 {s i p : Int} {l l2 : List Tok} (h : numP l = some (p, l2)) (h2 : numP l2 = none) : repC s i l = none := by unfold repC; rw [h]; dsimp only [Option.bind]; rw [h2]
theorem rep_some {s i p q : Int} {l l2 l3 : List Tok} (h : numP l = some (p, l2)) (h2 : numP l2 = some (q, l3)) : repC s i l = some (⟨3, s, i, 0, 0, 0, p, q, 0⟩, l3) := by unfold repC; rw [h]; dsimp only [Option.bind]; rw [h2]
set_option maxRecDepth 20000 in
set_option maxHeartbeats 4000000 in
theorem cmd_three (P : Nat) (ws : List Tok) (w : World) (h : WRd P ws w) :
    Calls Tryd.prog 133 #[.pointer (some ⟨P, 0, none⟩), .int .i64 3] w (RdV (StepV w.heap.size) (cmdP 3 ws) P w) := by
  have hmf : ∀ (fn : Fn) (first cap : Array Value) (w : World), (Instr.makeFunc fn first cap).run Tryd.prog w = .ok (.func fn first cap) w := fun _ _ _ _ => rfl
  have hP := h.lt
  have hR0 := h.below (P := P) hP ((Below.refl w.heap.size w).alloc (Nat.le_refl _) (.cells zStep 42))
  have HI := Lib.hid (in_any' P 255 ws (w.alloc (.cells zStep 42)) hR0)
  have HZ0 := Lib.hid (Blk.new w zStep 42 w.heap.size rfl)
  have HC0 := Lib.hid ((Chg.refl w.heap.size P w).alloc (Nat.le_refl _) (.cells zStep 42))
  clear h hR0
  go_enter Tryd.func133, Tryd.ntmps133
  go_wp2_with fail
  refine HI.out.mono ?_
  rintro e w1 (⟨ho, rfl, hc⟩ | ⟨s, l, ho, rfl, hr, hc⟩)
  · have HN := Lib.hid (cmd_none (k := 3) ho)
    have HC := Lib.hid (HC0.out.trans (hc.mono (by simp)))
    clear ho hc
    go_wp2_with fail
    exact ⟨rfl, .inl ⟨HN.out, rfl, HC.out⟩⟩
  have HO := Lib.hid ho
  have HC := Lib.hid (HC0.out.trans (hc.mono (by simp)))
  have HZ := Lib.hid (hc.blk (by simp) (by omega) HZ0.out)
  have HJ := Lib.hid (in_any' P 4611686018427387904 l w1 hr)
  have HL1 := Lib.hid hr.lt
  clear ho hr hc HI HZ0 HC0
  go_wp2_with fail
  refine HJ.out.mono ?_
  rintro e w2 (⟨ho, rfl, hc⟩ | ⟨i, l2, ho, rfl, hr, hc⟩)
  · have HN := Lib.hid (cmd_none2 (k := 3) HO.out ho)
    replace HC := Lib.hid (HC.out.trans (hc.mono HC.out.size))
    clear ho hc
    go_wp2_with fail
    exact ⟨rfl, .inl ⟨HN.out, rfl, HC.out⟩⟩
  have HO2 := Lib.hid ho
  replace HC := Lib.hid (HC.out.trans (hc.mono HC.out.size))
  replace HZ := Lib.hid (hc.blk HZ.out.lt (by omega) HZ.out)
  have HR := Lib.hid hr
  clear ho hr hc HJ HL1
  have HE := Lib.hid (cmd_eq (k := 3) HO.out HO2.out)
  clear HO HO2
  go_wp2_with fail
  replace HE := Lib.hid HE.out
  have HS := Lib.hid (CS.start HC.out HZ.out HR.out hP #[.int .i64 3, .int .i64 s, .int .i64 i, .int .i64 0, .int .i64 0, .int .i64 0, .int .i64 0, .int .i64 0, .int .i64 0])
  clear HC HZ HR
  generalize w2.alloc (.cells #[.int .i64 3, .int .i64 s, .int .i64 i, .int .i64 0, .int .i64 0, .int .i64 0, .int .i64 0, .int .i64 0, .int .i64 0] 164) = w3 at HS ⊢
  generalize w2.heap.size = C2 at HS ⊢
  refine (num_any' P l2 w3 HS.out.r).mono ?_
  rintro e w4 (⟨ho, rfl, hc⟩ | ⟨p, l3, ho, rfl, hr, hc⟩)
  · have HN := Lib.hid (show cmdP 3 ws = none by rw [HE.out]; simp only [if_neg (show ¬ ((3 : Int) = 1) by decide), if_pos]; rw [(rep_none ho)]; rfl)
    have HC := Lib.hid (HS.out.chg.trans (hc.mono HS.out.chg.size))
    clear ho hc
    go_wp2_with fail
    exact ⟨rfl, .inl ⟨HN.out, rfl, HC.out⟩⟩
  have HP := Lib.hid ho
  replace HS := Lib.hid (HS.out.rd hc hr)
  have hpb := (num_ok HP.out).2
  clear ho hr hc
  go_wp2_with fail
  refine (num_any' P l3 w4 HS.out.r).mono ?_
  rintro e w5 (⟨ho, rfl, hc⟩ | ⟨q, l4, ho, rfl, hr, hc⟩)
  · have HN := Lib.hid (show cmdP 3 ws = none by rw [HE.out]; simp only [if_neg (show ¬ ((3 : Int) = 1) by decide), if_pos]; rw [(rep_none2 HP.out ho)]; rfl)
    have HC := Lib.hid (HS.out.chg.trans (hc.mono HS.out.chg.size))
    clear ho hc
    go_wp2_with fail
    exact ⟨rfl, .inl ⟨HN.out, rfl, HC.out⟩⟩
  have HQ := Lib.hid ho
  replace HS := Lib.hid (HS.out.rd hc hr)
  have hqb := (num_ok HQ.out).2
  replace HE := Lib.hid (show cmdP 3 ws = if rightC ⟨3, s, i, 0, 0, 0, p, q, 0⟩ = true then some (⟨1, 0, 0, formC ⟨3, s, i, 0, 0, 0, p, q, 0⟩⟩, l4) else none by rw [HE.out]; simp only [if_neg (show ¬ ((3 : Int) = 1) by decide), if_pos]; rw [rep_some HP.out HQ.out]; rfl)
  clear ho hr hc HP HQ
  have c6 := HS.out.c.cell 6 rfl
  have f6 := HS.out.c.free 6
  have c7 := HS.out.c.cell 7 rfl
  have f7 := HS.out.c.free 7
  replace HS := Lib.hid (show CS w P C2 l4 (Cmd.cells ⟨3, s, i, 0, 0, 0, p, q, 0⟩) ((w5.setCell ⟨C2, 6, none⟩ (.int .i64 p)).setCell ⟨C2, 7, none⟩ (.int .i64 q)) from (HS.out.put 6 _).put 7 _)
  go_upto_region 13 with fail
  generalize (w5.setCell ⟨C2, 6, none⟩ (.int .i64 p)).setCell ⟨C2, 7, none⟩ (.int .i64 q) = w6 at HS ⊢
  clear c6 c7 f6 f7
  have HC := Lib.hid HS.out.chg
  have HZ := Lib.hid HS.out.z
  have HR := Lib.hid HS.out.r
  go_wp2_with (refine load_blk (by rfl) 164 _ (by rfl) C2 (by rfl) _ _ HS.out.c _ Tryd.underlying164 rfl (by kernel_rfl) ?_)
  clear HS
  refine (of_any ⟨3, s, i, 0, 0, 0, p, q, 0⟩ w6 (by dsimp only; omega) (by dsimp only; omega) (by dsimp only; omega) (by dsimp only; omega)).mono ?_
  rintro e w5 (⟨hrc, v, rfl, hv, hb⟩ | ⟨hrc, rfl, hb⟩)
  · obtain ⟨g, cap, rfl, -, -⟩ := World.ownsRow.form hv (by simp [formC])
    have HE5 := Lib.hid (show cmdP 3 ws = some (⟨1, 0, 0, formC ⟨3, s, i, 0, 0, 0, p, q, 0⟩⟩, l4) by rw [HE.out, if_pos hrc])
    have HY5 := Lib.hid (show BytesOf w.heap.size (formC ⟨3, s, i, 0, 0, 0, p, q, 0⟩) (.slice (some ⟨g, 0, none⟩) (formC ⟨3, s, i, 0, 0, 0, p, q, 0⟩).length cap) w5 from .inr ⟨by simp [formC], own_mono hv HC.out.size⟩)
    generalize formC ⟨3, s, i, 0, 0, 0, p, q, 0⟩ = bs at HE5 HY5 ⊢
    generalize bs.length = bn at HY5 ⊢
    have HC6 := Lib.hid ((HC.out.step (hb.mono HC.out.size)).alloc (Nat.le_trans HC.out.size hb.size) (.cells (stepC 1 0 0 (.slice (some ⟨g, 0, none⟩) bn cap)) 42))
    have HZ6 := Lib.hid ((HZ.out.below hb HZ.out.lt).old (.cells (stepC 1 0 0 (.slice (some ⟨g, 0, none⟩) bn cap)) 42))
    have HR6 := Lib.hid ((HR.out.below HR.out.lt hb).below (P := P) (n := w5.heap.size) (Nat.lt_of_lt_of_le HR.out.lt hb.size) ((Below.refl w5.heap.size w5).alloc (Nat.le_refl _) (.cells (stepC 1 0 0 (.slice (some ⟨g, 0, none⟩) bn cap)) 42)))
    have HY6 := Lib.hid (bytes_alloc HY5.out (.cells (stepC 1 0 0 (.slice (some ⟨g, 0, none⟩) bn cap)) 42))
    have HX6 := Lib.hid (Blk.new w5 (stepC 1 0 0 (.slice (some ⟨g, 0, none⟩) bn cap)) 42 w5.heap.size rfl)
    clear hrc hv hb HC HZ HR HY5 HE
    have HZ5 := Lib.hid (Blk.new w5 (stepC 0 0 0 (.slice none 0 0)) 42 w5.heap.size rfl)
    go_wp2_with (refine store_blk (by rfl) 42 _ _ (by rfl) w5.heap.size (by rfl) (stepC 0 0 0 (.slice none 0 0)) (stepC 1 0 0 (.slice (some ⟨g, 0, none⟩) bn cap)) 42 HZ5.out (by rfl) rfl (by kernel_rfl) (one_stp _ _ _ _ _ _) ?_; change wpList _ _ _ _ _ (World.setCells (w5.alloc (.cells (stepC 0 0 0 (.slice none 0 0)) 42)) w5.heap.size 0 ((stepC 1 0 0 (.slice (some ⟨g, 0, none⟩) bn cap))).toList); rw [alloc_setCells w5 (stepC 0 0 0 (.slice none 0 0)) (stepC 1 0 0 (.slice (some ⟨g, 0, none⟩) bn cap)) 42 rfl w5.heap.size rfl]; generalize w5.alloc (.cells (stepC 1 0 0 (.slice (some ⟨g, 0, none⟩) bn cap)) 42) = w6 at HC6 HZ6 HR6 HY6 HX6 ⊢; generalize w5.heap.size = X6 at HX6 ⊢; clear HZ5)
    refine (must_true _).mono ?_
    rintro e w6' ⟨rfl, rfl⟩
    go_wp2_with (first
      | (refine load_blk (by rfl) 42 _ (by rfl) X6 (by rfl) _ _ HX6.out _ Tryd.underlying42 rfl (by kernel_rfl) ?_)
      | (refine store_blk (by rfl) 42 _ _ (by rfl) w.heap.size (by rfl) _ (stepC 1 0 0 (.slice (some ⟨g, 0, none⟩) bn cap)) 42 HZ6.out (by rfl) rfl (by kernel_rfl) (one_stp _ _ _ _ _ _) ?_))
    refine bodyPost_ret (results_cell_row rfl _ _ _ _ _ (0, 0) _ rfl (HZ6.out.setCells (stepC 1 0 0 (.slice (some ⟨g, 0, none⟩) bn cap)) rfl) Tryd.underlying42 rfl (by kernel_rfl)) rfl ?_
    have hbel := Blk.Below.setCells (stepC 1 0 0 (.slice (some ⟨g, 0, none⟩) bn cap)).toList 0 _ (Below.refl w.heap.size w6) (B := w.heap.size) (Nat.le_refl _)
    exact .inr ⟨_, l4, _, HE5.out, rfl, ⟨_, rfl, bytes_cells _ _ _ _ HY6.out HZ6.out⟩, HR6.out.below hP hbel, HC6.out.step hbel⟩
  · have HE5 := Lib.hid (show cmdP 3 ws = none by rw [HE.out, if_neg (by rw [hrc]; decide)])
    have HC5 := Lib.hid (HC.out.step (hb.mono HC.out.size))
    have HC6 := Lib.hid (HC5.out.alloc (Nat.le_trans HC.out.size hb.size) (.cells zStep 42))
    clear hrc hb HC HZ HR HE
    have HZ5 := Lib.hid (Blk.new w5 (stepC 0 0 0 (.slice none 0 0)) 42 w5.heap.size rfl)
    go_wp2_with (refine store_blk (by rfl) 42 _ _ (by rfl) w5.heap.size (by rfl) (stepC 0 0 0 (.slice none 0 0)) (stepC 0 0 0 (.slice none 0 0)) 42 HZ5.out (by rfl) rfl (by kernel_rfl) (one_stp _ _ _ _ _ _) ?_; change wpList _ _ _ _ _ (World.setCells (w5.alloc (.cells (stepC 0 0 0 (.slice none 0 0)) 42)) w5.heap.size 0 ((stepC 0 0 0 (.slice none 0 0))).toList); rw [alloc_setCells w5 (stepC 0 0 0 (.slice none 0 0)) (stepC 0 0 0 (.slice none 0 0)) 42 rfl w5.heap.size rfl]; change wpList _ _ _ _ _ (w5.alloc (.cells zStep 42)); generalize w5.alloc (.cells zStep 42) = w6 at HC6 ⊢; clear HZ5)
    refine (must_false _).mono ?_
    rintro e w6' ⟨rfl, rfl⟩
    go_wp2_with fail
    exact ⟨rfl, .inl ⟨HE5.out, rfl, HC6.out⟩⟩
end Go.Proofs.YtmkcooamgojbpaaDoor.Lines

/- words.reader's command: 'new'. -/
namespace Go.Proofs.YtmkcooamgojbpaaDoor.Lines
open Go.RowKit Go.Proofs.YtmkcooamgojbpaaDoor.Kit Go.Proofs.YtmkcooamgojbpaaDoor.Blk Go.Proofs.YtmkcooamgojbpaaDoor.Dec Go.Proofs.YtmkcooamgojbpaaDoor.Words Go.Proofs.YtmkcooamgojbpaaDoor.Octets Go.Proofs.YtmkcooamgojbpaaDoor.Steps Go.Proofs.YtmkcooamgojbpaaDoor.Cmds
attribute [local go_sem ↓] Go.wp_at_zero Go.wp_at_succ
set_option linter.unusedVariables false

/-- The tables of words beside a command. -/
structure TS (P C A B : Nat) (W : World) : Prop where
  s : Blk W A sidesC 212
  t : Blk W B typesC 214
  pc : P < C
  ca : C < A
  ab : A < B
section
variable {P C A B : Nat} {W W' : World}
theorem TS.rd (h : TS P C A B W) (hc : Chg W.heap.size P W W') : TS P C A B W' :=
  have h1 := h.pc; have h2 := h.ca; have h3 := h.ab
  ⟨hc.blk h.s.lt (by omega) h.s, hc.blk h.t.lt (by omega) h.t, h1, h2, h3⟩
theorem TS.put (h : TS P C A B W) (j : Nat) (v : Value) : TS P C A B (W.setCell ⟨C, j, none⟩ v) :=
  have h1 := h.pc; have h2 := h.ca; have h3 := h.ab
  ⟨h.s.apart _ _ (by show C ≠ _; omega), h.t.apart _ _ (by show C ≠ _; omega), h1, h2, h3⟩
theorem TS.sides (h : TS P C A B W) : ∀ j, (hj : j < sidesF.length) → W.cell? ⟨A, j, none⟩ = some (.string (strB sidesF[j])) := fun j hj => h.s.cell j (by simp [sidesC, strs, hj])
theorem TS.types (h : TS P C A B W) : ∀ j, (hj : j < typesF.length) → W.cell? ⟨B, j, none⟩ = some (.string (strB typesF[j])) := fun j hj => h.t.cell j (by simp [typesC, strs, hj])
end
def zero2 : Array Value := #[.string ⟨#[]⟩, .string ⟨#[]⟩]
def zero5 : Array Value := #[.string ⟨#[]⟩, .string ⟨#[]⟩, .string ⟨#[]⟩, .string ⟨#[]⟩, .string ⟨#[]⟩]
theorem one_sides : sidesC.all (·.oneCell') = true := by simp [sidesC, strs, Value.oneCell', sidesF]
theorem one_types : typesC.all (·.oneCell') = true := by simp [typesC, strs, Value.oneCell', typesF]
theorem oneP_lt {toks l l' : List Tok} {k : Nat} (h : oneP toks l = some (k, l')) : k < toks.length := by
  obtain ⟨w, h1, _⟩ := one_ok h
  exact (List.getElem?_eq_some_iff.1 h1).1
set_option maxRecDepth 20000 in
set_option maxHeartbeats 4000000 in
theorem cmd_one (P : Nat) (ws : List Tok) (w : World) (h : WRd P ws w) :
    Calls Tryd.prog 133 #[.pointer (some ⟨P, 0, none⟩), .int .i64 1] w (RdV (StepV w.heap.size) (cmdP 1 ws) P w) := by
  have hmf : ∀ (fn : Fn) (first cap : Array Value) (w : World), (Instr.makeFunc fn first cap).run Tryd.prog w = .ok (.func fn first cap) w := fun _ _ _ _ => rfl
  have hP := h.lt
  have hR0 := h.below (P := P) hP ((Below.refl w.heap.size w).alloc (Nat.le_refl _) (.cells zStep 42))
  have HI := Lib.hid (in_any' P 255 ws (w.alloc (.cells zStep 42)) hR0)
  have HZ0 := Lib.hid (Blk.new w zStep 42 w.heap.size rfl)
  have HC0 := Lib.hid ((Chg.refl w.heap.size P w).alloc (Nat.le_refl _) (.cells zStep 42))
  clear h hR0
  go_enter Tryd.func133, Tryd.ntmps133
  go_wp2_with fail
  refine HI.out.mono ?_
  rintro e w1 (⟨ho, rfl, hc⟩ | ⟨s, l, ho, rfl, hr, hc⟩)
  · have HN := Lib.hid (cmd_none (k := 1) ho)
    have HC := Lib.hid (HC0.out.trans (hc.mono (by simp)))
    clear ho hc
    go_wp2_with fail
    exact ⟨rfl, .inl ⟨HN.out, rfl, HC.out⟩⟩
  have HO := Lib.hid ho
  have HC := Lib.hid (HC0.out.trans (hc.mono (by simp)))
  have HZ := Lib.hid (hc.blk (by simp) (by omega) HZ0.out)
  have HJ := Lib.hid (in_any' P 4611686018427387904 l w1 hr)
  have HL1 := Lib.hid hr.lt
  clear ho hr hc HI HZ0 HC0
  go_wp2_with fail
  refine HJ.out.mono ?_
  rintro e w2 (⟨ho, rfl, hc⟩ | ⟨i, l2, ho, rfl, hr, hc⟩)
  · have HN := Lib.hid (cmd_none2 (k := 1) HO.out ho)
    replace HC := Lib.hid (HC.out.trans (hc.mono HC.out.size))
    clear ho hc
    go_wp2_with fail
    exact ⟨rfl, .inl ⟨HN.out, rfl, HC.out⟩⟩
  have HO2 := Lib.hid ho
  replace HC := Lib.hid (HC.out.trans (hc.mono HC.out.size))
  replace HZ := Lib.hid (hc.blk HZ.out.lt (by omega) HZ.out)
  have HR := Lib.hid hr
  clear ho hr hc HJ HL1
  have HE := Lib.hid (show cmdP 1 ws = (newC s i l2).bind (fun c => if rightC c.1 = true then some (⟨1, 0, 0, formC c.1⟩, c.2) else none) by rw [cmd_eq (k := 1) HO.out HO2.out, if_pos rfl])
  clear HO HO2
  go_wp2_with fail
  replace HE := Lib.hid HE.out
  have HS := Lib.hid (CS.start HC.out HZ.out HR.out hP #[.int .i64 1, .int .i64 s, .int .i64 i, .int .i64 0, .int .i64 0, .int .i64 0, .int .i64 0, .int .i64 0, .int .i64 0])
  clear HC HZ HR
  generalize w2.alloc (.cells #[.int .i64 1, .int .i64 s, .int .i64 i, .int .i64 0, .int .i64 0, .int .i64 0, .int .i64 0, .int .i64 0, .int .i64 0] 164) = w3 at HS ⊢
  generalize w2.heap.size = C2 at HS ⊢
  refine (sides_any w3).mono ?_
  rintro e w4 ⟨rfl, hb⟩
  replace HS := Lib.hid (HS.out.below hb)
  clear hb
  go_wp2_with fail
  refine (types_any w4).mono ?_
  rintro e w5 ⟨rfl, hb⟩
  replace HS := Lib.hid (HS.out.below hb)
  have hC5 := HS.out.c.lt
  have hPC := Nat.lt_trans HS.out.P0 HS.out.PC
  have HA := Lib.hid ((Blk.new w5 zero2 212 w5.heap.size rfl).old (.cells zero5 214))
  have HB := Lib.hid (Blk.new (w5.alloc (.cells zero2 212)) zero5 214 (w5.heap.size + 1) (by simp))
  have HA2 := Lib.hid (HA.out.setCells sidesC rfl)
  have HB2 := Lib.hid (show Blk (((w5.alloc (.cells zero2 212)).alloc (.cells zero5 214)).setCells w5.heap.size 0 sidesC.toList) (w5.heap.size + 1) zero5 214 from Blk.Blk.apartAll _ 0 _ HB.out (by omega))
  have HT := Lib.hid (show TS P C2 w5.heap.size (w5.heap.size + 1) ((((w5.alloc (.cells zero2 212)).alloc (.cells zero5 214)).setCells w5.heap.size 0 sidesC.toList).setCells (w5.heap.size + 1) 0 typesC.toList) from ⟨Blk.Blk.apartAll _ 0 _ HA2.out (by omega), HB2.out.setCells typesC rfl, hPC, hC5, Nat.lt_succ_self _⟩)
  have hbel : Below w5.heap.size w5 ((((w5.alloc (.cells zero2 212)).alloc (.cells zero5 214)).setCells w5.heap.size 0 sidesC.toList).setCells (w5.heap.size + 1) 0 typesC.toList) := Blk.Below.setCells typesC.toList 0 _ (Blk.Below.setCells sidesC.toList 0 _ (((Below.refl w5.heap.size w5).alloc (Nat.le_refl _) _).alloc (by simp) _) (Nat.le_refl _)) (Nat.le_succ _)
  replace HS := Lib.hid (HS.out.below hbel)
  clear hb hbel HA2
  go_upto_region 6 with (first
    | (refine store_blk (by rfl) 212 _ _ (by rfl) w5.heap.size (by rfl) zero2 sidesC 212 HA.out (by rfl) rfl (by kernel_rfl) one_sides ?_)
    | (refine store_blk (by rfl) 214 _ _ (by rfl) (w5.heap.size + 1) (by rfl) zero5 typesC 214 HB2.out (by rfl) rfl (by kernel_rfl) one_types ?_))
  clear HA HB2 HB hC5
  change Code.wp _ _ _ _ ((((w5.alloc (.cells zero2 212)).alloc (.cells zero5 214)).setCells w5.heap.size 0 sidesC.toList).setCells (w5.heap.size + 1) 0 typesC.toList)
  generalize ((((w5.alloc (.cells zero2 212)).alloc (.cells zero5 214)).setCells w5.heap.size 0 sidesC.toList).setCells (w5.heap.size + 1) 0 typesC.toList) = w6 at HS HT ⊢
  generalize w5.heap.size = A5 at HT ⊢
  generalize hB5 : A5 + 1 = B5 at HT ⊢
  go_wp2_with fail
  refine (in_any' P 1073741824 l2 w6 HS.out.r).mono ?_
  rintro e w7 (⟨ho, rfl, hc⟩ | ⟨a, l3, ho, rfl, hr, hc⟩)
  · have HN := Lib.hid (show cmdP 1 ws = none by rw [HE.out]; simp [newC, ho])
    have HC := Lib.hid (HS.out.chg.trans (hc.mono HS.out.chg.size))
    clear ho hc
    go_wp2_with fail
    exact ⟨rfl, .inl ⟨HN.out, rfl, HC.out⟩⟩
  have H1 := Lib.hid ho
  replace HS := Lib.hid (HS.out.rd hc hr)
  replace HT := Lib.hid (HT.out.rd hc)
  clear ho hr hc
  have c3 := HS.out.c.cell 3 rfl
  have f3 := HS.out.c.free 3
  replace HS := Lib.hid (HS.out.put 3 (.int .i64 a))
  replace HT := Lib.hid (HT.out.put 3 (.int .i64 a))
  go_upto_region 7 with fail
  generalize w7.setCell ⟨C2, 3, none⟩ (.int .i64 a) = w8 at HS HT ⊢
  clear c3 f3
  go_wp2_with fail
  refine (one_any' P A5 2 sidesF l3 (by decide) w8 HS.out.r HT.out.s.lt (by have := HT.out.ca; omega) HT.out.sides).mono ?_
  rintro e w9 (⟨ho, rfl, hc⟩ | ⟨b, l4, ho, rfl, hr, hc⟩)
  · have HN := Lib.hid (show cmdP 1 ws = none by rw [HE.out]; simp [newC, H1.out, ho])
    have HC := Lib.hid (HS.out.chg.trans (hc.mono HS.out.chg.size))
    clear ho hc
    go_wp2_with fail
    exact ⟨rfl, .inl ⟨HN.out, rfl, HC.out⟩⟩
  have H2 := Lib.hid ho
  replace HS := Lib.hid (HS.out.rd hc hr)
  replace HT := Lib.hid (HT.out.rd hc)
  clear ho hr hc
  have c4 := HS.out.c.cell 4 rfl
  have f4 := HS.out.c.free 4
  replace HS := Lib.hid (HS.out.put 4 (.int .i64 (b : Int)))
  replace HT := Lib.hid (HT.out.put 4 (.int .i64 (b : Int)))
  go_upto_region 8 with fail
  generalize w9.setCell ⟨C2, 4, none⟩ (.int .i64 (b : Int)) = w10 at HS HT ⊢
  clear c4 f4
  go_wp2_with fail
  refine (one_any' P B5 5 typesF l4 (by decide) w10 HS.out.r HT.out.t.lt (by have := HT.out.ca; have := HT.out.ab; omega) HT.out.types).mono ?_
  rintro e w11 (⟨ho, rfl, hc⟩ | ⟨t, l5, ho, rfl, hr, hc⟩)
  · have HN := Lib.hid (show cmdP 1 ws = none by rw [HE.out]; simp [newC, H1.out, H2.out, ho])
    have HC := Lib.hid (HS.out.chg.trans (hc.mono HS.out.chg.size))
    clear ho hc
    go_wp2_with fail
    exact ⟨rfl, .inl ⟨HN.out, rfl, HC.out⟩⟩
  have H3 := Lib.hid ho
  have ht : t < 5 := oneP_lt ho
  have ht2 : (t : Int) < 5 := by omega
  replace HS := Lib.hid (HS.out.rd hc hr)
  replace HT := Lib.hid (HT.out.rd hc)
  clear ho hr hc
  have c5 := HS.out.c.cell 5 rfl
  have f5 := HS.out.c.free 5
  replace HS := Lib.hid (HS.out.put 5 (.int .i64 ((t : Int) + 1)))
  replace HT := Lib.hid (HT.out.put 5 (.int .i64 ((t : Int) + 1)))
  go_upto_region 9 with fail
  generalize w11.setCell ⟨C2, 5, none⟩ (.int .i64 ((t : Int) + 1)) = w12 at HS HT ⊢
  clear c5 f5 HT
  go_wp2_with fail
  refine (num_any' P l5 w12 HS.out.r).mono ?_
  rintro e w13 (⟨ho, rfl, hc⟩ | ⟨p, l6, ho, rfl, hr, hc⟩)
  · have HN := Lib.hid (show cmdP 1 ws = none by rw [HE.out]; simp [newC, H1.out, H2.out, H3.out, ho])
    have HC := Lib.hid (HS.out.chg.trans (hc.mono HS.out.chg.size))
    clear ho hc
    go_wp2_with fail
    exact ⟨rfl, .inl ⟨HN.out, rfl, HC.out⟩⟩
  have H4 := Lib.hid ho
  have hpb := (num_ok ho).2
  replace HS := Lib.hid (HS.out.rd hc hr)
  clear ho hr hc
  go_wp2_with fail
  refine (num_any' P l6 w13 HS.out.r).mono ?_
  rintro e w14 (⟨ho, rfl, hc⟩ | ⟨q, l7, ho, rfl, hr, hc⟩)
  · have HN := Lib.hid (show cmdP 1 ws = none by rw [HE.out]; simp [newC, H1.out, H2.out, H3.out, H4.out, ho])
    have HC := Lib.hid (HS.out.chg.trans (hc.mono HS.out.chg.size))
    clear ho hc
    go_wp2_with fail
    exact ⟨rfl, .inl ⟨HN.out, rfl, HC.out⟩⟩
  have H5 := Lib.hid ho
  have hqb := (num_ok ho).2
  replace HS := Lib.hid (HS.out.rd hc hr)
  clear ho hr hc
  have c6 := HS.out.c.cell 6 rfl
  have f6 := HS.out.c.free 6
  have c7 := HS.out.c.cell 7 rfl
  have f7 := HS.out.c.free 7
  replace HS := Lib.hid ((HS.out.put 6 (.int .i64 p)).put 7 (.int .i64 q))
  go_upto_region 10 with fail
  generalize (w14.setCell ⟨C2, 6, none⟩ (.int .i64 p)).setCell ⟨C2, 7, none⟩ (.int .i64 q) = w15 at HS ⊢
  clear c6 c7 f6 f7
  go_wp2_with fail
  refine (rflags_any P l7 w15 HS.out.r).mono ?_
  rintro e w16 ⟨rfl, hr, hc⟩
  replace HS := Lib.hid (HS.out.rd hc hr)
  clear hr hc
  replace HE := Lib.hid (show cmdP 1 ws = if rightC ⟨1, s, i, a, b, (t : Int) + 1, p, q, (flagsP l7).1⟩ = true then some (⟨1, 0, 0, formC ⟨1, s, i, a, b, (t : Int) + 1, p, q, (flagsP l7).1⟩⟩, (flagsP l7).2) else none by
    rw [HE.out]; simp [newC, H1.out, H2.out, H3.out, H4.out, H5.out])
  clear H1 H2 H3 H4 H5
  generalize (flagsP l7).2 = l8 at HS HE
  generalize (flagsP l7).1 = fl at HS HE ⊢
  have c8 := HS.out.c.cell 8 rfl
  have f8 := HS.out.c.free 8
  replace HS := Lib.hid (show CS w P C2 l8 (Cmd.cells ⟨1, s, i, a, b, (t : Int) + 1, p, q, fl⟩) (w16.setCell ⟨C2, 8, none⟩ (.int .i64 (fl : Int))) from HS.out.put 8 _)
  go_upto_region 13 with fail
  generalize w16.setCell ⟨C2, 8, none⟩ (.int .i64 (fl : Int)) = w17 at HS ⊢
  clear c8 f8
  have HC := Lib.hid HS.out.chg
  have HZ := Lib.hid HS.out.z
  have HR := Lib.hid HS.out.r
  go_wp2_with (refine load_blk (by rfl) 164 _ (by rfl) C2 (by rfl) _ _ HS.out.c _ Tryd.underlying164 rfl (by kernel_rfl) ?_)
  clear HS
  refine (of_any ⟨1, s, i, a, b, (t : Int) + 1, p, q, fl⟩ w17 (by dsimp only; omega) (by dsimp only; omega) (by dsimp only; omega) (by dsimp only; omega)).mono ?_
  rintro e w5 (⟨hrc, v, rfl, hv, hb⟩ | ⟨hrc, rfl, hb⟩)
  · obtain ⟨g, cap, rfl, -, -⟩ := World.ownsRow.form hv (by simp [formC])
    have HE5 := Lib.hid (show cmdP 1 ws = some (⟨1, 0, 0, formC ⟨1, s, i, a, b, (t : Int) + 1, p, q, fl⟩⟩, l8) by rw [HE.out, if_pos hrc])
    have HY5 := Lib.hid (show BytesOf w.heap.size (formC ⟨1, s, i, a, b, (t : Int) + 1, p, q, fl⟩) (.slice (some ⟨g, 0, none⟩) (formC ⟨1, s, i, a, b, (t : Int) + 1, p, q, fl⟩).length cap) w5 from .inr ⟨by simp [formC], own_mono hv HC.out.size⟩)
    generalize formC ⟨1, s, i, a, b, (t : Int) + 1, p, q, fl⟩ = bs at HE5 HY5 ⊢
    generalize bs.length = bn at HY5 ⊢
    have HC6 := Lib.hid ((HC.out.step (hb.mono HC.out.size)).alloc (Nat.le_trans HC.out.size hb.size) (.cells (stepC 1 0 0 (.slice (some ⟨g, 0, none⟩) bn cap)) 42))
    have HZ6 := Lib.hid ((HZ.out.below hb HZ.out.lt).old (.cells (stepC 1 0 0 (.slice (some ⟨g, 0, none⟩) bn cap)) 42))
    have HR6 := Lib.hid ((HR.out.below HR.out.lt hb).below (P := P) (n := w5.heap.size) (Nat.lt_of_lt_of_le HR.out.lt hb.size) ((Below.refl w5.heap.size w5).alloc (Nat.le_refl _) (.cells (stepC 1 0 0 (.slice (some ⟨g, 0, none⟩) bn cap)) 42)))
    have HY6 := Lib.hid (bytes_alloc HY5.out (.cells (stepC 1 0 0 (.slice (some ⟨g, 0, none⟩) bn cap)) 42))
    have HX6 := Lib.hid (Blk.new w5 (stepC 1 0 0 (.slice (some ⟨g, 0, none⟩) bn cap)) 42 w5.heap.size rfl)
    clear hrc hv hb HC HZ HR HY5 HE
    have HZ5 := Lib.hid (Blk.new w5 (stepC 0 0 0 (.slice none 0 0)) 42 w5.heap.size rfl)
    go_wp2_with (refine store_blk (by rfl) 42 _ _ (by rfl) w5.heap.size (by rfl) (stepC 0 0 0 (.slice none 0 0)) (stepC 1 0 0 (.slice (some ⟨g, 0, none⟩) bn cap)) 42 HZ5.out (by rfl) rfl (by kernel_rfl) (one_stp _ _ _ _ _ _) ?_; change wpList _ _ _ _ _ (World.setCells (w5.alloc (.cells (stepC 0 0 0 (.slice none 0 0)) 42)) w5.heap.size 0 ((stepC 1 0 0 (.slice (some ⟨g, 0, none⟩) bn cap))).toList); rw [alloc_setCells w5 (stepC 0 0 0 (.slice none 0 0)) (stepC 1 0 0 (.slice (some ⟨g, 0, none⟩) bn cap)) 42 rfl w5.heap.size rfl]; generalize w5.alloc (.cells (stepC 1 0 0 (.slice (some ⟨g, 0, none⟩) bn cap)) 42) = w6 at HC6 HZ6 HR6 HY6 HX6 ⊢; generalize w5.heap.size = X6 at HX6 ⊢; clear HZ5)
    refine (must_true _).mono ?_
    rintro e w6' ⟨rfl, rfl⟩
    go_wp2_with (first
      | (refine load_blk (by rfl) 42 _ (by rfl) X6 (by rfl) _ _ HX6.out _ Tryd.underlying42 rfl (by kernel_rfl) ?_)
      | (refine store_blk (by rfl) 42 _ _ (by rfl) w.heap.size (by rfl) _ (stepC 1 0 0 (.slice (some ⟨g, 0, none⟩) bn cap)) 42 HZ6.out (by rfl) rfl (by kernel_rfl) (one_stp _ _ _ _ _ _) ?_))
    refine bodyPost_ret (results_cell_row rfl _ _ _ _ _ (0, 0) _ rfl (HZ6.out.setCells (stepC 1 0 0 (.slice (some ⟨g, 0, none⟩) bn cap)) rfl) Tryd.underlying42 rfl (by kernel_rfl)) rfl ?_
    have hbel := Blk.Below.setCells (stepC 1 0 0 (.slice (some ⟨g, 0, none⟩) bn cap)).toList 0 _ (Below.refl w.heap.size w6) (B := w.heap.size) (Nat.le_refl _)
    exact .inr ⟨_, l8, _, HE5.out, rfl, ⟨_, rfl, bytes_cells _ _ _ _ HY6.out HZ6.out⟩, HR6.out.below hP hbel, HC6.out.step hbel⟩
  · have HE5 := Lib.hid (show cmdP 1 ws = none by rw [HE.out, if_neg (by rw [hrc]; decide)])
    have HC5 := Lib.hid (HC.out.step (hb.mono HC.out.size))
    have HC6 := Lib.hid (HC5.out.alloc (Nat.le_trans HC.out.size hb.size) (.cells zStep 42))
    clear hrc hb HC HZ HR HE
    have HZ5 := Lib.hid (Blk.new w5 (stepC 0 0 0 (.slice none 0 0)) 42 w5.heap.size rfl)
    go_wp2_with (refine store_blk (by rfl) 42 _ _ (by rfl) w5.heap.size (by rfl) (stepC 0 0 0 (.slice none 0 0)) (stepC 0 0 0 (.slice none 0 0)) 42 HZ5.out (by rfl) rfl (by kernel_rfl) (one_stp _ _ _ _ _ _) ?_; change wpList _ _ _ _ _ (World.setCells (w5.alloc (.cells (stepC 0 0 0 (.slice none 0 0)) 42)) w5.heap.size 0 ((stepC 0 0 0 (.slice none 0 0))).toList); rw [alloc_setCells w5 (stepC 0 0 0 (.slice none 0 0)) (stepC 0 0 0 (.slice none 0 0)) 42 rfl w5.heap.size rfl]; change wpList _ _ _ _ _ (w5.alloc (.cells zStep 42)); generalize w5.alloc (.cells zStep 42) = w6 at HC6 ⊢; clear HZ5)
    refine (must_false _).mono ?_
    rintro e w6' ⟨rfl, rfl⟩
    go_wp2_with fail
    exact ⟨rfl, .inl ⟨HE5.out, rfl, HC6.out⟩⟩
end Go.Proofs.YtmkcooamgojbpaaDoor.Lines

/- words.reader's step: the other words but 'raw'. -/
namespace Go.Proofs.YtmkcooamgojbpaaDoor.Lines
open Go.RowKit Go.Proofs.YtmkcooamgojbpaaDoor.Kit Go.Proofs.YtmkcooamgojbpaaDoor.Blk Go.Proofs.YtmkcooamgojbpaaDoor.Dec Go.Proofs.YtmkcooamgojbpaaDoor.Words Go.Proofs.YtmkcooamgojbpaaDoor.Octets Go.Proofs.YtmkcooamgojbpaaDoor.Steps Go.Proofs.YtmkcooamgojbpaaDoor.Cmds
attribute [local go_sem ↓] Go.wp_at_zero Go.wp_at_succ
set_option linter.unusedVariables false

set_option maxRecDepth 20000 in
set_option maxHeartbeats 4000000 in
theorem step_new (P : Nat) (l : List Tok) (w : World) (h : WRd P (tNew :: l) w) :
    Calls Tryd.prog 80 #[.pointer (some ⟨P, 0, none⟩)] w (StepIs (stepP (tNew :: l)) P w) := by
  have hP := h.lt
  have hR0 := h.below (P := P) hP ((Below.refl w.heap.size w).alloc (Nat.le_refl _) (.cells (stepC 0 0 0 (.slice none 0 0)) 42))
  have HI := Lib.hid (word_any' P _ _ hR0)
  have HZ0 := Lib.hid (Blk.new w (stepC 0 0 0 (.slice none 0 0)) 42 w.heap.size rfl)
  have HC0 := Lib.hid ((Chg.refl w.heap.size P w).alloc (Nat.le_refl _) (.cells (stepC 0 0 0 (.slice none 0 0)) 42))
  have HE := Lib.hid (step_eq (show bodyP tNew l = cmdP 1 l from rfl))
  clear h hR0
  go_enter Tryd.func80, Tryd.ntmps80
  go_wp2_with fail
  refine HI.out.mono ?_
  rintro e w1 (⟨ho, rfl, hc⟩ | ⟨x, l', ho, rfl, hr, hc⟩)
  · cases ho
  injection ho with ho
  injection ho with h1 h2
  subst h1 h2
  have HC := Lib.hid (HC0.out.trans (hc.mono (by simp)))
  have HZ := Lib.hid (hc.blk (by simp) (by omega) HZ0.out)
  have HR := Lib.hid hr
  have HM := Lib.hid (cmd_one P l w1 hr)
  clear hr hc HI HZ0 HC0
  have k1 : ((strB tNew).toList == [116, 105, 99, 107]) = false := by rw [strB_toList]; decide
  have k2 : ((strB tNew).toList == [105, 110, 100, 101, 120]) = false := by rw [strB_toList]; decide
  have k3 : ((strB tNew).toList == [98, 105, 100]) = false := by rw [strB_toList]; decide
  have k4 : ((strB tNew).toList == [110, 101, 119]) = true := by rw [strB_toList]; decide
  go_wp2_with fail
  refine HM.out.mono ?_
  rintro e w2 (⟨ho, rfl, hc⟩ | ⟨st, l3, v, ho, rfl, ⟨u, rfl, hby⟩, hr, hc⟩)
  · have HN := Lib.hid (show stepP (tNew :: l) = none by rw [HE.out, ho]; rfl)
    replace HC := Lib.hid (HC.out.trans (hc.mono HC.out.size))
    clear ho hc HM HE k1 k2 k3 k4
    go_wp2_with fail
    exact ⟨rfl, .inl ⟨HN.out, rfl, HC.out⟩⟩
  rw [ho] at HE
  replace HE := Lib.hid (show stepP (tNew :: l) = if l3 = [] then some st else none from HE.out)
  obtain ⟨ua, un, uc, rfl⟩ := bytes_form hby
  replace HZ := Lib.hid (hc.blk HZ.out.lt (by omega) HZ.out)
  have HY := Lib.hid (bytes_cells (stepC st.k st.y st.v (.slice ua un uc)).toList 0 _ _ (bytes_mono hby HC.out.size) HZ.out)
  have hbel := Blk.Below.setCells (stepC st.k st.y st.v (.slice ua un uc)).toList 0 _ (Below.refl w.heap.size w2) (B := w.heap.size) (Nat.le_refl _)
  replace HR := Lib.hid (hr.below hP hbel)
  replace HC := Lib.hid ((HC.out.trans (hc.mono HC.out.size)).step hbel)
  have HZ3 := Lib.hid (HZ.out.setCells (stepC st.k st.y st.v (.slice ua un uc)) rfl)
  clear ho hby hr hc hbel HM k1 k2 k3 k4
  go_wp2_with (refine store_blk (by rfl) 42 _ _ (by rfl) w.heap.size (by rfl) _ (stepC st.k st.y st.v (.slice ua un uc)) 42 HZ.out (by rfl) rfl (by kernel_rfl) (one_stp _ _ _ _ _ _) ?_; clear HZ; generalize w2.setCells w.heap.size 0 (stepC st.k st.y st.v (.slice ua un uc)).toList = w3 at HC HZ3 HR HY ⊢; have HZ := HZ3; clear HZ3; obtain ⟨ra, rc, hrs⟩ := HR.out.slice; have c0 : w3.cell? ⟨P, 0, none⟩ = some (.slice ra l3.length rc) := hrs.cell 0 rfl; clear hrs)
  by_cases hl3 : l3 = []
  · have HE3 := Lib.hid (show stepP (tNew :: l) = some st by rw [HE.out, if_pos hl3])
    have hz : ((l3.length : Int) == 0) = true := by rw [hl3]; rfl
    clear HE c0
    rw [hz]
    refine (must_true _).mono ?_
    rintro e w4 ⟨rfl, rfl⟩
    go_wp2_with (first
      | (refine load_blk (by rfl) 42 _ (by rfl) w.heap.size (by rfl) _ _ HZ.out _ Tryd.underlying42 rfl (by kernel_rfl) ?_)
      | (refine store_blk (by rfl) 42 _ _ (by rfl) w.heap.size (by rfl) _ (stepC st.k st.y st.v (.slice ua un uc)) 42 HZ.out (by rfl) rfl (by kernel_rfl) (one_stp _ _ _ _ _ _) ?_))
    refine bodyPost_ret (results_cell_row rfl _ _ _ _ _ (0, 0) _ rfl (HZ.out.setCells (stepC st.k st.y st.v (.slice ua un uc)) rfl) Tryd.underlying42 rfl (by kernel_rfl)) rfl ?_
    have hbel := Blk.Below.setCells (stepC st.k st.y st.v (.slice ua un uc)).toList 0 _ (Below.refl w.heap.size w3) (B := w.heap.size) (Nat.le_refl _)
    exact .inr ⟨st, _, HE3.out, rfl, ⟨_, rfl, bytes_cells _ _ _ _ HY.out HZ.out⟩, HC.out.step hbel⟩
  · have HE3 := Lib.hid (show stepP (tNew :: l) = none by rw [HE.out]; exact if_neg hl3)
    have hz : ((l3.length : Int) == 0) = false := by
      have : l3.length ≠ 0 := fun h => hl3 (List.length_eq_zero_iff.1 h)
      simp; omega
    clear HE
    rw [hz]
    refine (must_false _).mono ?_
    rintro e w4 ⟨rfl, rfl⟩
    go_wp2_with fail
    exact ⟨rfl, .inl ⟨HE3.out, rfl, HC.out⟩⟩
set_option maxRecDepth 20000 in
set_option maxHeartbeats 4000000 in
theorem step_replace (P : Nat) (l : List Tok) (w : World) (h : WRd P (tReplace :: l) w) :
    Calls Tryd.prog 80 #[.pointer (some ⟨P, 0, none⟩)] w (StepIs (stepP (tReplace :: l)) P w) := by
  have hP := h.lt
  have hR0 := h.below (P := P) hP ((Below.refl w.heap.size w).alloc (Nat.le_refl _) (.cells (stepC 0 0 0 (.slice none 0 0)) 42))
  have HI := Lib.hid (word_any' P _ _ hR0)
  have HZ0 := Lib.hid (Blk.new w (stepC 0 0 0 (.slice none 0 0)) 42 w.heap.size rfl)
  have HC0 := Lib.hid ((Chg.refl w.heap.size P w).alloc (Nat.le_refl _) (.cells (stepC 0 0 0 (.slice none 0 0)) 42))
  have HE := Lib.hid (step_eq (show bodyP tReplace l = cmdP 3 l from rfl))
  clear h hR0
  go_enter Tryd.func80, Tryd.ntmps80
  go_wp2_with fail
  refine HI.out.mono ?_
  rintro e w1 (⟨ho, rfl, hc⟩ | ⟨x, l', ho, rfl, hr, hc⟩)
  · cases ho
  injection ho with ho
  injection ho with h1 h2
  subst h1 h2
  have HC := Lib.hid (HC0.out.trans (hc.mono (by simp)))
  have HZ := Lib.hid (hc.blk (by simp) (by omega) HZ0.out)
  have HR := Lib.hid hr
  have HM := Lib.hid (cmd_three P l w1 hr)
  clear hr hc HI HZ0 HC0
  have k1 : ((strB tReplace).toList == [116, 105, 99, 107]) = false := by rw [strB_toList]; decide
  have k2 : ((strB tReplace).toList == [105, 110, 100, 101, 120]) = false := by rw [strB_toList]; decide
  have k3 : ((strB tReplace).toList == [98, 105, 100]) = false := by rw [strB_toList]; decide
  have k4 : ((strB tReplace).toList == [110, 101, 119]) = false := by rw [strB_toList]; decide
  have k5 : ((strB tReplace).toList == [99, 97, 110, 99, 101, 108]) = false := by rw [strB_toList]; decide
  have k6 : ((strB tReplace).toList == [114, 101, 112, 108, 97, 99, 101]) = true := by rw [strB_toList]; decide
  go_wp2_with fail
  refine HM.out.mono ?_
  rintro e w2 (⟨ho, rfl, hc⟩ | ⟨st, l3, v, ho, rfl, ⟨u, rfl, hby⟩, hr, hc⟩)
  · have HN := Lib.hid (show stepP (tReplace :: l) = none by rw [HE.out, ho]; rfl)
    replace HC := Lib.hid (HC.out.trans (hc.mono HC.out.size))
    clear ho hc HM HE k1 k2 k3 k4 k5 k6
    go_wp2_with fail
    exact ⟨rfl, .inl ⟨HN.out, rfl, HC.out⟩⟩
  rw [ho] at HE
  replace HE := Lib.hid (show stepP (tReplace :: l) = if l3 = [] then some st else none from HE.out)
  obtain ⟨ua, un, uc, rfl⟩ := bytes_form hby
  replace HZ := Lib.hid (hc.blk HZ.out.lt (by omega) HZ.out)
  have HY := Lib.hid (bytes_cells (stepC st.k st.y st.v (.slice ua un uc)).toList 0 _ _ (bytes_mono hby HC.out.size) HZ.out)
  have hbel := Blk.Below.setCells (stepC st.k st.y st.v (.slice ua un uc)).toList 0 _ (Below.refl w.heap.size w2) (B := w.heap.size) (Nat.le_refl _)
  replace HR := Lib.hid (hr.below hP hbel)
  replace HC := Lib.hid ((HC.out.trans (hc.mono HC.out.size)).step hbel)
  have HZ3 := Lib.hid (HZ.out.setCells (stepC st.k st.y st.v (.slice ua un uc)) rfl)
  clear ho hby hr hc hbel HM k1 k2 k3 k4 k5 k6
  go_wp2_with (refine store_blk (by rfl) 42 _ _ (by rfl) w.heap.size (by rfl) _ (stepC st.k st.y st.v (.slice ua un uc)) 42 HZ.out (by rfl) rfl (by kernel_rfl) (one_stp _ _ _ _ _ _) ?_; clear HZ; generalize w2.setCells w.heap.size 0 (stepC st.k st.y st.v (.slice ua un uc)).toList = w3 at HC HZ3 HR HY ⊢; have HZ := HZ3; clear HZ3; obtain ⟨ra, rc, hrs⟩ := HR.out.slice; have c0 : w3.cell? ⟨P, 0, none⟩ = some (.slice ra l3.length rc) := hrs.cell 0 rfl; clear hrs)
  by_cases hl3 : l3 = []
  · have HE3 := Lib.hid (show stepP (tReplace :: l) = some st by rw [HE.out, if_pos hl3])
    have hz : ((l3.length : Int) == 0) = true := by rw [hl3]; rfl
    clear HE c0
    rw [hz]
    refine (must_true _).mono ?_
    rintro e w4 ⟨rfl, rfl⟩
    go_wp2_with (first
      | (refine load_blk (by rfl) 42 _ (by rfl) w.heap.size (by rfl) _ _ HZ.out _ Tryd.underlying42 rfl (by kernel_rfl) ?_)
      | (refine store_blk (by rfl) 42 _ _ (by rfl) w.heap.size (by rfl) _ (stepC st.k st.y st.v (.slice ua un uc)) 42 HZ.out (by rfl) rfl (by kernel_rfl) (one_stp _ _ _ _ _ _) ?_))
    refine bodyPost_ret (results_cell_row rfl _ _ _ _ _ (0, 0) _ rfl (HZ.out.setCells (stepC st.k st.y st.v (.slice ua un uc)) rfl) Tryd.underlying42 rfl (by kernel_rfl)) rfl ?_
    have hbel := Blk.Below.setCells (stepC st.k st.y st.v (.slice ua un uc)).toList 0 _ (Below.refl w.heap.size w3) (B := w.heap.size) (Nat.le_refl _)
    exact .inr ⟨st, _, HE3.out, rfl, ⟨_, rfl, bytes_cells _ _ _ _ HY.out HZ.out⟩, HC.out.step hbel⟩
  · have HE3 := Lib.hid (show stepP (tReplace :: l) = none by rw [HE.out]; exact if_neg hl3)
    have hz : ((l3.length : Int) == 0) = false := by
      have : l3.length ≠ 0 := fun h => hl3 (List.length_eq_zero_iff.1 h)
      simp; omega
    clear HE
    rw [hz]
    refine (must_false _).mono ?_
    rintro e w4 ⟨rfl, rfl⟩
    go_wp2_with fail
    exact ⟨rfl, .inl ⟨HE3.out, rfl, HC.out⟩⟩
set_option maxRecDepth 20000 in
set_option maxHeartbeats 4000000 in
theorem step_tick (P : Nat) (l : List Tok) (w : World) (h : WRd P (tTick :: l) w) :
    Calls Tryd.prog 80 #[.pointer (some ⟨P, 0, none⟩)] w (StepIs (stepP (tTick :: l)) P w) := by
  have hP := h.lt
  have hR0 := h.below (P := P) hP ((Below.refl w.heap.size w).alloc (Nat.le_refl _) (.cells (stepC 0 0 0 (.slice none 0 0)) 42))
  have HI := Lib.hid (word_any' P _ _ hR0)
  have HZ0 := Lib.hid (Blk.new w (stepC 0 0 0 (.slice none 0 0)) 42 w.heap.size rfl)
  have HC0 := Lib.hid ((Chg.refl w.heap.size P w).alloc (Nat.le_refl _) (.cells (stepC 0 0 0 (.slice none 0 0)) 42))
  have HE := Lib.hid (step_eq (show bodyP tTick l = (numP l).map fun x => ((⟨2, 0, x.1, []⟩ : Stp), x.2) from rfl))
  clear h hR0
  go_enter Tryd.func80, Tryd.ntmps80
  go_wp2_with fail
  refine HI.out.mono ?_
  rintro e w1 (⟨ho, rfl, hc⟩ | ⟨x, l', ho, rfl, hr, hc⟩)
  · cases ho
  injection ho with ho
  injection ho with h1 h2
  subst h1 h2
  have HC := Lib.hid (HC0.out.trans (hc.mono (by simp)))
  have HZ := Lib.hid (hc.blk (by simp) (by omega) HZ0.out)
  have HR := Lib.hid hr
  have HM := Lib.hid (num_any' P l w1 hr)
  clear hr hc HI HZ0 HC0
  have k1 : ((strB tTick).toList == [116, 105, 99, 107]) = true := by rw [strB_toList]; decide
  go_wp2_with fail
  refine HM.out.mono ?_
  rintro e w2 (⟨ho, rfl, hc⟩ | ⟨n, l3, ho, rfl, hr, hc⟩)
  · have HN := Lib.hid (show stepP (tTick :: l) = none by rw [HE.out, ho]; rfl)
    replace HC := Lib.hid (HC.out.trans (hc.mono HC.out.size))
    clear ho hc HM HE k1
    go_wp2_with fail
    exact ⟨rfl, .inl ⟨HN.out, rfl, HC.out⟩⟩
  replace HE := Lib.hid (show stepP (tTick :: l) = if l3 = [] then some ⟨2, 0, n, []⟩ else none by rw [HE.out, ho]; rfl)
  replace HZ := Lib.hid (hc.blk HZ.out.lt (by omega) HZ.out)
  have HY := Lib.hid (show BytesOf w.heap.size ([] : List Nat) (.slice none 0 0) (w2.setCells w.heap.size 0 (stepC 2 0 n (.slice none 0 0)).toList) from .inl ⟨rfl, rfl⟩)
  have hbel := Blk.Below.setCells (stepC 2 0 n (.slice none 0 0)).toList 0 _ (Below.refl w.heap.size w2) (B := w.heap.size) (Nat.le_refl _)
  replace HR := Lib.hid (hr.below hP hbel)
  replace HC := Lib.hid ((HC.out.trans (hc.mono HC.out.size)).step hbel)
  have HZ3 := Lib.hid (HZ.out.setCells (stepC 2 0 n (.slice none 0 0)) rfl)
  clear ho hr hc hbel HM k1
  go_wp2_with (refine store_blk (by rfl) 42 _ _ (by rfl) w.heap.size (by rfl) _ (stepC 2 0 n (.slice none 0 0)) 42 HZ.out (by rfl) rfl (by kernel_rfl) (one_stp _ _ _ _ _ _) ?_; clear HZ; generalize w2.setCells w.heap.size 0 (stepC 2 0 n (.slice none 0 0)).toList = w3 at HC HZ3 HR HY ⊢; have HZ := HZ3; clear HZ3; obtain ⟨ra, rc, hrs⟩ := HR.out.slice; have c0 : w3.cell? ⟨P, 0, none⟩ = some (.slice ra l3.length rc) := hrs.cell 0 rfl; clear hrs)
  obtain ⟨st, hst⟩ : ∃ st : Stp, st = ⟨2, 0, n, []⟩ := ⟨_, rfl⟩
  obtain ⟨ua, hua⟩ : ∃ a : Option Addr, a = none := ⟨_, rfl⟩
  obtain ⟨un, hun⟩ : ∃ a : Nat, a = 0 := ⟨_, rfl⟩
  obtain ⟨uc, huc⟩ : ∃ a : Nat, a = 0 := ⟨_, rfl⟩
  replace HZ := Lib.hid (show Blk w3 w.heap.size (stepC st.k st.y st.v (.slice ua un uc)) 42 by rw [hst, hua, hun, huc]; exact HZ.out)
  replace HY := Lib.hid (show BytesOf w.heap.size st.l (.slice ua un uc) w3 by rw [hst, hua, hun, huc]; exact HY.out)
  rw [← hst] at HE
  clear hst hua hun huc
  by_cases hl3 : l3 = []
  · have HE3 := Lib.hid (show stepP (tTick :: l) = some st by rw [HE.out, if_pos hl3])
    have hz : ((l3.length : Int) == 0) = true := by rw [hl3]; rfl
    clear HE c0
    rw [hz]
    refine (must_true _).mono ?_
    rintro e w4 ⟨rfl, rfl⟩
    go_wp2_with (first
      | (refine load_blk (by rfl) 42 _ (by rfl) w.heap.size (by rfl) _ _ HZ.out _ Tryd.underlying42 rfl (by kernel_rfl) ?_)
      | (refine store_blk (by rfl) 42 _ _ (by rfl) w.heap.size (by rfl) _ (stepC st.k st.y st.v (.slice ua un uc)) 42 HZ.out (by rfl) rfl (by kernel_rfl) (one_stp _ _ _ _ _ _) ?_))
    refine bodyPost_ret (results_cell_row rfl _ _ _ _ _ (0, 0) _ rfl (HZ.out.setCells (stepC st.k st.y st.v (.slice ua un uc)) rfl) Tryd.underlying42 rfl (by kernel_rfl)) rfl ?_
    have hbel := Blk.Below.setCells (stepC st.k st.y st.v (.slice ua un uc)).toList 0 _ (Below.refl w.heap.size w3) (B := w.heap.size) (Nat.le_refl _)
    exact .inr ⟨st, _, HE3.out, rfl, ⟨_, rfl, bytes_cells _ _ _ _ HY.out HZ.out⟩, HC.out.step hbel⟩
  · have HE3 := Lib.hid (show stepP (tTick :: l) = none by rw [HE.out]; exact if_neg hl3)
    have hz : ((l3.length : Int) == 0) = false := by
      have : l3.length ≠ 0 := fun h => hl3 (List.length_eq_zero_iff.1 h)
      simp; omega
    clear HE
    rw [hz]
    refine (must_false _).mono ?_
    rintro e w4 ⟨rfl, rfl⟩
    go_wp2_with fail
    exact ⟨rfl, .inl ⟨HE3.out, rfl, HC.out⟩⟩
set_option maxRecDepth 20000 in
set_option maxHeartbeats 4000000 in
theorem step_index (P : Nat) (l : List Tok) (w : World) (h : WRd P (tIndex :: l) w) :
    Calls Tryd.prog 80 #[.pointer (some ⟨P, 0, none⟩)] w (StepIs (stepP (tIndex :: l)) P w) := by
  have hP := h.lt
  have hR0 := h.below (P := P) hP ((Below.refl w.heap.size w).alloc (Nat.le_refl _) (.cells (stepC 0 0 0 (.slice none 0 0)) 42))
  have HI := Lib.hid (word_any' P _ _ hR0)
  have HZ0 := Lib.hid (Blk.new w (stepC 0 0 0 (.slice none 0 0)) 42 w.heap.size rfl)
  have HC0 := Lib.hid ((Chg.refl w.heap.size P w).alloc (Nat.le_refl _) (.cells (stepC 0 0 0 (.slice none 0 0)) 42))
  have HE := Lib.hid (step_eq (show bodyP tIndex l = (numP l).map fun x => ((⟨3, 0, x.1, []⟩ : Stp), x.2) from rfl))
  clear h hR0
  go_enter Tryd.func80, Tryd.ntmps80
  go_wp2_with fail
  refine HI.out.mono ?_
  rintro e w1 (⟨ho, rfl, hc⟩ | ⟨x, l', ho, rfl, hr, hc⟩)
  · cases ho
  injection ho with ho
  injection ho with h1 h2
  subst h1 h2
  have HC := Lib.hid (HC0.out.trans (hc.mono (by simp)))
  have HZ := Lib.hid (hc.blk (by simp) (by omega) HZ0.out)
  have HR := Lib.hid hr
  have HM := Lib.hid (num_any' P l w1 hr)
  clear hr hc HI HZ0 HC0
  have k1 : ((strB tIndex).toList == [116, 105, 99, 107]) = false := by rw [strB_toList]; decide
  have k2 : ((strB tIndex).toList == [105, 110, 100, 101, 120]) = true := by rw [strB_toList]; decide
  go_wp2_with fail
  refine HM.out.mono ?_
  rintro e w2 (⟨ho, rfl, hc⟩ | ⟨n, l3, ho, rfl, hr, hc⟩)
  · have HN := Lib.hid (show stepP (tIndex :: l) = none by rw [HE.out, ho]; rfl)
    replace HC := Lib.hid (HC.out.trans (hc.mono HC.out.size))
    clear ho hc HM HE k1 k2
    go_wp2_with fail
    exact ⟨rfl, .inl ⟨HN.out, rfl, HC.out⟩⟩
  replace HE := Lib.hid (show stepP (tIndex :: l) = if l3 = [] then some ⟨3, 0, n, []⟩ else none by rw [HE.out, ho]; rfl)
  replace HZ := Lib.hid (hc.blk HZ.out.lt (by omega) HZ.out)
  have HY := Lib.hid (show BytesOf w.heap.size ([] : List Nat) (.slice none 0 0) (w2.setCells w.heap.size 0 (stepC 3 0 n (.slice none 0 0)).toList) from .inl ⟨rfl, rfl⟩)
  have hbel := Blk.Below.setCells (stepC 3 0 n (.slice none 0 0)).toList 0 _ (Below.refl w.heap.size w2) (B := w.heap.size) (Nat.le_refl _)
  replace HR := Lib.hid (hr.below hP hbel)
  replace HC := Lib.hid ((HC.out.trans (hc.mono HC.out.size)).step hbel)
  have HZ3 := Lib.hid (HZ.out.setCells (stepC 3 0 n (.slice none 0 0)) rfl)
  clear ho hr hc hbel HM k1 k2
  go_wp2_with (refine store_blk (by rfl) 42 _ _ (by rfl) w.heap.size (by rfl) _ (stepC 3 0 n (.slice none 0 0)) 42 HZ.out (by rfl) rfl (by kernel_rfl) (one_stp _ _ _ _ _ _) ?_; clear HZ; generalize w2.setCells w.heap.size 0 (stepC 3 0 n (.slice none 0 0)).toList = w3 at HC HZ3 HR HY ⊢; have HZ := HZ3; clear HZ3; obtain ⟨ra, rc, hrs⟩ := HR.out.slice; have c0 : w3.cell? ⟨P, 0, none⟩ = some (.slice ra l3.length rc) := hrs.cell 0 rfl; clear hrs)
  obtain ⟨st, hst⟩ : ∃ st : Stp, st = ⟨3, 0, n, []⟩ := ⟨_, rfl⟩
  obtain ⟨ua, hua⟩ : ∃ a : Option Addr, a = none := ⟨_, rfl⟩
  obtain ⟨un, hun⟩ : ∃ a : Nat, a = 0 := ⟨_, rfl⟩
  obtain ⟨uc, huc⟩ : ∃ a : Nat, a = 0 := ⟨_, rfl⟩
  replace HZ := Lib.hid (show Blk w3 w.heap.size (stepC st.k st.y st.v (.slice ua un uc)) 42 by rw [hst, hua, hun, huc]; exact HZ.out)
  replace HY := Lib.hid (show BytesOf w.heap.size st.l (.slice ua un uc) w3 by rw [hst, hua, hun, huc]; exact HY.out)
  rw [← hst] at HE
  clear hst hua hun huc
  by_cases hl3 : l3 = []
  · have HE3 := Lib.hid (show stepP (tIndex :: l) = some st by rw [HE.out, if_pos hl3])
    have hz : ((l3.length : Int) == 0) = true := by rw [hl3]; rfl
    clear HE c0
    rw [hz]
    refine (must_true _).mono ?_
    rintro e w4 ⟨rfl, rfl⟩
    go_wp2_with (first
      | (refine load_blk (by rfl) 42 _ (by rfl) w.heap.size (by rfl) _ _ HZ.out _ Tryd.underlying42 rfl (by kernel_rfl) ?_)
      | (refine store_blk (by rfl) 42 _ _ (by rfl) w.heap.size (by rfl) _ (stepC st.k st.y st.v (.slice ua un uc)) 42 HZ.out (by rfl) rfl (by kernel_rfl) (one_stp _ _ _ _ _ _) ?_))
    refine bodyPost_ret (results_cell_row rfl _ _ _ _ _ (0, 0) _ rfl (HZ.out.setCells (stepC st.k st.y st.v (.slice ua un uc)) rfl) Tryd.underlying42 rfl (by kernel_rfl)) rfl ?_
    have hbel := Blk.Below.setCells (stepC st.k st.y st.v (.slice ua un uc)).toList 0 _ (Below.refl w.heap.size w3) (B := w.heap.size) (Nat.le_refl _)
    exact .inr ⟨st, _, HE3.out, rfl, ⟨_, rfl, bytes_cells _ _ _ _ HY.out HZ.out⟩, HC.out.step hbel⟩
  · have HE3 := Lib.hid (show stepP (tIndex :: l) = none by rw [HE.out]; exact if_neg hl3)
    have hz : ((l3.length : Int) == 0) = false := by
      have : l3.length ≠ 0 := fun h => hl3 (List.length_eq_zero_iff.1 h)
      simp; omega
    clear HE
    rw [hz]
    refine (must_false _).mono ?_
    rintro e w4 ⟨rfl, rfl⟩
    go_wp2_with fail
    exact ⟨rfl, .inl ⟨HE3.out, rfl, HC.out⟩⟩
set_option maxRecDepth 20000 in
set_option maxHeartbeats 4000000 in
theorem step_bid (P : Nat) (l : List Tok) (w : World) (h : WRd P (tBid :: l) w) :
    Calls Tryd.prog 80 #[.pointer (some ⟨P, 0, none⟩)] w (StepIs (stepP (tBid :: l)) P w) := by
  have hP := h.lt
  have hR0 := h.below (P := P) hP ((Below.refl w.heap.size w).alloc (Nat.le_refl _) (.cells (stepC 0 0 0 (.slice none 0 0)) 42))
  have HI := Lib.hid (word_any' P _ _ hR0)
  have HZ0 := Lib.hid (Blk.new w (stepC 0 0 0 (.slice none 0 0)) 42 w.heap.size rfl)
  have HC0 := Lib.hid ((Chg.refl w.heap.size P w).alloc (Nat.le_refl _) (.cells (stepC 0 0 0 (.slice none 0 0)) 42))
  have HE := Lib.hid (step_eq (show bodyP tBid l = (inP 255 l).bind fun y => (numP y.2).map fun x => ((⟨4, y.1, x.1, []⟩ : Stp), x.2) from rfl))
  clear h hR0
  go_enter Tryd.func80, Tryd.ntmps80
  go_wp2_with fail
  refine HI.out.mono ?_
  rintro e w1 (⟨ho, rfl, hc⟩ | ⟨x, l', ho, rfl, hr, hc⟩)
  · cases ho
  injection ho with ho
  injection ho with h1 h2
  subst h1 h2
  have HC := Lib.hid (HC0.out.trans (hc.mono (by simp)))
  have HZ := Lib.hid (hc.blk (by simp) (by omega) HZ0.out)
  have HR := Lib.hid hr
  have HI2 := Lib.hid (in_any' P 255 l w1 hr)
  clear hr hc HI HZ0 HC0
  have k1 : ((strB tBid).toList == [116, 105, 99, 107]) = false := by rw [strB_toList]; decide
  have k2 : ((strB tBid).toList == [105, 110, 100, 101, 120]) = false := by rw [strB_toList]; decide
  have k3 : ((strB tBid).toList == [98, 105, 100]) = true := by rw [strB_toList]; decide
  go_wp2_with fail
  refine HI2.out.mono ?_
  rintro e w1' (⟨ho, rfl, hc⟩ | ⟨y, l2, ho, rfl, hr, hc⟩)
  · have HN := Lib.hid (show stepP (tBid :: l) = none by rw [HE.out, ho]; rfl)
    replace HC := Lib.hid (HC.out.trans (hc.mono HC.out.size))
    clear ho hc HI2 HE k1 k2 k3
    go_wp2_with fail
    exact ⟨rfl, .inl ⟨HN.out, rfl, HC.out⟩⟩
  have HY0 := Lib.hid ho
  replace HC := Lib.hid (HC.out.trans (hc.mono HC.out.size))
  replace HZ := Lib.hid (hc.blk HZ.out.lt (by omega) HZ.out)
  have HM := Lib.hid (num_any' P l2 w1' hr)
  clear ho hr hc HI2
  go_wp2_with fail
  refine HM.out.mono ?_
  rintro e w2 (⟨ho, rfl, hc⟩ | ⟨n, l3, ho, rfl, hr, hc⟩)
  · have HN := Lib.hid (show stepP (tBid :: l) = none by rw [HE.out, HY0.out]; dsimp only [Option.bind]; rw [ho]; rfl)
    replace HC := Lib.hid (HC.out.trans (hc.mono HC.out.size))
    clear ho hc HM HE k1 k2 k3
    go_wp2_with fail
    exact ⟨rfl, .inl ⟨HN.out, rfl, HC.out⟩⟩
  replace HE := Lib.hid (show stepP (tBid :: l) = if l3 = [] then some ⟨4, y, n, []⟩ else none by rw [HE.out, HY0.out]; dsimp only [Option.bind]; rw [ho]; rfl)
  replace HZ := Lib.hid (hc.blk HZ.out.lt (by omega) HZ.out)
  have HY := Lib.hid (show BytesOf w.heap.size ([] : List Nat) (.slice none 0 0) (w2.setCells w.heap.size 0 (stepC 4 y n (.slice none 0 0)).toList) from .inl ⟨rfl, rfl⟩)
  have hbel := Blk.Below.setCells (stepC 4 y n (.slice none 0 0)).toList 0 _ (Below.refl w.heap.size w2) (B := w.heap.size) (Nat.le_refl _)
  replace HR := Lib.hid (hr.below hP hbel)
  replace HC := Lib.hid ((HC.out.trans (hc.mono HC.out.size)).step hbel)
  have HZ3 := Lib.hid (HZ.out.setCells (stepC 4 y n (.slice none 0 0)) rfl)
  clear ho hr hc hbel HM k1 k2 k3
  go_wp2_with (refine store_blk (by rfl) 42 _ _ (by rfl) w.heap.size (by rfl) _ (stepC 4 y n (.slice none 0 0)) 42 HZ.out (by rfl) rfl (by kernel_rfl) (one_stp _ _ _ _ _ _) ?_; clear HZ; generalize w2.setCells w.heap.size 0 (stepC 4 y n (.slice none 0 0)).toList = w3 at HC HZ3 HR HY ⊢; have HZ := HZ3; clear HZ3; obtain ⟨ra, rc, hrs⟩ := HR.out.slice; have c0 : w3.cell? ⟨P, 0, none⟩ = some (.slice ra l3.length rc) := hrs.cell 0 rfl; clear hrs)
  obtain ⟨st, hst⟩ : ∃ st : Stp, st = ⟨4, y, n, []⟩ := ⟨_, rfl⟩
  obtain ⟨ua, hua⟩ : ∃ a : Option Addr, a = none := ⟨_, rfl⟩
  obtain ⟨un, hun⟩ : ∃ a : Nat, a = 0 := ⟨_, rfl⟩
  obtain ⟨uc, huc⟩ : ∃ a : Nat, a = 0 := ⟨_, rfl⟩
  replace HZ := Lib.hid (show Blk w3 w.heap.size (stepC st.k st.y st.v (.slice ua un uc)) 42 by rw [hst, hua, hun, huc]; exact HZ.out)
  replace HY := Lib.hid (show BytesOf w.heap.size st.l (.slice ua un uc) w3 by rw [hst, hua, hun, huc]; exact HY.out)
  rw [← hst] at HE
  clear hst hua hun huc
  by_cases hl3 : l3 = []
  · have HE3 := Lib.hid (show stepP (tBid :: l) = some st by rw [HE.out, if_pos hl3])
    have hz : ((l3.length : Int) == 0) = true := by rw [hl3]; rfl
    clear HE c0
    rw [hz]
    refine (must_true _).mono ?_
    rintro e w4 ⟨rfl, rfl⟩
    go_wp2_with (first
      | (refine load_blk (by rfl) 42 _ (by rfl) w.heap.size (by rfl) _ _ HZ.out _ Tryd.underlying42 rfl (by kernel_rfl) ?_)
      | (refine store_blk (by rfl) 42 _ _ (by rfl) w.heap.size (by rfl) _ (stepC st.k st.y st.v (.slice ua un uc)) 42 HZ.out (by rfl) rfl (by kernel_rfl) (one_stp _ _ _ _ _ _) ?_))
    refine bodyPost_ret (results_cell_row rfl _ _ _ _ _ (0, 0) _ rfl (HZ.out.setCells (stepC st.k st.y st.v (.slice ua un uc)) rfl) Tryd.underlying42 rfl (by kernel_rfl)) rfl ?_
    have hbel := Blk.Below.setCells (stepC st.k st.y st.v (.slice ua un uc)).toList 0 _ (Below.refl w.heap.size w3) (B := w.heap.size) (Nat.le_refl _)
    exact .inr ⟨st, _, HE3.out, rfl, ⟨_, rfl, bytes_cells _ _ _ _ HY.out HZ.out⟩, HC.out.step hbel⟩
  · have HE3 := Lib.hid (show stepP (tBid :: l) = none by rw [HE.out]; exact if_neg hl3)
    have hz : ((l3.length : Int) == 0) = false := by
      have : l3.length ≠ 0 := fun h => hl3 (List.length_eq_zero_iff.1 h)
      simp; omega
    clear HE
    rw [hz]
    refine (must_false _).mono ?_
    rintro e w4 ⟨rfl, rfl⟩
    go_wp2_with fail
    exact ⟨rfl, .inl ⟨HE3.out, rfl, HC.out⟩⟩
end Go.Proofs.YtmkcooamgojbpaaDoor.Lines

/- words.Parse: the closure that recovers. -/
namespace Go.Proofs.YtmkcooamgojbpaaDoor.Lines
open Go.RowKit Go.Proofs.YtmkcooamgojbpaaDoor.Kit Go.Proofs.YtmkcooamgojbpaaDoor.Blk Go.Proofs.YtmkcooamgojbpaaDoor.Dec Go.Proofs.YtmkcooamgojbpaaDoor.Words Go.Proofs.YtmkcooamgojbpaaDoor.Octets Go.Proofs.YtmkcooamgojbpaaDoor.Steps Go.Proofs.YtmkcooamgojbpaaDoor.Cmds
attribute [local go_sem ↓] Go.wp_at_zero Go.wp_at_succ
set_option linter.unusedVariables false
set_option linter.unusedSimpArgs false

/-- What the closure leaves behind a panic. -/
def Caught (A B : Nat) (w w' : World) : Prop := Blk w' A (stepC 0 0 0 (.slice none 0 0)) 42 ∧ Blk w' B #[.int .i64 4] 25 ∧ ∀ n, n ≤ A → Below n w w'
set_option maxRecDepth 20000 in
set_option maxHeartbeats 2000000 in
theorem catch_panicking (A B : Nat) (cs0 : Array Value) (hcs : (stepC 0 0 0 (.slice none 0 0)).size = cs0.size) (x : Int) (older : List PanicEntry) (w : World) (hab : A < B) (hA : Blk w A cs0 42) (hB : Blk w B #[.int .i64 x] 25) :
    CallsD Tryd.prog 79 #[.pointer (some ⟨A, 0, none⟩), .pointer (some ⟨B, 0, none⟩)] (.panicking ({ v := errW, recovered := false } :: older)) w fun e u' w' =>
      e = .returned (.tuple #[]) ∧ u' = .panicking ({ v := errW, recovered := true } :: older) ∧ Caught A B w w' := by
  refine callsD_of_wpS Tryd.func79 rfl fun c₀ cs hu => ?_
  apply wpS_seq
  apply wpS_region
  simp [wpOpsS, go_sem, recoverD, hu, Tryd.ntmps79, Exit.thenS, errW]
  apply wpS_seq
  apply wpS_region
  simp [wpOpsS, go_sem, Exit.thenS]
  refine wpS_cond (t := true) (by simp [Act.eval, Array.replicate]) ?_
  simp only [if_true]
  apply wpS_of_wp
  have hta : ∀ w, (Instr.typeAssert (.iface 25 (.int .i64 4)) 20 25 false).run Tryd.prog w = .ok (.int .i64 4) w := fun _ => by kernel_rfl
  have HA := Lib.hid hA.drew
  have HB := Lib.hid hB.drew
  have HW := Lib.hid (fun n => (Below.refl n w).drew)
  clear hA hB
  change Code.wp _ _ _ { tmps := #[.pointer (some ⟨A, 0, none⟩), .pointer (some ⟨B, 0, none⟩), .iface 25 (.int .i64 4), .iface 25 (.int .i64 4), .iface 25 (.int .i64 4), .bool true, undef, undef, undef], defers := [] } _
  refine wp_region_held_drew (S := (fun _ => True)) (by kernel_rfl) trivial (fun hHeld => ?_)
  generalize w.drew = w1 at HA HB HW ⊢
  refine wpAnyH_take (i := 0) (oi := ⟨some 6, _, _, _, _, _⟩) (v := (.agg #[.int .i64 0, .int .i64 0, .int .i64 0, .slice none 0 0])) rfl (by kernel_rfl) (by kernel_rfl) (by kernel_rfl) (fun _ _ _ h => h) (Or.inl ⟨by rfl, fun w hSw => by (try dsimp only at hSw); go_simp⟩) (by assumption) ?_
  simp only [Act.put, List.setIfInBounds_toArray, List.set_cons_zero, List.set_cons_succ]
  refine wpAnyH_take (i := 1) (oi := ⟨some 7, _, _, _, _, _⟩) (v := (.iface 25 (.int .i64 4))) rfl (by kernel_rfl) (by kernel_rfl) (by kernel_rfl) (fun _ _ _ h => h) (Or.inl ⟨by rfl, fun w hSw => by (try dsimp only at hSw); go_simp⟩) (by assumption) ?_
  simp only [Act.put, List.setIfInBounds_toArray, List.set_cons_zero, List.set_cons_succ]
  refine wpAnyH_take (i := 2) (oi := ⟨some 8, _, _, _, _, _⟩) (v := (.int .i64 4)) rfl (by kernel_rfl) (by kernel_rfl) (by kernel_rfl) (fun _ _ _ h => h) (Or.inl ⟨by rfl, fun w hSw => by (try dsimp only at hSw); go_simp⟩) (by assumption) ?_
  simp only [Act.put, List.setIfInBounds_toArray, List.set_cons_zero, List.set_cons_succ]
  refine wpAnyH_ready (rs := [3]) (by kernel_rfl) (by simp) ?_
  refine AllReadyH.cons (o := ⟨none, _, _, _, _, _⟩) rfl (fun KK hK => ?_) AllReadyH.nil
  refine step_store_blk (by rfl) 42 _ _ (by rfl) A (by rfl) cs0 (stepC 0 0 0 (.slice none 0 0)) 42 HA.out (by rfl) hcs (by kernel_rfl) (one_stp _ _ _ _ _ _) ?_
  have HA2 := Lib.hid (HA.out.setCells (stepC 0 0 0 (.slice none 0 0)) hcs)
  have HB2 := Lib.hid (show Blk (w1.setCells A 0 (stepC 0 0 0 (.slice none 0 0)).toList) B #[.int .i64 x] 25 from Blk.Blk.apartAll _ 0 _ HB.out (by omega))
  have HW2 := Lib.hid (fun n (hn : n ≤ A) => Blk.Below.setCells (stepC 0 0 0 (.slice none 0 0)).toList 0 _ (HW.out n) (B := A) hn)
  clear HA HB HW
  generalize w1.setCells A 0 (stepC 0 0 0 (.slice none 0 0)).toList = w2 at HA2 HB2 HW2 ⊢
  refine hK.out _ _ trivial (fun hHeld => ?_)
  clear hK; try clear KK
  try simp only [Act.put, List.setIfInBounds_toArray, List.set_cons_zero, List.set_cons_succ]
  have c0 := HB2.out.cell 0 rfl
  have f0 := HB2.out.free 0
  refine wpAnyH_ready (rs := [4]) (by kernel_rfl) (by simp) ?_
  refine AllReadyH.cons (o := ⟨none, _, _, _, _, _⟩) rfl (fun KK hK => ?_) AllReadyH.nil
  go_simp
  have HA3 := Lib.hid (HA2.out.apart ⟨B, 0, none⟩ (.int .i64 4) (by show B ≠ A; omega))
  have HB3 := Lib.hid (show Blk (w2.setCell ⟨B, 0, none⟩ (.int .i64 4)) B #[.int .i64 4] 25 from HB2.out.set 0 _)
  have HW3 := Lib.hid (fun n (hn : n ≤ A) => show Below n w (w2.setCell ⟨B, 0, none⟩ (.int .i64 4)) from (HW2.out n hn).setCell (by show n ≤ B; omega) _)
  refine hK.out _ _ trivial (fun hHeld => ?_)
  clear hK; try clear KK
  refine wpAnyH_done (by kernel_rfl) ?_ _
  simp [bodyPostS, results, Tryd.results79]
  exact ⟨HA3.out, HB3.out, HW3.out⟩
theorem catch_idle (p q : Value) (w : World) :
    CallsD Tryd.prog 79 #[p, q] .returning w fun e u' w' => e = .returned (.tuple #[]) ∧ u' = .returning ∧ w' = w := by
  refine callsD_of_wpS Tryd.func79 rfl fun c₀ cs hu => ?_
  apply wpS_seq
  apply wpS_region
  simp [wpOpsS, go_sem, recoverD, hu, Tryd.ntmps79, Exit.thenS]
  apply wpS_seq
  apply wpS_region
  simp [wpOpsS, go_sem, Exit.thenS]
  refine wpS_cond (t := false) (by simp [Act.eval, Array.replicate]) ?_
  simp only [Bool.false_eq_true, if_false]
  refine wpS_of_wp (wp_skip ?_)
  cases c₀
  simp_all [bodyPostS, results, Tryd.results79]
def WParseIs (o : Option Stp) (w : World) (e : Ending) (w' : World) : Prop :=
  ∃ u, e = .returned (.tuple #[.agg (stepC (o.getD ⟨0, 0, 0, []⟩).k (o.getD ⟨0, 0, 0, []⟩).y (o.getD ⟨0, 0, 0, []⟩).v u), .int .i64 (if o.isSome = true then 0 else 4)]) ∧ BytesOf w.heap.size (o.getD ⟨0, 0, 0, []⟩).l u w' ∧ Below w.heap.size w w'
theorem wrd_of {v : Value} {ws : List Tok} {W : World} (h : StrRow v ws W) (hl : ∀ x ∈ ws, x.length ≤ 100000) : WRd W.heap.size ws (W.alloc (.cells #[v] 119)) := by
  refine ⟨hl, v, Blk.new _ _ _ _ rfl, ?_⟩
  rcases h with ⟨h1, h2⟩ | ⟨h0, b, c, h1, h2, h3, h4⟩
  · exact .inl ⟨h1, _, _, h2⟩
  · exact .inr ⟨b, 0, c, h1, h2, h3, fun j hj => by rw [cell_old _ _ _ (by show b < _; exact h3), Nat.zero_add]; exact h4 j hj⟩
theorem results_blk_int {P : Program} {fn : Func} {p u : Tmp} {ty ti T : TypeId} {tmps : Array Value} {w : World} {B C : Nat} {cs : Array Value} {x : Int} {d : TypeDesc} (h : fn.results = #[.cell p ty, .cell u ti]) (hp : tmps.getD p undef = .pointer (some ⟨B, 0, none⟩)) (hq : tmps.getD u undef = .pointer (some ⟨C, 0, none⟩)) (hb : Blk w B cs T) (hc : w.cell? ⟨C, 0, none⟩ = some (.int .i64 x))
    (hu : P.underlying ty = some d) (hd : d.isRow = true) (hi : (P.info? ty).map (·.size) = some cs.size) (hx : (loadVar ti ⟨C, 0, none⟩).run P w = .ok (.int .i64 x) w) : (results fn tmps).run P w = .ok (.tuple #[.agg cs, .int .i64 x]) w := by
  have hp' : tmps[p]?.getD undef = .pointer (some ⟨B, 0, none⟩) := by simpa using hp
  have hq' : tmps[u]?.getD undef = .pointer (some ⟨C, 0, none⟩) := by simpa using hq
  have hl := run_loadVar_mid w B 0 ty cs.toList d hb.range hu hd (by simpa using hi)
  simp [results, h, hp', hq', asAddr, hl, hx]
set_option maxRecDepth 20000 in
set_option maxHeartbeats 4000000 in
theorem parse_of (l : List UInt8) (hl : l.length ≤ 100000) (o : Option Stp) (hs : ∀ P w, WRd P (splitW l) w → Calls Tryd.prog 80 #[.pointer (some ⟨P, 0, none⟩)] w (StepIs o P w)) (w : World) (hm : MX w) :
    Calls Tryd.prog 26 #[.string (strB l)] w (WParseIs o w) := by
  have hmf : ∀ (fn : Fn) (first cap : Array Value) (w : World), (Instr.makeFunc fn first cap).run Tryd.prog w = .ok (.func fn first cap) w := fun _ _ _ _ => rfl
  have HBE := Lib.hid (((Below.refl w.heap.size w).alloc (Nat.le_refl _) (.cells (stepC 0 0 0 (.slice none 0 0)) 42)).alloc (by simp) (.cells #[.int .i64 0] 25))
  have HA := Lib.hid ((Blk.new w (stepC 0 0 0 (.slice none 0 0)) 42 w.heap.size rfl).old (.cells #[.int .i64 0] 25))
  have HB := Lib.hid (Blk.new (w.alloc (.cells (stepC 0 0 0 (.slice none 0 0)) 42)) #[.int .i64 0] 25 (w.heap.size + 1) (by simp))
  have HSP := Lib.hid (split_any l hl ((w.alloc (.cells (stepC 0 0 0 (.slice none 0 0)) 42)).alloc (.cells #[.int .i64 0] 25)) (hm.below (n := w.heap.size) HBE.out))
  have HWL := Lib.hid (split_bytes l)
  have HST := Lib.hid hs
  have HL := Lib.hid hl
  clear hs hm hl
  go_enter_defers Tryd.func26, Tryd.ntmps26
  go_wp2_with fail
  refine HSP.out.mono ?_
  rintro e w1 ⟨v, rfl, hrow, hb⟩
  have HR1 := Lib.hid (HST.out _ _ (wrd_of hrow (fun x hx => Nat.le_trans (HWL.out x hx) HL.out)))
  have HA2 := Lib.hid ((HA.out.below hb HA.out.lt).old (.cells #[v] 119))
  have HB2 := Lib.hid ((HB.out.below hb HB.out.lt).old (.cells #[v] 119))
  have HBE2 := Lib.hid ((HBE.out.trans (hb.mono HBE.out.size)).alloc (Nat.le_trans HBE.out.size hb.size) (.cells #[v] 119))
  have hP : w.heap.size + 1 < w1.heap.size := by have := HB.out.lt; have := hb.size; omega
  obtain ⟨ra, rn, rc, rfl⟩ : ∃ a n c, v = .slice a n c := by
    rcases hrow with ⟨h1, h2⟩ | ⟨_, b, c, h1, _⟩
    · exact ⟨_, _, _, h2⟩
    · exact ⟨_, _, _, h1⟩
  clear hrow hb HSP HWL HST HL HA HB HBE
  go_wp2_with fail
  refine HR1.out.mono ?_
  clear HR1
  generalize hW : w1.alloc (.cells #[.slice ra rn rc] 119) = w2 at HA2 HB2 HBE2 ⊢
  have hW2 : w1.heap.size < w2.heap.size := by rw [← hW]; simp
  generalize w1.heap.size = P at hP hW2 ⊢
  clear hW
  rintro e w3 (⟨ho, rfl, hc⟩ | ⟨s, v, ho, rfl, ⟨u, rfl, hby⟩, hc⟩)
  · subst ho
    have HA3 := Lib.hid (hc.blk HA2.out.lt (by omega) HA2.out)
    have HB3 := Lib.hid (hc.blk HB2.out.lt (by omega) HB2.out)
    have HBE3 := Lib.hid (HBE2.out.trans (hc.below' (m := w.heap.size) (by omega) HBE2.out.size))
    clear hc HA2 HB2 HBE2
    go_wp2_with fail
    refine leaves_cons (f := 79) (args := #[.pointer (some ⟨w.heap.size, 0, none⟩), .pointer (some ⟨w.heap.size + 1, 0, none⟩)]) (by simp) (by simp [go_sem]) ?_
    refine (catch_panicking w.heap.size (w.heap.size + 1) _ rfl 0 [] w3 (by omega) HA3.out HB3.out).mono ?_
    rintro e u' w4 ⟨rfl, rfl, h1, h2, h3⟩
    have HC4 := Lib.hid h1
    have c1 : w4.cell? ⟨w.heap.size + 1, 0, none⟩ = some (.int .i64 4) := h2.cell 0 rfl
    have HBE4 := Lib.hid (HBE3.out.trans (h3 _ (Nat.le_refl _)))
    exact ⟨_, results_blk_int rfl rfl rfl HC4.out c1 Tryd.underlying42 rfl (by kernel_rfl) (by simp [go_sem, c1]), _, rfl, .inl ⟨rfl, rfl⟩, HBE4.out⟩
  · subst ho
    have HA3 := Lib.hid (hc.blk HA2.out.lt (by omega) HA2.out)
    have HB3 := Lib.hid (hc.blk HB2.out.lt (by omega) HB2.out)
    have HBE3 := Lib.hid (HBE2.out.trans (hc.below' (m := w.heap.size) (by omega) HBE2.out.size))
    obtain ⟨ua, un, uc, rfl⟩ := bytes_form hby
    have HY := Lib.hid (bytes_cells (stepC s.k s.y s.v (.slice ua un uc)).toList 0 _ _ (bytes_mono hby HBE2.out.size) HA3.out)
    have HA4 := Lib.hid (HA3.out.setCells (stepC s.k s.y s.v (.slice ua un uc)) rfl)
    have HB4 := Lib.hid (show Blk (w3.setCells w.heap.size 0 (stepC s.k s.y s.v (.slice ua un uc)).toList) (w.heap.size + 1) #[.int .i64 0] 25 from Blk.Blk.apartAll _ 0 _ HB3.out (by omega))
    have HBE4 := Lib.hid (Blk.Below.setCells (stepC s.k s.y s.v (.slice ua un uc)).toList 0 _ HBE3.out (B := w.heap.size) (Nat.le_refl _))
    clear hc hby HA2 HB2 HBE2 HBE3 HB3
    go_wp2_with (refine store_blk (by rfl) 42 _ _ (by rfl) w.heap.size (by rfl) _ (stepC s.k s.y s.v (.slice ua un uc)) 42 HA3.out (by rfl) rfl (by kernel_rfl) (one_stp _ _ _ _ _ _) ?_; clear HA3; generalize w3.setCells w.heap.size 0 (stepC s.k s.y s.v (.slice ua un uc)).toList = w4 at HA4 HB4 HBE4 HY ⊢; have c1 := HB4.out.cell 0 rfl; have f1 := HB4.out.free 0)
    have HA5 := Lib.hid (HA4.out.apart ⟨w.heap.size + 1, 0, none⟩ (.int .i64 0) (by show w.heap.size + 1 ≠ w.heap.size; omega))
    have HB5 := Lib.hid (show Blk (w4.setCell ⟨w.heap.size + 1, 0, none⟩ (.int .i64 0)) (w.heap.size + 1) #[.int .i64 0] 25 from HB4.out.set 0 _)
    have HBE5 := Lib.hid (show Below w.heap.size w (w4.setCell ⟨w.heap.size + 1, 0, none⟩ (.int .i64 0)) from HBE4.out.setCell (by show w.heap.size ≤ w.heap.size + 1; omega) _)
    have HY5 := Lib.hid (show BytesOf w.heap.size s.l (.slice ua un uc) (w4.setCell ⟨w.heap.size + 1, 0, none⟩ (.int .i64 0)) from by
      rcases HY.out with h | ⟨h0, h⟩
      · exact .inl h
      · refine .inr ⟨h0, own_set h (fun hu => ?_) 0 _⟩
        obtain ⟨_, cur, hc⟩ := row_from' h hu
        rw [show w4.heap[w.heap.size + 1]? = _ from HB4.out] at hc
        injection hc with hc
        injection hc with _ hc _
        exact absurd hc (by decide))
    generalize w4.setCell ⟨w.heap.size + 1, 0, none⟩ (.int .i64 0) = w5 at HA5 HB5 HBE5 HY5 ⊢
    have c5 : w5.cell? ⟨w.heap.size + 1, 0, none⟩ = some (.int .i64 0) := HB5.out.cell 0 rfl
    refine leaves_cons (f := 79) (args := #[.pointer (some ⟨w.heap.size, 0, none⟩), .pointer (some ⟨w.heap.size + 1, 0, none⟩)]) (by simp) (by simp [go_sem]) ?_
    refine (catch_idle _ _ w5).mono ?_
    rintro e u' w6 ⟨rfl, rfl, rfl⟩
    exact ⟨_, results_blk_int rfl rfl rfl HA5.out c5 Tryd.underlying42 rfl (by kernel_rfl) (by simp [go_sem, c5]), _, rfl, HY5.out, HBE5.out⟩
end Go.Proofs.YtmkcooamgojbpaaDoor.Lines

/- damperlaw35.alive. -/
namespace Go.Proofs.YtmkcooamgojbpaaDoor.Lines
open Go.RowKit Go.Proofs.YtmkcooamgojbpaaDoor.Kit Go.Proofs.YtmkcooamgojbpaaDoor.Blk Go.Proofs.YtmkcooamgojbpaaDoor.Dec Go.Proofs.YtmkcooamgojbpaaDoor.Words Go.Proofs.YtmkcooamgojbpaaDoor.Octets Go.Proofs.YtmkcooamgojbpaaDoor.Steps Go.Proofs.YtmkcooamgojbpaaDoor.Cmds
attribute [local go_sem ↓] Go.wp_at_zero Go.wp_at_succ
set_option linter.unusedVariables false

def lC : List UInt8 := [99, 97, 110, 99, 101, 108, 32, 51, 32, 53]
theorem lC_split : splitW lC = [tCancel, [51], [53]] := by decide +kernel
theorem lC_step : stepP (splitW lC) = some ⟨1, 0, 0, [2, 3, 5]⟩ := by
  rw [lC_split, show ([tCancel, [51], [53]] : List Tok) = wordsC ⟨2, 3, 5, 0, 0, 0, 0, 0, 0⟩ by decide +kernel]
  rw [cmd_words (by decide +kernel) (by decide) (by decide)]
  rfl
def AliveW (w : World) (e : Ending) (w' : World) : Prop := e = .returned (.bool true) ∧ Below w.heap.size w w'
set_option maxRecDepth 20000 in
set_option maxHeartbeats 4000000 in
theorem alive35_any (w : World) (hm : MX w) : Calls Tryd.prog 25 #[] w (AliveW w) := by
  have HP := Lib.hid (parse_of lC (by decide) (some ⟨1, 0, 0, [2, 3, 5]⟩) (fun P w h => by
    rw [lC_split] at h
    rw [← lC_step, lC_split]
    exact step_cancel P _ w h) w hm)
  clear hm
  go_enter Tryd.func25, Tryd.ntmps25
  go_wp2_with fail
  refine HP.out.mono ?_
  rintro e w1 ⟨u, rfl, hby, hb⟩
  rcases hby with ⟨h, _⟩ | ⟨_, hown⟩
  · cases h
  obtain ⟨g, cap, rfl, -, -⟩ := World.ownsRow.form hown (by decide)
  have hcell := fun j hj => World.ownsRow.cellAt hown j hj
  have hlt := (World.ownsRow.lt hown g rfl).2
  have b0 : w1.cell? ⟨g, 0, none⟩ = some (.int .u8 2) := hcell 0 (by decide)
  have b1 : w1.cell? ⟨g, 1, none⟩ = some (.int .u8 3) := hcell 1 (by decide)
  have b2 : w1.cell? ⟨g, 2, none⟩ = some (.int .u8 5) := hcell 2 (by decide)
  have HB := Lib.hid (hb.alloc hb.size (.cells (stepC 1 0 0 (.slice (some ⟨g, 0, none⟩) 3 cap)) 42))
  have hng : ¬ w1.heap.size = g := by omega
  clear hown hcell hb HP
  simp only [Option.getD_some, Option.isSome_some, if_true]
  unfold stepC
  go_wp2_with fail
  go_ret
  exact ⟨rfl, HB.out⟩
end Go.Proofs.YtmkcooamgojbpaaDoor.Lines
