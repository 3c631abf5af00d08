/- Parts of the proof: WRd, WStep, WCmd, WStepC, WParse, RowS, ShNums, ShNum, ShMust, ShTry. -/
import Derived.Test.YtmkcooamgojbpaaDoorPart17
import Derived.Test.YtmkcooamgojbpaaDoorPart21
import Derived.Test.YtmkcooamgojbpaaDoorPart20
import Derived.Test.YtmkcooamgojbpaaDoorPart4
import Derived.Recover
import Derived.Deep.RegionHeld3
import Derived.Deep.DrawnRows
import Derived.Test.YtmkcooamgojbpaaDoorPart6
import Derived.Test.YtmkcooamgojbpaaDoorPart7

/- words.reader: its state in memory; must, word, num, in. -/
namespace Go.Proofs.YtmkcooamgojbpaaDoor.Lines
open Go.RowKit Go.Proofs.YtmkcooamgojbpaaDoor.Kit Go.Proofs.YtmkcooamgojbpaaDoor.Blk Go.Proofs.YtmkcooamgojbpaaDoor.Dec Go.Proofs.YtmkcooamgojbpaaDoor.Words Go.Proofs.YtmkcooamgojbpaaDoor.Octets
attribute [local go_sem ↓] Go.wp_at_zero Go.wp_at_succ
set_option linter.unusedVariables false

/-- What a text that is none panics with. -/
def errW : Value := .iface 25 (.int .i64 4)
abbrev badE : Ending := .panicked [{ v := errW, recovered := false }]
theorem must_true (w : World) : Calls Tryd.prog 135 #[.bool true] w fun e w' => e = .returned (.tuple #[]) ∧ w = w' := by
  go_enter Tryd.func135, Tryd.ntmps135
  go_wp2_with fail
  go_end0
  exact ⟨rfl, rfl⟩
theorem must_false (w : World) : Calls Tryd.prog 135 #[.bool false] w fun e w' => e = badE ∧ w = w' := by
  go_enter Tryd.func135, Tryd.ntmps135
  go_wp2_with fail
  exact ⟨rfl, rfl, rfl⟩
/-- Words somewhere in a block below M. -/
def StrAt (M : Nat) (ws : List (List UInt8)) (v : Value) (W : World) : Prop :=
  (ws = [] ∧ ∃ a c, v = .slice a 0 c) ∨ ∃ g o c, v = .slice (some ⟨g, o, none⟩) ws.length c ∧ ws.length ≤ c ∧ g < M ∧ ∀ j, (h : j < ws.length) → W.cell? ⟨g, o + j, none⟩ = some (.string (strB ws[j]))
/-- A reader at P, and the words that are left. -/
def WRd (P : Nat) (ws : List (List UInt8)) (W : World) : Prop := (∀ x ∈ ws, x.length ≤ 100000) ∧ ∃ v, Blk W P #[v] 119 ∧ StrAt P ws v W
theorem StrAt.chg {M n d : Nat} {ws : List (List UInt8)} {v : Value} {W W' : World} (h : StrAt M ws v W) (hM : M ≤ n) (hd : M ≤ d) (hc : Chg n d W W') : StrAt M ws v W' := by
  rcases h with h | ⟨g, o, c, h1, h2, h3, h4⟩
  · exact .inl h
  · exact .inr ⟨g, o, c, h1, h2, h3, fun j hj => by rw [hc.cell (p := ⟨g, o + j, none⟩) (by show g < n; omega) (by show g ≠ d; omega)]; exact h4 j hj⟩
theorem WRd.chg {P n d : Nat} {ws : List (List UInt8)} {W W' : World} (h : WRd P ws W) (hP : P < n) (hd : P < d) (hc : Chg n d W W') : WRd P ws W' := by
  obtain ⟨h0, v, h1, h2⟩ := h
  exact ⟨h0, v, hc.blk hP (by omega) h1, h2.chg (by omega) (by omega) hc⟩
theorem WRd.below {P n : Nat} {ws : List (List UInt8)} {W W' : World} (h : WRd P ws W) (hP : P < n) (hb : Below n W W') : WRd P ws W' := by
  refine h.chg (n := n) (d := n) hP hP ⟨hb.os, hb.tape, hb.output, hb.size, fun k hk _ => hb.block k hk⟩
theorem WRd.lt {P : Nat} {ws : List (List UInt8)} {W : World} (h : WRd P ws W) : P < W.heap.size := by obtain ⟨h0, v, h1, h2⟩ := h; exact h1.lt
/-- What a reading answers. -/
def RdIs {α : Type} (val : α → Value) (o : Option (α × List (List UInt8))) (P : Nat) (w : World) (e : Ending) (w' : World) : Prop :=
  (o = none ∧ e = badE ∧ Chg w.heap.size P w w') ∨ ∃ x l, o = some (x, l) ∧ e = .returned (val x) ∧ WRd P l w' ∧ Chg w.heap.size P w w'
theorem word_any' (P : Nat) (ws : List (List UInt8)) (w : World) (h : WRd P ws w) : Calls Tryd.prog 130 #[.pointer (some ⟨P, 0, none⟩)] w (RdIs (fun x => .string (strB x)) (wordP ws) P w) := by
  obtain ⟨h0, v, hb, hat⟩ := h
  have HL := Lib.hid h0
  clear h0
  cases ws with
  | nil =>
    obtain ⟨a, c, rfl⟩ : ∃ a c, v = .slice a 0 c := by
      rcases hat with ⟨_, h⟩ | ⟨g, o, c, h, _⟩
      · exact h
      · exact ⟨_, _, h⟩
    have c0 := hb.cell 0 rfl
    clear hb hat
    go_enter Tryd.func130, Tryd.ntmps130
    go_wp2_with fail
    refine (must_false _).mono ?_
    rintro e w1 ⟨rfl, rfl⟩
    go_wp2_with fail
    exact ⟨rfl, .inl ⟨rfl, rfl, Chg.refl _ _ _⟩⟩
  | cons x ws =>
    obtain ⟨g, o, c, rfl, hc, hg, hcells⟩ : ∃ g o c, v = .slice (some ⟨g, o, none⟩) (ws.length + 1) c ∧ ws.length + 1 ≤ c ∧ g < P ∧ ∀ j, (h : j < (x :: ws).length) → w.cell? ⟨g, o + j, none⟩ = some (.string (strB (x :: ws)[j])) := by
      rcases hat with ⟨h, _⟩ | h
      · cases h
      · exact h
    have c0 : w.cell? ⟨P, 0, none⟩ = some (.slice (some ⟨g, o, none⟩) (ws.length + 1) c) := hb.cell 0 rfl
    have ck : w.cell? ⟨g, o, none⟩ = some (.string (strB x)) := hcells 0 (by simp)
    have f0 := hb.free 0
    have HS := Lib.hid (show ∀ v, ((ws = [] ∧ ∃ a c, v = .slice a 0 c) ∨ v = .slice (some ⟨g, o + 1, none⟩) ws.length (c - 1)) → WRd P ws (w.setCell ⟨P, 0, none⟩ v) from by
      intro v hv
      refine ⟨fun y hy => HL.out y (List.mem_cons_of_mem _ hy), v, hb.set 0 v, ?_⟩
      rcases hv with hv | rfl
      · exact .inl hv
      · refine .inr ⟨g, o + 1, c - 1, rfl, by omega, hg, fun j hj => ?_⟩
        rw [World.cell?_of_block (w := w) (a := ⟨g, o + 1 + j, none⟩) (Below.heap_setCell _ _ _ _ (by show g ≠ P; omega))]
        have := hcells (j + 1) (by simp; omega)
        rw [show o + (j + 1) = o + 1 + j by omega] at this
        exact this)
    have HC := Lib.hid (fun v => show Chg w.heap.size P w (w.setCell ⟨P, 0, none⟩ v) from (Chg.refl _ _ _).setCell _ _ (.inl rfl))
    have g1 : (ws.length : Int) + 1 ≤ c := by omega
    have g2 : (0 : Int) < (ws.length : Int) + 1 := by omega
    have g3 : (1 : Int) ≤ (ws.length : Int) + 1 := by omega
    have hz : Hid (ws.length = 0 → ws = []) := Lib.hid (fun h => List.length_eq_zero_iff.1 h)
    clear hb hcells hat
    go_enter Tryd.func130, Tryd.ntmps130
    go_wp2_with fail
    refine (must_true _).mono ?_
    rintro e w1 ⟨rfl, rfl⟩
    go_wp2_with fail
    all_goals go_ret
    · exact .inr ⟨x, ws, rfl, rfl, HS.out _ (.inl ⟨hz.out (by omega), _, _, by rw [hz.out (by omega)]; rfl⟩), HC.out _⟩
    · exact .inr ⟨x, ws, rfl, rfl, HS.out _ (.inr rfl), HC.out _⟩
theorem WRd.len {P : Nat} {ws : List (List UInt8)} {W : World} (h : WRd P ws W) : ∀ x ∈ ws, x.length ≤ 100000 := h.1
theorem num_any' (P : Nat) (ws : List (List UInt8)) (w : World) (h : WRd P ws w) : Calls Tryd.prog 131 #[.pointer (some ⟨P, 0, none⟩)] w (RdIs (fun x => .int .i64 x) (numP ws) P w) := by
  have HW := Lib.hid (word_any' P ws w h)
  have HL := Lib.hid h.len
  have hP := h.lt
  clear h
  go_enter Tryd.func131, Tryd.ntmps131
  go_wp2_with fail
  refine HW.out.mono ?_
  rintro e w1 (⟨ho, rfl, hc⟩ | ⟨x, l, ho, rfl, hr, hc⟩)
  · have HN := Lib.hid (show numP ws = none by unfold numP; rw [ho]; rfl)
    have HC := Lib.hid hc
    clear ho hc HW HL
    go_wp2_with fail
    exact ⟨rfl, .inl ⟨HN.out, rfl, HC.out⟩⟩
  · have hx : x.length ≤ 100000 := HL.out x (by cases ws with | nil => cases ho | cons a b => injection ho with ho; injection ho with h1 h2; subst h1; exact List.mem_cons_self)
    have HN := Lib.hid (show numP ws = (numF x).map fun n => (n, l) by unfold numP; rw [ho]; rfl)
    have HB := Lib.hid (wnumber_any x hx w1)
    have HR := Lib.hid hr
    have HC := Lib.hid hc
    have hsz := hr.lt
    clear ho hr hc HW HL hx
    go_wp2_with fail
    refine HB.out.mono ?_
    rintro e w2 ⟨rfl, hb⟩
    have HR2 := Lib.hid (HR.out.below hsz hb)
    have HC2 := Lib.hid (HC.out.step (hb.mono HC.out.size))
    clear hb HB HR HC
    cases hn : numF x with
    | none =>
      rw [hn] at HN
      go_wp2_with fail
      refine (must_false _).mono ?_
      rintro e w3 ⟨rfl, rfl⟩
      go_wp2_with fail
      exact ⟨rfl, .inl ⟨HN.out, rfl, HC2.out⟩⟩
    | some n =>
      rw [hn] at HN
      clear hn
      go_wp2_with fail
      refine (must_true _).mono ?_
      rintro e w3 ⟨rfl, rfl⟩
      go_wp2_with fail
      go_ret
      exact .inr ⟨n, l, HN.out, rfl, HR2.out, HC2.out⟩
set_option maxRecDepth 20000 in
theorem in_any' (P : Nat) (most : Int) (ws : List (List UInt8)) (w : World) (h : WRd P ws w) : Calls Tryd.prog 132 #[.pointer (some ⟨P, 0, none⟩), .int .i64 most] w (RdIs (fun x => .int .i64 x) (inP most ws) P w) := by
  have HW := Lib.hid (num_any' P ws w h)
  have hP := h.lt
  clear h
  go_enter Tryd.func132, Tryd.ntmps132
  go_wp2_with fail
  refine HW.out.mono ?_
  rintro e w1 (⟨ho, rfl, hc⟩ | ⟨n, l, ho, rfl, hr, hc⟩)
  · have HN := Lib.hid (show inP most ws = none by unfold inP; rw [ho]; rfl)
    have HC := Lib.hid hc
    clear ho hc HW
    go_wp2_with fail
    exact ⟨rfl, .inl ⟨HN.out, rfl, HC.out⟩⟩
  · have HN := Lib.hid (show inP most ws = if 0 ≤ n ∧ n ≤ most then some (n, l) else none by unfold inP; rw [ho]; rfl)
    have HR := Lib.hid hr
    have HC := Lib.hid hc
    clear ho hr hc HW
    by_cases g1 : 0 ≤ n
    · by_cases g2 : n ≤ most
      · have HY := Lib.hid (show inP most ws = some (n, l) by rw [HN.out, if_pos ⟨g1, g2⟩])
        clear HN
        go_wp2_with fail
        refine (must_true _).mono ?_
        rintro e w3 ⟨rfl, rfl⟩
        go_wp2_with fail
        go_ret
        exact .inr ⟨n, l, HY.out, rfl, HR.out, HC.out⟩
      · have HY := Lib.hid (show inP most ws = none by rw [HN.out, if_neg (fun h => g2 h.2)])
        clear HN
        have d2 : decide (n ≤ most) = false := decide_eq_false g2
        go_wp2_with fail
        refine (must_false _).mono ?_
        rintro e w3 ⟨rfl, rfl⟩
        go_wp2_with fail
        exact ⟨rfl, .inl ⟨HY.out, rfl, HC.out⟩⟩
    · have HY := Lib.hid (show inP most ws = none by rw [HN.out, if_neg (fun h => g1 h.1)])
      clear HN
      have g3 : ¬ (n ≥ 0) := g1
      have g4 : n < 0 := by omega
      go_wp2_with fail
      all_goals first
        | (exfalso; omega)
        | (refine (must_false _).mono ?_
           rintro e w3 ⟨rfl, rfl⟩
           go_wp2_with fail
           exact ⟨rfl, .inl ⟨HY.out, rfl, HC.out⟩⟩)
end Go.Proofs.YtmkcooamgojbpaaDoor.Lines

/- A step as a value, its bytes in a block of their own (lemmas of XOther, for other seats). -/
namespace Go.Proofs.YtmkcooamgojbpaaDoor.Lines
open Go.RowKit Go.Proofs.YtmkcooamgojbpaaDoor.Kit Go.Proofs.YtmkcooamgojbpaaDoor.Blk Go.Proofs.YtmkcooamgojbpaaDoor.Dec Go.Proofs.YtmkcooamgojbpaaDoor.Words Go.Proofs.YtmkcooamgojbpaaDoor.Octets Go.Proofs.YtmkcooamgojbpaaDoor.Steps Go.Proofs.YtmkcooamgojbpaaDoor.Cmds
attribute [local go_sem ↓] Go.wp_at_zero Go.wp_at_succ
set_option linter.unusedVariables false

theorem one_stp (k y v : Int) (a : Option Addr) (n c : Nat) : (stepC k y v (.slice a n c)).all (·.oneCell') = true := by simp [stepC, Value.oneCell']
theorem bytes_form {N : Nat} {l : List Nat} {u : Value} {W : World} (h : BytesOf N l u W) : ∃ a n c, u = .slice a n c := by
  rcases h with ⟨_, rfl⟩ | ⟨h0, h⟩
  · exact ⟨_, _, _, rfl⟩
  · obtain ⟨g, cap, e, -, -⟩ := World.ownsRow.form h h0
    exact ⟨_, _, _, e⟩
theorem bytes_mono {N M : Nat} {l : List Nat} {u : Value} {W : World} (h : BytesOf M l u W) (hN : N ≤ M) : BytesOf N l u W :=
  h.elim .inl fun h => .inr ⟨h.1, own_mono h.2 hN⟩
theorem bytes_cell {N B : Nat} {l : List Nat} {u : Value} {cs : Array Value} {W : World} (h : BytesOf N l u W) (hB : Blk W B cs 42) (j : Nat) (x : Value) : BytesOf N l u (W.setCell ⟨B, j, none⟩ x) := by
  rcases h with h | ⟨h0, h⟩
  · exact .inl h
  · refine .inr ⟨h0, own_set h (fun hu => ?_) j x⟩
    obtain ⟨_, cur, hc⟩ := row_from' h hu
    rw [show W.heap[B]? = _ from hB] at hc
    injection hc with hc
    injection hc with _ hc _
    exact absurd hc (by decide)
theorem bytes_cells {N B : Nat} {l : List Nat} {u : Value} (vs : List Value) : ∀ (o : Nat) (cs : Array Value) (W : World), BytesOf N l u W → Blk W B cs 42 → BytesOf N l u (W.setCells B o vs) := by
  induction vs with
  | nil => intro o cs W h _; exact h
  | cons v vs ih => intro o cs W h hB; exact ih (o + 1) _ _ (bytes_cell h hB o v) (hB.set o v)
theorem bytes_alloc {N : Nat} {l : List Nat} {u : Value} {W : World} (h : BytesOf N l u W) (o : Obj) : BytesOf N l u (W.alloc o) := bytes_below h ((Below.refl _ _).alloc (Nat.le_refl _) o)


/-- The value of a step. -/
def StepV (N : Nat) (s : Stp) (v : Value) (W : World) : Prop := ∃ u, v = .agg (stepC s.k s.y s.v u) ∧ BytesOf N s.l u W
/-- What a reading answers whose value lies in memory. -/
def RdV {α : Type} (rel : α → Value → World → Prop) (o : Option (α × List (List UInt8))) (P : Nat) (w : World) (e : Ending) (w' : World) : Prop :=
  (o = none ∧ e = badE ∧ Chg w.heap.size P w w') ∨ ∃ x l v, o = some (x, l) ∧ e = .returned v ∧ rel x v w' ∧ WRd P l w' ∧ Chg w.heap.size P w w'
def zStep : Array Value := stepC 0 0 0 (.slice none 0 0)
theorem one_cmd (c : Cmd) : c.cells.all (·.oneCell') = true := by simp [Cmd.cells, Value.oneCell']
end Go.Proofs.YtmkcooamgojbpaaDoor.Lines

/- words.reader's command. -/
namespace Go.Proofs.YtmkcooamgojbpaaDoor.Lines
open Go.RowKit Go.Proofs.YtmkcooamgojbpaaDoor.Kit Go.Proofs.YtmkcooamgojbpaaDoor.Blk Go.Proofs.YtmkcooamgojbpaaDoor.Dec Go.Proofs.YtmkcooamgojbpaaDoor.Words Go.Proofs.YtmkcooamgojbpaaDoor.Octets Go.Proofs.YtmkcooamgojbpaaDoor.Steps Go.Proofs.YtmkcooamgojbpaaDoor.Cmds
attribute [local go_sem ↓] Go.wp_at_zero Go.wp_at_succ
set_option linter.unusedVariables false

theorem cmd_none {k : Int} {ws : List Tok} (h : inP 255 ws = none) : cmdP k ws = none := by unfold cmdP; rw [h]; rfl
theorem cmd_none2 {k s : Int} {ws l : List Tok} (h : inP 255 ws = some (s, l)) (h2 : inP 4611686018427387904 l = none) : cmdP k ws = none := by unfold cmdP; rw [h]; dsimp only [Option.bind]; rw [h2]
theorem cmd_two_eq {s i : Int} {ws l l2 : List Tok} (h : inP 255 ws = some (s, l)) (h2 : inP 4611686018427387904 l = some (i, l2)) :
    cmdP 2 ws = if rightC ⟨2, s, i, 0, 0, 0, 0, 0, 0⟩ = true then some (⟨1, 0, 0, formC ⟨2, s, i, 0, 0, 0, 0, 0, 0⟩⟩, l2) else none := by unfold cmdP; rw [h]; dsimp only [Option.bind]; rw [h2]; rfl
set_option maxRecDepth 20000 in
set_option maxHeartbeats 4000000 in
theorem cmd_two (P : Nat) (ws : List Tok) (w : World) (h : WRd P ws w) :
    Calls Tryd.prog 133 #[.pointer (some ⟨P, 0, none⟩), .int .i64 2] w (RdV (StepV w.heap.size) (cmdP 2 ws) P w) := by
  have hmf : ∀ (fn : Fn) (first cap : Array Value) (w : World), (Instr.makeFunc fn first cap).run Tryd.prog w = .ok (.func fn first cap) w := fun _ _ _ _ => rfl
  have hP := h.lt
  have hR0 := h.below (P := P) hP ((Below.refl w.heap.size w).alloc (Nat.le_refl _) (.cells zStep 42))
  have HI := Lib.hid (in_any' P 255 ws (w.alloc (.cells zStep 42)) hR0)
  have HZ0 := Lib.hid (Blk.new w zStep 42 w.heap.size rfl)
  have HC0 := Lib.hid ((Chg.refl w.heap.size P w).alloc (Nat.le_refl _) (.cells zStep 42))
  clear h hR0
  go_enter Tryd.func133, Tryd.ntmps133
  go_wp2_with fail
  refine HI.out.mono ?_
  rintro e w1 (⟨ho, rfl, hc⟩ | ⟨s, l, ho, rfl, hr, hc⟩)
  · have HN := Lib.hid (cmd_none (k := 2) ho)
    have HC := Lib.hid (HC0.out.trans (hc.mono (by simp)))
    clear ho hc
    go_wp2_with fail
    exact ⟨rfl, .inl ⟨HN.out, rfl, HC.out⟩⟩
  have HO := Lib.hid ho
  have HC := Lib.hid (HC0.out.trans (hc.mono (by simp)))
  have HZ := Lib.hid (hc.blk (by simp) (by omega) HZ0.out)
  have HJ := Lib.hid (in_any' P 4611686018427387904 l w1 hr)
  have HL1 := Lib.hid hr.lt
  clear ho hr hc HI HZ0 HC0
  go_wp2_with fail
  refine HJ.out.mono ?_
  rintro e w2 (⟨ho, rfl, hc⟩ | ⟨i, l2, ho, rfl, hr, hc⟩)
  · have HN := Lib.hid (cmd_none2 (k := 2) HO.out ho)
    replace HC := Lib.hid (HC.out.trans (hc.mono HC.out.size))
    clear ho hc
    go_wp2_with fail
    exact ⟨rfl, .inl ⟨HN.out, rfl, HC.out⟩⟩
  have HO2 := Lib.hid ho
  replace HC := Lib.hid (HC.out.trans (hc.mono HC.out.size))
  replace HZ := Lib.hid (hc.blk HZ.out.lt (by omega) HZ.out)
  have HR := Lib.hid hr
  clear ho hr hc HJ HL1
  go_wp2_with fail
  have HE := Lib.hid (cmd_two_eq HO.out HO2.out)
  replace HC := Lib.hid (HC.out.alloc HC.out.size (.cells (Cmd.cells ⟨2, s, i, 0, 0, 0, 0, 0, 0⟩) 164))
  replace HZ := Lib.hid (HZ.out.old (.cells (Cmd.cells ⟨2, s, i, 0, 0, 0, 0, 0, 0⟩) 164))
  replace HR := Lib.hid (HR.out.below HR.out.lt ((Below.refl _ _).alloc (Nat.le_refl _) (.cells (Cmd.cells ⟨2, s, i, 0, 0, 0, 0, 0, 0⟩) 164)))
  change Calls _ _ _ (w2.alloc (.cells (Cmd.cells ⟨2, s, i, 0, 0, 0, 0, 0, 0⟩) 164)) _
  generalize w2.alloc (.cells (Cmd.cells ⟨2, s, i, 0, 0, 0, 0, 0, 0⟩) 164) = w3 at HC HZ HR ⊢
  generalize w2.heap.size = C2
  refine (of_any ⟨2, s, i, 0, 0, 0, 0, 0, 0⟩ w3 (by dsimp only; omega) (by dsimp only; omega) (by dsimp only; omega) (by dsimp only; omega)).mono ?_
  rintro e w5 (⟨hrc, v, rfl, hv, hb⟩ | ⟨hrc, rfl, hb⟩)
  · obtain ⟨g, cap, rfl, -, -⟩ := World.ownsRow.form hv (by simp [formC])
    have HE5 := Lib.hid (show cmdP 2 ws = some (⟨1, 0, 0, formC ⟨2, s, i, 0, 0, 0, 0, 0, 0⟩⟩, l2) by rw [HE.out, if_pos hrc])
    have HY5 := Lib.hid (show BytesOf w.heap.size (formC ⟨2, s, i, 0, 0, 0, 0, 0, 0⟩) (.slice (some ⟨g, 0, none⟩) (formC ⟨2, s, i, 0, 0, 0, 0, 0, 0⟩).length cap) w5 from .inr ⟨by simp [formC], own_mono hv HC.out.size⟩)
    generalize formC ⟨2, s, i, 0, 0, 0, 0, 0, 0⟩ = bs at HE5 HY5 ⊢
    generalize bs.length = bn at HY5 ⊢
    have HC6 := Lib.hid ((HC.out.step (hb.mono HC.out.size)).alloc (Nat.le_trans HC.out.size hb.size) (.cells (stepC 1 0 0 (.slice (some ⟨g, 0, none⟩) bn cap)) 42))
    have HZ6 := Lib.hid ((HZ.out.below hb HZ.out.lt).old (.cells (stepC 1 0 0 (.slice (some ⟨g, 0, none⟩) bn cap)) 42))
    have HR6 := Lib.hid ((HR.out.below HR.out.lt hb).below (P := P) (n := w5.heap.size) (Nat.lt_of_lt_of_le HR.out.lt hb.size) ((Below.refl w5.heap.size w5).alloc (Nat.le_refl _) (.cells (stepC 1 0 0 (.slice (some ⟨g, 0, none⟩) bn cap)) 42)))
    have HY6 := Lib.hid (bytes_alloc HY5.out (.cells (stepC 1 0 0 (.slice (some ⟨g, 0, none⟩) bn cap)) 42))
    have HX6 := Lib.hid (Blk.new w5 (stepC 1 0 0 (.slice (some ⟨g, 0, none⟩) bn cap)) 42 w5.heap.size rfl)
    clear hrc hv hb HC HZ HR HY5 HE
    have HZ5 := Lib.hid (Blk.new w5 (stepC 0 0 0 (.slice none 0 0)) 42 w5.heap.size rfl)
    go_wp2_with (refine store_blk (by rfl) 42 _ _ (by rfl) w5.heap.size (by rfl) (stepC 0 0 0 (.slice none 0 0)) (stepC 1 0 0 (.slice (some ⟨g, 0, none⟩) bn cap)) 42 HZ5.out (by rfl) rfl (by kernel_rfl) (one_stp _ _ _ _ _ _) ?_; change wpList _ _ _ _ _ (World.setCells (w5.alloc (.cells (stepC 0 0 0 (.slice none 0 0)) 42)) w5.heap.size 0 ((stepC 1 0 0 (.slice (some ⟨g, 0, none⟩) bn cap))).toList); rw [alloc_setCells w5 (stepC 0 0 0 (.slice none 0 0)) (stepC 1 0 0 (.slice (some ⟨g, 0, none⟩) bn cap)) 42 rfl w5.heap.size rfl]; generalize w5.alloc (.cells (stepC 1 0 0 (.slice (some ⟨g, 0, none⟩) bn cap)) 42) = w6 at HC6 HZ6 HR6 HY6 HX6 ⊢; generalize w5.heap.size = X6 at HX6 ⊢; clear HZ5)
    refine (must_true _).mono ?_
    rintro e w6' ⟨rfl, rfl⟩
    go_wp2_with (first
      | (refine load_blk (by rfl) 42 _ (by rfl) X6 (by rfl) _ _ HX6.out _ Tryd.underlying42 rfl (by kernel_rfl) ?_)
      | (refine store_blk (by rfl) 42 _ _ (by rfl) w.heap.size (by rfl) _ (stepC 1 0 0 (.slice (some ⟨g, 0, none⟩) bn cap)) 42 HZ6.out (by rfl) rfl (by kernel_rfl) (one_stp _ _ _ _ _ _) ?_))
    refine bodyPost_ret (results_cell_row rfl _ _ _ _ _ (0, 0) _ rfl (HZ6.out.setCells (stepC 1 0 0 (.slice (some ⟨g, 0, none⟩) bn cap)) rfl) Tryd.underlying42 rfl (by kernel_rfl)) rfl ?_
    have hbel := Blk.Below.setCells (stepC 1 0 0 (.slice (some ⟨g, 0, none⟩) bn cap)).toList 0 _ (Below.refl w.heap.size w6) (B := w.heap.size) (Nat.le_refl _)
    exact .inr ⟨_, l2, _, HE5.out, rfl, ⟨_, rfl, bytes_cells _ _ _ _ HY6.out HZ6.out⟩, HR6.out.below hP hbel, HC6.out.step hbel⟩
  · have HE5 := Lib.hid (show cmdP 2 ws = none by rw [HE.out, if_neg (by rw [hrc]; decide)])
    have HC5 := Lib.hid (HC.out.step (hb.mono HC.out.size))
    have HC6 := Lib.hid (HC5.out.alloc (Nat.le_trans HC.out.size hb.size) (.cells zStep 42))
    clear hrc hb HC HZ HR HE
    have HZ5 := Lib.hid (Blk.new w5 (stepC 0 0 0 (.slice none 0 0)) 42 w5.heap.size rfl)
    go_wp2_with (refine store_blk (by rfl) 42 _ _ (by rfl) w5.heap.size (by rfl) (stepC 0 0 0 (.slice none 0 0)) (stepC 0 0 0 (.slice none 0 0)) 42 HZ5.out (by rfl) rfl (by kernel_rfl) (one_stp _ _ _ _ _ _) ?_; change wpList _ _ _ _ _ (World.setCells (w5.alloc (.cells (stepC 0 0 0 (.slice none 0 0)) 42)) w5.heap.size 0 ((stepC 0 0 0 (.slice none 0 0))).toList); rw [alloc_setCells w5 (stepC 0 0 0 (.slice none 0 0)) (stepC 0 0 0 (.slice none 0 0)) 42 rfl w5.heap.size rfl]; change wpList _ _ _ _ _ (w5.alloc (.cells zStep 42)); generalize w5.alloc (.cells zStep 42) = w6 at HC6 ⊢; clear HZ5)
    refine (must_false _).mono ?_
    rintro e w6' ⟨rfl, rfl⟩
    go_wp2_with fail
    exact ⟨rfl, .inl ⟨HE5.out, rfl, HC6.out⟩⟩
end Go.Proofs.YtmkcooamgojbpaaDoor.Lines

/- words.reader's step: the word 'cancel'. -/
namespace Go.Proofs.YtmkcooamgojbpaaDoor.Lines
open Go.RowKit Go.Proofs.YtmkcooamgojbpaaDoor.Kit Go.Proofs.YtmkcooamgojbpaaDoor.Blk Go.Proofs.YtmkcooamgojbpaaDoor.Dec Go.Proofs.YtmkcooamgojbpaaDoor.Words Go.Proofs.YtmkcooamgojbpaaDoor.Octets Go.Proofs.YtmkcooamgojbpaaDoor.Steps Go.Proofs.YtmkcooamgojbpaaDoor.Cmds
attribute [local go_sem ↓] Go.wp_at_zero Go.wp_at_succ
set_option linter.unusedVariables false

def StepIs (o : Option Stp) (P : Nat) (w : World) (e : Ending) (w' : World) : Prop :=
  (o = none ∧ e = badE ∧ Chg w.heap.size P w w') ∨ ∃ s v, o = some s ∧ e = .returned v ∧ StepV w.heap.size s v w' ∧ Chg w.heap.size P w w'
theorem strB_toList (l : List UInt8) : (strB l).toList = l := by rw [ByteArray.toList_eq, strB_list]
theorem step_eq {x : Tok} {l : List Tok} {o : Option (Stp × List Tok)} (h : bodyP x l = o) : stepP (x :: l) = o.bind fun y => if y.2 = [] then some y.1 else none := by unfold stepP wordP; dsimp only [Option.bind]; rw [h]
theorem WRd.slice {P : Nat} {ws : List Tok} {W : World} (h : WRd P ws W) : ∃ a c, Blk W P #[.slice a ws.length c] 119 := by
  obtain ⟨_, v, h1, h2⟩ := h
  rcases h2 with ⟨rfl, a, c, rfl⟩ | ⟨g, o, c, rfl, -⟩
  · exact ⟨a, c, h1⟩
  · exact ⟨_, c, h1⟩
set_option maxRecDepth 20000 in
set_option maxHeartbeats 4000000 in
theorem step_cancel (P : Nat) (l : List Tok) (w : World) (h : WRd P (tCancel :: l) w) :
    Calls Tryd.prog 80 #[.pointer (some ⟨P, 0, none⟩)] w (StepIs (stepP (tCancel :: l)) P w) := by
  have hP := h.lt
  have hR0 := h.below (P := P) hP ((Below.refl w.heap.size w).alloc (Nat.le_refl _) (.cells (stepC 0 0 0 (.slice none 0 0)) 42))
  have HI := Lib.hid (word_any' P _ _ hR0)
  have HZ0 := Lib.hid (Blk.new w (stepC 0 0 0 (.slice none 0 0)) 42 w.heap.size rfl)
  have HC0 := Lib.hid ((Chg.refl w.heap.size P w).alloc (Nat.le_refl _) (.cells (stepC 0 0 0 (.slice none 0 0)) 42))
  have HE := Lib.hid (step_eq (show bodyP tCancel l = cmdP 2 l from rfl))
  clear h hR0
  go_enter Tryd.func80, Tryd.ntmps80
  go_wp2_with fail
  refine HI.out.mono ?_
  rintro e w1 (⟨ho, rfl, hc⟩ | ⟨x, l', ho, rfl, hr, hc⟩)
  · cases ho
  injection ho with ho
  injection ho with h1 h2
  subst h1 h2
  have HC := Lib.hid (HC0.out.trans (hc.mono (by simp)))
  have HZ := Lib.hid (hc.blk (by simp) (by omega) HZ0.out)
  have HR := Lib.hid hr
  have HM := Lib.hid (cmd_two P l w1 hr)
  clear hr hc HI HZ0 HC0
  have k1 : ((strB tCancel).toList == [116, 105, 99, 107]) = false := by rw [strB_toList]; decide
  have k2 : ((strB tCancel).toList == [105, 110, 100, 101, 120]) = false := by rw [strB_toList]; decide
  have k3 : ((strB tCancel).toList == [98, 105, 100]) = false := by rw [strB_toList]; decide
  have k4 : ((strB tCancel).toList == [110, 101, 119]) = false := by rw [strB_toList]; decide
  have k5 : ((strB tCancel).toList == [99, 97, 110, 99, 101, 108]) = true := by rw [strB_toList]; decide
  go_wp2_with fail
  refine HM.out.mono ?_
  rintro e w2 (⟨ho, rfl, hc⟩ | ⟨st, l3, v, ho, rfl, ⟨u, rfl, hby⟩, hr, hc⟩)
  · have HN := Lib.hid (show stepP (tCancel :: l) = none by rw [HE.out, ho]; rfl)
    replace HC := Lib.hid (HC.out.trans (hc.mono HC.out.size))
    clear ho hc HM HE k1 k2 k3 k4 k5
    go_wp2_with fail
    exact ⟨rfl, .inl ⟨HN.out, rfl, HC.out⟩⟩
  rw [ho] at HE
  replace HE := Lib.hid (show stepP (tCancel :: l) = if l3 = [] then some st else none from HE.out)
  obtain ⟨ua, un, uc, rfl⟩ := bytes_form hby
  replace HZ := Lib.hid (hc.blk HZ.out.lt (by omega) HZ.out)
  have HY := Lib.hid (bytes_cells (stepC st.k st.y st.v (.slice ua un uc)).toList 0 _ _ (bytes_mono hby HC.out.size) HZ.out)
  have hbel := Blk.Below.setCells (stepC st.k st.y st.v (.slice ua un uc)).toList 0 _ (Below.refl w.heap.size w2) (B := w.heap.size) (Nat.le_refl _)
  replace HR := Lib.hid (hr.below hP hbel)
  replace HC := Lib.hid ((HC.out.trans (hc.mono HC.out.size)).step hbel)
  have HZ3 := Lib.hid (HZ.out.setCells (stepC st.k st.y st.v (.slice ua un uc)) rfl)
  clear ho hby hr hc hbel HM k1 k2 k3 k4 k5
  go_wp2_with (refine store_blk (by rfl) 42 _ _ (by rfl) w.heap.size (by rfl) _ (stepC st.k st.y st.v (.slice ua un uc)) 42 HZ.out (by rfl) rfl (by kernel_rfl) (one_stp _ _ _ _ _ _) ?_; clear HZ; generalize w2.setCells w.heap.size 0 (stepC st.k st.y st.v (.slice ua un uc)).toList = w3 at HC HZ3 HR HY ⊢; have HZ := HZ3; clear HZ3; obtain ⟨ra, rc, hrs⟩ := HR.out.slice; have c0 : w3.cell? ⟨P, 0, none⟩ = some (.slice ra l3.length rc) := hrs.cell 0 rfl; clear hrs)
  by_cases hl3 : l3 = []
  · have HE3 := Lib.hid (show stepP (tCancel :: l) = some st by rw [HE.out, if_pos hl3])
    have hz : ((l3.length : Int) == 0) = true := by rw [hl3]; rfl
    clear HE c0
    rw [hz]
    refine (must_true _).mono ?_
    rintro e w4 ⟨rfl, rfl⟩
    go_wp2_with (first
      | (refine load_blk (by rfl) 42 _ (by rfl) w.heap.size (by rfl) _ _ HZ.out _ Tryd.underlying42 rfl (by kernel_rfl) ?_)
      | (refine store_blk (by rfl) 42 _ _ (by rfl) w.heap.size (by rfl) _ (stepC st.k st.y st.v (.slice ua un uc)) 42 HZ.out (by rfl) rfl (by kernel_rfl) (one_stp _ _ _ _ _ _) ?_))
    refine bodyPost_ret (results_cell_row rfl _ _ _ _ _ (0, 0) _ rfl (HZ.out.setCells (stepC st.k st.y st.v (.slice ua un uc)) rfl) Tryd.underlying42 rfl (by kernel_rfl)) rfl ?_
    have hbel := Blk.Below.setCells (stepC st.k st.y st.v (.slice ua un uc)).toList 0 _ (Below.refl w.heap.size w3) (B := w.heap.size) (Nat.le_refl _)
    exact .inr ⟨st, _, HE3.out, rfl, ⟨_, rfl, bytes_cells _ _ _ _ HY.out HZ.out⟩, HC.out.step hbel⟩
  · have HE3 := Lib.hid (show stepP (tCancel :: l) = none by rw [HE.out]; exact if_neg hl3)
    have hz : ((l3.length : Int) == 0) = false := by
      have : l3.length ≠ 0 := fun h => hl3 (List.length_eq_zero_iff.1 h)
      simp; omega
    clear HE
    rw [hz]
    refine (must_false _).mono ?_
    rintro e w4 ⟨rfl, rfl⟩
    go_wp2_with fail
    exact ⟨rfl, .inl ⟨HE3.out, rfl, HC.out⟩⟩
end Go.Proofs.YtmkcooamgojbpaaDoor.Lines

/- words.Parse: the closure that recovers. -/
namespace Go.Proofs.YtmkcooamgojbpaaDoor.Lines
open Go.RowKit Go.Proofs.YtmkcooamgojbpaaDoor.Kit Go.Proofs.YtmkcooamgojbpaaDoor.Blk Go.Proofs.YtmkcooamgojbpaaDoor.Dec Go.Proofs.YtmkcooamgojbpaaDoor.Words Go.Proofs.YtmkcooamgojbpaaDoor.Octets Go.Proofs.YtmkcooamgojbpaaDoor.Steps Go.Proofs.YtmkcooamgojbpaaDoor.Cmds
attribute [local go_sem ↓] Go.wp_at_zero Go.wp_at_succ
set_option linter.unusedVariables false
set_option linter.unusedSimpArgs false

/-- What the closure leaves behind a panic. -/
def Caught (A B : Nat) (w w' : World) : Prop := Blk w' A (stepC 0 0 0 (.slice none 0 0)) 42 ∧ Blk w' B #[.int .i64 4] 25 ∧ ∀ n, n ≤ A → Below n w w'
set_option maxRecDepth 20000 in
set_option maxHeartbeats 2000000 in
theorem catch_panicking (A B : Nat) (cs0 : Array Value) (hcs : (stepC 0 0 0 (.slice none 0 0)).size = cs0.size) (x : Int) (older : List PanicEntry) (w : World) (hab : A < B) (hA : Blk w A cs0 42) (hB : Blk w B #[.int .i64 x] 25) :
    CallsD Tryd.prog 79 #[.pointer (some ⟨A, 0, none⟩), .pointer (some ⟨B, 0, none⟩)] (.panicking ({ v := errW, recovered := false } :: older)) w fun e u' w' =>
      e = .returned (.tuple #[]) ∧ u' = .panicking ({ v := errW, recovered := true } :: older) ∧ Caught A B w w' := by
  refine callsD_of_wpS Tryd.func79 rfl fun c₀ cs hu => ?_
  apply wpS_seq
  apply wpS_region
  simp [wpOpsS, go_sem, recoverD, hu, Tryd.ntmps79, Exit.thenS, errW]
  apply wpS_seq
  apply wpS_region
  simp [wpOpsS, go_sem, Exit.thenS]
  refine wpS_cond (t := true) (by simp [Act.eval, Array.replicate]) ?_
  simp only [if_true]
  apply wpS_of_wp
  have hta : ∀ w, (Instr.typeAssert (.iface 25 (.int .i64 4)) 20 25 false).run Tryd.prog w = .ok (.int .i64 4) w := fun _ => by kernel_rfl
  have HA := Lib.hid hA.drew
  have HB := Lib.hid hB.drew
  have HW := Lib.hid (fun n => (Below.refl n w).drew)
  clear hA hB
  change Code.wp _ _ _ { tmps := #[.pointer (some ⟨A, 0, none⟩), .pointer (some ⟨B, 0, none⟩), .iface 25 (.int .i64 4), .iface 25 (.int .i64 4), .iface 25 (.int .i64 4), .bool true, undef, undef, undef], defers := [] } _
  refine wp_region_held_drew (S := (fun _ => True)) (by kernel_rfl) trivial (fun hHeld => ?_)
  generalize w.drew = w1 at HA HB HW ⊢
  refine wpAnyH_take (i := 0) (oi := ⟨some 6, _, _, _, _, _⟩) (v := (.agg #[.int .i64 0, .int .i64 0, .int .i64 0, .slice none 0 0])) rfl (by kernel_rfl) (by kernel_rfl) (by kernel_rfl) (fun _ _ _ h => h) (Or.inl ⟨by rfl, fun w hSw => by (try dsimp only at hSw); go_simp⟩) (by assumption) ?_
  simp only [Act.put, List.setIfInBounds_toArray, List.set_cons_zero, List.set_cons_succ]
  refine wpAnyH_take (i := 1) (oi := ⟨some 7, _, _, _, _, _⟩) (v := (.iface 25 (.int .i64 4))) rfl (by kernel_rfl) (by kernel_rfl) (by kernel_rfl) (fun _ _ _ h => h) (Or.inl ⟨by rfl, fun w hSw => by (try dsimp only at hSw); go_simp⟩) (by assumption) ?_
  simp only [Act.put, List.setIfInBounds_toArray, List.set_cons_zero, List.set_cons_succ]
  refine wpAnyH_take (i := 2) (oi := ⟨some 8, _, _, _, _, _⟩) (v := (.int .i64 4)) rfl (by kernel_rfl) (by kernel_rfl) (by kernel_rfl) (fun _ _ _ h => h) (Or.inl ⟨by rfl, fun w hSw => by (try dsimp only at hSw); go_simp⟩) (by assumption) ?_
  simp only [Act.put, List.setIfInBounds_toArray, List.set_cons_zero, List.set_cons_succ]
  refine wpAnyH_ready (rs := [3]) (by kernel_rfl) (by simp) ?_
  refine AllReadyH.cons (o := ⟨none, _, _, _, _, _⟩) rfl (fun KK hK => ?_) AllReadyH.nil
  refine step_store_blk (by rfl) 42 _ _ (by rfl) A (by rfl) cs0 (stepC 0 0 0 (.slice none 0 0)) 42 HA.out (by rfl) hcs (by kernel_rfl) (one_stp _ _ _ _ _ _) ?_
  have HA2 := Lib.hid (HA.out.setCells (stepC 0 0 0 (.slice none 0 0)) hcs)
  have HB2 := Lib.hid (show Blk (w1.setCells A 0 (stepC 0 0 0 (.slice none 0 0)).toList) B #[.int .i64 x] 25 from Blk.Blk.apartAll _ 0 _ HB.out (by omega))
  have HW2 := Lib.hid (fun n (hn : n ≤ A) => Blk.Below.setCells (stepC 0 0 0 (.slice none 0 0)).toList 0 _ (HW.out n) (B := A) hn)
  clear HA HB HW
  generalize w1.setCells A 0 (stepC 0 0 0 (.slice none 0 0)).toList = w2 at HA2 HB2 HW2 ⊢
  refine hK.out _ _ trivial (fun hHeld => ?_)
  clear hK; try clear KK
  try simp only [Act.put, List.setIfInBounds_toArray, List.set_cons_zero, List.set_cons_succ]
  have c0 := HB2.out.cell 0 rfl
  have f0 := HB2.out.free 0
  refine wpAnyH_ready (rs := [4]) (by kernel_rfl) (by simp) ?_
  refine AllReadyH.cons (o := ⟨none, _, _, _, _, _⟩) rfl (fun KK hK => ?_) AllReadyH.nil
  go_simp
  have HA3 := Lib.hid (HA2.out.apart ⟨B, 0, none⟩ (.int .i64 4) (by show B ≠ A; omega))
  have HB3 := Lib.hid (show Blk (w2.setCell ⟨B, 0, none⟩ (.int .i64 4)) B #[.int .i64 4] 25 from HB2.out.set 0 _)
  have HW3 := Lib.hid (fun n (hn : n ≤ A) => show Below n w (w2.setCell ⟨B, 0, none⟩ (.int .i64 4)) from (HW2.out n hn).setCell (by show n ≤ B; omega) _)
  refine hK.out _ _ trivial (fun hHeld => ?_)
  clear hK; try clear KK
  refine wpAnyH_done (by kernel_rfl) ?_ _
  simp [bodyPostS, results, Tryd.results79]
  exact ⟨HA3.out, HB3.out, HW3.out⟩
theorem catch_idle (p q : Value) (w : World) :
    CallsD Tryd.prog 79 #[p, q] .returning w fun e u' w' => e = .returned (.tuple #[]) ∧ u' = .returning ∧ w' = w := by
  refine callsD_of_wpS Tryd.func79 rfl fun c₀ cs hu => ?_
  apply wpS_seq
  apply wpS_region
  simp [wpOpsS, go_sem, recoverD, hu, Tryd.ntmps79, Exit.thenS]
  apply wpS_seq
  apply wpS_region
  simp [wpOpsS, go_sem, Exit.thenS]
  refine wpS_cond (t := false) (by simp [Act.eval, Array.replicate]) ?_
  simp only [Bool.false_eq_true, if_false]
  refine wpS_of_wp (wp_skip ?_)
  cases c₀
  simp_all [bodyPostS, results, Tryd.results79]
def WParseIs (o : Option Stp) (w : World) (e : Ending) (w' : World) : Prop :=
  ∃ u, e = .returned (.tuple #[.agg (stepC (o.getD ⟨0, 0, 0, []⟩).k (o.getD ⟨0, 0, 0, []⟩).y (o.getD ⟨0, 0, 0, []⟩).v u), .int .i64 (if o.isSome = true then 0 else 4)]) ∧ BytesOf w.heap.size (o.getD ⟨0, 0, 0, []⟩).l u w' ∧ Below w.heap.size w w'
theorem wrd_of {v : Value} {ws : List Tok} {W : World} (h : StrRow v ws W) (hl : ∀ x ∈ ws, x.length ≤ 100000) : WRd W.heap.size ws (W.alloc (.cells #[v] 119)) := by
  refine ⟨hl, v, Blk.new _ _ _ _ rfl, ?_⟩
  rcases h with ⟨h1, h2⟩ | ⟨h0, b, c, h1, h2, h3, h4⟩
  · exact .inl ⟨h1, _, _, h2⟩
  · exact .inr ⟨b, 0, c, h1, h2, h3, fun j hj => by rw [cell_old _ _ _ (by show b < _; exact h3), Nat.zero_add]; exact h4 j hj⟩
theorem results_blk_int {P : Program} {fn : Func} {p u : Tmp} {ty ti T : TypeId} {tmps : Array Value} {w : World} {B C : Nat} {cs : Array Value} {x : Int} {d : TypeDesc} (h : fn.results = #[.cell p ty, .cell u ti]) (hp : tmps.getD p undef = .pointer (some ⟨B, 0, none⟩)) (hq : tmps.getD u undef = .pointer (some ⟨C, 0, none⟩)) (hb : Blk w B cs T) (hc : w.cell? ⟨C, 0, none⟩ = some (.int .i64 x))
    (hu : P.underlying ty = some d) (hd : d.isRow = true) (hi : (P.info? ty).map (·.size) = some cs.size) (hx : (loadVar ti ⟨C, 0, none⟩).run P w = .ok (.int .i64 x) w) : (results fn tmps).run P w = .ok (.tuple #[.agg cs, .int .i64 x]) w := by
  have hp' : tmps[p]?.getD undef = .pointer (some ⟨B, 0, none⟩) := by simpa using hp
  have hq' : tmps[u]?.getD undef = .pointer (some ⟨C, 0, none⟩) := by simpa using hq
  have hl := run_loadVar_mid w B 0 ty cs.toList d hb.range hu hd (by simpa using hi)
  simp [results, h, hp', hq', asAddr, hl, hx]
set_option maxRecDepth 20000 in
set_option maxHeartbeats 4000000 in
theorem parse_of (l : List UInt8) (hl : l.length ≤ 100000) (o : Option Stp) (hs : ∀ P w, WRd P (splitW l) w → Calls Tryd.prog 80 #[.pointer (some ⟨P, 0, none⟩)] w (StepIs o P w)) (w : World) (hm : MX w) :
    Calls Tryd.prog 26 #[.string (strB l)] w (WParseIs o w) := by
  have hmf : ∀ (fn : Fn) (first cap : Array Value) (w : World), (Instr.makeFunc fn first cap).run Tryd.prog w = .ok (.func fn first cap) w := fun _ _ _ _ => rfl
  have HBE := Lib.hid (((Below.refl w.heap.size w).alloc (Nat.le_refl _) (.cells (stepC 0 0 0 (.slice none 0 0)) 42)).alloc (by simp) (.cells #[.int .i64 0] 25))
  have HA := Lib.hid ((Blk.new w (stepC 0 0 0 (.slice none 0 0)) 42 w.heap.size rfl).old (.cells #[.int .i64 0] 25))
  have HB := Lib.hid (Blk.new (w.alloc (.cells (stepC 0 0 0 (.slice none 0 0)) 42)) #[.int .i64 0] 25 (w.heap.size + 1) (by simp))
  have HSP := Lib.hid (split_any l hl ((w.alloc (.cells (stepC 0 0 0 (.slice none 0 0)) 42)).alloc (.cells #[.int .i64 0] 25)) (hm.below (n := w.heap.size) HBE.out))
  have HWL := Lib.hid (split_bytes l)
  have HST := Lib.hid hs
  have HL := Lib.hid hl
  clear hs hm hl
  go_enter_defers Tryd.func26, Tryd.ntmps26
  go_wp2_with fail
  refine HSP.out.mono ?_
  rintro e w1 ⟨v, rfl, hrow, hb⟩
  have HR1 := Lib.hid (HST.out _ _ (wrd_of hrow (fun x hx => Nat.le_trans (HWL.out x hx) HL.out)))
  have HA2 := Lib.hid ((HA.out.below hb HA.out.lt).old (.cells #[v] 119))
  have HB2 := Lib.hid ((HB.out.below hb HB.out.lt).old (.cells #[v] 119))
  have HBE2 := Lib.hid ((HBE.out.trans (hb.mono HBE.out.size)).alloc (Nat.le_trans HBE.out.size hb.size) (.cells #[v] 119))
  have hP : w.heap.size + 1 < w1.heap.size := by have := HB.out.lt; have := hb.size; omega
  obtain ⟨ra, rn, rc, rfl⟩ : ∃ a n c, v = .slice a n c := by
    rcases hrow with ⟨h1, h2⟩ | ⟨_, b, c, h1, _⟩
    · exact ⟨_, _, _, h2⟩
    · exact ⟨_, _, _, h1⟩
  clear hrow hb HSP HWL HST HL HA HB HBE
  go_wp2_with fail
  refine HR1.out.mono ?_
  clear HR1
  generalize hW : w1.alloc (.cells #[.slice ra rn rc] 119) = w2 at HA2 HB2 HBE2 ⊢
  have hW2 : w1.heap.size < w2.heap.size := by rw [← hW]; simp
  generalize w1.heap.size = P at hP hW2 ⊢
  clear hW
  rintro e w3 (⟨ho, rfl, hc⟩ | ⟨s, v, ho, rfl, ⟨u, rfl, hby⟩, hc⟩)
  · subst ho
    have HA3 := Lib.hid (hc.blk HA2.out.lt (by omega) HA2.out)
    have HB3 := Lib.hid (hc.blk HB2.out.lt (by omega) HB2.out)
    have HBE3 := Lib.hid (HBE2.out.trans (hc.below' (m := w.heap.size) (by omega) HBE2.out.size))
    clear hc HA2 HB2 HBE2
    go_wp2_with fail
    refine leaves_cons (f := 79) (args := #[.pointer (some ⟨w.heap.size, 0, none⟩), .pointer (some ⟨w.heap.size + 1, 0, none⟩)]) (by simp) (by simp [go_sem]) ?_
    refine (catch_panicking w.heap.size (w.heap.size + 1) _ rfl 0 [] w3 (by omega) HA3.out HB3.out).mono ?_
    rintro e u' w4 ⟨rfl, rfl, h1, h2, h3⟩
    have HC4 := Lib.hid h1
    have c1 : w4.cell? ⟨w.heap.size + 1, 0, none⟩ = some (.int .i64 4) := h2.cell 0 rfl
    have HBE4 := Lib.hid (HBE3.out.trans (h3 _ (Nat.le_refl _)))
    exact ⟨_, results_blk_int rfl rfl rfl HC4.out c1 Tryd.underlying42 rfl (by kernel_rfl) (by simp [go_sem, c1]), _, rfl, .inl ⟨rfl, rfl⟩, HBE4.out⟩
  · subst ho
    have HA3 := Lib.hid (hc.blk HA2.out.lt (by omega) HA2.out)
    have HB3 := Lib.hid (hc.blk HB2.out.lt (by omega) HB2.out)
    have HBE3 := Lib.hid (HBE2.out.trans (hc.below' (m := w.heap.size) (by omega) HBE2.out.size))
    obtain ⟨ua, un, uc, rfl⟩ := bytes_form hby
    have HY := Lib.hid (bytes_cells (stepC s.k s.y s.v (.slice ua un uc)).toList 0 _ _ (bytes_mono hby HBE2.out.size) HA3.out)
    have HA4 := Lib.hid (HA3.out.setCells (stepC s.k s.y s.v (.slice ua un uc)) rfl)
    have HB4 := Lib.hid (show Blk (w3.setCells w.heap.size 0 (stepC s.k s.y s.v (.slice ua un uc)).toList) (w.heap.size + 1) #[.int .i64 0] 25 from Blk.Blk.apartAll _ 0 _ HB3.out (by omega))
    have HBE4 := Lib.hid (Blk.Below.setCells (stepC s.k s.y s.v (.slice ua un uc)).toList 0 _ HBE3.out (B := w.heap.size) (Nat.le_refl _))
    clear hc hby HA2 HB2 HBE2 HBE3 HB3
    go_wp2_with (refine store_blk (by rfl) 42 _ _ (by rfl) w.heap.size (by rfl) _ (stepC s.k s.y s.v (.slice ua un uc)) 42 HA3.out (by rfl) rfl (by kernel_rfl) (one_stp _ _ _ _ _ _) ?_; clear HA3; generalize w3.setCells w.heap.size 0 (stepC s.k s.y s.v (.slice ua un uc)).toList = w4 at HA4 HB4 HBE4 HY ⊢; have c1 := HB4.out.cell 0 rfl; have f1 := HB4.out.free 0)
    have HA5 := Lib.hid (HA4.out.apart ⟨w.heap.size + 1, 0, none⟩ (.int .i64 0) (by show w.heap.size + 1 ≠ w.heap.size; omega))
    have HB5 := Lib.hid (show Blk (w4.setCell ⟨w.heap.size + 1, 0, none⟩ (.int .i64 0)) (w.heap.size + 1) #[.int .i64 0] 25 from HB4.out.set 0 _)
    have HBE5 := Lib.hid (show Below w.heap.size w (w4.setCell ⟨w.heap.size + 1, 0, none⟩ (.int .i64 0)) from HBE4.out.setCell (by show w.heap.size ≤ w.heap.size + 1; omega) _)
    have HY5 := Lib.hid (show BytesOf w.heap.size s.l (.slice ua un uc) (w4.setCell ⟨w.heap.size + 1, 0, none⟩ (.int .i64 0)) from by
      rcases HY.out with h | ⟨h0, h⟩
      · exact .inl h
      · refine .inr ⟨h0, own_set h (fun hu => ?_) 0 _⟩
        obtain ⟨_, cur, hc⟩ := row_from' h hu
        rw [show w4.heap[w.heap.size + 1]? = _ from HB4.out] at hc
        injection hc with hc
        injection hc with _ hc _
        exact absurd hc (by decide))
    generalize w4.setCell ⟨w.heap.size + 1, 0, none⟩ (.int .i64 0) = w5 at HA5 HB5 HBE5 HY5 ⊢
    have c5 : w5.cell? ⟨w.heap.size + 1, 0, none⟩ = some (.int .i64 0) := HB5.out.cell 0 rfl
    refine leaves_cons (f := 79) (args := #[.pointer (some ⟨w.heap.size, 0, none⟩), .pointer (some ⟨w.heap.size + 1, 0, none⟩)]) (by simp) (by simp [go_sem]) ?_
    refine (catch_idle _ _ w5).mono ?_
    rintro e u' w6 ⟨rfl, rfl, rfl⟩
    exact ⟨_, results_blk_int rfl rfl rfl HA5.out c5 Tryd.underlying42 rfl (by kernel_rfl) (by simp [go_sem, c5]), _, rfl, HY5.out, HBE5.out⟩
end Go.Proofs.YtmkcooamgojbpaaDoor.Lines

/- Rows of steps that are made one by one. -/
namespace Go.Proofs.YtmkcooamgojbpaaDoor.Lines
open Go.RowKit Go.Proofs.YtmkcooamgojbpaaDoor.Kit Go.Proofs.YtmkcooamgojbpaaDoor.Blk Go.Proofs.YtmkcooamgojbpaaDoor.Dec Go.Proofs.YtmkcooamgojbpaaDoor.Words Go.Proofs.YtmkcooamgojbpaaDoor.Octets Go.Proofs.YtmkcooamgojbpaaDoor.Steps Go.Proofs.YtmkcooamgojbpaaDoor.Cmds
set_option linter.unusedVariables false

/-- What holds between two steps of a row that is being made. -/
structure SRow (w : World) (v : Value) (r : List (Stp × Value)) (W : World) : Prop where
  row : RowR w.heap.size v r W
  bel : Below w.heap.size w W
section
variable {w W W' : World} {v v' u : Value} {r : List (Stp × Value)} {s : Stp}
theorem SRow.start : SRow w (.slice none 0 0) [] w := ⟨⟨World.ownsRow_nil _ _ _ _, fun x hx => by cases hx⟩, Below.refl _ _⟩
theorem SRow.below (h : SRow w v r W) (hb : Below W.heap.size W W') : SRow w v r W' := ⟨h.row.below hb, h.bel.trans (hb.mono h.bel.size)⟩
theorem SRow.alloc (h : SRow w v r W) (o : Obj) : SRow w v r (W.alloc o) := h.below ((Below.refl _ _).alloc (Nat.le_refl _) o)
theorem SRow.push (h : SRow w v r W) (hu : BytesOf w.heap.size s.l u W)
    (hown : W'.ownsRow w.heap.size 42 4 v' (r.length + 1) (flat r ++ (stepC s.k s.y s.v u).toList)) (hg : W.grownBy W' v.ownBlock) : SRow w v' (r ++ [(s, u)]) W' :=
  ⟨h.row.push hu hown hg, h.bel.grown hg h.bel.size (fun k e => (row_from' h.row.1 e).1)⟩
theorem SRow.form (h : SRow w v r W) : ∃ a c, v = .slice a r.length c := by
  rcases h.row.1.2 with ⟨rfl, h0⟩ | ⟨g, cap, cur, rfl, _⟩
  · exact ⟨none, 0, by rw [h0]⟩
  · exact ⟨_, cap, rfl⟩
end
theorem infoStp : (Tryd.prog.info? 42).map (fun i => (i.zero, i.size, i.bytes)) = some (some (.agg (stepC 0 0 0 (.slice none 0 0))), 4, 48) := by kernel_rfl
theorem news_stp {w : World} {B : Nat} {cs : Array Value} {T : TypeId} (h : Blk w B cs T) : ∀ j u, cs.toList[j]? = some u → w.cell? ((⟨B, 0, none⟩ : Addr).add j) = some u := fun j u hu => by
  rw [Addr.add_mid, Nat.zero_add]; exact h.cell j (by simpa using hu)
theorem mem_stp {cs : Array Value} (h : cs.all (·.oneCell') = true) : ∀ u ∈ cs.toList, u.oneCell' = true := fun u hu => by
  rw [Array.all_eq_true] at h
  obtain ⟨i, hi, rfl⟩ := List.mem_iff_getElem.1 hu
  simpa using h i (by simpa using hi)
/-- A line's step. -/
def stepL (l : Tok) : Option Stp := stepP (splitW l)
/-- A text's script: too many lines, or the number of the first line that is none, or all. -/
def scriptF (t : Tok) : Option (Nat ⊕ List Stp) := if 2000 < t.count 10 then none else some (readT stepL t)
def ReadSIs (o : Option (Nat ⊕ List Stp)) (w : World) (e : Ending) (w' : World) : Prop := match o with
  | none => e = .returned (.tuple #[.slice none 0 0, .int .i64 0, .int .i64 9]) ∧ Below w.heap.size w w'
  | some (.inl n) => e = .returned (.tuple #[.slice none 0 0, .int .i64 (n : Int), .int .i64 4]) ∧ Below w.heap.size w w'
  | some (.inr ss) => ∃ v r, e = .returned (.tuple #[v, .int .i64 0, .int .i64 0]) ∧ r.map (·.1) = ss ∧ SRow w v r w'
theorem script_many {t : Tok} (h : 2000 < t.count 10) : scriptF t = none := by unfold scriptF; rw [if_pos h]
theorem script_few {t : Tok} (h : ¬ 2000 < t.count 10) : scriptF t = some (readT stepL t) := by unfold scriptF; rw [if_neg h]
theorem readS_empty : readT stepL [] = .inr [] := rfl
/-- What stands in front. -/
def firsts (r : List (Stp × Value)) : List Stp := r.map (·.1)
theorem firsts_snoc (r : List (Stp × Value)) (s : Stp) (u : Value) : firsts (r ++ [(s, u)]) = firsts r ++ [s] := by simp [firsts]
theorem firsts_len (r : List (Stp × Value)) : (firsts r).length = r.length := by simp [firsts]
end Go.Proofs.YtmkcooamgojbpaaDoor.Lines

/- sheet.longs, sheet.shorts. -/
namespace Go.Proofs.YtmkcooamgojbpaaDoor.Sheet
open Go.RowKit Go.Proofs.YtmkcooamgojbpaaDoor.Kit Go.Proofs.YtmkcooamgojbpaaDoor.Blk Go.Proofs.YtmkcooamgojbpaaDoor.Words Go.Proofs.YtmkcooamgojbpaaDoor.Octets
attribute [local go_sem ↓] Go.wp_at_zero Go.wp_at_succ
set_option linter.unusedVariables false

/-- A number: is it a long one, and where it lies. -/
def numC (x : Bool × Addr) : Array Value := if x.1 = true then #[.pointer (some x.2), .pointer none] else #[.pointer none, .pointer (some x.2)]
def numL (l : List (Bool × Addr)) : List Value := l.flatMap fun x => (numC x).toList
theorem numL_app (l m : List (Bool × Addr)) : numL (l ++ m) = numL l ++ numL m := by simp [numL]
theorem infoNum : (Tryd.prog.info? 115).map (fun i => (i.zero, i.size, i.bytes)) = some (some (.agg #[.pointer none, .pointer none]), 2, 16) := by kernel_rfl
/-- What holds between two numbers of a row that is being made. -/
structure NRow (w : World) (v : Value) (r : List (Bool × Addr)) (W : World) : Prop where
  row : W.ownsRow w.heap.size 115 2 v r.length (numL r)
  bel : Below w.heap.size w W
theorem NRow.start {w : World} : NRow w (.slice none 0 0) [] w := ⟨World.ownsRow_nil _ _ _ _, Below.refl _ _⟩
theorem NRow.form {w W : World} {v : Value} {r : List (Bool × Addr)} (h : NRow w v r W) : ∃ a c, v = .slice a r.length c := by
  rcases h.row.2 with ⟨rfl, h0⟩ | ⟨g, cap, cur, rfl, _⟩
  · exact ⟨none, 0, by rw [h0]⟩
  · exact ⟨_, cap, rfl⟩
theorem NRow.below {w W W' : World} {v : Value} {r : List (Bool × Addr)} (h : NRow w v r W) (hb : Below W.heap.size W W') : NRow w v r W' :=
  ⟨h.row.kept (row := none) ⟨hb.os, hb.tape, hb.output, hb.size, fun k hk _ => hb.block k hk⟩ (by
    cases v.ownBlock with
    | none => exact .inl rfl
    | some j => exact .inr (by simp)), h.bel.trans (hb.mono h.bel.size)⟩
theorem NRow.push {w W W' : World} {v v' : Value} {r : List (Bool × Addr)} {x : Bool × Addr} (h : NRow w v r W) (hown : W'.ownsRow w.heap.size 115 2 v' (r.length + 1) (numL r ++ (numC x).toList)) (hg : W.grownBy W' v.ownBlock) : NRow w v' (r ++ [x]) W' :=
  ⟨by rw [List.length_append, numL_app]; simpa [numL] using hown, h.bel.grown hg h.bel.size (fun k e => (row_from' h.row e).1)⟩
/-- What longs, or shorts, of pointers give. -/
def NumsIs (k : Bool) (ps : List Addr) (w : World) (e : Ending) (w' : World) : Prop := ∃ v, e = .returned v ∧ NRow w v (ps.map fun p => (k, p)) w'
set_option maxRecDepth 20000 in
set_option maxHeartbeats 4000000 in
theorem longs_any (B off c : Nat) (ps : List Addr) (hl : ps.length ≤ 1000) (w : World) (hB : B < w.heap.size) (hc : ∀ j, (h : j < ps.length) → w.cell? ⟨B, off + j, none⟩ = some (.pointer (some ps[j]))) :
    Calls Tryd.prog 68 #[.slice (some ⟨B, off, none⟩) ps.length c] w (NumsIs true ps w) := by
  obtain ⟨i0, hi0, hz0, hz1, hz2⟩ := info_parts infoNum
  have HC := Lib.hid hc
  clear hc
  go_enter Tryd.func68, Tryd.ntmps68
  go_wp2_with fail
  go_loopw [2, 7] (fun o i wr => ∃ k : Nat, k ≤ ps.length ∧ i = .int .i64 (k : Int) ∧ NRow w o ((ps.take k).map fun p => (true, p)) wr) (fun _ i _ => ps.length - (intOf i).toNat)
  case atStart => exact ⟨0, by omega, rfl, NRow.start⟩
  case round =>
    obtain ⟨k, hk, rfl, hrow⟩ := hrel
    obtain ⟨a, cp, rfl⟩ := hrow.form
    have HR := Lib.hid hrow
    clear hrow
    have hlen : ((ps.take k).map fun p => (true, p)).length = k := by simp; omega
    have HLEN := Lib.hid hlen
    rw [hlen]
    clear hlen
    by_cases hlt : k < ps.length
    · have hkl : (k : Int) < (ps.length : Int) := by omega
      have cj : wr.cell? ⟨B, off + k, none⟩ = some (.pointer (some ps[k])) := by rw [HR.out.bel.cell (p := ⟨B, off + k, none⟩) hB]; exact HC.out k hlt
      have HN := Lib.hid (show (ps.take (k + 1)).map (fun p => (true, p)) = (ps.take k).map (fun p => (true, p)) ++ [(true, ps[k])] by rw [List.take_succ_eq_append_getElem hlt, List.map_append]; rfl)
      generalize ps[k] = q at cj HN
      generalize (ps.take k).map (fun p => (true, p)) = r at HR HLEN HN
      have hrl := HLEN.out
      subst hrl
      have HNB := Lib.hid (Blk.new wr #[.pointer (some q), .pointer none] 115 wr.heap.size rfl)
      have HR2 := Lib.hid (HR.out.below ((Below.refl wr.heap.size wr).alloc (Nat.le_refl _) (.cells #[.pointer (some q), .pointer none] 115)))
      go_wp2_with (at_builtin; refine wpList_append_lies _ (by rfl) _ _ _ (by rfl) w.heap.size 115 i0 (.agg #[.pointer none, .pointer none]) 2 16 Tryd.underlying97 hi0 hz0 hz1 hz2 (by rfl) (by decide) _ r.length (numL r) (by rfl) HR2.out.row ⟨wr.heap.size, 0, none⟩ 1 1 (#[.pointer (some q), .pointer none] : Array Value).toList (by rfl) (by rfl) (Lines.news_stp HNB.out) (Lines.mem_stp (by simp [Value.oneCell'])) (by decide) (by unfold maxLen; omega) (by omega) HR2.out.bel.size (wr.heap.size + 1) (by simp) ?_; intro g cap2 w9 hown9 hgrow9 hat9 hlt9; have H9 := Lib.hid (HR2.out.push (x := (true, q)) hown9 hgrow9); clear hown9 hgrow9 hat9 hlt9)
      go_wp2_with fail
      go_roundw
      case rel => exact ⟨r.length + 1, by omega, by go_num, by rw [HN.out]; exact H9.out⟩
      case measure => simp [intOf]; omega
    · obtain rfl : k = ps.length := by omega
      rw [List.take_length] at HR HLEN
      go_wp2_with fail
      go_ret
      rw [HLEN.out] at HR
      exact ⟨_, rfl, HR.out⟩
set_option maxRecDepth 20000 in
set_option maxHeartbeats 4000000 in
theorem shorts_any (B off c : Nat) (ps : List Addr) (hl : ps.length ≤ 1000) (w : World) (hB : B < w.heap.size) (hc : ∀ j, (h : j < ps.length) → w.cell? ⟨B, off + j, none⟩ = some (.pointer (some ps[j]))) :
    Calls Tryd.prog 129 #[.slice (some ⟨B, off, none⟩) ps.length c] w (NumsIs false ps w) := by
  obtain ⟨i0, hi0, hz0, hz1, hz2⟩ := info_parts infoNum
  have HC := Lib.hid hc
  clear hc
  go_enter Tryd.func129, Tryd.ntmps129
  go_wp2_with fail
  go_loopw [2, 7] (fun o i wr => ∃ k : Nat, k ≤ ps.length ∧ i = .int .i64 (k : Int) ∧ NRow w o ((ps.take k).map fun p => (false, p)) wr) (fun _ i _ => ps.length - (intOf i).toNat)
  case atStart => exact ⟨0, by omega, rfl, NRow.start⟩
  case round =>
    obtain ⟨k, hk, rfl, hrow⟩ := hrel
    obtain ⟨a, cp, rfl⟩ := hrow.form
    have HR := Lib.hid hrow
    clear hrow
    have hlen : ((ps.take k).map fun p => (false, p)).length = k := by simp; omega
    have HLEN := Lib.hid hlen
    rw [hlen]
    clear hlen
    by_cases hlt : k < ps.length
    · have hkl : (k : Int) < (ps.length : Int) := by omega
      have cj : wr.cell? ⟨B, off + k, none⟩ = some (.pointer (some ps[k])) := by rw [HR.out.bel.cell (p := ⟨B, off + k, none⟩) hB]; exact HC.out k hlt
      have HN := Lib.hid (show (ps.take (k + 1)).map (fun p => (false, p)) = (ps.take k).map (fun p => (false, p)) ++ [(false, ps[k])] by rw [List.take_succ_eq_append_getElem hlt, List.map_append]; rfl)
      generalize ps[k] = q at cj HN
      generalize (ps.take k).map (fun p => (false, p)) = r at HR HLEN HN
      have hrl := HLEN.out
      subst hrl
      have HNB := Lib.hid (Blk.new wr #[.pointer none, .pointer (some q)] 115 wr.heap.size rfl)
      have HR2 := Lib.hid (HR.out.below ((Below.refl wr.heap.size wr).alloc (Nat.le_refl _) (.cells #[.pointer none, .pointer (some q)] 115)))
      go_wp2_with (at_builtin; refine wpList_append_lies _ (by rfl) _ _ _ (by rfl) w.heap.size 115 i0 (.agg #[.pointer none, .pointer none]) 2 16 Tryd.underlying97 hi0 hz0 hz1 hz2 (by rfl) (by decide) _ r.length (numL r) (by rfl) HR2.out.row ⟨wr.heap.size, 0, none⟩ 1 1 (#[.pointer none, .pointer (some q)] : Array Value).toList (by rfl) (by rfl) (Lines.news_stp HNB.out) (Lines.mem_stp (by simp [Value.oneCell'])) (by decide) (by unfold maxLen; omega) (by omega) HR2.out.bel.size (wr.heap.size + 1) (by simp) ?_; intro g cap2 w9 hown9 hgrow9 hat9 hlt9; have H9 := Lib.hid (HR2.out.push (x := (false, q)) hown9 hgrow9); clear hown9 hgrow9 hat9 hlt9)
      go_wp2_with fail
      go_roundw
      case rel => exact ⟨r.length + 1, by omega, by go_num, by rw [HN.out]; exact H9.out⟩
      case measure => simp [intOf]; omega
    · obtain rfl : k = ps.length := by omega
      rw [List.take_length] at HR HLEN
      go_wp2_with fail
      go_ret
      rw [HLEN.out] at HR
      exact ⟨_, rfl, HR.out⟩
end Go.Proofs.YtmkcooamgojbpaaDoor.Sheet

/- sheet.number: get, set. -/
namespace Go.Proofs.YtmkcooamgojbpaaDoor.Sheet
open Go.RowKit Go.Proofs.YtmkcooamgojbpaaDoor.Kit Go.Proofs.YtmkcooamgojbpaaDoor.Blk Go.Proofs.YtmkcooamgojbpaaDoor.Words Go.Proofs.YtmkcooamgojbpaaDoor.Octets
attribute [local go_sem ↓] Go.wp_at_zero Go.wp_at_succ
set_option linter.unusedVariables false

set_option maxRecDepth 20000 in
theorem get_any (k : Bool) (B j : Nat) (v : Int) (w : World) (hc : w.cell? ⟨B, j, none⟩ = some (.int .i64 v)) :
    Calls Tryd.prog 78 #[.agg (numC (k, ⟨B, j, none⟩))] w fun e w' => e = .returned (.int .i64 v) ∧ Below w.heap.size w w' := by
  have hlt := World.block_lt_of_cell? w _ hc
  have hlt : B < w.heap.size := hlt
  cases k with
  | true =>
    have HX := Lib.hid (Blk.new w #[.pointer (some ⟨B, j, none⟩), .pointer none] 115 w.heap.size rfl)
    have HB := Lib.hid ((Below.refl w.heap.size w).alloc (Nat.le_refl _) (.cells #[.pointer (some ⟨B, j, none⟩), .pointer none] 115))
    have hc' : (w.alloc (.cells #[.pointer (some ⟨B, j, none⟩), .pointer none] 115)).cell? ⟨B, j, none⟩ = some (.int .i64 v) := by rw [HB.out.cell (p := ⟨B, j, none⟩) hlt]; exact hc
    clear hc hlt
    unfold numC
    rw [if_pos rfl]
    go_enter Tryd.func78, Tryd.ntmps78
    go_upto_region 1 with fail
    change Code.wp _ _ _ _ (w.alloc (.cells #[.pointer (some ⟨B, j, none⟩), .pointer none] 115))
    generalize w.alloc (.cells #[.pointer (some ⟨B, j, none⟩), .pointer none] 115) = w1 at HX HB hc' ⊢
    have c0 : w1.cell? ⟨w.heap.size, 0, none⟩ = some (.pointer (some ⟨B, j, none⟩)) := HX.out.cell 0 rfl
    have c1 : w1.cell? ⟨w.heap.size, 1, none⟩ = some (.pointer none) := HX.out.cell 1 rfl
    go_wp2_with fail
    go_ret
    exact ⟨rfl, HB.out⟩
  | false =>
    have HX := Lib.hid (Blk.new w #[.pointer none, .pointer (some ⟨B, j, none⟩)] 115 w.heap.size rfl)
    have HB := Lib.hid ((Below.refl w.heap.size w).alloc (Nat.le_refl _) (.cells #[.pointer none, .pointer (some ⟨B, j, none⟩)] 115))
    have hc' : (w.alloc (.cells #[.pointer none, .pointer (some ⟨B, j, none⟩)] 115)).cell? ⟨B, j, none⟩ = some (.int .i64 v) := by rw [HB.out.cell (p := ⟨B, j, none⟩) hlt]; exact hc
    clear hc hlt
    unfold numC
    rw [if_neg (fun h => by cases h)]
    go_enter Tryd.func78, Tryd.ntmps78
    go_upto_region 1 with fail
    change Code.wp _ _ _ _ (w.alloc (.cells #[.pointer none, .pointer (some ⟨B, j, none⟩)] 115))
    generalize w.alloc (.cells #[.pointer none, .pointer (some ⟨B, j, none⟩)] 115) = w1 at HX HB hc' ⊢
    have c0 : w1.cell? ⟨w.heap.size, 0, none⟩ = some (.pointer none) := HX.out.cell 0 rfl
    have c1 : w1.cell? ⟨w.heap.size, 1, none⟩ = some (.pointer (some ⟨B, j, none⟩)) := HX.out.cell 1 rfl
    go_wp2_with fail
    go_ret
    exact ⟨rfl, HB.out⟩
set_option maxRecDepth 20000 in
theorem set_any (k : Bool) (B j : Nat) (v u : Int) (cs : Array Value) (T : TypeId) (w : World) (hb : Blk w B cs T) (hu : cs[j]? = some (.int .i64 u)) :
    Calls Tryd.prog 127 #[.agg (numC (k, ⟨B, j, none⟩)), .int .i64 v] w fun e w' => e = .returned (.tuple #[]) ∧ Blk w' B (cs.setIfInBounds j (.int .i64 v)) T ∧ Chg w.heap.size B w w' := by
  cases k with
  | true =>
    have HX := Lib.hid (Blk.new w #[.pointer (some ⟨B, j, none⟩), .pointer none] 115 w.heap.size rfl)
    have HB := Lib.hid ((Chg.refl w.heap.size B w).alloc (Nat.le_refl _) (.cells #[.pointer (some ⟨B, j, none⟩), .pointer none] 115))
    have HT := Lib.hid (hb.old (.cells #[.pointer (some ⟨B, j, none⟩), .pointer none] 115))
    clear hb
    unfold numC
    rw [if_pos rfl]
    go_enter Tryd.func127, Tryd.ntmps127
    go_upto_region 1 with fail
    change Code.wp _ _ _ _ (w.alloc (.cells #[.pointer (some ⟨B, j, none⟩), .pointer none] 115))
    generalize w.alloc (.cells #[.pointer (some ⟨B, j, none⟩), .pointer none] 115) = w1 at HX HB HT ⊢
    have c0 : w1.cell? ⟨w.heap.size, 0, none⟩ = some (.pointer (some ⟨B, j, none⟩)) := HX.out.cell 0 rfl
    have c1 : w1.cell? ⟨w.heap.size, 1, none⟩ = some (.pointer none) := HX.out.cell 1 rfl
    have kj : w1.cell? ⟨B, j, none⟩ = some (.int .i64 u) := HT.out.cell j hu
    have fj := HT.out.free j
    go_wp2_with fail
    go_end0
    exact ⟨rfl, HT.out.set j _, HB.out.setCell _ _ (.inl rfl)⟩
  | false =>
    have HX := Lib.hid (Blk.new w #[.pointer none, .pointer (some ⟨B, j, none⟩)] 115 w.heap.size rfl)
    have HB := Lib.hid ((Chg.refl w.heap.size B w).alloc (Nat.le_refl _) (.cells #[.pointer none, .pointer (some ⟨B, j, none⟩)] 115))
    have HT := Lib.hid (hb.old (.cells #[.pointer none, .pointer (some ⟨B, j, none⟩)] 115))
    clear hb
    unfold numC
    rw [if_neg (fun h => by cases h)]
    go_enter Tryd.func127, Tryd.ntmps127
    go_upto_region 1 with fail
    change Code.wp _ _ _ _ (w.alloc (.cells #[.pointer none, .pointer (some ⟨B, j, none⟩)] 115))
    generalize w.alloc (.cells #[.pointer none, .pointer (some ⟨B, j, none⟩)] 115) = w1 at HX HB HT ⊢
    have c0 : w1.cell? ⟨w.heap.size, 0, none⟩ = some (.pointer none) := HX.out.cell 0 rfl
    have c1 : w1.cell? ⟨w.heap.size, 1, none⟩ = some (.pointer (some ⟨B, j, none⟩)) := HX.out.cell 1 rfl
    have kj : w1.cell? ⟨B, j, none⟩ = some (.int .i64 u) := HT.out.cell j hu
    have fj := HT.out.free j
    go_wp2_with fail
    refine bodyPost_ret (results_none rfl _ _ _) rfl ?_
    exact ⟨rfl, HT.out.set j _, HB.out.setCell _ _ (.inl rfl)⟩
end Go.Proofs.YtmkcooamgojbpaaDoor.Sheet

/- sheet.must. -/
namespace Go.Proofs.YtmkcooamgojbpaaDoor.Sheet
open Go.RowKit Go.Proofs.YtmkcooamgojbpaaDoor.Kit Go.Proofs.YtmkcooamgojbpaaDoor.Blk Go.Proofs.YtmkcooamgojbpaaDoor.Words Go.Proofs.YtmkcooamgojbpaaDoor.Octets Go.Proofs.YtmkcooamgojbpaaDoor.Lines
attribute [local go_sem ↓] Go.wp_at_zero Go.wp_at_succ
set_option linter.unusedVariables false

theorem must_true (w : World) : Calls Tryd.prog 66 #[.bool true] w fun e w' => e = .returned (.tuple #[]) ∧ w = w' := by
  go_enter Tryd.func66, Tryd.ntmps66
  go_wp2_with fail
  go_end0
  exact ⟨rfl, rfl⟩
theorem must_false (w : World) : Calls Tryd.prog 66 #[.bool false] w fun e w' => e = badE ∧ w = w' := by
  go_enter Tryd.func66, Tryd.ntmps66
  go_wp2_with fail
  exact ⟨rfl, rfl, rfl⟩
end Go.Proofs.YtmkcooamgojbpaaDoor.Sheet

/- sheet.try: what may give up. -/
namespace Go.Proofs.YtmkcooamgojbpaaDoor.Sheet
open Go.RowKit Go.Proofs.YtmkcooamgojbpaaDoor.Kit Go.Proofs.YtmkcooamgojbpaaDoor.Blk Go.Proofs.YtmkcooamgojbpaaDoor.Words Go.Proofs.YtmkcooamgojbpaaDoor.Octets Go.Proofs.YtmkcooamgojbpaaDoor.Lines Go.Proofs.YtmkcooamgojbpaaDoor.Dec
attribute [local go_sem ↓] Go.wp_at_zero Go.wp_at_succ
set_option linter.unusedVariables false
set_option linter.unusedSimpArgs false

set_option maxRecDepth 20000 in
set_option maxHeartbeats 2000000 in
theorem try_panicking (F : Nat) (x : Int) (older : List PanicEntry) (w : World) (hB : Blk w F #[.int .i64 x] 25) :
    CallsD Tryd.prog 123 #[.pointer (some ⟨F, 0, none⟩)] (.panicking ({ v := errW, recovered := false } :: older)) w fun e u' w' =>
      e = .returned (.tuple #[]) ∧ u' = .panicking ({ v := errW, recovered := true } :: older) ∧ Blk w' F #[.int .i64 4] 25 ∧ ∀ n, n ≤ F → Below n w w' := by
  refine callsD_of_wpS Tryd.func123 rfl fun c₀ cs hu => ?_
  apply wpS_seq
  apply wpS_region
  simp [wpOpsS, go_sem, recoverD, hu, Tryd.ntmps123, Exit.thenS, errW]
  apply wpS_seq
  apply wpS_region
  simp [wpOpsS, go_sem, Exit.thenS]
  refine wpS_cond (t := true) (by simp [Act.eval, Array.replicate]) ?_
  simp only [if_true]
  apply wpS_of_wp
  have hta : ∀ w, (Instr.typeAssert (.iface 25 (.int .i64 4)) 20 25 false).run Tryd.prog w = .ok (.int .i64 4) w := fun _ => by kernel_rfl
  have HB := Lib.hid hB
  have c0 := hB.cell 0 rfl
  have f0 := hB.free 0
  clear hB
  change Code.wp _ _ _ { tmps := #[.pointer (some ⟨F, 0, none⟩), .iface 25 (.int .i64 4), .iface 25 (.int .i64 4), .iface 25 (.int .i64 4), .bool true, undef, undef], defers := [] } _
  go_wp2_with fail
  simp [bodyPostS, results, Tryd.results123]
  exact ⟨HB.out.set 0 _, fun n hn => (Below.refl n w).setCell hn _⟩
theorem try_idle (p : Value) (w : World) :
    CallsD Tryd.prog 123 #[p] .returning w fun e u' w' => e = .returned (.tuple #[]) ∧ u' = .returning ∧ w' = w := by
  refine callsD_of_wpS Tryd.func123 rfl fun c₀ cs hu => ?_
  apply wpS_seq
  apply wpS_region
  simp [wpOpsS, go_sem, recoverD, hu, Tryd.ntmps123, Exit.thenS]
  apply wpS_seq
  apply wpS_region
  simp [wpOpsS, go_sem, Exit.thenS]
  refine wpS_cond (t := false) (by simp [Act.eval, Array.replicate]) ?_
  simp only [Bool.false_eq_true, if_false]
  refine wpS_of_wp (wp_skip ?_)
  cases c₀
  simp_all [bodyPostS, results, Tryd.results123]
theorem results_int {P : Program} {fn : Func} {u : Tmp} {ti : TypeId} {tmps : Array Value} {w : World} {C : Nat} {x : Int} (h : fn.results = #[.cell u ti]) (hq : tmps.getD u undef = .pointer (some ⟨C, 0, none⟩))
    (hx : (loadVar ti ⟨C, 0, none⟩).run P w = .ok (.int .i64 x) w) : (results fn tmps).run P w = .ok (.int .i64 x) w := by
  have hq' : tmps[u]?.getD undef = .pointer (some ⟨C, 0, none⟩) := by simpa using hq
  simp [results, h, hq', asAddr, hx]
/-- What a trying comes to: R true: it went well. -/
def TryIs (R : Bool → World → Prop) (w : World) (e : Ending) (w' : World) : Prop := ∃ b W, R b W ∧ e = .returned (.int .i64 (if b = true then 0 else 4)) ∧ Below w.heap.size W w'
set_option maxRecDepth 20000 in
set_option maxHeartbeats 2000000 in
theorem try_of (g : FuncId) (caps : Array Value) (hgo : ∀ w, (callFunc g caps).run Tryd.prog w = .ok (.enter g caps) w) (R : Bool → World → Prop) (w : World)
    (hc : Calls Tryd.prog g caps (w.alloc (.cells #[.int .i64 0] 25)) fun e W => (e = .returned (.tuple #[]) ∧ R true W) ∨ (e = badE ∧ R false W))
    (hF : ∀ b W, R b W → Blk W w.heap.size #[.int .i64 0] 25) :
    Calls Tryd.prog 62 #[.func (.func g) #[] caps] w (TryIs R w) := by
  have hmf : ∀ (fn : Fn) (first cap : Array Value) (w : World), (Instr.makeFunc fn first cap).run Tryd.prog w = .ok (.func fn first cap) w := fun _ _ _ _ => rfl
  have HC := Lib.hid hc
  have HF := Lib.hid hF
  clear hc hF
  go_enter_defers Tryd.func62, Tryd.ntmps62
  go_wp2_with fail
  refine HC.out.mono ?_
  clear HC
  rintro e w1 (⟨rfl, hr⟩ | ⟨rfl, hr⟩)
  · have HB := Lib.hid (HF.out _ _ hr)
    have HR := Lib.hid hr
    have c0 := HB.out.cell 0 rfl
    have f0 := HB.out.free 0
    clear hr
    go_wp2_with fail
    have HB2 := Lib.hid (show Blk (w1.setCell ⟨w.heap.size, 0, none⟩ (.int .i64 0)) w.heap.size #[.int .i64 0] 25 from HB.out.set 0 _)
    have HW := Lib.hid (show Below w.heap.size w1 (w1.setCell ⟨w.heap.size, 0, none⟩ (.int .i64 0)) from (Below.refl _ _).setCell (p := ⟨w.heap.size, 0, none⟩) (Nat.le_refl w.heap.size) _)
    generalize w1.setCell ⟨w.heap.size, 0, none⟩ (.int .i64 0) = w2 at HB2 HW ⊢
    have c2 := HB2.out.cell 0 rfl
    refine leaves_cons (f := 123) (args := #[.pointer (some ⟨w.heap.size, 0, none⟩)]) (by simp) (by simp [go_sem]) ?_
    refine (try_idle _ w2).mono ?_
    rintro e u' w6 ⟨rfl, rfl, rfl⟩
    exact ⟨_, results_int rfl rfl (by simp [go_sem, c2]), true, w1, HR.out, rfl, HW.out⟩
  · have HB := Lib.hid (HF.out _ _ hr)
    have HR := Lib.hid hr
    clear hr
    go_wp2_with fail
    refine leaves_cons (f := 123) (args := #[.pointer (some ⟨w.heap.size, 0, none⟩)]) (by simp) (by simp [go_sem]) ?_
    refine (try_panicking w.heap.size 0 [] w1 HB.out).mono ?_
    rintro e u' w4 ⟨rfl, rfl, h1, h2⟩
    have c2 : w4.cell? ⟨w.heap.size, 0, none⟩ = some (.int .i64 4) := h1.cell 0 rfl
    exact ⟨_, results_int rfl rfl (by simp [go_sem, c2]), false, w1, HR.out, rfl, h2 _ (Nat.le_refl _)⟩
end Go.Proofs.YtmkcooamgojbpaaDoor.Sheet
