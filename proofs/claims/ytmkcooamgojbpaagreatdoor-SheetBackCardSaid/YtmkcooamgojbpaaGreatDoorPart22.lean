/- Parts of the proof: WRd, WStep, WCmd, WStepC, WParse, RowS, ShNums, ShNum, ShMust, ShTry, ShFieldsR. -/
import Derived.Test.YtmkcooamgojbpaaGreatDoorPart17
import Derived.Test.YtmkcooamgojbpaaGreatDoorPart21
import Derived.Test.YtmkcooamgojbpaaGreatDoorPart20
import Derived.Test.YtmkcooamgojbpaaGreatDoorPart4
import Derived.Recover
import Derived.Deep.RegionHeld3
import Derived.Deep.DrawnRows
import Derived.Test.YtmkcooamgojbpaaGreatDoorPart6
import Derived.Test.YtmkcooamgojbpaaGreatDoorPart7
import Derived.Test.YtmkcooamgojbpaaGreatDoorPart3

/- words.reader: its state in memory; must, word, num, in. -/
namespace Go.Proofs.YtmkcooamgojbpaaGreatDoor.Lines
open Go.RowKit Go.Proofs.YtmkcooamgojbpaaGreatDoor.Kit Go.Proofs.YtmkcooamgojbpaaGreatDoor.Blk Go.Proofs.YtmkcooamgojbpaaGreatDoor.Dec Go.Proofs.YtmkcooamgojbpaaGreatDoor.Words Go.Proofs.YtmkcooamgojbpaaGreatDoor.Octets
attribute [local go_sem ↓] Go.wp_at_zero Go.wp_at_succ
set_option linter.unusedVariables false

/-- What a text that is none panics with. -/
def errW : Value := .iface 30 (.int .i64 4)
abbrev badE : Ending := .panicked [{ v := errW, recovered := false }]
/-- Words somewhere in a block below M. -/
def StrAt (M : Nat) (ws : List (List UInt8)) (v : Value) (W : World) : Prop :=
  (ws = [] ∧ ∃ a c, v = .slice a 0 c) ∨ ∃ g o c, v = .slice (some ⟨g, o, none⟩) ws.length c ∧ ws.length ≤ c ∧ g < M ∧ ∀ j, (h : j < ws.length) → W.cell? ⟨g, o + j, none⟩ = some (.string (strB ws[j]))
theorem StrAt.chg {M n d : Nat} {ws : List (List UInt8)} {v : Value} {W W' : World} (h : StrAt M ws v W) (hM : M ≤ n) (hd : M ≤ d) (hc : Chg n d W W') : StrAt M ws v W' := by
  rcases h with h | ⟨g, o, c, h1, h2, h3, h4⟩
  · exact .inl h
  · exact .inr ⟨g, o, c, h1, h2, h3, fun j hj => by rw [hc.cell (p := ⟨g, o + j, none⟩) (by show g < n; omega) (by show g ≠ d; omega)]; exact h4 j hj⟩
end Go.Proofs.YtmkcooamgojbpaaGreatDoor.Lines

/- A step as a value, its bytes in a block of their own (lemmas of XOther, for other seats). -/
namespace Go.Proofs.YtmkcooamgojbpaaGreatDoor.Lines
open Go.RowKit Go.Proofs.YtmkcooamgojbpaaGreatDoor.Kit Go.Proofs.YtmkcooamgojbpaaGreatDoor.Blk Go.Proofs.YtmkcooamgojbpaaGreatDoor.Dec Go.Proofs.YtmkcooamgojbpaaGreatDoor.Words Go.Proofs.YtmkcooamgojbpaaGreatDoor.Octets Go.Proofs.YtmkcooamgojbpaaGreatDoor.Steps Go.Proofs.YtmkcooamgojbpaaGreatDoor.Cmds
attribute [local go_sem ↓] Go.wp_at_zero Go.wp_at_succ
set_option linter.unusedVariables false

theorem one_stp (k y v : Int) (a : Option Addr) (n c : Nat) : (stepC k y v (.slice a n c)).all (·.oneCell') = true := by simp [stepC, Value.oneCell']
theorem bytes_form {N : Nat} {l : List Nat} {u : Value} {W : World} (h : BytesOf N l u W) : ∃ a n c, u = .slice a n c := by
  rcases h with ⟨_, rfl⟩ | ⟨h0, h⟩
  · exact ⟨_, _, _, rfl⟩
  · obtain ⟨g, cap, e, -, -⟩ := World.ownsRow.form h h0
    exact ⟨_, _, _, e⟩
theorem bytes_mono {N M : Nat} {l : List Nat} {u : Value} {W : World} (h : BytesOf M l u W) (hN : N ≤ M) : BytesOf N l u W :=
  h.elim .inl fun h => .inr ⟨h.1, own_mono h.2 hN⟩
theorem bytes_cell {N B : Nat} {l : List Nat} {u : Value} {cs : Array Value} {W : World} (h : BytesOf N l u W) (hB : Blk W B cs 113) (j : Nat) (x : Value) : BytesOf N l u (W.setCell ⟨B, j, none⟩ x) := by
  rcases h with h | ⟨h0, h⟩
  · exact .inl h
  · refine .inr ⟨h0, own_set h (fun hu => ?_) j x⟩
    obtain ⟨_, cur, hc⟩ := row_from' h hu
    rw [show W.heap[B]? = _ from hB] at hc
    injection hc with hc
    injection hc with _ hc _
    exact absurd hc (by decide)
theorem bytes_cells {N B : Nat} {l : List Nat} {u : Value} (vs : List Value) : ∀ (o : Nat) (cs : Array Value) (W : World), BytesOf N l u W → Blk W B cs 113 → BytesOf N l u (W.setCells B o vs) := by
  induction vs with
  | nil => intro o cs W h _; exact h
  | cons v vs ih => intro o cs W h hB; exact ih (o + 1) _ _ (bytes_cell h hB o v) (hB.set o v)
theorem bytes_alloc {N : Nat} {l : List Nat} {u : Value} {W : World} (h : BytesOf N l u W) (o : Obj) : BytesOf N l u (W.alloc o) := bytes_below h ((Below.refl _ _).alloc (Nat.le_refl _) o)


/-- The value of a step. -/
def StepV (N : Nat) (s : Stp) (v : Value) (W : World) : Prop := ∃ u, v = .agg (stepC s.k s.y s.v u) ∧ BytesOf N s.l u W
def zStep : Array Value := stepC 0 0 0 (.slice none 0 0)
theorem one_cmd (c : Cmd) : c.cells.all (·.oneCell') = true := by simp [Cmd.cells, Value.oneCell']
end Go.Proofs.YtmkcooamgojbpaaGreatDoor.Lines

/- words.reader's command. -/
namespace Go.Proofs.YtmkcooamgojbpaaGreatDoor.Lines
open Go.RowKit Go.Proofs.YtmkcooamgojbpaaGreatDoor.Kit Go.Proofs.YtmkcooamgojbpaaGreatDoor.Blk Go.Proofs.YtmkcooamgojbpaaGreatDoor.Dec Go.Proofs.YtmkcooamgojbpaaGreatDoor.Words Go.Proofs.YtmkcooamgojbpaaGreatDoor.Octets Go.Proofs.YtmkcooamgojbpaaGreatDoor.Steps Go.Proofs.YtmkcooamgojbpaaGreatDoor.Cmds
attribute [local go_sem ↓] Go.wp_at_zero Go.wp_at_succ
set_option linter.unusedVariables false

theorem cmd_none {k : Int} {ws : List Tok} (h : inP 255 ws = none) : cmdP k ws = none := by unfold cmdP; rw [h]; rfl
theorem cmd_none2 {k s : Int} {ws l : List Tok} (h : inP 255 ws = some (s, l)) (h2 : inP 4611686018427387904 l = none) : cmdP k ws = none := by unfold cmdP; rw [h]; dsimp only [Option.bind]; rw [h2]
theorem cmd_two_eq {s i : Int} {ws l l2 : List Tok} (h : inP 255 ws = some (s, l)) (h2 : inP 4611686018427387904 l = some (i, l2)) :
    cmdP 2 ws = if rightC ⟨2, s, i, 0, 0, 0, 0, 0, 0⟩ = true then some (⟨1, 0, 0, formC ⟨2, s, i, 0, 0, 0, 0, 0, 0⟩⟩, l2) else none := by unfold cmdP; rw [h]; dsimp only [Option.bind]; rw [h2]; rfl
end Go.Proofs.YtmkcooamgojbpaaGreatDoor.Lines

/- words.reader's step: the word 'cancel'. -/
namespace Go.Proofs.YtmkcooamgojbpaaGreatDoor.Lines
open Go.RowKit Go.Proofs.YtmkcooamgojbpaaGreatDoor.Kit Go.Proofs.YtmkcooamgojbpaaGreatDoor.Blk Go.Proofs.YtmkcooamgojbpaaGreatDoor.Dec Go.Proofs.YtmkcooamgojbpaaGreatDoor.Words Go.Proofs.YtmkcooamgojbpaaGreatDoor.Octets Go.Proofs.YtmkcooamgojbpaaGreatDoor.Steps Go.Proofs.YtmkcooamgojbpaaGreatDoor.Cmds
attribute [local go_sem ↓] Go.wp_at_zero Go.wp_at_succ
set_option linter.unusedVariables false

def StepIs (o : Option Stp) (P : Nat) (w : World) (e : Ending) (w' : World) : Prop :=
  (o = none ∧ e = badE ∧ Chg w.heap.size P w w') ∨ ∃ s v, o = some s ∧ e = .returned v ∧ StepV w.heap.size s v w' ∧ Chg w.heap.size P w w'
theorem strB_toList (l : List UInt8) : (strB l).toList = l := by rw [ByteArray.toList_eq, strB_list]
theorem step_eq {x : Tok} {l : List Tok} {o : Option (Stp × List Tok)} (h : bodyP x l = o) : stepP (x :: l) = o.bind fun y => if y.2 = [] then some y.1 else none := by unfold stepP wordP; dsimp only [Option.bind]; rw [h]
end Go.Proofs.YtmkcooamgojbpaaGreatDoor.Lines

/- words.Parse: the closure that recovers. -/
namespace Go.Proofs.YtmkcooamgojbpaaGreatDoor.Lines
open Go.RowKit Go.Proofs.YtmkcooamgojbpaaGreatDoor.Kit Go.Proofs.YtmkcooamgojbpaaGreatDoor.Blk Go.Proofs.YtmkcooamgojbpaaGreatDoor.Dec Go.Proofs.YtmkcooamgojbpaaGreatDoor.Words Go.Proofs.YtmkcooamgojbpaaGreatDoor.Octets Go.Proofs.YtmkcooamgojbpaaGreatDoor.Steps Go.Proofs.YtmkcooamgojbpaaGreatDoor.Cmds
attribute [local go_sem ↓] Go.wp_at_zero Go.wp_at_succ
set_option linter.unusedVariables false
set_option linter.unusedSimpArgs false

/-- What the closure leaves behind a panic. -/
def Caught (A B : Nat) (w w' : World) : Prop := Blk w' A (stepC 0 0 0 (.slice none 0 0)) 113 ∧ Blk w' B #[.int .i64 4] 30 ∧ ∀ n, n ≤ A → Below n w w'
def WParseIs (o : Option Stp) (w : World) (e : Ending) (w' : World) : Prop :=
  ∃ u, e = .returned (.tuple #[.agg (stepC (o.getD ⟨0, 0, 0, []⟩).k (o.getD ⟨0, 0, 0, []⟩).y (o.getD ⟨0, 0, 0, []⟩).v u), .int .i64 (if o.isSome = true then 0 else 4)]) ∧ BytesOf w.heap.size (o.getD ⟨0, 0, 0, []⟩).l u w' ∧ Below w.heap.size w w'
theorem results_blk_int {P : Program} {fn : Func} {p u : Tmp} {ty ti T : TypeId} {tmps : Array Value} {w : World} {B C : Nat} {cs : Array Value} {x : Int} {d : TypeDesc} (h : fn.results = #[.cell p ty, .cell u ti]) (hp : tmps.getD p undef = .pointer (some ⟨B, 0, none⟩)) (hq : tmps.getD u undef = .pointer (some ⟨C, 0, none⟩)) (hb : Blk w B cs T) (hc : w.cell? ⟨C, 0, none⟩ = some (.int .i64 x))
    (hu : P.underlying ty = some d) (hd : d.isRow = true) (hi : (P.info? ty).map (·.size) = some cs.size) (hx : (loadVar ti ⟨C, 0, none⟩).run P w = .ok (.int .i64 x) w) : (results fn tmps).run P w = .ok (.tuple #[.agg cs, .int .i64 x]) w := by
  have hp' : tmps[p]?.getD undef = .pointer (some ⟨B, 0, none⟩) := by simpa using hp
  have hq' : tmps[u]?.getD undef = .pointer (some ⟨C, 0, none⟩) := by simpa using hq
  have hl := run_loadVar_mid w B 0 ty cs.toList d hb.range hu hd (by simpa using hi)
  simp [results, h, hp', hq', asAddr, hl, hx]
end Go.Proofs.YtmkcooamgojbpaaGreatDoor.Lines

/- Rows of steps that are made one by one. -/
namespace Go.Proofs.YtmkcooamgojbpaaGreatDoor.Lines
open Go.RowKit Go.Proofs.YtmkcooamgojbpaaGreatDoor.Kit Go.Proofs.YtmkcooamgojbpaaGreatDoor.Blk Go.Proofs.YtmkcooamgojbpaaGreatDoor.Dec Go.Proofs.YtmkcooamgojbpaaGreatDoor.Words Go.Proofs.YtmkcooamgojbpaaGreatDoor.Octets Go.Proofs.YtmkcooamgojbpaaGreatDoor.Steps Go.Proofs.YtmkcooamgojbpaaGreatDoor.Cmds
set_option linter.unusedVariables false

/-- What holds between two steps of a row that is being made. -/
structure SRow (w : World) (v : Value) (r : List (Stp × Value)) (W : World) : Prop where
  row : RowR w.heap.size v r W
  bel : Below w.heap.size w W
section
variable {w W W' : World} {v v' u : Value} {r : List (Stp × Value)} {s : Stp}
theorem SRow.start : SRow w (.slice none 0 0) [] w := ⟨⟨World.ownsRow_nil _ _ _ _, fun x hx => by cases hx⟩, Below.refl _ _⟩
theorem SRow.below (h : SRow w v r W) (hb : Below W.heap.size W W') : SRow w v r W' := ⟨h.row.below hb, h.bel.trans (hb.mono h.bel.size)⟩
theorem SRow.alloc (h : SRow w v r W) (o : Obj) : SRow w v r (W.alloc o) := h.below ((Below.refl _ _).alloc (Nat.le_refl _) o)
theorem SRow.push (h : SRow w v r W) (hu : BytesOf w.heap.size s.l u W)
    (hown : W'.ownsRow w.heap.size 113 4 v' (r.length + 1) (flat r ++ (stepC s.k s.y s.v u).toList)) (hg : W.grownBy W' v.ownBlock) : SRow w v' (r ++ [(s, u)]) W' :=
  ⟨h.row.push hu hown hg, h.bel.grown hg h.bel.size (fun k e => (row_from' h.row.1 e).1)⟩
theorem SRow.form (h : SRow w v r W) : ∃ a c, v = .slice a r.length c := by
  rcases h.row.1.2 with ⟨rfl, h0⟩ | ⟨g, cap, cur, rfl, _⟩
  · exact ⟨none, 0, by rw [h0]⟩
  · exact ⟨_, cap, rfl⟩
end
theorem infoStp : (Tryz.prog.info? 113).map (fun i => (i.zero, i.size, i.bytes)) = some (some (.agg (stepC 0 0 0 (.slice none 0 0))), 4, 48) := by kernel_rfl
theorem news_stp {w : World} {B : Nat} {cs : Array Value} {T : TypeId} (h : Blk w B cs T) : ∀ j u, cs.toList[j]? = some u → w.cell? ((⟨B, 0, none⟩ : Addr).add j) = some u := fun j u hu => by
  rw [Addr.add_mid, Nat.zero_add]; exact h.cell j (by simpa using hu)
theorem mem_stp {cs : Array Value} (h : cs.all (·.oneCell') = true) : ∀ u ∈ cs.toList, u.oneCell' = true := fun u hu => by
  rw [Array.all_eq_true] at h
  obtain ⟨i, hi, rfl⟩ := List.mem_iff_getElem.1 hu
  simpa using h i (by simpa using hi)
/-- A line's step. -/
def stepL (l : Tok) : Option Stp := stepP (splitW l)
/-- A text's script: too many lines, or the number of the first line that is none, or all. -/
def scriptF (t : Tok) : Option (Nat ⊕ List Stp) := if 2000 < t.count 10 then none else some (readT stepL t)
def ReadSIs (o : Option (Nat ⊕ List Stp)) (w : World) (e : Ending) (w' : World) : Prop := match o with
  | none => e = .returned (.tuple #[.slice none 0 0, .int .i64 0, .int .i64 9]) ∧ Below w.heap.size w w'
  | some (.inl n) => e = .returned (.tuple #[.slice none 0 0, .int .i64 (n : Int), .int .i64 4]) ∧ Below w.heap.size w w'
  | some (.inr ss) => ∃ v r, e = .returned (.tuple #[v, .int .i64 0, .int .i64 0]) ∧ r.map (·.1) = ss ∧ SRow w v r w'
theorem script_many {t : Tok} (h : 2000 < t.count 10) : scriptF t = none := by unfold scriptF; rw [if_pos h]
theorem script_few {t : Tok} (h : ¬ 2000 < t.count 10) : scriptF t = some (readT stepL t) := by unfold scriptF; rw [if_neg h]
theorem readS_empty : readT stepL [] = .inr [] := rfl
/-- What stands in front. -/
def firsts (r : List (Stp × Value)) : List Stp := r.map (·.1)
theorem firsts_snoc (r : List (Stp × Value)) (s : Stp) (u : Value) : firsts (r ++ [(s, u)]) = firsts r ++ [s] := by simp [firsts]
theorem firsts_len (r : List (Stp × Value)) : (firsts r).length = r.length := by simp [firsts]
end Go.Proofs.YtmkcooamgojbpaaGreatDoor.Lines

/- sheet.longs, sheet.shorts. -/
namespace Go.Proofs.YtmkcooamgojbpaaGreatDoor.Sheet
open Go.RowKit Go.Proofs.YtmkcooamgojbpaaGreatDoor.Kit Go.Proofs.YtmkcooamgojbpaaGreatDoor.Blk Go.Proofs.YtmkcooamgojbpaaGreatDoor.Words Go.Proofs.YtmkcooamgojbpaaGreatDoor.Octets
attribute [local go_sem ↓] Go.wp_at_zero Go.wp_at_succ
set_option linter.unusedVariables false

/-- A number: is it a long one, and where it lies. -/
def numC (x : Bool × Addr) : Array Value := if x.1 = true then #[.pointer (some x.2), .pointer none] else #[.pointer none, .pointer (some x.2)]
def numL (l : List (Bool × Addr)) : List Value := l.flatMap fun x => (numC x).toList
theorem numL_app (l m : List (Bool × Addr)) : numL (l ++ m) = numL l ++ numL m := by simp [numL]
theorem infoNum : (Tryz.prog.info? 107).map (fun i => (i.zero, i.size, i.bytes)) = some (some (.agg #[.pointer none, .pointer none]), 2, 16) := by kernel_rfl
/-- What holds between two numbers of a row that is being made. -/
structure NRow (w : World) (v : Value) (r : List (Bool × Addr)) (W : World) : Prop where
  row : W.ownsRow w.heap.size 107 2 v r.length (numL r)
  bel : Below w.heap.size w W
theorem NRow.start {w : World} : NRow w (.slice none 0 0) [] w := ⟨World.ownsRow_nil _ _ _ _, Below.refl _ _⟩
theorem NRow.form {w W : World} {v : Value} {r : List (Bool × Addr)} (h : NRow w v r W) : ∃ a c, v = .slice a r.length c := by
  rcases h.row.2 with ⟨rfl, h0⟩ | ⟨g, cap, cur, rfl, _⟩
  · exact ⟨none, 0, by rw [h0]⟩
  · exact ⟨_, cap, rfl⟩
theorem NRow.below {w W W' : World} {v : Value} {r : List (Bool × Addr)} (h : NRow w v r W) (hb : Below W.heap.size W W') : NRow w v r W' :=
  ⟨h.row.kept (row := none) ⟨hb.os, hb.tape, hb.output, hb.size, fun k hk _ => hb.block k hk⟩ (by
    cases v.ownBlock with
    | none => exact .inl rfl
    | some j => exact .inr (by simp)), h.bel.trans (hb.mono h.bel.size)⟩
theorem NRow.push {w W W' : World} {v v' : Value} {r : List (Bool × Addr)} {x : Bool × Addr} (h : NRow w v r W) (hown : W'.ownsRow w.heap.size 107 2 v' (r.length + 1) (numL r ++ (numC x).toList)) (hg : W.grownBy W' v.ownBlock) : NRow w v' (r ++ [x]) W' :=
  ⟨by rw [List.length_append, numL_app]; simpa [numL] using hown, h.bel.grown hg h.bel.size (fun k e => (row_from' h.row e).1)⟩
/-- What longs, or shorts, of pointers give. -/
def NumsIs (k : Bool) (ps : List Addr) (w : World) (e : Ending) (w' : World) : Prop := ∃ v, e = .returned v ∧ NRow w v (ps.map fun p => (k, p)) w'
set_option maxRecDepth 20000 in
set_option maxHeartbeats 4000000 in
theorem longs_any (B off c : Nat) (ps : List Addr) (hl : ps.length ≤ 1000) (w : World) (hB : B < w.heap.size) (hc : ∀ j, (h : j < ps.length) → w.cell? ⟨B, off + j, none⟩ = some (.pointer (some ps[j]))) :
    Calls Tryz.prog 52 #[.slice (some ⟨B, off, none⟩) ps.length c] w (NumsIs true ps w) := by
  obtain ⟨i0, hi0, hz0, hz1, hz2⟩ := info_parts infoNum
  have HC := Lib.hid hc
  clear hc
  go_enter Tryz.func52, Tryz.ntmps52
  go_wp2_with fail
  go_loopw [2, 7] (fun o i wr => ∃ k : Nat, k ≤ ps.length ∧ i = .int .i64 (k : Int) ∧ NRow w o ((ps.take k).map fun p => (true, p)) wr) (fun _ i _ => ps.length - (intOf i).toNat)
  case atStart => exact ⟨0, by omega, rfl, NRow.start⟩
  case round =>
    obtain ⟨k, hk, rfl, hrow⟩ := hrel
    obtain ⟨a, cp, rfl⟩ := hrow.form
    have HR := Lib.hid hrow
    clear hrow
    have hlen : ((ps.take k).map fun p => (true, p)).length = k := by simp; omega
    have HLEN := Lib.hid hlen
    rw [hlen]
    clear hlen
    by_cases hlt : k < ps.length
    · have hkl : (k : Int) < (ps.length : Int) := by omega
      have cj : wr.cell? ⟨B, off + k, none⟩ = some (.pointer (some ps[k])) := by rw [HR.out.bel.cell (p := ⟨B, off + k, none⟩) hB]; exact HC.out k hlt
      have HN := Lib.hid (show (ps.take (k + 1)).map (fun p => (true, p)) = (ps.take k).map (fun p => (true, p)) ++ [(true, ps[k])] by rw [List.take_succ_eq_append_getElem hlt, List.map_append]; rfl)
      generalize ps[k] = q at cj HN
      generalize (ps.take k).map (fun p => (true, p)) = r at HR HLEN HN
      have hrl := HLEN.out
      subst hrl
      have HNB := Lib.hid (Blk.new wr #[.pointer (some q), .pointer none] 107 wr.heap.size rfl)
      have HR2 := Lib.hid (HR.out.below ((Below.refl wr.heap.size wr).alloc (Nat.le_refl _) (.cells #[.pointer (some q), .pointer none] 107)))
      go_wp2_with (at_builtin; refine wpList_append_lies _ (by rfl) _ _ _ (by rfl) w.heap.size 107 i0 (.agg #[.pointer none, .pointer none]) 2 16 Tryz.underlying60 hi0 hz0 hz1 hz2 (by rfl) (by decide) _ r.length (numL r) (by rfl) HR2.out.row ⟨wr.heap.size, 0, none⟩ 1 1 (#[.pointer (some q), .pointer none] : Array Value).toList (by rfl) (by rfl) (Lines.news_stp HNB.out) (Lines.mem_stp (by simp [Value.oneCell'])) (by decide) (by unfold maxLen; omega) (by omega) HR2.out.bel.size (wr.heap.size + 1) (by simp) ?_; intro g cap2 w9 hown9 hgrow9 hat9 hlt9; have H9 := Lib.hid (HR2.out.push (x := (true, q)) hown9 hgrow9); clear hown9 hgrow9 hat9 hlt9)
      go_wp2_with fail
      go_roundw
      case rel => exact ⟨r.length + 1, by omega, by go_num, by rw [HN.out]; exact H9.out⟩
      case measure => simp [intOf]; omega
    · obtain rfl : k = ps.length := by omega
      rw [List.take_length] at HR HLEN
      go_wp2_with fail
      go_ret
      rw [HLEN.out] at HR
      exact ⟨_, rfl, HR.out⟩
set_option maxRecDepth 20000 in
set_option maxHeartbeats 4000000 in
theorem shorts_any (B off c : Nat) (ps : List Addr) (hl : ps.length ≤ 1000) (w : World) (hB : B < w.heap.size) (hc : ∀ j, (h : j < ps.length) → w.cell? ⟨B, off + j, none⟩ = some (.pointer (some ps[j]))) :
    Calls Tryz.prog 58 #[.slice (some ⟨B, off, none⟩) ps.length c] w (NumsIs false ps w) := by
  obtain ⟨i0, hi0, hz0, hz1, hz2⟩ := info_parts infoNum
  have HC := Lib.hid hc
  clear hc
  go_enter Tryz.func58, Tryz.ntmps58
  go_wp2_with fail
  go_loopw [2, 7] (fun o i wr => ∃ k : Nat, k ≤ ps.length ∧ i = .int .i64 (k : Int) ∧ NRow w o ((ps.take k).map fun p => (false, p)) wr) (fun _ i _ => ps.length - (intOf i).toNat)
  case atStart => exact ⟨0, by omega, rfl, NRow.start⟩
  case round =>
    obtain ⟨k, hk, rfl, hrow⟩ := hrel
    obtain ⟨a, cp, rfl⟩ := hrow.form
    have HR := Lib.hid hrow
    clear hrow
    have hlen : ((ps.take k).map fun p => (false, p)).length = k := by simp; omega
    have HLEN := Lib.hid hlen
    rw [hlen]
    clear hlen
    by_cases hlt : k < ps.length
    · have hkl : (k : Int) < (ps.length : Int) := by omega
      have cj : wr.cell? ⟨B, off + k, none⟩ = some (.pointer (some ps[k])) := by rw [HR.out.bel.cell (p := ⟨B, off + k, none⟩) hB]; exact HC.out k hlt
      have HN := Lib.hid (show (ps.take (k + 1)).map (fun p => (false, p)) = (ps.take k).map (fun p => (false, p)) ++ [(false, ps[k])] by rw [List.take_succ_eq_append_getElem hlt, List.map_append]; rfl)
      generalize ps[k] = q at cj HN
      generalize (ps.take k).map (fun p => (false, p)) = r at HR HLEN HN
      have hrl := HLEN.out
      subst hrl
      have HNB := Lib.hid (Blk.new wr #[.pointer none, .pointer (some q)] 107 wr.heap.size rfl)
      have HR2 := Lib.hid (HR.out.below ((Below.refl wr.heap.size wr).alloc (Nat.le_refl _) (.cells #[.pointer none, .pointer (some q)] 107)))
      go_wp2_with (at_builtin; refine wpList_append_lies _ (by rfl) _ _ _ (by rfl) w.heap.size 107 i0 (.agg #[.pointer none, .pointer none]) 2 16 Tryz.underlying60 hi0 hz0 hz1 hz2 (by rfl) (by decide) _ r.length (numL r) (by rfl) HR2.out.row ⟨wr.heap.size, 0, none⟩ 1 1 (#[.pointer none, .pointer (some q)] : Array Value).toList (by rfl) (by rfl) (Lines.news_stp HNB.out) (Lines.mem_stp (by simp [Value.oneCell'])) (by decide) (by unfold maxLen; omega) (by omega) HR2.out.bel.size (wr.heap.size + 1) (by simp) ?_; intro g cap2 w9 hown9 hgrow9 hat9 hlt9; have H9 := Lib.hid (HR2.out.push (x := (false, q)) hown9 hgrow9); clear hown9 hgrow9 hat9 hlt9)
      go_wp2_with fail
      go_roundw
      case rel => exact ⟨r.length + 1, by omega, by go_num, by rw [HN.out]; exact H9.out⟩
      case measure => simp [intOf]; omega
    · obtain rfl : k = ps.length := by omega
      rw [List.take_length] at HR HLEN
      go_wp2_with fail
      go_ret
      rw [HLEN.out] at HR
      exact ⟨_, rfl, HR.out⟩
end Go.Proofs.YtmkcooamgojbpaaGreatDoor.Sheet

/- sheet.number: get, set. -/
namespace Go.Proofs.YtmkcooamgojbpaaGreatDoor.Sheet
open Go.RowKit Go.Proofs.YtmkcooamgojbpaaGreatDoor.Kit Go.Proofs.YtmkcooamgojbpaaGreatDoor.Blk Go.Proofs.YtmkcooamgojbpaaGreatDoor.Words Go.Proofs.YtmkcooamgojbpaaGreatDoor.Octets
attribute [local go_sem ↓] Go.wp_at_zero Go.wp_at_succ
set_option linter.unusedVariables false

set_option maxRecDepth 20000 in
theorem get_any (k : Bool) (B j : Nat) (v : Int) (w : World) (hc : w.cell? ⟨B, j, none⟩ = some (.int .i64 v)) :
    Calls Tryz.prog 55 #[.agg (numC (k, ⟨B, j, none⟩))] w fun e w' => e = .returned (.int .i64 v) ∧ Below w.heap.size w w' := by
  have hlt := World.block_lt_of_cell? w _ hc
  have hlt : B < w.heap.size := hlt
  cases k with
  | true =>
    have HX := Lib.hid (Blk.new w #[.pointer (some ⟨B, j, none⟩), .pointer none] 107 w.heap.size rfl)
    have HB := Lib.hid ((Below.refl w.heap.size w).alloc (Nat.le_refl _) (.cells #[.pointer (some ⟨B, j, none⟩), .pointer none] 107))
    have hc' : (w.alloc (.cells #[.pointer (some ⟨B, j, none⟩), .pointer none] 107)).cell? ⟨B, j, none⟩ = some (.int .i64 v) := by rw [HB.out.cell (p := ⟨B, j, none⟩) hlt]; exact hc
    clear hc hlt
    unfold numC
    rw [if_pos rfl]
    go_enter Tryz.func55, Tryz.ntmps55
    go_upto_region 1 with fail
    change Code.wp _ _ _ _ (w.alloc (.cells #[.pointer (some ⟨B, j, none⟩), .pointer none] 107))
    generalize w.alloc (.cells #[.pointer (some ⟨B, j, none⟩), .pointer none] 107) = w1 at HX HB hc' ⊢
    have c0 : w1.cell? ⟨w.heap.size, 0, none⟩ = some (.pointer (some ⟨B, j, none⟩)) := HX.out.cell 0 rfl
    have c1 : w1.cell? ⟨w.heap.size, 1, none⟩ = some (.pointer none) := HX.out.cell 1 rfl
    go_wp2_with fail
    go_ret
    exact ⟨rfl, HB.out⟩
  | false =>
    have HX := Lib.hid (Blk.new w #[.pointer none, .pointer (some ⟨B, j, none⟩)] 107 w.heap.size rfl)
    have HB := Lib.hid ((Below.refl w.heap.size w).alloc (Nat.le_refl _) (.cells #[.pointer none, .pointer (some ⟨B, j, none⟩)] 107))
    have hc' : (w.alloc (.cells #[.pointer none, .pointer (some ⟨B, j, none⟩)] 107)).cell? ⟨B, j, none⟩ = some (.int .i64 v) := by rw [HB.out.cell (p := ⟨B, j, none⟩) hlt]; exact hc
    clear hc hlt
    unfold numC
    rw [if_neg (fun h => by cases h)]
    go_enter Tryz.func55, Tryz.ntmps55
    go_upto_region 1 with fail
    change Code.wp _ _ _ _ (w.alloc (.cells #[.pointer none, .pointer (some ⟨B, j, none⟩)] 107))
    generalize w.alloc (.cells #[.pointer none, .pointer (some ⟨B, j, none⟩)] 107) = w1 at HX HB hc' ⊢
    have c0 : w1.cell? ⟨w.heap.size, 0, none⟩ = some (.pointer none) := HX.out.cell 0 rfl
    have c1 : w1.cell? ⟨w.heap.size, 1, none⟩ = some (.pointer (some ⟨B, j, none⟩)) := HX.out.cell 1 rfl
    go_wp2_with fail
    go_ret
    exact ⟨rfl, HB.out⟩
set_option maxRecDepth 20000 in
theorem set_any (k : Bool) (B j : Nat) (v u : Int) (cs : Array Value) (T : TypeId) (w : World) (hb : Blk w B cs T) (hu : cs[j]? = some (.int .i64 u)) :
    Calls Tryz.prog 78 #[.agg (numC (k, ⟨B, j, none⟩)), .int .i64 v] w fun e w' => e = .returned (.tuple #[]) ∧ Blk w' B (cs.setIfInBounds j (.int .i64 v)) T ∧ Chg w.heap.size B w w' := by
  cases k with
  | true =>
    have HX := Lib.hid (Blk.new w #[.pointer (some ⟨B, j, none⟩), .pointer none] 107 w.heap.size rfl)
    have HB := Lib.hid ((Chg.refl w.heap.size B w).alloc (Nat.le_refl _) (.cells #[.pointer (some ⟨B, j, none⟩), .pointer none] 107))
    have HT := Lib.hid (hb.old (.cells #[.pointer (some ⟨B, j, none⟩), .pointer none] 107))
    clear hb
    unfold numC
    rw [if_pos rfl]
    go_enter Tryz.func78, Tryz.ntmps78
    go_upto_region 1 with fail
    change Code.wp _ _ _ _ (w.alloc (.cells #[.pointer (some ⟨B, j, none⟩), .pointer none] 107))
    generalize w.alloc (.cells #[.pointer (some ⟨B, j, none⟩), .pointer none] 107) = w1 at HX HB HT ⊢
    have c0 : w1.cell? ⟨w.heap.size, 0, none⟩ = some (.pointer (some ⟨B, j, none⟩)) := HX.out.cell 0 rfl
    have c1 : w1.cell? ⟨w.heap.size, 1, none⟩ = some (.pointer none) := HX.out.cell 1 rfl
    have kj : w1.cell? ⟨B, j, none⟩ = some (.int .i64 u) := HT.out.cell j hu
    have fj := HT.out.free j
    go_wp2_with fail
    go_end0
    exact ⟨rfl, HT.out.set j _, HB.out.setCell _ _ (.inl rfl)⟩
  | false =>
    have HX := Lib.hid (Blk.new w #[.pointer none, .pointer (some ⟨B, j, none⟩)] 107 w.heap.size rfl)
    have HB := Lib.hid ((Chg.refl w.heap.size B w).alloc (Nat.le_refl _) (.cells #[.pointer none, .pointer (some ⟨B, j, none⟩)] 107))
    have HT := Lib.hid (hb.old (.cells #[.pointer none, .pointer (some ⟨B, j, none⟩)] 107))
    clear hb
    unfold numC
    rw [if_neg (fun h => by cases h)]
    go_enter Tryz.func78, Tryz.ntmps78
    go_upto_region 1 with fail
    change Code.wp _ _ _ _ (w.alloc (.cells #[.pointer none, .pointer (some ⟨B, j, none⟩)] 107))
    generalize w.alloc (.cells #[.pointer none, .pointer (some ⟨B, j, none⟩)] 107) = w1 at HX HB HT ⊢
    have c0 : w1.cell? ⟨w.heap.size, 0, none⟩ = some (.pointer none) := HX.out.cell 0 rfl
    have c1 : w1.cell? ⟨w.heap.size, 1, none⟩ = some (.pointer (some ⟨B, j, none⟩)) := HX.out.cell 1 rfl
    have kj : w1.cell? ⟨B, j, none⟩ = some (.int .i64 u) := HT.out.cell j hu
    have fj := HT.out.free j
    go_wp2_with fail
    refine bodyPost_ret (results_none rfl _ _ _) rfl ?_
    exact ⟨rfl, HT.out.set j _, HB.out.setCell _ _ (.inl rfl)⟩
end Go.Proofs.YtmkcooamgojbpaaGreatDoor.Sheet

/- sheet.must. -/
namespace Go.Proofs.YtmkcooamgojbpaaGreatDoor.Sheet
open Go.RowKit Go.Proofs.YtmkcooamgojbpaaGreatDoor.Kit Go.Proofs.YtmkcooamgojbpaaGreatDoor.Blk Go.Proofs.YtmkcooamgojbpaaGreatDoor.Words Go.Proofs.YtmkcooamgojbpaaGreatDoor.Octets Go.Proofs.YtmkcooamgojbpaaGreatDoor.Lines
attribute [local go_sem ↓] Go.wp_at_zero Go.wp_at_succ
set_option linter.unusedVariables false

theorem must_true (w : World) : Calls Tryz.prog 50 #[.bool true] w fun e w' => e = .returned (.tuple #[]) ∧ w = w' := by
  go_enter Tryz.func50, Tryz.ntmps50
  go_wp2_with fail
  go_end0
  exact ⟨rfl, rfl⟩
theorem must_false (w : World) : Calls Tryz.prog 50 #[.bool false] w fun e w' => e = badE ∧ w = w' := by
  go_enter Tryz.func50, Tryz.ntmps50
  go_wp2_with fail
  exact ⟨rfl, rfl, rfl⟩
end Go.Proofs.YtmkcooamgojbpaaGreatDoor.Sheet

/- sheet.try: what may give up. -/
namespace Go.Proofs.YtmkcooamgojbpaaGreatDoor.Sheet
open Go.RowKit Go.Proofs.YtmkcooamgojbpaaGreatDoor.Kit Go.Proofs.YtmkcooamgojbpaaGreatDoor.Blk Go.Proofs.YtmkcooamgojbpaaGreatDoor.Words Go.Proofs.YtmkcooamgojbpaaGreatDoor.Octets Go.Proofs.YtmkcooamgojbpaaGreatDoor.Lines Go.Proofs.YtmkcooamgojbpaaGreatDoor.Dec
attribute [local go_sem ↓] Go.wp_at_zero Go.wp_at_succ
set_option linter.unusedVariables false
set_option linter.unusedSimpArgs false

set_option maxRecDepth 20000 in
set_option maxHeartbeats 2000000 in
theorem try_panicking (F : Nat) (x : Int) (older : List PanicEntry) (w : World) (hB : Blk w F #[.int .i64 x] 30) :
    CallsD Tryz.prog 75 #[.pointer (some ⟨F, 0, none⟩)] (.panicking ({ v := errW, recovered := false } :: older)) w fun e u' w' =>
      e = .returned (.tuple #[]) ∧ u' = .panicking ({ v := errW, recovered := true } :: older) ∧ Blk w' F #[.int .i64 4] 30 ∧ ∀ n, n ≤ F → Below n w w' := by
  refine callsD_of_wpS Tryz.func75 rfl fun c₀ cs hu => ?_
  apply wpS_seq
  apply wpS_region
  simp [wpOpsS, go_sem, recoverD, hu, Tryz.ntmps75, Exit.thenS, errW]
  apply wpS_seq
  apply wpS_region
  simp [wpOpsS, go_sem, Exit.thenS]
  refine wpS_cond (t := true) (by simp [Act.eval, Array.replicate]) ?_
  simp only [if_true]
  apply wpS_of_wp
  have hta : ∀ w, (Instr.typeAssert (.iface 30 (.int .i64 4)) 20 30 false).run Tryz.prog w = .ok (.int .i64 4) w := fun _ => by kernel_rfl
  have HB := Lib.hid hB
  have c0 := hB.cell 0 rfl
  have f0 := hB.free 0
  clear hB
  change Code.wp _ _ _ { tmps := #[.pointer (some ⟨F, 0, none⟩), .iface 30 (.int .i64 4), .iface 30 (.int .i64 4), .iface 30 (.int .i64 4), .bool true, undef, undef], defers := [] } _
  go_wp2_with fail
  simp [bodyPostS, results, Tryz.results75]
  exact ⟨HB.out.set 0 _, fun n hn => (Below.refl n w).setCell hn _⟩
theorem try_idle (p : Value) (w : World) :
    CallsD Tryz.prog 75 #[p] .returning w fun e u' w' => e = .returned (.tuple #[]) ∧ u' = .returning ∧ w' = w := by
  refine callsD_of_wpS Tryz.func75 rfl fun c₀ cs hu => ?_
  apply wpS_seq
  apply wpS_region
  simp [wpOpsS, go_sem, recoverD, hu, Tryz.ntmps75, Exit.thenS]
  apply wpS_seq
  apply wpS_region
  simp [wpOpsS, go_sem, Exit.thenS]
  refine wpS_cond (t := false) (by simp [Act.eval, Array.replicate]) ?_
  simp only [Bool.false_eq_true, if_false]
  refine wpS_of_wp (wp_skip ?_)
  cases c₀
  simp_all [bodyPostS, results, Tryz.results75]
theorem results_int {P : Program} {fn : Func} {u : Tmp} {ti : TypeId} {tmps : Array Value} {w : World} {C : Nat} {x : Int} (h : fn.results = #[.cell u ti]) (hq : tmps.getD u undef = .pointer (some ⟨C, 0, none⟩))
    (hx : (loadVar ti ⟨C, 0, none⟩).run P w = .ok (.int .i64 x) w) : (results fn tmps).run P w = .ok (.int .i64 x) w := by
  have hq' : tmps[u]?.getD undef = .pointer (some ⟨C, 0, none⟩) := by simpa using hq
  simp [results, h, hq', asAddr, hx]
/-- What a trying comes to: R true: it went well. -/
def TryIs (R : Bool → World → Prop) (w : World) (e : Ending) (w' : World) : Prop := ∃ b W, R b W ∧ e = .returned (.int .i64 (if b = true then 0 else 4)) ∧ Below w.heap.size W w'
set_option maxRecDepth 20000 in
set_option maxHeartbeats 2000000 in
theorem try_of (g : FuncId) (caps : Array Value) (hgo : ∀ w, (callFunc g caps).run Tryz.prog w = .ok (.enter g caps) w) (R : Bool → World → Prop) (w : World)
    (hc : Calls Tryz.prog g caps (w.alloc (.cells #[.int .i64 0] 30)) fun e W => (e = .returned (.tuple #[]) ∧ R true W) ∨ (e = badE ∧ R false W))
    (hF : ∀ b W, R b W → Blk W w.heap.size #[.int .i64 0] 30) :
    Calls Tryz.prog 37 #[.func (.func g) #[] caps] w (TryIs R w) := by
  have hmf : ∀ (fn : Fn) (first cap : Array Value) (w : World), (Instr.makeFunc fn first cap).run Tryz.prog w = .ok (.func fn first cap) w := fun _ _ _ _ => rfl
  have HC := Lib.hid hc
  have HF := Lib.hid hF
  clear hc hF
  go_enter_defers Tryz.func37, Tryz.ntmps37
  go_wp2_with fail
  refine HC.out.mono ?_
  clear HC
  rintro e w1 (⟨rfl, hr⟩ | ⟨rfl, hr⟩)
  · have HB := Lib.hid (HF.out _ _ hr)
    have HR := Lib.hid hr
    have c0 := HB.out.cell 0 rfl
    have f0 := HB.out.free 0
    clear hr
    go_wp2_with fail
    have HB2 := Lib.hid (show Blk (w1.setCell ⟨w.heap.size, 0, none⟩ (.int .i64 0)) w.heap.size #[.int .i64 0] 30 from HB.out.set 0 _)
    have HW := Lib.hid (show Below w.heap.size w1 (w1.setCell ⟨w.heap.size, 0, none⟩ (.int .i64 0)) from (Below.refl _ _).setCell (p := ⟨w.heap.size, 0, none⟩) (Nat.le_refl w.heap.size) _)
    generalize w1.setCell ⟨w.heap.size, 0, none⟩ (.int .i64 0) = w2 at HB2 HW ⊢
    have c2 := HB2.out.cell 0 rfl
    refine leaves_cons (f := 75) (args := #[.pointer (some ⟨w.heap.size, 0, none⟩)]) (by simp) (by simp [go_sem]) ?_
    refine (try_idle _ w2).mono ?_
    rintro e u' w6 ⟨rfl, rfl, rfl⟩
    exact ⟨_, results_int rfl rfl (by simp [go_sem, c2]), true, w1, HR.out, rfl, HW.out⟩
  · have HB := Lib.hid (HF.out _ _ hr)
    have HR := Lib.hid hr
    clear hr
    go_wp2_with fail
    refine leaves_cons (f := 75) (args := #[.pointer (some ⟨w.heap.size, 0, none⟩)]) (by simp) (by simp [go_sem]) ?_
    refine (try_panicking w.heap.size 0 [] w1 HB.out).mono ?_
    rintro e u' w4 ⟨rfl, rfl, h1, h2⟩
    have c2 : w4.cell? ⟨w.heap.size, 0, none⟩ = some (.int .i64 4) := h1.cell 0 rfl
    exact ⟨_, results_int rfl rfl (by simp [go_sem, c2]), false, w1, HR.out, rfl, h2 _ (Nat.le_refl _)⟩
end Go.Proofs.YtmkcooamgojbpaaGreatDoor.Sheet

/- damperref40.Fields. -/
namespace Go.Proofs.YtmkcooamgojbpaaGreatDoor.Sheet
open Go.RowKit Go.Proofs.YtmkcooamgojbpaaGreatDoor.Kit Go.Proofs.YtmkcooamgojbpaaGreatDoor.Blk Go.Proofs.YtmkcooamgojbpaaGreatDoor.Words Go.Proofs.YtmkcooamgojbpaaGreatDoor.Octets Go.Proofs.YtmkcooamgojbpaaGreatDoor.Symbol
attribute [local go_sem ↓] Go.wp_at_zero Go.wp_at_succ
set_option linter.unusedVariables false

set_option maxRecDepth 20000 in
theorem rfields_any (s : Sym) (w : World) :
    Calls Tryz.prog 28 #[.agg s.cells] w fun e w' => ∃ g, e = .returned (.slice (some ⟨g, 0, none⟩) 16 16) ∧ Blk w' g s.cells 2 ∧ Below w.heap.size w w' := by
  have HX := Lib.hid (Blk.new w s.cells 46 w.heap.size rfl)
  have HB := Lib.hid ((Below.refl w.heap.size w).alloc (Nat.le_refl _) (.cells s.cells 46))
  unfold Sym.cells at HX HB ⊢
  go_enter Tryz.func28, Tryz.ntmps28
  go_upto_region 1 with fail
  change Code.wp _ _ _ _ (w.alloc (.cells s.cells 46))
  change Hid (Blk (w.alloc (.cells s.cells 46)) _ _ _) at HX
  change Hid (Below _ _ (w.alloc (.cells s.cells 46))) at HB
  generalize w.alloc (.cells s.cells 46) = w1 at HX HB ⊢
  have c0 := HX.out.cell 0 rfl
  have c1 := HX.out.cell 1 rfl
  have c2 := HX.out.cell 2 rfl
  have c3 := HX.out.cell 3 rfl
  have c4 := HX.out.cell 4 rfl
  have c5 := HX.out.cell 5 rfl
  have c6 := HX.out.cell 6 rfl
  have c7 := HX.out.cell 7 rfl
  have c8 := HX.out.cell 8 rfl
  have c9 := HX.out.cell 9 rfl
  have c10 := HX.out.cell 10 rfl
  have c11 := HX.out.cell 11 rfl
  have c12 := HX.out.cell 12 rfl
  have c13 := HX.out.cell 13 rfl
  have c14 := HX.out.cell 14 rfl
  have c15 := HX.out.cell 15 rfl
  go_wp2_with fail
  go_ret
  exact ⟨_, rfl, Blk.new _ _ _ _ rfl, HB.out.alloc HB.out.size _⟩
end Go.Proofs.YtmkcooamgojbpaaGreatDoor.Sheet
