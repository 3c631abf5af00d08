/- Parts of the proof: Msg, PhF. -/
import Derived.Test.YtmkcooamgojbpaaDoorPart8
import Derived.Test.YtmkcooamgojbpaaDoorPart6

/- Messages: nine numbers each; a row of them in memory, and as an argument. -/
namespace Go.Proofs.YtmkcooamgojbpaaDoor.Msgs
open Go.ChangeShapes Go.WideShapes Go.Deep Go.RowKit Go.Proofs.YtmkcooamgojbpaaDoor.Open Go.Proofs.YtmkcooamgojbpaaDoor.Kit Go.Proofs.YtmkcooamgojbpaaDoor.Blk

structure Msg where
  kind : Int
  sym : Int
  seq : Int
  tick : Int
  id : Int
  wth : Int
  price : Int
  qty : Int
  code : Int
def Msg.cells (m : Msg) : Array Value := #[.int .i64 m.kind, .int .i64 m.sym, .int .i64 m.seq, .int .i64 m.tick, .int .i64 m.id, .int .i64 m.wth, .int .i64 m.price, .int .i64 m.qty, .int .i64 m.code]

/-- A row of messages in memory. -/
def MsgRow (w : World) (a : Option Addr) (l : List Msg) : Prop :=
  ∀ i, (h : i < l.length) → ∃ b off, a = some ⟨b, off, none⟩ ∧ b < w.heap.size ∧ ∀ (j : Nat) (v : Value), l[i].cells[j]? = some v → w.cell? ⟨b, off + i * 9 + j, none⟩ = some v
theorem MsgRow.below {w w' : World} {n : Nat} {a : Option Addr} {l : List Msg} (h : MsgRow w a l) (hb : Below n w w') (hn : ∀ b off, a = some ⟨b, off, none⟩ → b < w.heap.size → b < n) : MsgRow w' a l := by
  intro i hi
  obtain ⟨b, off, ha, hl, hc⟩ := h i hi
  exact ⟨b, off, ha, Nat.lt_of_lt_of_le hl hb.size, fun j v hv => by rw [hb.cell (p := ⟨b, _, none⟩) (hn b off ha hl)]; exact hc j v hv⟩
theorem MsgRow.all {w w' : World} {a : Option Addr} {l : List Msg} (h : MsgRow w a l) (hb : Below w.heap.size w w') : MsgRow w' a l := h.below hb (fun _ _ _ h => h)
theorem msgRow_at {w : World} {a : Option Addr} {l : List Msg} (h : MsgRow w a l) (k : Nat) (hk : k < l.length) : ∃ b off, a = some ⟨b, off, none⟩ ∧ b < w.heap.size ∧ w.rangeAt b (off + k * 9) l[k].cells.toList := by
  obtain ⟨b, off, ha, hl, hc⟩ := h k hk
  exact ⟨b, off, ha, hl, fun j v hv => hc j v (by simpa using hv)⟩

/-- A number of 64 bits in each field. -/
def Fits (m : Msg) : Prop := in64 m.kind ∧ in64 m.sym ∧ in64 m.seq ∧ in64 m.tick ∧ in64 m.id ∧ in64 m.wth ∧ in64 m.price ∧ in64 m.qty ∧ in64 m.code

section
variable {H : Type} {enc : TypeId × Value → H} {w : World} {base : Nat} {spare : Nat → Bool} {held : Bool}
def msgOf (f : Nat → Int) : Msg := ⟨f 0, f 1, f 2, f 3, f 4, f 5, f 6, f 7, f 8⟩
theorem msgOf_cells (f : Nat → Int) (j : Nat) (v : Value) (h : (msgOf f).cells[j]? = some v) : j < 9 ∧ v = .int .i64 (f j) := by
  have hj : j < 9 := (Array.getElem?_eq_some_iff.1 h).1
  refine ⟨hj, ?_⟩
  have : j = 0 ∨ j = 1 ∨ j = 2 ∨ j = 3 ∨ j = 4 ∨ j = 5 ∨ j = 6 ∨ j = 7 ∨ j = 8 := by omega
  rcases this with rfl | rfl | rfl | rfl | rfl | rfl | rfl | rfl | rfl <;> (simp [msgOf, Msg.cells] at h; exact h.symm)
theorem sMsg : Tryd.prog.cellsOf 62 = 9 := by kernel_rfl
set_option maxRecDepth 100000 in
theorem open_msgs {r : Reach} {b0 : Nat} {v : Value} {d : DataW H} {p : List MemPlace} (hv : Value.okWide Tryd.prog w r b0 65 v) (h : DataW.Trod enc Tryd.prog w base spare held 65 v d p) :
    ∃ (a : Option Addr) (cap : Nat) (l : List Msg), v = .slice a l.length cap ∧ l.length ≤ maxLen ∧ MsgRow w a l ∧ ∀ m ∈ l, Fits m := by
  obtain ⟨a0, n0, c0, rfl⟩ := okWide_slice Tryd.underlying65 hv
  obtain ⟨fuel, hf⟩ := h
  have hf' : DataW.trod enc Tryd.prog w base spare held fuel 65 [.slice a0 n0 c0] = some (d, p) := hf
  obtain ⟨a, n, cap, F, he, hmx, hF⟩ := open_rows Tryd.underlying65 Tryd.underlying62 (by kernel_rfl) sMsg (by decide) (by intro f hf; simp only [List.mem_cons, List.not_mem_nil, or_false] at hf; rcases hf with rfl | rfl | rfl | rfl | rfl | rfl | rfl | rfl | rfl <;> first | exact Tryd.underlying2 | exact Tryd.underlying3) hf'
  refine ⟨a, cap, (List.range n).map fun i => msgOf (F i), by rw [he]; simp, by simpa using hmx, ?_, ?_⟩
  · intro i hi
    simp only [List.length_map, List.length_range] at hi
    obtain ⟨b, off, hb, hl, hc⟩ := hF i hi
    refine ⟨b, off, hb, hl, fun j v hv => ?_⟩
    simp only [List.getElem_map, List.getElem_range] at hv
    obtain ⟨hj, hv⟩ := msgOf_cells (F i) j v hv
    rw [hv]
    exact (hc j hj).1
  · intro m hm
    obtain ⟨i, hi, rfl⟩ := List.mem_map.1 hm
    obtain ⟨b, off, hb, hl, hc⟩ := hF i (List.mem_range.1 hi)
    exact ⟨(hc 0 (by decide)).2, (hc 1 (by decide)).2, (hc 2 (by decide)).2, (hc 3 (by decide)).2, (hc 4 (by decide)).2, (hc 5 (by decide)).2, (hc 6 (by decide)).2, (hc 7 (by decide)).2, (hc 8 (by decide)).2⟩
end
end Go.Proofs.YtmkcooamgojbpaaDoor.Msgs

/- Phases: plain. -/
namespace Go.Proofs.YtmkcooamgojbpaaDoor.Phases
open Go.RowKit Go.Proofs.YtmkcooamgojbpaaDoor.Msgs
set_option linter.unusedVariables false

structure Six where
  a : Int
  b : Int
  c : Int
  d : Int
  e : Int
  f : Int
def Six.cells (s : Six) : Array Value := #[.int .i64 s.a, .int .i64 s.b, .int .i64 s.c, .int .i64 s.d, .int .i64 s.e, .int .i64 s.f]
def six0 : Six := ⟨0, 0, 0, 0, 0, 0⟩
def Six.get (s : Six) (p : Int) : Int := if p = 0 then s.a else if p = 1 then s.b else if p = 2 then s.c else if p = 3 then s.d else if p = 4 then s.e else s.f
def Six.add (s : Six) (p n : Int) : Six := if p = 0 then ⟨s.a + n, s.b, s.c, s.d, s.e, s.f⟩ else if p = 1 then ⟨s.a, s.b + n, s.c, s.d, s.e, s.f⟩ else if p = 2 then ⟨s.a, s.b, s.c + n, s.d, s.e, s.f⟩
  else if p = 3 then ⟨s.a, s.b, s.c, s.d + n, s.e, s.f⟩ else if p = 4 then ⟨s.a, s.b, s.c, s.d, s.e + n, s.f⟩ else ⟨s.a, s.b, s.c, s.d, s.e, s.f + n⟩
/-- Where the clock stands. -/
structure Ph where
  p : Int
  t : Int
  s : Six
def ph0 : Ph := ⟨0, 0, six0⟩
def PhB (sym lim : Int) (x : Ph) (m : Msg) : Prop := ((((m.kind = 6 ∧ m.sym = sym) ∧ 0 ≤ m.code) ∧ m.code ≤ 5) ∧ x.t ≤ m.tick) ∧ m.tick ≤ lim
instance (sym lim : Int) (x : Ph) (m : Msg) : Decidable (PhB sym lim x m) := by unfold PhB; exact inferInstance
def turnF (x : Ph) (code n : Int) : Ph := ⟨code, n, x.s.add x.p (n - x.t)⟩
def phStep (sym lim : Int) (x : Ph) (m : Msg) : Ph := if PhB sym lim x m then turnF x m.code m.tick else x
def phF (sym lim : Int) (l : List Msg) : Ph := l.foldl (phStep sym lim) ph0
theorem ph_snoc (sym lim : Int) (l : List Msg) (m : Msg) : phF sym lim (l ++ [m]) = phStep sym lim (phF sym lim l) m := by simp [phF, List.foldl_append]
/-- The sums are what has gone by. -/
structure PhOk (lim : Int) (x : Ph) : Prop where
  p : 0 ≤ x.p ∧ x.p ≤ 5
  t : 0 ≤ x.t ∧ x.t ≤ lim
  s : (0 ≤ x.s.a ∧ 0 ≤ x.s.b ∧ 0 ≤ x.s.c) ∧ 0 ≤ x.s.d ∧ 0 ≤ x.s.e ∧ 0 ≤ x.s.f
  sum : x.s.a + x.s.b + x.s.c + x.s.d + x.s.e + x.s.f = x.t
theorem ok_start {lim : Int} (h : 0 ≤ lim) : PhOk lim ph0 := ⟨⟨by decide, by decide⟩, ⟨by decide, h⟩, by decide, rfl⟩
theorem ok_turn {lim : Int} {x : Ph} (h : PhOk lim x) {code n : Int} (h0 : 0 ≤ code) (h5 : code ≤ 5) (ht : x.t ≤ n) (hn : n ≤ lim) : PhOk lim (turnF x code n) := by
  obtain ⟨⟨p0, p5⟩, ⟨t0, t1⟩, ⟨⟨a, b, c⟩, d, e, f⟩, s⟩ := h
  have hp : x.p = 0 ∨ x.p = 1 ∨ x.p = 2 ∨ x.p = 3 ∨ x.p = 4 ∨ x.p = 5 := by omega
  unfold turnF
  refine ⟨⟨h0, h5⟩, ⟨by show 0 ≤ n; omega, hn⟩, ?_, ?_⟩ <;> dsimp only
  · rcases hp with e1 | e1 | e1 | e1 | e1 | e1 <;> rw [e1] <;> simp [Six.add] <;> omega
  · rcases hp with e1 | e1 | e1 | e1 | e1 | e1 <;> rw [e1] <;> simp [Six.add] <;> omega
theorem ok_step {sym lim : Int} {x : Ph} (h : PhOk lim x) (m : Msg) : PhOk lim (phStep sym lim x m) := by
  unfold phStep
  split
  · rename_i hb
    exact ok_turn h hb.1.1.1.2 hb.1.1.2 hb.1.2 hb.2
  · exact h
/-- What both answer. -/
def phasesF (l : List Msg) (sym lim : Int) : Six := if lim < 0 then six0 else (turnF (phF sym lim l) 0 lim).s
theorem wrap_ok {n : Int} (h0 : -9223372036854775808 ≤ n) (h1 : n ≤ 9223372036854775807) : IntKind.i64.wrap n = n := by
  rw [IntKind.wrap_i64]
  omega
theorem wrap_two {x y z : Int} (h0 : -9223372036854775808 ≤ x + y - z) (h1 : x + y - z ≤ 9223372036854775807) : IntKind.i64.wrap (IntKind.i64.wrap (x + y) - z) = x + y - z := by
  rw [IntKind.wrap_i64, IntKind.wrap_i64]
  omega
end Go.Proofs.YtmkcooamgojbpaaDoor.Phases
