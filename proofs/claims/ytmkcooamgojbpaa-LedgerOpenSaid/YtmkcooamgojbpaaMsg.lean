/- Messages: nine numbers each; a row of them in memory, and as an argument. -/
import Derived.Test.YtmkcooamgojbpaaOpenRows
import Derived.Test.YtmkcooamgojbpaaBlkRow
namespace Go.Proofs.Ytmkcooamgojbpaa.Msgs
open Go.ChangeShapes Go.WideShapes Go.Deep Go.RowKit Go.Proofs.Ytmkcooamgojbpaa.Open Go.Proofs.Ytmkcooamgojbpaa.Kit Go.Proofs.Ytmkcooamgojbpaa.Blk

structure Msg where
  kind : Int
  sym : Int
  seq : Int
  tick : Int
  id : Int
  wth : Int
  price : Int
  qty : Int
  code : Int
def Msg.cells (m : Msg) : Array Value := #[.int .i64 m.kind, .int .i64 m.sym, .int .i64 m.seq, .int .i64 m.tick, .int .i64 m.id, .int .i64 m.wth, .int .i64 m.price, .int .i64 m.qty, .int .i64 m.code]

/-- A row of messages in memory. -/
def MsgRow (w : World) (a : Option Addr) (l : List Msg) : Prop :=
  ∀ i, (h : i < l.length) → ∃ b off, a = some ⟨b, off, none⟩ ∧ b < w.heap.size ∧ ∀ (j : Nat) (v : Value), l[i].cells[j]? = some v → w.cell? ⟨b, off + i * 9 + j, none⟩ = some v
theorem MsgRow.below {w w' : World} {n : Nat} {a : Option Addr} {l : List Msg} (h : MsgRow w a l) (hb : Below n w w') (hn : ∀ b off, a = some ⟨b, off, none⟩ → b < w.heap.size → b < n) : MsgRow w' a l := by
  intro i hi
  obtain ⟨b, off, ha, hl, hc⟩ := h i hi
  exact ⟨b, off, ha, Nat.lt_of_lt_of_le hl hb.size, fun j v hv => by rw [hb.cell (p := ⟨b, _, none⟩) (hn b off ha hl)]; exact hc j v hv⟩
theorem MsgRow.all {w w' : World} {a : Option Addr} {l : List Msg} (h : MsgRow w a l) (hb : Below w.heap.size w w') : MsgRow w' a l := h.below hb (fun _ _ _ h => h)
theorem msgRow_at {w : World} {a : Option Addr} {l : List Msg} (h : MsgRow w a l) (k : Nat) (hk : k < l.length) : ∃ b off, a = some ⟨b, off, none⟩ ∧ b < w.heap.size ∧ w.rangeAt b (off + k * 9) l[k].cells.toList := by
  obtain ⟨b, off, ha, hl, hc⟩ := h k hk
  exact ⟨b, off, ha, hl, fun j v hv => hc j v (by simpa using hv)⟩

/-- A number of 64 bits in each field. -/
def Fits (m : Msg) : Prop := in64 m.kind ∧ in64 m.sym ∧ in64 m.seq ∧ in64 m.tick ∧ in64 m.id ∧ in64 m.wth ∧ in64 m.price ∧ in64 m.qty ∧ in64 m.code

section
variable {H : Type} {enc : TypeId × Value → H} {w : World} {base : Nat} {spare : Nat → Bool} {held : Bool}
def msgOf (f : Nat → Int) : Msg := ⟨f 0, f 1, f 2, f 3, f 4, f 5, f 6, f 7, f 8⟩
theorem msgOf_cells (f : Nat → Int) (j : Nat) (v : Value) (h : (msgOf f).cells[j]? = some v) : j < 9 ∧ v = .int .i64 (f j) := by
  have hj : j < 9 := (Array.getElem?_eq_some_iff.1 h).1
  refine ⟨hj, ?_⟩
  have : j = 0 ∨ j = 1 ∨ j = 2 ∨ j = 3 ∨ j = 4 ∨ j = 5 ∨ j = 6 ∨ j = 7 ∨ j = 8 := by omega
  rcases this with rfl | rfl | rfl | rfl | rfl | rfl | rfl | rfl | rfl <;> (simp [msgOf, Msg.cells] at h; exact h.symm)
theorem sMsg : Try.prog.cellsOf 33 = 9 := by kernel_rfl
set_option maxRecDepth 100000 in
theorem open_msgs {r : Reach} {b0 : Nat} {v : Value} {d : DataW H} {p : List MemPlace} (hv : Value.okWide Try.prog w r b0 22 v) (h : DataW.Trod enc Try.prog w base spare held 22 v d p) :
    ∃ (a : Option Addr) (cap : Nat) (l : List Msg), v = .slice a l.length cap ∧ l.length ≤ maxLen ∧ MsgRow w a l ∧ ∀ m ∈ l, Fits m := by
  obtain ⟨a0, n0, c0, rfl⟩ := okWide_slice Try.underlying22 hv
  obtain ⟨fuel, hf⟩ := h
  have hf' : DataW.trod enc Try.prog w base spare held fuel 22 [.slice a0 n0 c0] = some (d, p) := hf
  obtain ⟨a, n, cap, F, he, hmx, hF⟩ := open_rows Try.underlying22 Try.underlying33 (by kernel_rfl) sMsg (by decide) (by intro f hf; simp only [List.mem_cons, List.not_mem_nil, or_false] at hf; rcases hf with rfl | rfl | rfl | rfl | rfl | rfl | rfl | rfl | rfl <;> first | exact Try.underlying2 | exact Try.underlying3) hf'
  refine ⟨a, cap, (List.range n).map fun i => msgOf (F i), by rw [he]; simp, by simpa using hmx, ?_, ?_⟩
  · intro i hi
    simp only [List.length_map, List.length_range] at hi
    obtain ⟨b, off, hb, hl, hc⟩ := hF i hi
    refine ⟨b, off, hb, hl, fun j v hv => ?_⟩
    simp only [List.getElem_map, List.getElem_range] at hv
    obtain ⟨hj, hv⟩ := msgOf_cells (F i) j v hv
    rw [hv]
    exact (hc j hj).1
  · intro m hm
    obtain ⟨i, hi, rfl⟩ := List.mem_map.1 hm
    obtain ⟨b, off, hb, hl, hc⟩ := hF i (List.mem_range.1 hi)
    exact ⟨(hc 0 (by decide)).2, (hc 1 (by decide)).2, (hc 2 (by decide)).2, (hc 3 (by decide)).2, (hc 4 (by decide)).2, (hc 5 (by decide)).2, (hc 6 (by decide)).2, (hc 7 (by decide)).2, (hc 8 (by decide)).2⟩
end
end Go.Proofs.Ytmkcooamgojbpaa.Msgs
