/- Messages that came in, opened. -/
import Derived.Test.YtggkhnmhhifniaaOpenMsg
import Derived.Test.YtggkhnmhhifniaaWatchAlls
namespace Go.Proofs.Ytggkhnmhhifniaa.Open
open Go.ChangeShapes Go.WideShapes Go.Deep Go.RowKit Go.Proofs.Ytggkhnmhhifniaa.Watch

section
variable {H : Type} {enc : TypeId × Value → H} {w : World} {base : Nat} {spare : Nat → Bool} {held : Bool}
def msgOf (f : Nat → Int) : Msg := ⟨f 0, f 1, f 2, f 3, f 4, f 5, f 6, f 7, f 8⟩
theorem msgOf_cells (f : Nat → Int) (j : Nat) (v : Value) (h : (msgOf f).cells[j]? = some v) : j < 9 ∧ v = .int .i64 (f j) := by
  have hj : j < 9 := (Array.getElem?_eq_some_iff.1 h).1
  refine ⟨hj, ?_⟩
  have : j = 0 ∨ j = 1 ∨ j = 2 ∨ j = 3 ∨ j = 4 ∨ j = 5 ∨ j = 6 ∨ j = 7 ∨ j = 8 := by omega
  rcases this with rfl | rfl | rfl | rfl | rfl | rfl | rfl | rfl | rfl <;> (simp [msgOf, Msg.cells] at h; exact h.symm)
theorem sMsgs : Try.prog.cellsOf 28 = 1 := by kernel_rfl
set_option maxRecDepth 100000 in
theorem open_msgs {r : Reach} {b0 : Nat} {v : Value} {d : DataW H} {p : List MemPlace} (hv : Value.okWide Try.prog w r b0 28 v) (h : DataW.Trod enc Try.prog w base spare held 28 v d p) :
    ∃ (a : Option Addr) (cap : Nat) (l : List Msg), v = .slice a l.length cap ∧ MsgRow w a l ∧ Seqs l := by
  obtain ⟨a0, n0, c0, rfl⟩ := okWide_slice Try.underlying28 hv
  obtain ⟨fuel, hf⟩ := h
  have hf' : DataW.trod enc Try.prog w base spare held fuel 28 [.slice a0 n0 c0] = some (d, p) := hf
  obtain ⟨a, n, cap, F, he, _, hF⟩ := open_rows Try.underlying28 Try.underlying40 (by kernel_rfl) sMsg (by decide) (by intro f hf; simp only [List.mem_cons, List.not_mem_nil, or_false] at hf; rcases hf with rfl | rfl | rfl | rfl | rfl | rfl | rfl | rfl | rfl <;> first | exact Try.underlying2 | exact Try.underlying3) hf'
  refine ⟨a, cap, (List.range n).map fun i => msgOf (F i), by rw [he]; simp, ?_, ?_⟩
  · intro i hi
    simp only [List.length_map, List.length_range] at hi
    obtain ⟨b, off, hb, hl, hc⟩ := hF i hi
    refine ⟨b, off, hb, hl, fun j v hv => ?_⟩
    simp only [List.getElem_map, List.getElem_range] at hv
    obtain ⟨hj, hv⟩ := msgOf_cells (F i) j v hv
    rw [hv]
    exact (hc j hj).1
  · intro i hi
    simp only [List.length_map, List.length_range] at hi
    obtain ⟨b, off, hb, hl, hc⟩ := hF i hi
    simp only [List.getElem_map, List.getElem_range]
    exact (hc 2 (by decide)).2
end
end Go.Proofs.Ytggkhnmhhifniaa.Open
