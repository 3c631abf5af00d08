/- A configuration that came in, opened: its value, its symbols and its table in memory. -/
import Derived.Test.YtggkhnmhhifniaaOpen
namespace Go.Proofs.Ytggkhnmhhifniaa.Open
open Go.ChangeShapes Go.WideShapes Go.Deep Go.RowKit Go.Proofs.Ytggkhnmhhifniaa.Kit Go.Proofs.Ytggkhnmhhifniaa.Symbol Go.Proofs.Ytggkhnmhhifniaa.Table Go.Proofs.Ytggkhnmhhifniaa.Check

section
variable {H : Type} {enc : TypeId × Value → H} {w : World} {base : Nat} {spare : Nat → Bool} {held : Bool}

theorem sCfg : Try.prog.cellsOf 27 = 8 := by kernel_rfl
theorem sSyms : Try.prog.cellsOf 22 = 1 := by kernel_rfl
theorem sTab : Try.prog.cellsOf 23 = 1 := by kernel_rfl
theorem s64 : Try.prog.cellsOf 2 = 1 := by kernel_rfl
theorem sInt : Try.prog.cellsOf 3 = 1 := by kernel_rfl
theorem s3i : Try.prog.cellsOf 24 = 3 := by kernel_rfl
theorem s2i : Try.prog.cellsOf 25 = 2 := by kernel_rfl
theorem sSym : Try.prog.cellsOf 73 = 16 := by kernel_rfl
theorem sRow : Try.prog.cellsOf 99 = 2 := by kernel_rfl

theorem array16 {l : List Value} (h : l.length = 8) : ∃ a b c d e f g i, l = [a, b, c, d, e, f, g, i] := by
  match l, h with
  | [a, b, c, d, e, f, g, i], _ => exact ⟨a, b, c, d, e, f, g, i, rfl⟩

def symOf (f : Nat → Int) : Sym := ⟨f 0, f 1, f 2, f 3, f 4, f 5, f 6, f 7, f 8, f 9, f 10, f 11, f 12, f 13, f 14, f 15⟩
theorem symOf_cells (f : Nat → Int) (j : Nat) (v : Value) (h : (symOf f).cells[j]? = some v) : j < 16 ∧ v = .int .i64 (f j) := by
  have hj : j < 16 := (Array.getElem?_eq_some_iff.1 h).1
  refine ⟨hj, ?_⟩
  have : j = 0 ∨ j = 1 ∨ j = 2 ∨ j = 3 ∨ j = 4 ∨ j = 5 ∨ j = 6 ∨ j = 7 ∨ j = 8 ∨ j = 9 ∨ j = 10 ∨ j = 11 ∨ j = 12 ∨ j = 13 ∨ j = 14 ∨ j = 15 := by omega
  rcases this with rfl | rfl | rfl | rfl | rfl | rfl | rfl | rfl | rfl | rfl | rfl | rfl | rfl | rfl | rfl | rfl <;> (simp [symOf, Sym.cells] at h; exact h.symm)

set_option maxRecDepth 100000 in
theorem open_cfg {r : Reach} {b0 : Nat} {v : Value} {d : DataW H} {p : List MemPlace} (hv : Value.okWide Try.prog w r b0 27 v) (h : DataW.Trod enc Try.prog w base spare held 27 v d p) :
    ∃ (c : Cfg) (sa ta : Option Addr) (sc tc : Nat), v = .agg (c.cells sa ta sc tc) ∧ c.In w sa ta := by
  obtain ⟨cs, rfl, hsz⟩ := okWide_struct Try.underlying27 hv
  obtain ⟨l⟩ := cs
  have hsz' : l.length = 8 := by rw [← sCfg]; exact hsz
  obtain ⟨v0, v1, v2, v3, v4, v5, v6, v7, rfl⟩ := array16 hsz'
  obtain ⟨fuel, hf⟩ := h
  obtain ⟨xs, n, _, _, _, hlen, hg⟩ := DataW.trod_struct Try.underlying27 hf
  have hl : xs.length = 5 := hlen
  have g0 : DataW.trod enc Try.prog w base spare held n 22 [v0] = xs[0]? := by
    have h : DataW.trod enc Try.prog w base spare held n 22 ((([v0, v1, v2, v3, v4, v5, v6, v7] : List Value).drop 0).take (Try.prog.cellsOf 22)) = xs[0]? := hg 0 _ rfl
    rw [sSyms] at h
    exact h
  have g1 : DataW.trod enc Try.prog w base spare held n 23 [v1] = xs[1]? := by
    have h : DataW.trod enc Try.prog w base spare held n 23 ((([v0, v1, v2, v3, v4, v5, v6, v7] : List Value).drop 1).take (Try.prog.cellsOf 23)) = xs[1]? := hg 1 _ rfl
    rw [sTab] at h
    exact h
  have g2 : DataW.trod enc Try.prog w base spare held n 2 [v2] = xs[2]? := by
    have h : DataW.trod enc Try.prog w base spare held n 2 ((([v0, v1, v2, v3, v4, v5, v6, v7] : List Value).drop 2).take (Try.prog.cellsOf 2)) = xs[2]? := hg 2 _ rfl
    rw [s64] at h
    exact h
  have g3 : DataW.trod enc Try.prog w base spare held n 24 [v3, v4, v5] = xs[3]? := by
    have h : DataW.trod enc Try.prog w base spare held n 24 ((([v0, v1, v2, v3, v4, v5, v6, v7] : List Value).drop 3).take (Try.prog.cellsOf 24)) = xs[3]? := hg 3 _ rfl
    rw [s3i] at h
    exact h
  have g4 : DataW.trod enc Try.prog w base spare held n 25 [v6, v7] = xs[4]? := by
    have h : DataW.trod enc Try.prog w base spare held n 25 ((([v0, v1, v2, v3, v4, v5, v6, v7] : List Value).drop 6).take (Try.prog.cellsOf 25)) = xs[4]? := hg 4 _ rfl
    rw [s2i] at h
    exact h
  have x0 : xs[0]? = some (xs[0]'(by omega)) := List.getElem?_eq_getElem (by omega)
  have x1 : xs[1]? = some (xs[1]'(by omega)) := List.getElem?_eq_getElem (by omega)
  have x2 : xs[2]? = some (xs[2]'(by omega)) := List.getElem?_eq_getElem (by omega)
  have x3 : xs[3]? = some (xs[3]'(by omega)) := List.getElem?_eq_getElem (by omega)
  have x4 : xs[4]? = some (xs[4]'(by omega)) := List.getElem?_eq_getElem (by omega)
  obtain ⟨sa, sn, sc, F, rfl, hsn, hF⟩ := open_rows Try.underlying22 Try.underlying73 (by kernel_rfl) sSym (by decide) (by intro f hf; simp only [List.mem_cons, List.not_mem_nil, or_false] at hf; rcases hf with rfl | rfl | rfl | rfl | rfl | rfl | rfl | rfl | rfl | rfl | rfl | rfl | rfl | rfl | rfl | rfl <;> first | exact Try.underlying2 | exact Try.underlying3) (g0.trans x0)
  obtain ⟨ta, tn, tc, G, rfl, htn, hG⟩ := open_rows Try.underlying23 Try.underlying99 (by kernel_rfl) sRow (by decide) (by intro f hf; simp only [List.mem_cons, List.not_mem_nil, or_false] at hf; rcases hf with rfl | rfl <;> first | exact Try.underlying2 | exact Try.underlying3) (g1.trans x1)
  obtain ⟨ix, hix, _, _⟩ := DataW.trod_int Try.underlying2 (g2.trans x2)
  simp only [List.cons.injEq, and_true] at hix
  subst hix
  obtain ⟨ys, m, _, _, _, hyl, hy⟩ := DataW.trod_array Try.underlying24 (g3.trans x3)
  obtain ⟨zs, k, _, _, _, hzl, hz⟩ := DataW.trod_array Try.underlying25 (g4.trans x4)
  have e0 : DataW.trod enc Try.prog w base spare held m 3 [v3] = some (ys[0]'(by omega)) := by
    have h := hy 0 (by decide)
    rw [sInt] at h
    exact h.trans (List.getElem?_eq_getElem (by omega))
  obtain ⟨n0, hn0, _, _⟩ := DataW.trod_int Try.underlying3 e0
  simp only [List.cons.injEq, and_true] at hn0
  subst hn0
  have e1 : DataW.trod enc Try.prog w base spare held m 3 [v4] = some (ys[1]'(by omega)) := by
    have h := hy 1 (by decide)
    rw [sInt] at h
    exact h.trans (List.getElem?_eq_getElem (by omega))
  obtain ⟨n1, hn1, _, _⟩ := DataW.trod_int Try.underlying3 e1
  simp only [List.cons.injEq, and_true] at hn1
  subst hn1
  have e2 : DataW.trod enc Try.prog w base spare held m 3 [v5] = some (ys[2]'(by omega)) := by
    have h := hy 2 (by decide)
    rw [sInt] at h
    exact h.trans (List.getElem?_eq_getElem (by omega))
  obtain ⟨n2, hn2, _, _⟩ := DataW.trod_int Try.underlying3 e2
  simp only [List.cons.injEq, and_true] at hn2
  subst hn2
  have e3 : DataW.trod enc Try.prog w base spare held k 2 [v6] = some (zs[0]'(by omega)) := by
    have h := hz 0 (by decide)
    rw [s64] at h
    exact h.trans (List.getElem?_eq_getElem (by omega))
  obtain ⟨n3, hn3, _, _⟩ := DataW.trod_int Try.underlying2 e3
  simp only [List.cons.injEq, and_true] at hn3
  subst hn3
  have e4 : DataW.trod enc Try.prog w base spare held k 2 [v7] = some (zs[1]'(by omega)) := by
    have h := hz 1 (by decide)
    rw [s64] at h
    exact h.trans (List.getElem?_eq_getElem (by omega))
  obtain ⟨n4, hn4, _, _⟩ := DataW.trod_int Try.underlying2 e4
  simp only [List.cons.injEq, and_true] at hn4
  subst hn4
  refine ⟨⟨(List.range sn).map fun i => symOf (F i), (List.range tn).map fun i => (G i 0, G i 1), ix, n0, n1, n2, n3, n4⟩, sa, ta, sc, tc, by simp [Cfg.cells], ?_⟩
  refine ⟨?_, ?_, by simpa using hsn, by simpa using htn⟩
  · intro i hi
    simp only [List.length_map, List.length_range] at hi
    obtain ⟨b, off, hb, hl, hc⟩ := hF i hi
    refine ⟨b, off, hb, hl, fun j v hv => ?_⟩
    simp only [List.getElem_map, List.getElem_range] at hv
    obtain ⟨hj, hv⟩ := symOf_cells (F i) j v hv
    rw [hv]
    exact (hc j hj).1
  · intro i hi
    simp only [List.length_map, List.length_range] at hi
    obtain ⟨b, off, hb, hl, hc⟩ := hG i hi
    refine ⟨b, off, hb, hl, ?_, ?_⟩
    · simp only [List.getElem_map, List.getElem_range]; exact (hc 0 (by decide)).1
    · simp only [List.getElem_map, List.getElem_range]; exact (hc 1 (by decide)).1
end
end Go.Proofs.Ytggkhnmhhifniaa.Open
