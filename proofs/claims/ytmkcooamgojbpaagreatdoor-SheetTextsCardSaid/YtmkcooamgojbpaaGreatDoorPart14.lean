/- Parts of the proof: OpenRows, Open, OpenCfg. -/
import Derived.Test.YtmkcooamgojbpaaGreatDoorPart3
import Derived.ProofKit
import Derived.OpenShut
import Derived.Deep.Slices
import Derived.Deep.Fields
import Derived.ChangeSame

/- Arguments opened: slices of structs whose fields are all int64 or int. -/
namespace Go.Proofs.YtmkcooamgojbpaaGreatDoor.Open
open Go.ChangeShapes Go.WideShapes Go.Deep Go.RowKit

section
variable {H : Type} {enc : TypeId × Value → H} {P : Program} {w : World} {base : Nat} {spare : Nat → Bool} {held : Bool}
theorem open_slice_fields {t e : TypeId} {fs : Array Field} {fuel : Nat} {cs : List Value} {x : DataW H × List MemPlace} (ht : P.underlying t = some (.slice e)) (he : P.underlying e = some (.struct fs))
    (hone : oneCellFields P fs = true) (hC : P.cellsOf e = fs.size) (h : DataW.trod enc P w base spare held fuel t cs = some x) :
    (cs = [.slice none 0 0] ∧ x = (.nil, [])) ∨
    ∃ (a : Addr) (len cap m : Nat), cs = [.slice (some a) len cap] ∧ len ≤ cap ∧ cap ≤ maxLen ∧ m = (if spare a.block then cap else len) ∧
      ∀ i, i < m → ∃ (n : Nat), ∀ (j : Nat) (f : Field), fs[j]? = some f → ∃ (v : Value) (y : DataW H × List MemPlace), w.cell? (a.add (i * fs.size + j)) = some v ∧ DataW.trod enc P w base spare held n f.type [v] = some y := by
  rcases open_slice ht h with h0 | ⟨a, len, cap, m, n, D, Pl, hcs, hb, hl, hm, hmm, hx, hi⟩
  · exact .inl h0
  · refine .inr ⟨a, len, cap, m, hcs, hl, hm, hmm, fun i him => ?_⟩
    obtain ⟨cs', hc, ht'⟩ := hi i him
    rw [hC] at hc
    obtain ⟨ys, n', hn', hy, hlen, hyl, hf⟩ := DataW.trod_struct he ht'
    obtain ⟨_, hcl, hat⟩ := World.cells?_some hc
    refine ⟨n', fun j f hj => ?_⟩
    obtain ⟨ho, hk⟩ := hone_of hone j f hj
    have hjl : j < fs.size := (Array.getElem?_eq_some_iff.1 hj).1
    have hcell := hat j hjl
    have hv : cs'[j]? = some (cs'[j]'(by omega)) := List.getElem?_eq_getElem (by omega)
    have h1 := hf j f hj
    rw [ho, hk] at h1
    have hone' : (cs'.drop j).take 1 = [cs'[j]'(by omega)] := by
      rw [List.drop_eq_getElem_cons (by omega)]
      rfl
    rw [hone'] at h1
    have hys : ys[j]? = some (ys[j]'(by omega)) := List.getElem?_eq_getElem (by omega)
    refine ⟨_, _, ?_, h1.trans hys⟩
    rw [← Go.Deep.add_add, hcell, hv]

/-- A number of 64 bits. -/
def in64 (n : Int) : Prop := -9223372036854775808 ≤ n ∧ n ≤ 9223372036854775807
theorem in64_of {n : Int} (h : (Lit.int .i64 n).wf = true) : in64 n := by
  unfold in64
  simp [Lit.wf, IntKind.min, IntKind.max, IntKind.bits, IntKind.signed] at h
  omega

/-- A slice of structs of numbers: each element's cells, by its index and the field's. -/
theorem open_rows {t e : TypeId} {fs : Array Field} {fuel : Nat} {v : Value} {x : DataW H × List MemPlace} (ht : P.underlying t = some (.slice e)) (he : P.underlying e = some (.struct fs))
    (hone : oneCellFields P fs = true) (hC : P.cellsOf e = fs.size) (hpos : 0 < fs.size) (hint : ∀ f ∈ fs.toList, P.underlying f.type = some (.int .i64))
    (h : DataW.trod enc P w base spare held fuel t [v] = some x) :
    ∃ (a : Option Addr) (len cap : Nat) (F : Nat → Nat → Int), v = .slice a len cap ∧ len ≤ maxLen ∧
      (∀ i, i < len → ∃ b off, a = some ⟨b, off, none⟩ ∧ b < w.heap.size ∧ ∀ j, j < fs.size → w.cell? ⟨b, off + i * fs.size + j, none⟩ = some (.int .i64 (F i j)) ∧ in64 (F i j)) := by
  rcases open_slice_fields ht he hone hC h with ⟨hv, _⟩ | ⟨a, len, cap, m, hv, hl, hm, hmm, hf⟩
  · simp at hv; subst hv
    exact ⟨none, 0, 0, fun _ _ => 0, rfl, Nat.zero_le _, fun i hi => absurd hi (Nat.not_lt_zero _)⟩
  · simp at hv; subst hv
    have hlm : len ≤ m := by rw [hmm]; split <;> omega
    have key : ∀ i j, i < len → j < fs.size → ∃ n : Int, w.cell? (a.add (i * fs.size + j)) = some (.int .i64 n) ∧ in64 n := by
      intro i j hi hj
      obtain ⟨n, hn⟩ := hf i (by omega)
      obtain ⟨u, y, hc, hy⟩ := hn j fs[j] (Array.getElem?_eq_getElem hj)
      obtain ⟨k, hk, _, hw⟩ := DataW.trod_int (hint fs[j] (Array.mem_toList_iff.2 (Array.getElem_mem hj))) hy
      simp at hk; subst hk
      exact ⟨k, hc, in64_of hw⟩
    refine ⟨some a, len, cap, fun i j => if h : i < len ∧ j < fs.size then Classical.choose (key i j h.1 h.2) else 0, rfl, by omega, fun i hi => ?_⟩
    obtain ⟨b, off, spot⟩ := a
    have hspot : spot = none := by
      obtain ⟨n, hn, _⟩ := key 0 0 (by omega) hpos
      simpa [Addr.add] using World.cell?_spot hn
    subst hspot
    have hadd : ∀ k, (⟨b, off, none⟩ : Addr).add k = ⟨b, off + k, none⟩ := fun k => by unfold Addr.add; split <;> simp_all
    refine ⟨b, off, rfl, ?_, fun j hj => ?_⟩
    · obtain ⟨n, hn, _⟩ := key i 0 hi hpos
      have := World.block_lt_of_cell? w _ hn
      rw [hadd] at this
      exact this
    · have hch := Classical.choose_spec (key i j hi hj)
      simp only [dif_pos (And.intro hi hj)]
      rw [Nat.add_assoc]
      exact ⟨(congrArg w.cell? (hadd (i * fs.size + j))).symm.trans hch.1, hch.2⟩
end
end Go.Proofs.YtmkcooamgojbpaaGreatDoor.Open

/- Arguments opened; a configuration checked. -/


/- A configuration that came in, opened: its value, its symbols and its table in memory. -/
namespace Go.Proofs.YtmkcooamgojbpaaGreatDoor.Open
open Go.ChangeShapes Go.WideShapes Go.Deep Go.RowKit Go.Proofs.YtmkcooamgojbpaaGreatDoor.Kit Go.Proofs.YtmkcooamgojbpaaGreatDoor.Symbol Go.Proofs.YtmkcooamgojbpaaGreatDoor.Table Go.Proofs.YtmkcooamgojbpaaGreatDoor.Check

section
variable {H : Type} {enc : TypeId × Value → H} {w : World} {base : Nat} {spare : Nat → Bool} {held : Bool}

theorem sCfg : Tryz.prog.cellsOf 27 = 8 := by kernel_rfl
theorem sSyms : Tryz.prog.cellsOf 22 = 1 := by kernel_rfl
theorem sTab : Tryz.prog.cellsOf 23 = 1 := by kernel_rfl
theorem s64 : Tryz.prog.cellsOf 2 = 1 := by kernel_rfl
theorem sInt : Tryz.prog.cellsOf 3 = 1 := by kernel_rfl
theorem s3i : Tryz.prog.cellsOf 24 = 3 := by kernel_rfl
theorem s2i : Tryz.prog.cellsOf 25 = 2 := by kernel_rfl
theorem sSym : Tryz.prog.cellsOf 46 = 16 := by kernel_rfl
theorem sRow : Tryz.prog.cellsOf 40 = 2 := by kernel_rfl

theorem array16 {l : List Value} (h : l.length = 8) : ∃ a b c d e f g i, l = [a, b, c, d, e, f, g, i] := by
  match l, h with
  | [a, b, c, d, e, f, g, i], _ => exact ⟨a, b, c, d, e, f, g, i, rfl⟩

def symOf (f : Nat → Int) : Sym := ⟨f 0, f 1, f 2, f 3, f 4, f 5, f 6, f 7, f 8, f 9, f 10, f 11, f 12, f 13, f 14, f 15⟩
theorem symOf_cells (f : Nat → Int) (j : Nat) (v : Value) (h : (symOf f).cells[j]? = some v) : j < 16 ∧ v = .int .i64 (f j) := by
  have hj : j < 16 := (Array.getElem?_eq_some_iff.1 h).1
  refine ⟨hj, ?_⟩
  have : j = 0 ∨ j = 1 ∨ j = 2 ∨ j = 3 ∨ j = 4 ∨ j = 5 ∨ j = 6 ∨ j = 7 ∨ j = 8 ∨ j = 9 ∨ j = 10 ∨ j = 11 ∨ j = 12 ∨ j = 13 ∨ j = 14 ∨ j = 15 := by omega
  rcases this with rfl | rfl | rfl | rfl | rfl | rfl | rfl | rfl | rfl | rfl | rfl | rfl | rfl | rfl | rfl | rfl <;> (simp [symOf, Sym.cells] at h; exact h.symm)

set_option maxRecDepth 100000 in
theorem open_cfg {r : Reach} {b0 : Nat} {v : Value} {d : DataW H} {p : List MemPlace} (hv : Value.okWide Tryz.prog w r b0 27 v) (h : DataW.Trod enc Tryz.prog w base spare held 27 v d p) :
    ∃ (c : Cfg) (sa ta : Option Addr) (sc tc : Nat), v = .agg (c.cells sa ta sc tc) ∧ c.In w sa ta := by
  obtain ⟨cs, rfl, hsz⟩ := okWide_struct Tryz.underlying27 hv
  obtain ⟨l⟩ := cs
  have hsz' : l.length = 8 := by rw [← sCfg]; exact hsz
  obtain ⟨v0, v1, v2, v3, v4, v5, v6, v7, rfl⟩ := array16 hsz'
  obtain ⟨fuel, hf⟩ := h
  obtain ⟨xs, n, _, _, _, hlen, hg⟩ := DataW.trod_struct Tryz.underlying27 hf
  have hl : xs.length = 5 := hlen
  have g0 : DataW.trod enc Tryz.prog w base spare held n 22 [v0] = xs[0]? := by
    have h : DataW.trod enc Tryz.prog w base spare held n 22 ((([v0, v1, v2, v3, v4, v5, v6, v7] : List Value).drop 0).take (Tryz.prog.cellsOf 22)) = xs[0]? := hg 0 _ rfl
    rw [sSyms] at h
    exact h
  have g1 : DataW.trod enc Tryz.prog w base spare held n 23 [v1] = xs[1]? := by
    have h : DataW.trod enc Tryz.prog w base spare held n 23 ((([v0, v1, v2, v3, v4, v5, v6, v7] : List Value).drop 1).take (Tryz.prog.cellsOf 23)) = xs[1]? := hg 1 _ rfl
    rw [sTab] at h
    exact h
  have g2 : DataW.trod enc Tryz.prog w base spare held n 2 [v2] = xs[2]? := by
    have h : DataW.trod enc Tryz.prog w base spare held n 2 ((([v0, v1, v2, v3, v4, v5, v6, v7] : List Value).drop 2).take (Tryz.prog.cellsOf 2)) = xs[2]? := hg 2 _ rfl
    rw [s64] at h
    exact h
  have g3 : DataW.trod enc Tryz.prog w base spare held n 24 [v3, v4, v5] = xs[3]? := by
    have h : DataW.trod enc Tryz.prog w base spare held n 24 ((([v0, v1, v2, v3, v4, v5, v6, v7] : List Value).drop 3).take (Tryz.prog.cellsOf 24)) = xs[3]? := hg 3 _ rfl
    rw [s3i] at h
    exact h
  have g4 : DataW.trod enc Tryz.prog w base spare held n 25 [v6, v7] = xs[4]? := by
    have h : DataW.trod enc Tryz.prog w base spare held n 25 ((([v0, v1, v2, v3, v4, v5, v6, v7] : List Value).drop 6).take (Tryz.prog.cellsOf 25)) = xs[4]? := hg 4 _ rfl
    rw [s2i] at h
    exact h
  have x0 : xs[0]? = some (xs[0]'(by omega)) := List.getElem?_eq_getElem (by omega)
  have x1 : xs[1]? = some (xs[1]'(by omega)) := List.getElem?_eq_getElem (by omega)
  have x2 : xs[2]? = some (xs[2]'(by omega)) := List.getElem?_eq_getElem (by omega)
  have x3 : xs[3]? = some (xs[3]'(by omega)) := List.getElem?_eq_getElem (by omega)
  have x4 : xs[4]? = some (xs[4]'(by omega)) := List.getElem?_eq_getElem (by omega)
  obtain ⟨sa, sn, sc, F, rfl, hsn, hF⟩ := open_rows Tryz.underlying22 Tryz.underlying46 (by kernel_rfl) sSym (by decide) (by intro f hf; simp only [List.mem_cons, List.not_mem_nil, or_false] at hf; rcases hf with rfl | rfl | rfl | rfl | rfl | rfl | rfl | rfl | rfl | rfl | rfl | rfl | rfl | rfl | rfl | rfl <;> first | exact Tryz.underlying2 | exact Tryz.underlying3) (g0.trans x0)
  obtain ⟨ta, tn, tc, G, rfl, htn, hG⟩ := open_rows Tryz.underlying23 Tryz.underlying40 (by kernel_rfl) sRow (by decide) (by intro f hf; simp only [List.mem_cons, List.not_mem_nil, or_false] at hf; rcases hf with rfl | rfl <;> first | exact Tryz.underlying2 | exact Tryz.underlying3) (g1.trans x1)
  obtain ⟨ix, hix, _, _⟩ := DataW.trod_int Tryz.underlying2 (g2.trans x2)
  simp only [List.cons.injEq, and_true] at hix
  subst hix
  obtain ⟨ys, m, _, _, _, hyl, hy⟩ := DataW.trod_array Tryz.underlying24 (g3.trans x3)
  obtain ⟨zs, k, _, _, _, hzl, hz⟩ := DataW.trod_array Tryz.underlying25 (g4.trans x4)
  have e0 : DataW.trod enc Tryz.prog w base spare held m 3 [v3] = some (ys[0]'(by omega)) := by
    have h := hy 0 (by decide)
    rw [sInt] at h
    exact h.trans (List.getElem?_eq_getElem (by omega))
  obtain ⟨n0, hn0, _, _⟩ := DataW.trod_int Tryz.underlying3 e0
  simp only [List.cons.injEq, and_true] at hn0
  subst hn0
  have e1 : DataW.trod enc Tryz.prog w base spare held m 3 [v4] = some (ys[1]'(by omega)) := by
    have h := hy 1 (by decide)
    rw [sInt] at h
    exact h.trans (List.getElem?_eq_getElem (by omega))
  obtain ⟨n1, hn1, _, _⟩ := DataW.trod_int Tryz.underlying3 e1
  simp only [List.cons.injEq, and_true] at hn1
  subst hn1
  have e2 : DataW.trod enc Tryz.prog w base spare held m 3 [v5] = some (ys[2]'(by omega)) := by
    have h := hy 2 (by decide)
    rw [sInt] at h
    exact h.trans (List.getElem?_eq_getElem (by omega))
  obtain ⟨n2, hn2, _, _⟩ := DataW.trod_int Tryz.underlying3 e2
  simp only [List.cons.injEq, and_true] at hn2
  subst hn2
  have e3 : DataW.trod enc Tryz.prog w base spare held k 2 [v6] = some (zs[0]'(by omega)) := by
    have h := hz 0 (by decide)
    rw [s64] at h
    exact h.trans (List.getElem?_eq_getElem (by omega))
  obtain ⟨n3, hn3, _, _⟩ := DataW.trod_int Tryz.underlying2 e3
  simp only [List.cons.injEq, and_true] at hn3
  subst hn3
  have e4 : DataW.trod enc Tryz.prog w base spare held k 2 [v7] = some (zs[1]'(by omega)) := by
    have h := hz 1 (by decide)
    rw [s64] at h
    exact h.trans (List.getElem?_eq_getElem (by omega))
  obtain ⟨n4, hn4, _, _⟩ := DataW.trod_int Tryz.underlying2 e4
  simp only [List.cons.injEq, and_true] at hn4
  subst hn4
  refine ⟨⟨(List.range sn).map fun i => symOf (F i), (List.range tn).map fun i => (G i 0, G i 1), ix, n0, n1, n2, n3, n4⟩, sa, ta, sc, tc, by simp [Cfg.cells], ?_⟩
  refine ⟨?_, ?_, by simpa using hsn, by simpa using htn⟩
  · intro i hi
    simp only [List.length_map, List.length_range] at hi
    obtain ⟨b, off, hb, hl, hc⟩ := hF i hi
    refine ⟨b, off, hb, hl, fun j v hv => ?_⟩
    simp only [List.getElem_map, List.getElem_range] at hv
    obtain ⟨hj, hv⟩ := symOf_cells (F i) j v hv
    rw [hv]
    exact (hc j hj).1
  · intro i hi
    simp only [List.length_map, List.length_range] at hi
    obtain ⟨b, off, hb, hl, hc⟩ := hG i hi
    refine ⟨b, off, hb, hl, ?_, ?_⟩
    · simp only [List.getElem_map, List.getElem_range]; exact (hc 0 (by decide)).1
    · simp only [List.getElem_map, List.getElem_range]; exact (hc 1 (by decide)).1
end
end Go.Proofs.YtmkcooamgojbpaaGreatDoor.Open
