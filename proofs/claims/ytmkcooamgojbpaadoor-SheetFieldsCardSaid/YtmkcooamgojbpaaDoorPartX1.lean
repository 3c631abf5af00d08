/- Parts of the proof: texts of this claim alone. -/
import Derived.Test.YtmkcooamgojbpaaDoorPart14
import Derived.Test.YtmkcooamgojbpaaDoorPart4
import Derived.Test.YtmkcooamgojbpaaDoorPart3
import Derived.Test.YtmkcooamgojbpaaDoorPart15
/- One message that came in, opened: nine numbers. -/
namespace Go.Proofs.YtmkcooamgojbpaaDoor.Msgs
open Go.ChangeShapes Go.WideShapes Go.Deep Go.RowKit

section
variable {H : Type} {enc : TypeId × Value → H} {P : Program} {w : World} {base : Nat} {spare : Nat → Bool} {held : Bool}
theorem struct_ints {t : TypeId} {fs : Array Field} {fuel : Nat} {cs : List Value} {x : DataW H × List MemPlace} (he : P.underlying t = some (.struct fs)) (hone : oneCellFields P fs = true)
    (hint : ∀ f ∈ fs.toList, P.underlying f.type = some (.int .i64)) (hcl : cs.length = fs.size) (h : DataW.trod enc P w base spare held fuel t cs = some x) :
    ∀ j, j < fs.size → ∃ n : Int, cs[j]? = some (.int .i64 n) := by
  obtain ⟨ys, n', hn', hy, hlen, hyl, hf⟩ := DataW.trod_struct he h
  intro j hjl
  obtain ⟨ho, hk⟩ := hone_of hone j fs[j] (Array.getElem?_eq_getElem hjl)
  have hv : cs[j]? = some (cs[j]'(by omega)) := List.getElem?_eq_getElem (by omega)
  have h1 := hf j fs[j] (Array.getElem?_eq_getElem hjl)
  rw [ho, hk] at h1
  have hone' : (cs.drop j).take 1 = [cs[j]'(by omega)] := by
    rw [List.drop_eq_getElem_cons (by omega)]
    rfl
  rw [hone'] at h1
  have hys : ys[j]? = some (ys[j]'(by omega)) := List.getElem?_eq_getElem (by omega)
  obtain ⟨k, hk', _, hw⟩ := DataW.trod_int (hint fs[j] (Array.mem_toList_iff.2 (Array.getElem_mem hjl))) (h1.trans hys)
  simp at hk'
  exact ⟨k, by rw [hv, hk']⟩
end

section
variable {H : Type} {enc : TypeId × Value → H} {w : World} {base : Nat} {spare : Nat → Bool} {held : Bool}
set_option maxRecDepth 100000 in
theorem open_msg {r : Reach} {b0 : Nat} {v : Value} {d : DataW H} {p : List MemPlace} (hv : Value.okWide Tryd.prog w r b0 62 v) (h : DataW.Trod enc Tryd.prog w base spare held 62 v d p) :
    ∃ m : Msg, v = .agg m.cells := by
  obtain ⟨cs, rfl, hsz⟩ := okWide_struct Tryd.underlying62 hv
  obtain ⟨l⟩ := cs
  have hsz' : l.length = 9 := by rw [← sMsg]; exact hsz
  obtain ⟨fuel, hf⟩ := h
  have key := struct_ints Tryd.underlying62 (by kernel_rfl) (by intro f hf; simp only [List.mem_cons, List.not_mem_nil, or_false] at hf; rcases hf with rfl | rfl | rfl | rfl | rfl | rfl | rfl | rfl | rfl <;> first | exact Tryd.underlying2 | exact Tryd.underlying3) hsz' hf
  obtain ⟨n0, h0⟩ := key 0 (by decide)
  obtain ⟨n1, h1⟩ := key 1 (by decide)
  obtain ⟨n2, h2⟩ := key 2 (by decide)
  obtain ⟨n3, h3⟩ := key 3 (by decide)
  obtain ⟨n4, h4⟩ := key 4 (by decide)
  obtain ⟨n5, h5⟩ := key 5 (by decide)
  obtain ⟨n6, h6⟩ := key 6 (by decide)
  obtain ⟨n7, h7⟩ := key 7 (by decide)
  obtain ⟨n8, h8⟩ := key 8 (by decide)
  match l, hsz' with
  | [a0, a1, a2, a3, a4, a5, a6, a7, a8], _ =>
    simp at h0 h1 h2 h3 h4 h5 h6 h7 h8
    subst h0 h1 h2 h3 h4 h5 h6 h7 h8
    exact ⟨⟨n0, n1, n2, n3, n4, n5, n6, n7, n8⟩, rfl⟩
end
end Go.Proofs.YtmkcooamgojbpaaDoor.Msgs

/- One symbol that came in, opened: sixteen numbers. -/
namespace Go.Proofs.YtmkcooamgojbpaaDoor.Sheet
open Go.ChangeShapes Go.WideShapes Go.Deep Go.RowKit Go.Proofs.YtmkcooamgojbpaaDoor.Symbol

section
variable {H : Type} {enc : TypeId × Value → H} {w : World} {base : Nat} {spare : Nat → Bool} {held : Bool}
theorem sSym1 : Tryd.prog.cellsOf 29 = 16 := by kernel_rfl
set_option maxRecDepth 100000 in
theorem open_sym {r : Reach} {b0 : Nat} {v : Value} {d : DataW H} {p : List MemPlace} (hv : Value.okWide Tryd.prog w r b0 29 v) (h : DataW.Trod enc Tryd.prog w base spare held 29 v d p) :
    ∃ s : Sym, v = .agg s.cells := by
  obtain ⟨cs, rfl, hsz⟩ := okWide_struct Tryd.underlying29 hv
  obtain ⟨l⟩ := cs
  have hsz' : l.length = 16 := by rw [← sSym1]; exact hsz
  obtain ⟨fuel, hf⟩ := h
  have key := Msgs.struct_ints Tryd.underlying29 (by kernel_rfl) (by intro f hf; simp only [List.mem_cons, List.not_mem_nil, or_false] at hf; rcases hf with rfl | rfl | rfl | rfl | rfl | rfl | rfl | rfl | rfl | rfl | rfl | rfl | rfl | rfl | rfl | rfl <;> first | exact Tryd.underlying2 | exact Tryd.underlying3) hsz' hf
  obtain ⟨n0, h0⟩ := key 0 (by decide)
  obtain ⟨n1, h1⟩ := key 1 (by decide)
  obtain ⟨n2, h2⟩ := key 2 (by decide)
  obtain ⟨n3, h3⟩ := key 3 (by decide)
  obtain ⟨n4, h4⟩ := key 4 (by decide)
  obtain ⟨n5, h5⟩ := key 5 (by decide)
  obtain ⟨n6, h6⟩ := key 6 (by decide)
  obtain ⟨n7, h7⟩ := key 7 (by decide)
  obtain ⟨n8, h8⟩ := key 8 (by decide)
  obtain ⟨n9, h9⟩ := key 9 (by decide)
  obtain ⟨n10, h10⟩ := key 10 (by decide)
  obtain ⟨n11, h11⟩ := key 11 (by decide)
  obtain ⟨n12, h12⟩ := key 12 (by decide)
  obtain ⟨n13, h13⟩ := key 13 (by decide)
  obtain ⟨n14, h14⟩ := key 14 (by decide)
  obtain ⟨n15, h15⟩ := key 15 (by decide)
  match l, hsz' with
  | [a0, a1, a2, a3, a4, a5, a6, a7, a8, a9, a10, a11, a12, a13, a14, a15], _ =>
    simp at h0 h1 h2 h3 h4 h5 h6 h7 h8 h9 h10 h11 h12 h13 h14 h15
    subst h0 h1 h2 h3 h4 h5 h6 h7 h8 h9 h10 h11 h12 h13 h14 h15
    exact ⟨⟨n0, n1, n2, n3, n4, n5, n6, n7, n8, n9, n10, n11, n12, n13, n14, n15⟩, rfl⟩
end
end Go.Proofs.YtmkcooamgojbpaaDoor.Sheet
