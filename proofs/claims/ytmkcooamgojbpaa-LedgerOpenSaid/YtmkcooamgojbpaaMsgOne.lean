/- One message that came in, opened: nine numbers. -/
import Derived.Test.YtmkcooamgojbpaaMsg
namespace Go.Proofs.Ytmkcooamgojbpaa.Msgs
open Go.ChangeShapes Go.WideShapes Go.Deep Go.RowKit

section
variable {H : Type} {enc : TypeId × Value → H} {P : Program} {w : World} {base : Nat} {spare : Nat → Bool} {held : Bool}
theorem struct_ints {t : TypeId} {fs : Array Field} {fuel : Nat} {cs : List Value} {x : DataW H × List MemPlace} (he : P.underlying t = some (.struct fs)) (hone : oneCellFields P fs = true)
    (hint : ∀ f ∈ fs.toList, P.underlying f.type = some (.int .i64)) (hcl : cs.length = fs.size) (h : DataW.trod enc P w base spare held fuel t cs = some x) :
    ∀ j, j < fs.size → ∃ n : Int, cs[j]? = some (.int .i64 n) := by
  obtain ⟨ys, n', hn', hy, hlen, hyl, hf⟩ := DataW.trod_struct he h
  intro j hjl
  obtain ⟨ho, hk⟩ := hone_of hone j fs[j] (Array.getElem?_eq_getElem hjl)
  have hv : cs[j]? = some (cs[j]'(by omega)) := List.getElem?_eq_getElem (by omega)
  have h1 := hf j fs[j] (Array.getElem?_eq_getElem hjl)
  rw [ho, hk] at h1
  have hone' : (cs.drop j).take 1 = [cs[j]'(by omega)] := by
    rw [List.drop_eq_getElem_cons (by omega)]
    rfl
  rw [hone'] at h1
  have hys : ys[j]? = some (ys[j]'(by omega)) := List.getElem?_eq_getElem (by omega)
  obtain ⟨k, hk', _, hw⟩ := DataW.trod_int (hint fs[j] (Array.mem_toList_iff.2 (Array.getElem_mem hjl))) (h1.trans hys)
  simp at hk'
  exact ⟨k, by rw [hv, hk']⟩
end

section
variable {H : Type} {enc : TypeId × Value → H} {w : World} {base : Nat} {spare : Nat → Bool} {held : Bool}
set_option maxRecDepth 100000 in
theorem open_msg {r : Reach} {b0 : Nat} {v : Value} {d : DataW H} {p : List MemPlace} (hv : Value.okWide Try.prog w r b0 33 v) (h : DataW.Trod enc Try.prog w base spare held 33 v d p) :
    ∃ m : Msg, v = .agg m.cells := by
  obtain ⟨cs, rfl, hsz⟩ := okWide_struct Try.underlying33 hv
  obtain ⟨l⟩ := cs
  have hsz' : l.length = 9 := by rw [← sMsg]; exact hsz
  obtain ⟨fuel, hf⟩ := h
  have key := struct_ints Try.underlying33 (by kernel_rfl) (by intro f hf; simp only [List.mem_cons, List.not_mem_nil, or_false] at hf; rcases hf with rfl | rfl | rfl | rfl | rfl | rfl | rfl | rfl | rfl <;> first | exact Try.underlying2 | exact Try.underlying3) hsz' hf
  obtain ⟨n0, h0⟩ := key 0 (by decide)
  obtain ⟨n1, h1⟩ := key 1 (by decide)
  obtain ⟨n2, h2⟩ := key 2 (by decide)
  obtain ⟨n3, h3⟩ := key 3 (by decide)
  obtain ⟨n4, h4⟩ := key 4 (by decide)
  obtain ⟨n5, h5⟩ := key 5 (by decide)
  obtain ⟨n6, h6⟩ := key 6 (by decide)
  obtain ⟨n7, h7⟩ := key 7 (by decide)
  obtain ⟨n8, h8⟩ := key 8 (by decide)
  match l, hsz' with
  | [a0, a1, a2, a3, a4, a5, a6, a7, a8], _ =>
    simp at h0 h1 h2 h3 h4 h5 h6 h7 h8
    subst h0 h1 h2 h3 h4 h5 h6 h7 h8
    exact ⟨⟨n0, n1, n2, n3, n4, n5, n6, n7, n8⟩, rfl⟩
end
end Go.Proofs.Ytmkcooamgojbpaa.Msgs
