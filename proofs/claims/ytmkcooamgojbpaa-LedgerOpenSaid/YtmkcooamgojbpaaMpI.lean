/- Ranging over a map in memory: whichever entry comes, each once. -/
import Derived.Test.YtmkcooamgojbpaaMp
namespace Go.Proofs.Ytmkcooamgojbpaa.Mp
open Go.RowKit Go.ChangeMaps Go.Proofs.Ytmkcooamgojbpaa.Kit Go.Proofs.Ytmkcooamgojbpaa.Blk

section
variable {P : Program} {κ ν : Type} {w w' : World} {r b : Nat} {ke : κ → Value} {ve : ν → Value} {l left : List (κ × ν)} {T K E : TypeId}
/-- An iterator in block r over the map of block b: 'left' has yet to come. -/
def IterIs (w : World) (r b : Nat) (ke : κ → Value) (ve : ν → Value) (l left : List (κ × ν)) : Prop :=
  ∃ es clock seen, w.heap[b]? = some (.map es clock) ∧ es.toList.map pr = l.map (en ke ve) ∧ (es.toList.map (·.born)).Nodup ∧ (∀ x ∈ es.toList, x.born < clock) ∧
    w.heap[r]? = some (.mapIter (some b) clock seen clock) ∧ (leftOf es seen).toList.map pr = left.map (en ke ve)
theorem IterIs.map (h : IterIs w r b ke ve l left) : MapIs w b ke ve l := by
  obtain ⟨es, clock, seen, h1, h2, h3, h4, _⟩ := h
  exact ⟨es, clock, h1, h2, h3, h4⟩
theorem IterIs.same (h : IterIs w r b ke ve l left) (hb : w'.heap[b]? = w.heap[b]?) (hr : w'.heap[r]? = w.heap[r]?) : IterIs w' r b ke ve l left := by
  obtain ⟨es, clock, seen, h1, h2, h3, h4, h5, h6⟩ := h
  exact ⟨es, clock, seen, hb.trans h1, h2, h3, h4, hr.trans h5, h6⟩
theorem IterIs.lt (h : IterIs w r b ke ve l left) : r < w.heap.size := by
  obtain ⟨es, clock, seen, h1, h2, h3, h4, h5, h6⟩ := h
  exact (Array.getElem?_eq_some_iff.1 h5).1
theorem IterIs.ne (h : IterIs w r b ke ve l left) : r ≠ b := by
  rintro rfl
  obtain ⟨es, clock, seen, h1, h2, h3, h4, h5, h6⟩ := h
  rw [h1] at h5; cases h5
theorem IterIs.not_blk {B U : Nat} {cs : Array Value} (h : IterIs w r b ke ve l left) (hB : Blk w B cs U) : r ≠ B := by
  rintro rfl
  obtain ⟨es, clock, seen, h1, h2, h3, h4, h5, h6⟩ := h
  rw [show w.heap[r]? = _ from hB] at h5; cases h5
theorem IterIs.chg {n d : Nat} (h : IterIs w r b ke ve l left) (hc : Chg n d w w') (hb : b < n) (hr : r < n) (hbd : b ≠ d) (hrd : r ≠ d) : IterIs w' r b ke ve l left :=
  h.same (hc.block b hb hbd) (hc.block r hr hrd)
theorem IterIs.below (h : IterIs w r b ke ve l left) (hb : Below w.heap.size w w') : IterIs w' r b ke ve l left := h.same (hb.block b h.map.lt) (hb.block r h.lt)
theorem IterIs.alloc (h : IterIs w r b ke ve l left) (o : Obj) : IterIs (w.alloc o) r b ke ve l left := h.below ((Below.refl _ _).alloc (Nat.le_refl _) o)
theorem IterIs.drew (h : IterIs w r b ke ve l left) : IterIs w.drew r b ke ve l left := h
theorem IterIs.apart (h : IterIs w r b ke ve l left) (a : Addr) (v : Value) (hb : a.block ≠ b) (hr : a.block ≠ r) : IterIs (w.setCell a v) r b ke ve l left :=
  h.same (Below.heap_setCell _ _ _ _ (fun e => hb e.symm)) (Below.heap_setCell _ _ _ _ (fun e => hr e.symm))

theorem run_range (h : MapIs w b ke ve l) (hT : P.underlying T = some (.map K E)) :
    ∃ o, (Instr.range T (.map (some b))).run P w = .ok (.pointer (some ⟨w.heap.size, 0, none⟩)) (w.alloc o) ∧ IterIs (w.alloc o) w.heap.size b ke ve l l := by
  have hlt := h.lt
  obtain ⟨es, clock, hb, hp, hn, hc⟩ := h
  refine ⟨.mapIter (some b) clock #[] clock, ?_, ⟨es, clock, #[], (Below.heap_alloc w _ b hlt).trans hb, hp, hn, hc, heap_alloc_new w _, ?_⟩⟩
  · simp [Instr.range, run_underlying hT, getObj, Sem.run, hb, newObj]
  · have e : (leftOf es #[]).toList = es.toList := by
      simp only [leftOf, Array.toList_filter]
      exact List.filter_eq_self.2 (fun x _ => by simp)
    rw [e]; exact hp

theorem map_split {α β γ : Type} {f : α → γ} {g : β → γ} : ∀ {a : List α} {x : α} {c : List α} {left : List β}, (a ++ x :: c).map f = left.map g → ∃ l1 p l2, left = l1 ++ p :: l2 ∧ a.map f = l1.map g ∧ f x = g p ∧ c.map f = l2.map g := by
  intro a
  induction a with
  | nil =>
    intro x c left h
    cases left with
    | nil => simp at h
    | cons p l2 =>
      simp only [List.nil_append, List.map_cons, List.cons.injEq] at h
      exact ⟨[], p, l2, rfl, rfl, h.1, h.2⟩
  | cons y a ih =>
    intro x c left h
    cases left with
    | nil => simp at h
    | cons p left =>
      simp only [List.cons_append, List.map_cons, List.cons.injEq] at h
      obtain ⟨l1, q, l2, h1, h2, h3, h4⟩ := ih h.2
      exact ⟨p :: l1, q, l2, by rw [h1]; rfl, by simp [h.1, h2], h3, h4⟩

/-- One step: nothing is left, or one that is left comes. -/
theorem run_next (h : IterIs w r b ke ve l left) (ty : TypeId) :
    (left = [] ∧ (Instr.next (.pointer (some ⟨r, 0, none⟩)) false ty).run P w = .ok (.tuple #[.bool false]) w) ∨
    ∃ l1 p l2 w', left = l1 ++ p :: l2 ∧ (Instr.next (.pointer (some ⟨r, 0, none⟩)) false ty).run P w = .ok (.tuple #[.bool true, ke p.1, ve p.2]) w' ∧
      (Instr.entry (.pointer (some ⟨r, 0, none⟩))).run P w' = .ok (.tuple #[ke p.1, ve p.2]) w' ∧ IterIs w' r b ke ve l (l1 ++ l2) ∧ Chg w.heap.size r w w' ∧ w'.heap.size = w.heap.size := by
  have hlt := h.lt
  have hne := h.ne
  obtain ⟨es, clock, seen, hb, hp, hn, hc, hr, hl⟩ := h
  rcases run_next_at (P := P) w ty r b clock clock seen es clock hr hb hc (Nat.le_refl _) with ⟨h0, hrun⟩ | ⟨e, he, w1, hw1, hrun⟩
  · left
    refine ⟨?_, hrun⟩
    have h1 : (leftOf es seen).toList = [] := by rw [← List.length_eq_zero_iff]; simpa using h0
    rw [h1] at hl
    cases left with
    | nil => rfl
    | cons p left => simp at hl
  · right
    have hes : e ∈ es.toList := by
      simp only [leftOf, Array.toList_filter, List.mem_filter] at he
      exact he.1
    obtain ⟨a, c, hac⟩ := List.append_of_mem he
    rw [hac] at hl
    obtain ⟨l1, p, l2, h1, h2, h3, h4⟩ := map_split hl
    have hk : e.key = ke p.1 := congrArg Prod.fst h3
    have hv : e.val = ve p.2 := congrArg Prod.snd h3
    have hb1 : w1.heap[b]? = some (.map es clock) := by rcases hw1 with rfl | rfl <;> exact hb
    have hs1 : w1.heap.size = w.heap.size := by rcases hw1 with rfl | rfl <;> rfl
    have hbn : (setBlock w1 r (.mapIter (some b) clock (seen.push e.born) clock)).heap[b]? = some (.map es clock) := by
      rw [(chg_set w1 r (b + 1) _).block b (by omega) (Ne.symm hne)]; exact hb1
    have hrn := set_at w1 r (.mapIter (some b) clock (seen.push e.born) clock) (by omega)
    have hent := run_entry_at (P := P) _ r b clock seen es clock e hrn hbn hes hn
    rw [hk, hv] at hrun hent
    refine ⟨l1, p, l2, _, h1, hrun, hent, ⟨es, clock, seen.push e.born, hbn, hp, hn, hc, hrn, ?_⟩, ?_, by simp [setBlock, hs1]⟩
    · have hnl : ((leftOf es seen).toList.map (·.born)).Nodup := by
        simp only [leftOf, Array.toList_filter]
        exact List.Nodup.sublist (List.filter_sublist.map _) hn
      have hf : (leftOf es (seen.push e.born)).toList = (leftOf es seen).toList.filter (fun x => x.born != e.born) := by
        simp only [leftOf, Array.toList_filter, List.filter_filter]
        apply List.filter_congr
        intro x _
        rw [Array.contains_push]
        cases hq : (x.born == e.born) <;> simp_all [bne]
      rw [hf, hac]
      rw [hac, List.map_append, List.map_cons, List.nodup_append, List.nodup_cons] at hnl
      obtain ⟨n1, ⟨n2, n3⟩, n4⟩ := hnl
      have fa : a.filter (fun x => x.born != e.born) = a := List.filter_eq_self.2 (fun x hx => by
        have := n4 _ (List.mem_map_of_mem hx) _ List.mem_cons_self
        simpa using this)
      have fc : c.filter (fun x => x.born != e.born) = c := List.filter_eq_self.2 (fun x hx => by
        have : x.born ≠ e.born := fun hq => n2 (by rw [← hq]; exact List.mem_map_of_mem hx)
        simpa using this)
      rw [List.filter_append, List.filter_cons, fa, fc]
      simp [h2, h4]
    · have h5 : Chg w.heap.size r w w1 := by rcases hw1 with rfl | rfl; exact Chg.refl _ _ _; exact (Chg.refl _ _ _).drew
      exact h5.trans (chg_set _ _ _ _)
end
end Go.Proofs.Ytmkcooamgojbpaa.Mp
