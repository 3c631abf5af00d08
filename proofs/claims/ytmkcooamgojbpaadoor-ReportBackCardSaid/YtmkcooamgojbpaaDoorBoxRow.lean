/- A block of one cell that holds a row of its own; what appending to it leaves alone. -/
import Derived.Test.YtmkcooamgojbpaaDoorOctets
namespace Go.Proofs.YtmkcooamgojbpaaDoor.Blk
open Go.RowKit Go.Proofs.YtmkcooamgojbpaaDoor.Kit Go.Proofs.YtmkcooamgojbpaaDoor.Octets
set_option linter.unusedVariables false

def BR (T e N P : Nat) (xs : List Value) (W : World) : Prop := ∃ v, Blk W P #[v] T ∧ W.ownsRow N e 1 v xs.length xs
structure KeepB (T e N : Nat) (w w' : World) : Prop where
  bel : Below N w w'
  blk : ∀ (B : Nat) (cs : Array Value) (U : TypeId), Blk w B cs U → U ≠ T → U ≠ e → Blk w' B cs U
section
variable {T e N P : Nat} {xs ys : List Value} {w W W' w1 : World} {v v' : Value}
theorem KeepB.refl (T e N : Nat) (w : World) : KeepB T e N w w := ⟨Below.refl _ _, fun _ _ _ h _ _ => h⟩
theorem KeepB.trans {a b c : World} (h : KeepB T e N a b) (k : KeepB T e N b c) : KeepB T e N a c := ⟨h.bel.trans k.bel, fun B cs U hB h1 h2 => k.blk B cs U (h.blk B cs U hB h1 h2) h1 h2⟩
theorem KeepB.below (hN : N ≤ w.heap.size) (h : Below w.heap.size w W) : KeepB T e N w W := ⟨h.mono hN, fun B cs U hB _ _ => hB.below h hB.lt⟩
theorem KeepB.alloc (hN : N ≤ w.heap.size) (o : Obj) : KeepB T e N w (w.alloc o) := KeepB.below hN ((Below.refl _ _).alloc (Nat.le_refl _) _)
theorem KeepB.drew (h : KeepB T e N w W) : KeepB T e N w W.drew := ⟨h.bel.drew, fun B cs U hB h1 h2 => (h.blk B cs U hB h1 h2).drew⟩
theorem KeepB.drewN (h : KeepB T e N w W) (n : Nat) : KeepB T e N w (W.drewN n) := ⟨h.bel.drewN n, fun B cs U hB h1 h2 => (h.blk B cs U hB h1 h2).drewN n⟩
theorem BR.lt (h : BR T e N P xs W) : P < W.heap.size := by obtain ⟨v, hv, _⟩ := h; exact hv.lt
theorem BR.below (h : BR T e N P xs W) (hb : Below W.heap.size W W') : BR T e N P xs W' := by
  obtain ⟨v, hv, hr⟩ := h
  exact ⟨v, hv.below hb hv.lt, hr.kept (row := none) ⟨hb.os, hb.tape, hb.output, hb.size, fun k hk _ => hb.block k hk⟩ (by cases v.ownBlock; exact .inl rfl; exact .inr (by simp))⟩
theorem BR.alloc (h : BR T e N P xs W) (o : Obj) : BR T e N P xs (W.alloc o) := h.below ((Below.refl _ _).alloc (Nat.le_refl _) _)
theorem BR.drew (h : BR T e N P xs W) : BR T e N P xs W.drew := h.below (Below.refl _ _).drew
theorem BR.drewN (h : BR T e N P xs W) (n : Nat) : BR T e N P xs (W.drewN n) := h.below ((Below.refl _ _).drewN n)
theorem br_new (w : World) (n : Nat) (hn : w.heap.size = n) : BR T e N n [] (w.alloc (.cells #[.slice none 0 0] T)) := ⟨_, Blk.new _ _ _ _ hn, World.ownsRow_nil _ _ _ _⟩
theorem BR.slice (h : BR T e N P xs W) : ∃ a c, Blk W P #[.slice a xs.length c] T ∧ W.ownsRow N e 1 (.slice a xs.length c) xs.length xs := by
  obtain ⟨v, hv, hr⟩ := h
  rcases hr.2 with ⟨rfl, h0⟩ | ⟨g, cap, cur, rfl, h1⟩
  · have h0 : xs.length = 0 := h0
    rw [h0] at hr ⊢
    exact ⟨_, _, hv, hr⟩
  · exact ⟨_, _, hv, hr⟩
/-- Elements appended (W': the world behind what was laid for them). -/
theorem br_push (hte : T ≠ e) (hb : Below W.heap.size W W') (hv : Blk W P #[v] T) (hrow : W.ownsRow N e 1 v xs.length xs) (hNP : N ≤ P) (hle : N ≤ W.heap.size)
    (hown : w1.ownsRow N e 1 v' (xs.length + ys.length) (xs ++ ys)) (hgrow : W'.grownBy w1 v.ownBlock) :
    BR T e N P (xs ++ ys) (w1.setCell ⟨P, 0, none⟩ v') ∧ KeepB T e N W (w1.setCell ⟨P, 0, none⟩ v') := by
  have h1 : Blk w1 P #[v] T := blk_keep hb hv hte hrow hgrow
  refine ⟨⟨v', ?_, ?_⟩, ?_, ?_⟩
  · have := h1.set 0 v'; exact this
  · rw [List.length_append]
    refine hown.kept (grown_cell w1 P 0 v') ?_
    cases hv' : v'.ownBlock with
    | none => exact .inl rfl
    | some j =>
      right
      intro e'
      obtain ⟨_, cur, hc⟩ := row_from' hown hv'
      cases e'
      rw [show w1.heap[P]? = _ from h1] at hc
      injection hc with hc
      injection hc with _ hc _
      exact hte hc
  · exact (((hb.mono hle).grown hgrow (Nat.le_trans hle hb.size) (fun k e => (row_from' hrow e).1))).setCell (p := ⟨P, 0, none⟩) hNP v'
  · intro B cs U hB h2 h3
    refine (blk_keep hb hB h3 hrow hgrow).apart _ _ ?_
    show P ≠ B
    intro e'
    subst e'
    have hB' : W.heap[P]? = some (.cells cs U (0, 0)) := hB
    rw [show W.heap[P]? = _ from hv] at hB'
    injection hB' with hB'
    injection hB' with _ hB' _
    exact h2 hB'.symm
end
end Go.Proofs.YtmkcooamgojbpaaDoor.Blk
