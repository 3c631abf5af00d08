/- A block laid and filled at once. -/
import Derived.Test.YtmkcooamgojbpaaDoorBlkRow
namespace Go.Proofs.YtmkcooamgojbpaaDoor.Blk
open Go.RowKit Go.Proofs.YtmkcooamgojbpaaDoor.Kit

def setMid (cs : Array Value) (o : Nat) : List Value → Array Value
  | [] => cs
  | v :: vs => setMid (cs.setIfInBounds o v) (o + 1) vs
theorem blk_mid {B : Nat} {T : TypeId} (vs : List Value) : ∀ (o : Nat) (w : World) (cs : Array Value), Blk w B cs T → Blk (w.setCells B o vs) B (setMid cs o vs) T := by
  induction vs with
  | nil => intro o w cs h; exact h
  | cons v vs ih => intro o w cs h; exact ih (o + 1) _ _ (h.set o v)
/-- A block laid and filled is a block that is laid filled. -/
theorem alloc_setCells (w : World) (cs vs : Array Value) (T : TypeId) (hs : vs.size = cs.size) (B : Nat) (hB : w.heap.size = B) : (w.alloc (.cells cs T)).setCells B 0 vs.toList = w.alloc (.cells vs T) := by
  subst hB
  have key : ∀ (l : List Value) (o : Nat) (ds : Array Value), (w.alloc (.cells ds T)).setCells w.heap.size o l = w.alloc (.cells (setMid ds o l) T) := by
    intro l
    induction l with
    | nil => intro o ds; rfl
    | cons v l ih =>
      intro o ds
      show (World.setCell (w.alloc (.cells ds T)) ⟨w.heap.size, o, none⟩ v).setCells w.heap.size (o + 1) l = _
      rw [World.setCell_alloc_at _ _ _ _ _ rfl]
      exact ih (o + 1) _
  rw [key]
  have h := (Blk.new w cs T w.heap.size rfl).setCells vs hs
  have h2 := blk_mid vs.toList 0 _ _ (Blk.new w cs T w.heap.size rfl)
  rw [show setMid cs 0 vs.toList = vs from by
    have := h.symm.trans h2
    injection this with this
    injection this with h1 _ _
    exact h1.symm]
end Go.Proofs.YtmkcooamgojbpaaDoor.Blk
