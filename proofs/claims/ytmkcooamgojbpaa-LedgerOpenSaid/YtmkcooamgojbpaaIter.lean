/- Ranges over functions: what an invariant of cells keeps, and plain contracts in a fence. -/
import Derived.RangeFuncNested
import Derived.RangeFuncBound
import Derived.RangeFuncCalls
import Derived.RangeFuncLeaves
import Derived.RangeFuncFrom
import Derived.RangeFuncWrites
import Derived.RangeFuncBox
import Derived.Shelf.Abstract
import Derived.OwnWalkIn
import Derived.TacticsInMore
import Derived.LoopNIn
import Derived.LoopIn
import Derived.Test.YtmkcooamgojbpaaBlk
namespace Go.Proofs.Ytmkcooamgojbpaa.Iter
open Go.RowKit Go.Shelf Go.Proofs.Ytmkcooamgojbpaa.Kit Go.Proofs.Ytmkcooamgojbpaa.Blk
set_option linter.unusedVariables false

/-- Every block of cells is as it was. -/
structure CK (w w' : World) : Prop where
  os : w'.os = w.os
  tape : w'.tape = w.tape
  output : w'.output = w.output
  size : w.heap.size ≤ w'.heap.size
  cells : ∀ (k : Nat) (cs : Array Value) (T : TypeId) (fr : Nat × Nat), w.heap[k]? = some (.cells cs T fr) → w'.heap[k]? = some (.cells cs T fr)
theorem own_ck {β : Type} {I : β → World → Prop} (h : ∀ s w w', I s w → CK w w' → I s w') : Own I := fun s w w' row hs hg hr =>
  h s w w' hs ⟨hg.os, hg.tape, hg.output, hg.size, fun k cs T fr hk => (grownBy_keeps_cells hg hr hk rfl).trans hk⟩
theorem ck_blk {w w' : World} {B : Nat} {cs : Array Value} {T : TypeId} (h : Blk w B cs T) (hk : CK w w') : Blk w' B cs T := hk.cells B cs T (0, 0) h
theorem ck_of_put {W : World} {D : Nat} {o : Obj} (hK : W.heap[D]? = some (.deferred (some []))) : CK W (W.putObj D o) :=
  ⟨rfl, rfl, rfl, by simp, fun k cs T fr hk => by
    have hne : k ≠ D := fun e => by subst e; rw [hK] at hk; cases hk
    exact (World.putObj_heap_other hne).trans hk⟩
theorem kf_below {B : Nat} {w w' : World} (h : Below w.heap.size w w') : KeepsFrom B w w' :=
  ⟨h.size, fun k _ _ hk _ => (h.block k (Array.getElem?_eq_some_iff.1 hk).1).trans hk⟩
theorem kf_chg {B d : Nat} {w w' : World} (h : Chg w.heap.size d w w') (hd : d < B) : KeepsFrom B w w' :=
  ⟨h.size, fun k _ hB hk _ => (h.block k (Array.getElem?_eq_some_iff.1 hk).1 (by omega)).trans hk⟩
theorem ko_below {w w' : World} (h : Below w.heap.size w w') : KeepsOthers w w' :=
  ⟨h.size, fun k _ hk _ => (h.block k (Array.getElem?_eq_some_iff.1 hk).1).trans hk⟩
theorem of_wide {n : Nat} {P : Program} {f : FuncId} {args : Array Value} {w : World} {R : Ending → World → Prop} (h : CallsIn Fence.wide n P f args w R) : Calls P f args w R := callsIn_wide.1 h
theorem to_wide {n : Nat} {P : Program} {f : FuncId} {args : Array Value} {w : World} {R : Ending → World → Prop} (h : Calls P f args w R) : CallsIn Fence.wide n P f args w R := callsIn_wide.2 h
theorem wide_fn (n : FuncId) : Fence.wide.fn n = True := rfl
/-- The blocks of S are as they were. -/
def KS (S : Nat → Prop) (w w' : World) : Prop := ∀ b, S b → w'.heap[b]? = w.heap[b]?
theorem ks_refl (S : Nat → Prop) (w : World) : KS S w w := fun _ _ => rfl
theorem ks_t {S : Nat → Prop} {A B C : World} (h : KS S A B) (k : KS S B C) : KS S A C := fun b hb => (k b hb).trans (h b hb)
theorem ks_b {S : Nat → Prop} {w : World} (hS : ∀ b, S b → b < w.heap.size) (W : World) (l : Nat) (o o' : Obj) (hl : w.heap.size ≤ l) (_ : W.heap[l]? = some o) (_ : o.isCells = false) (_ : o.isWalk = false) : KS S W (W.putObj l o') :=
  fun b hb => World.putObj_heap_other (by have := hS b hb; omega)
theorem ks_set {S : Nat → Prop} (w : World) (a : Addr) (v : Value) (h : ¬ S a.block) : KS S w (w.setCell a v) := fun b hb => Below.heap_setCell _ _ _ _ (fun e => h (e ▸ hb))
theorem ks_below {S : Nat → Prop} {n : Nat} {w w' : World} (hb : Below n w w') (h : ∀ b, S b → b < n) : KS S w w' := fun b hs => hb.block b (h b hs)
theorem ks_blk {S : Nat → Prop} {w w' : World} {B : Nat} {cs : Array Value} {T : TypeId} (h : Blk w B cs T) (hk : KS S w w') (hB : S B) : Blk w' B cs T := (hk B hB).trans h
theorem ks_cell {S : Nat → Prop} {w w' : World} {p : Addr} (hk : KS S w w') (hB : S p.block) : w'.cell? p = w.cell? p := World.cell?_of_block (hk p.block hB)
end Go.Proofs.Ytmkcooamgojbpaa.Iter
