/- Blocks that are known whole; and worlds in which one old block may have changed. -/
import Derived.Test.YtmkcooamgojbpaaKit
namespace Go.Proofs.Ytmkcooamgojbpaa.Blk
open Go.RowKit Go.Proofs.Ytmkcooamgojbpaa.Kit

/-- Block B holds just these cells, none of them frozen. -/
def Blk (w : World) (B : Nat) (cs : Array Value) (T : TypeId) : Prop := w.heap[B]? = some (.cells cs T (0, 0))

section
variable {w w' : World} {B : Nat} {cs : Array Value} {T : TypeId}
theorem Blk.cell (h : Blk w B cs T) (j : Nat) {v : Value} (hv : cs[j]? = some v) : w.cell? ⟨B, j, none⟩ = some v := by
  unfold Blk at h
  simp only [World.cell?, h]
  simpa using hv
theorem Blk.free (h : Blk w B cs T) (j : Nat) : w.frozen? ⟨B, j, none⟩ = false := by
  unfold Blk at h
  simp only [World.frozen?, h]
  simp
theorem Blk.lt (h : Blk w B cs T) : B < w.heap.size := (Array.getElem?_eq_some_iff.1 h).1
theorem Blk.new (w : World) (cs : Array Value) (T n : Nat) (hn : w.heap.size = n) : Blk (w.alloc (.cells cs T)) n cs T := by
  subst hn; exact heap_alloc_new w _
theorem Blk.old (h : Blk w B cs T) (o : Obj) : Blk (w.alloc o) B cs T := by
  unfold Blk; rw [Below.heap_alloc w o B h.lt]; exact h
theorem Blk.drew (h : Blk w B cs T) : Blk w.drew B cs T := h
theorem Blk.drewN (h : Blk w B cs T) (n : Nat) : Blk (w.drewN n) B cs T := h
theorem Blk.below {n : Nat} (h : Blk w B cs T) (hb : Below n w w') (hB : B < n) : Blk w' B cs T := by
  unfold Blk; rw [hb.block B hB]; exact h
theorem Blk.set (h : Blk w B cs T) (j : Nat) (v : Value) : Blk (w.setCell ⟨B, j, none⟩ v) B (cs.setIfInBounds j v) T := by
  have hl := h.lt
  unfold Blk at *
  simp only [World.setCell, Array.getElem?_modify]
  simp [h]
theorem Blk.apart (h : Blk w B cs T) (a : Addr) (v : Value) (hne : a.block ≠ B) : Blk (w.setCell a v) B cs T := by
  unfold Blk; rw [Below.heap_setCell _ _ _ _ (fun e => hne e.symm)]; exact h
end

theorem _root_.Go.RowKit.Below.drewN {n : Nat} {a w : World} (h : Below n a w) (k : Nat) : Below n a (w.drewN k) := ⟨h.os, h.tape, h.output, h.size, h.block⟩

/-- Below number n nothing has changed but block d. -/
structure Chg (n d : Nat) (w w' : World) : Prop where
  os : w'.os = w.os
  tape : w'.tape = w.tape
  output : w'.output = w.output
  size : w.heap.size ≤ w'.heap.size
  block : ∀ k, k < n → k ≠ d → w'.heap[k]? = w.heap[k]?

section
variable {n d : Nat} {a w w' : World}
theorem Chg.refl (n d : Nat) (w : World) : Chg n d w w := ⟨rfl, rfl, rfl, Nat.le_refl _, fun _ _ _ => rfl⟩
theorem Chg.trans {b c : World} (h : Chg n d a b) (k : Chg n d b c) : Chg n d a c :=
  ⟨k.os.trans h.os, k.tape.trans h.tape, k.output.trans h.output, Nat.le_trans h.size k.size, fun i hi hd => (k.block i hi hd).trans (h.block i hi hd)⟩
theorem Chg.mono {n' : Nat} (h : Chg n d w w') (hn : n' ≤ n) : Chg n' d w w' := ⟨h.os, h.tape, h.output, h.size, fun k hk => h.block k (Nat.lt_of_lt_of_le hk hn)⟩
theorem Chg.of (h : Below n w w') : Chg n d w w' := ⟨h.os, h.tape, h.output, h.size, fun k hk _ => h.block k hk⟩
theorem Chg.below (h : Chg n d w w') (hd : n ≤ d) : Below n w w' := ⟨h.os, h.tape, h.output, h.size, fun k hk => h.block k hk (by omega)⟩
theorem Chg.below' {m : Nat} (h : Chg n d w w') (hd : m ≤ d) (hm : m ≤ n) : Below m w w' := ⟨h.os, h.tape, h.output, h.size, fun k hk => h.block k (by omega) (by omega)⟩
theorem Chg.step {w2 : World} (h : Chg n d a w) (k : Below n w w2) : Chg n d a w2 := h.trans (Chg.of k)
theorem Chg.alloc (h : Chg n d a w) (hn : n ≤ w.heap.size) (o : Obj) : Chg n d a (w.alloc o) := h.step ((Below.refl _ _).alloc hn o)
theorem Chg.drew (h : Chg n d a w) : Chg n d a w.drew := h.step (Below.refl _ _).drew
theorem Chg.setCell (h : Chg n d a w) (p : Addr) (v : Value) (hp : p.block = d ∨ n ≤ p.block) : Chg n d a (w.setCell p v) :=
  h.trans ⟨rfl, rfl, rfl, by simp [World.setCell], fun k hk hd => Below.heap_setCell _ _ _ _ (by omega)⟩
theorem Chg.blk {B : Nat} {cs : Array Value} {T : TypeId} (h : Chg n d w w') (hB : B < n) (hd : B ≠ d) (hb : Blk w B cs T) : Blk w' B cs T := by
  unfold Blk; rw [h.block B hB hd]; exact hb
theorem Chg.cell (h : Chg n d w w') {p : Addr} (hp : p.block < n) (hd : p.block ≠ d) : w'.cell? p = w.cell? p := World.cell?_of_block (h.block p.block hp hd)
end
end Go.Proofs.Ytmkcooamgojbpaa.Blk
