/- Parts of the proof: Kit, Blk. -/
import Derived.Test.YtmkcooamgojbpaaDoorProg
import Derived.WalkKit
import Derived.WalkLawsBesides
import Derived.WalkSpells
import Derived.Lib.Hide
import Derived.BigQuiet
import Derived.Deep.QuietTactic
import Derived.Deep.AppendLies
import Derived.KernelRfl
import Derived.Laws.EntriesVeiled

/- Plain lemmas on worlds and cells, used by all walks of this seat. -/
namespace Go.Proofs.YtmkcooamgojbpaaDoor.Kit
open Go.RowKit

theorem cell_new (w : World) (cs : Array Value) (T : TypeId) (n j : Nat) (v : Value) (hn : w.heap.size = n) (h : cs[j]? = some v) :
    (w.alloc (.cells cs T)).cell? ⟨n, j, none⟩ = some v := by
  subst hn
  simp only [World.cell?, heap_alloc_new]
  simpa using h
theorem cell_old (w : World) (o : Obj) (a : Addr) (h : a.block < w.heap.size) : (w.alloc o).cell? a = w.cell? a :=
  World.cell?_of_block (Below.heap_alloc w o a.block h)
theorem frozen_old (w : World) (o : Obj) (a : Addr) (h : a.block < w.heap.size) : (w.alloc o).frozen? a = w.frozen? a :=
  World.frozen?_of_block (Below.heap_alloc w o a.block h)

/-- What is known of the first blocks stays known. -/
theorem keeps {W w1 : World} (hb : Below W.heap.size W w1) : (∀ b o, b < W.heap.size → w1.cell? ⟨b, o, none⟩ = W.cell? ⟨b, o, none⟩) ∧ (∀ b o, b < W.heap.size → w1.frozen? ⟨b, o, none⟩ = W.frozen? ⟨b, o, none⟩) :=
  ⟨fun b o h => hb.cell (p := ⟨b, o, none⟩) h, fun b o h => hb.frozen (p := ⟨b, o, none⟩) h⟩

/-- Numbers in a row of cells. -/
def Nums (w : World) (a : Option Addr) (l : List Int) : Prop :=
  ∀ i, (h : i < l.length) → ∃ b off, a = some ⟨b, off, none⟩ ∧ b < w.heap.size ∧ w.cell? ⟨b, off + i, none⟩ = some (.int .i64 l[i])

theorem Nums.below {w w' : World} {a : Option Addr} {l : List Int} (h : Nums w a l) (hb : Below w.heap.size w w') : Nums w' a l := by
  intro i hi
  obtain ⟨b, off, ha, hl, hc⟩ := h i hi
  exact ⟨b, off, ha, Nat.lt_of_lt_of_le hl hb.size, by rw [hb.cell (p := ⟨b, _, none⟩) hl]; exact hc⟩

theorem nums_new (w : World) (cs : Array Value) (T n : Nat) (l : List Int) (hn : w.heap.size = n) (hcs : cs = (l.map (Value.int .i64)).toArray) :
    Nums (w.alloc (.cells cs T)) (some ⟨n, 0, none⟩) l := by
  intro i hi
  refine ⟨n, 0, rfl, by simp [hn], ?_⟩
  rw [Nat.zero_add]
  exact cell_new _ _ _ _ _ _ hn (by subst hcs; simp [hi])

theorem callFunc_enter {P : Program} {f : FuncId} {fn : Func} (hf : P.funcs[f]? = some fn) (hn : (fn.name == "runtime.NumGoroutine") = false) (hb : fn.body.isNone = false) (args : Array Value) (w : World) :
    (callFunc f args).run P w = .ok (.enter f args) w := by
  rw [beq_eq_false_iff_ne] at hn
  have hb' : fn.body ≠ none := fun h => by simp [h] at hb
  simp [callFunc, hf, hn, hb']

theorem ret_int {k : IntKind} {a b : Int} (h : a = b) : Ending.returned (.int k a) = .returned (.int k b) := by rw [h]
theorem ret_bool {a b : Bool} (h : a = b) : Ending.returned (.bool a) = .returned (.bool b) := by rw [h]

def allIn (lo hi : Int) (l : List Int) : Bool := l.all fun n => !(decide (n < lo) || decide (hi < n))
end Go.Proofs.YtmkcooamgojbpaaDoor.Kit

/- Blocks that are known whole; and worlds in which one old block may have changed. -/
namespace Go.Proofs.YtmkcooamgojbpaaDoor.Blk
open Go.RowKit Go.Proofs.YtmkcooamgojbpaaDoor.Kit

/-- Block B holds just these cells, none of them frozen. -/
def Blk (w : World) (B : Nat) (cs : Array Value) (T : TypeId) : Prop := w.heap[B]? = some (.cells cs T (0, 0))

section
variable {w w' : World} {B : Nat} {cs : Array Value} {T : TypeId}
theorem Blk.cell (h : Blk w B cs T) (j : Nat) {v : Value} (hv : cs[j]? = some v) : w.cell? ⟨B, j, none⟩ = some v := by
  unfold Blk at h
  simp only [World.cell?, h]
  simpa using hv
theorem Blk.free (h : Blk w B cs T) (j : Nat) : w.frozen? ⟨B, j, none⟩ = false := by
  unfold Blk at h
  simp only [World.frozen?, h]
  simp
theorem Blk.lt (h : Blk w B cs T) : B < w.heap.size := (Array.getElem?_eq_some_iff.1 h).1
theorem Blk.new (w : World) (cs : Array Value) (T n : Nat) (hn : w.heap.size = n) : Blk (w.alloc (.cells cs T)) n cs T := by
  subst hn; exact heap_alloc_new w _
theorem Blk.old (h : Blk w B cs T) (o : Obj) : Blk (w.alloc o) B cs T := by
  unfold Blk; rw [Below.heap_alloc w o B h.lt]; exact h
theorem Blk.drew (h : Blk w B cs T) : Blk w.drew B cs T := h
theorem Blk.drewN (h : Blk w B cs T) (n : Nat) : Blk (w.drewN n) B cs T := h
theorem Blk.below {n : Nat} (h : Blk w B cs T) (hb : Below n w w') (hB : B < n) : Blk w' B cs T := by
  unfold Blk; rw [hb.block B hB]; exact h
theorem Blk.set (h : Blk w B cs T) (j : Nat) (v : Value) : Blk (w.setCell ⟨B, j, none⟩ v) B (cs.setIfInBounds j v) T := by
  have hl := h.lt
  unfold Blk at *
  simp only [World.setCell, Array.getElem?_modify]
  simp [h]
theorem Blk.apart (h : Blk w B cs T) (a : Addr) (v : Value) (hne : a.block ≠ B) : Blk (w.setCell a v) B cs T := by
  unfold Blk; rw [Below.heap_setCell _ _ _ _ (fun e => hne e.symm)]; exact h
end

theorem _root_.Go.RowKit.Below.drewN {n : Nat} {a w : World} (h : Below n a w) (k : Nat) : Below n a (w.drewN k) := ⟨h.os, h.tape, h.output, h.size, h.block⟩

/-- Below number n nothing has changed but block d. -/
structure Chg (n d : Nat) (w w' : World) : Prop where
  os : w'.os = w.os
  tape : w'.tape = w.tape
  output : w'.output = w.output
  size : w.heap.size ≤ w'.heap.size
  block : ∀ k, k < n → k ≠ d → w'.heap[k]? = w.heap[k]?

section
variable {n d : Nat} {a w w' : World}
theorem Chg.refl (n d : Nat) (w : World) : Chg n d w w := ⟨rfl, rfl, rfl, Nat.le_refl _, fun _ _ _ => rfl⟩
theorem Chg.trans {b c : World} (h : Chg n d a b) (k : Chg n d b c) : Chg n d a c :=
  ⟨k.os.trans h.os, k.tape.trans h.tape, k.output.trans h.output, Nat.le_trans h.size k.size, fun i hi hd => (k.block i hi hd).trans (h.block i hi hd)⟩
theorem Chg.mono {n' : Nat} (h : Chg n d w w') (hn : n' ≤ n) : Chg n' d w w' := ⟨h.os, h.tape, h.output, h.size, fun k hk => h.block k (Nat.lt_of_lt_of_le hk hn)⟩
theorem Chg.of (h : Below n w w') : Chg n d w w' := ⟨h.os, h.tape, h.output, h.size, fun k hk _ => h.block k hk⟩
theorem Chg.below (h : Chg n d w w') (hd : n ≤ d) : Below n w w' := ⟨h.os, h.tape, h.output, h.size, fun k hk => h.block k hk (by omega)⟩
theorem Chg.below' {m : Nat} (h : Chg n d w w') (hd : m ≤ d) (hm : m ≤ n) : Below m w w' := ⟨h.os, h.tape, h.output, h.size, fun k hk => h.block k (by omega) (by omega)⟩
theorem Chg.step {w2 : World} (h : Chg n d a w) (k : Below n w w2) : Chg n d a w2 := h.trans (Chg.of k)
theorem Chg.alloc (h : Chg n d a w) (hn : n ≤ w.heap.size) (o : Obj) : Chg n d a (w.alloc o) := h.step ((Below.refl _ _).alloc hn o)
theorem Chg.drew (h : Chg n d a w) : Chg n d a w.drew := h.step (Below.refl _ _).drew
theorem Chg.setCell (h : Chg n d a w) (p : Addr) (v : Value) (hp : p.block = d ∨ n ≤ p.block) : Chg n d a (w.setCell p v) :=
  h.trans ⟨rfl, rfl, rfl, by simp [World.setCell], fun k hk hd => Below.heap_setCell _ _ _ _ (by omega)⟩
theorem Chg.blk {B : Nat} {cs : Array Value} {T : TypeId} (h : Chg n d w w') (hB : B < n) (hd : B ≠ d) (hb : Blk w B cs T) : Blk w' B cs T := by
  unfold Blk; rw [h.block B hB hd]; exact hb
theorem Chg.cell (h : Chg n d w w') {p : Addr} (hp : p.block < n) (hd : p.block ≠ d) : w'.cell? p = w.cell? p := World.cell?_of_block (h.block p.block hp hd)
end
end Go.Proofs.YtmkcooamgojbpaaDoor.Blk
