/- Parts of the proof: BlkRow, Big, Fresh. -/
import Derived.Test.YtmkcooamgojbpaaGreatDoorPart3
import Derived.Deep.MidRow
import Derived.Laws.Rows

/- Whole blocks loaded and stored at once: a struct read out of, or written over, a block of its own. -/
namespace Go.Proofs.YtmkcooamgojbpaaGreatDoor.Blk
open Go.RowKit Go.Proofs.YtmkcooamgojbpaaGreatDoor.Kit

section
variable {w : World} {B : Nat} {cs : Array Value} {T : TypeId}
theorem Blk.range (h : Blk w B cs T) : w.rangeAt B 0 cs.toList := fun j v hv => by
  rw [Nat.zero_add]; exact h.cell j (by simpa using hv)
theorem Blk.there (h : Blk w B cs T) : w.there B 0 cs.size := fun j hj => by
  rw [Nat.zero_add]
  exact ⟨by rw [h.cell j (Array.getElem?_eq_getElem hj)]; rfl, h.free j⟩

theorem setCells_some (vs : List Value) : ∀ (o : Nat) (w : World) (cs : Array Value), Blk w B cs T → ∃ cs', Blk (w.setCells B o vs) B cs' T ∧ cs'.size = cs.size := by
  induction vs with
  | nil => intro o w cs h; exact ⟨cs, h, rfl⟩
  | cons v vs ih =>
    intro o w cs h
    obtain ⟨cs', h1, h2⟩ := ih (o + 1) _ _ (h.set o v)
    exact ⟨cs', h1, by rw [h2]; simp⟩

theorem Blk.setCells (h : Blk w B cs T) (vs : Array Value) (hs : vs.size = cs.size) : Blk (w.setCells B 0 vs.toList) B vs T := by
  obtain ⟨cs', h1, h2⟩ := setCells_some vs.toList 0 w cs h
  have e : cs' = vs := by
    apply Array.ext (by omega)
    intro j hj hj'
    have hin := World.cell?_setCells_in B vs.toList 0 w (fun i hi => by rw [Nat.zero_add, h.cell i (Array.getElem?_eq_getElem (by simp at hi; omega))]; rfl) j (by simpa using hj')
    rw [Nat.zero_add, h1.cell j (Array.getElem?_eq_getElem hj)] at hin
    simpa using hin
  rw [e] at h1; exact h1

theorem Chg.setCells {n d B : Nat} {a : World} (vs : List Value) : ∀ (o : Nat) (w : World), Chg n d a w → (B = d ∨ n ≤ B) → Chg n d a (w.setCells B o vs) := by
  induction vs with
  | nil => intro o w h _; exact h
  | cons v vs ih => intro o w h hB; exact ih (o + 1) _ (h.setCell _ _ hB) hB
theorem Below.setCells {n B : Nat} {a : World} (vs : List Value) : ∀ (o : Nat) (w : World), Below n a w → n ≤ B → Below n a (w.setCells B o vs) := by
  induction vs with
  | nil => intro o w h _; exact h
  | cons v vs ih => intro o w h hB; exact ih (o + 1) _ (h.setCell hB _) hB
theorem Blk.apartAll {B' : Nat} {cs' : Array Value} {T' : TypeId} (vs : List Value) : ∀ (o : Nat) (w : World), Blk w B' cs' T' → B ≠ B' → Blk (w.setCells B o vs) B' cs' T' := by
  induction vs with
  | nil => intro o w h _; exact h
  | cons v vs ih => intro o w h hB; exact ih (o + 1) _ (h.apart _ _ hB) hB
end

section
variable {P : Program} {ops : Array Oper} {rest : List Oper} {op : Oper} {a : Act} {w : World} {Q : Exit → Act → World → Prop}
theorem load_blk (hgd : op.guard = none) (ty : TypeId) (x : Operand) (ho : op.op = .load ty x) (B : Nat) (hx : a.eval x = .pointer (some ⟨B, 0, none⟩)) (cs : Array Value) (T : TypeId) (h : Blk w B cs T)
    (d : TypeDesc) (hu : P.underlying ty = some d) (hd : d.isRow = true) (hi : (P.info? ty).map (·.size) = some cs.size)
    (hk : wpList P ops Q rest (a.put op.dst (.agg cs)) w) : wpList P ops Q (op :: rest) a w :=
  wpList_load_mid hgd ty x ho B 0 hx cs.toList d h.range hu hd (by simpa using hi) (by simpa using hk)
theorem store_blk (hgd : op.guard = none) (ty : TypeId) (x y : Operand) (ho : op.op = .store ty x y) (B : Nat) (hx : a.eval x = .pointer (some ⟨B, 0, none⟩)) (cs vs : Array Value) (T : TypeId) (h : Blk w B cs T)
    (hy : a.eval y = .agg vs) (hs : vs.size = cs.size) (hi : (P.info? ty).map (·.size) = some vs.size) (h1 : vs.all (·.oneCell') = true)
    (hk : wpList P ops Q rest (a.put op.dst undef) (w.setCells B 0 vs.toList)) : wpList P ops Q (op :: rest) a w :=
  wpList_store_mid hgd ty x y ho B 0 vs hx hy (hs ▸ h.there) hi h1 hk
end
end Go.Proofs.YtmkcooamgojbpaaGreatDoor.Blk

/- Long arrays made at once. -/
namespace Go.Proofs.YtmkcooamgojbpaaGreatDoor.Blk
open Go.RowKit Go.Proofs.YtmkcooamgojbpaaGreatDoor.Kit

section
variable {P : Program} {ops : Array Oper} {rest : List Oper} {op : Oper} {a : Act} {w : World} {Q : Exit → Act → World → Prop}
theorem run_alloc_big (T : TypeId) (i : TypeInfo) (hi : P.info? T = some i) (z : Value) (hz : i.zero = some z) (w : World) :
    (Instr.alloc T true (.tuple #[])).run P w = .ok (.pointer (some ⟨w.heap.size, 0, none⟩)) (w.alloc (.cells z.cells T)) := by
  simp [Instr.alloc, zeroValue, typeInfo, hi, hz, newVar, newRow]
theorem alloc_big (hgd : op.guard = none) (T : TypeId) (ho : op.op = .alloc T) (i : TypeInfo) (hi : P.info? T = some i) (z : Value) (hz : i.zero = some z)
    (hk : wpList P ops Q rest (a.put op.dst (.pointer (some ⟨w.heap.size, 0, none⟩))) (w.alloc (.cells z.cells T))) : wpList P ops Q (op :: rest) a w :=
  wpList_plain hgd fun _ hK => by
    unfold Oper.wp execOp
    simp only [ho, Sem.run_bind, Sem.run_pure, Result.andThen_ok, run_alloc_big T i hi z hz]
    exact hK _ _ hk
end
theorem results_blk_tmp {P : Program} {fn : Func} {p u : Tmp} {ty T : TypeId} {tmps : Array Value} {w : World} {B : Nat} {cs : Array Value} {d : TypeDesc} (h : fn.results = #[.cell p ty, .tmp u]) (hp : tmps.getD p undef = .pointer (some ⟨B, 0, none⟩)) (hb : Blk w B cs T)
    (hu : P.underlying ty = some d) (hd : d.isRow = true) (hi : (P.info? ty).map (·.size) = some cs.size) : (results fn tmps).run P w = .ok (.tuple #[.agg cs, tmps.getD u undef]) w := by
  have hp' : tmps[p]?.getD undef = .pointer (some ⟨B, 0, none⟩) := by simpa using hp
  have hl := run_loadVar_mid w B 0 ty cs.toList d hb.range hu hd (by simpa using hi)
  simp [results, h, hp', asAddr, hl]
theorem results_blk_blk {P : Program} {fn : Func} {p u : Tmp} {ty T U : TypeId} {tmps : Array Value} {w : World} {B C : Nat} {cs ds : Array Value} {d : TypeDesc} (h : fn.results = #[.cell p ty, .cell u ty]) (hp : tmps.getD p undef = .pointer (some ⟨B, 0, none⟩)) (hq : tmps.getD u undef = .pointer (some ⟨C, 0, none⟩)) (hb : Blk w B cs T) (hc : Blk w C ds U)
    (hu : P.underlying ty = some d) (hd : d.isRow = true) (hi : (P.info? ty).map (·.size) = some cs.size) (hj : (P.info? ty).map (·.size) = some ds.size) : (results fn tmps).run P w = .ok (.tuple #[.agg cs, .agg ds]) w := by
  have hp' : tmps[p]?.getD undef = .pointer (some ⟨B, 0, none⟩) := by simpa using hp
  have hq' : tmps[u]?.getD undef = .pointer (some ⟨C, 0, none⟩) := by simpa using hq
  have hl := run_loadVar_mid w B 0 ty cs.toList d hb.range hu hd (by simpa using hi)
  have hm := run_loadVar_mid w C 0 ty ds.toList d hc.range hu hd (by simpa using hj)
  simp [results, h, hp', hq', asAddr, hl, hm]
end Go.Proofs.YtmkcooamgojbpaaGreatDoor.Blk

/- A block laid and filled at once. -/
namespace Go.Proofs.YtmkcooamgojbpaaGreatDoor.Blk
open Go.RowKit Go.Proofs.YtmkcooamgojbpaaGreatDoor.Kit

def setMid (cs : Array Value) (o : Nat) : List Value → Array Value
  | [] => cs
  | v :: vs => setMid (cs.setIfInBounds o v) (o + 1) vs
theorem blk_mid {B : Nat} {T : TypeId} (vs : List Value) : ∀ (o : Nat) (w : World) (cs : Array Value), Blk w B cs T → Blk (w.setCells B o vs) B (setMid cs o vs) T := by
  induction vs with
  | nil => intro o w cs h; exact h
  | cons v vs ih => intro o w cs h; exact ih (o + 1) _ _ (h.set o v)
/-- A block laid and filled is a block that is laid filled. -/
theorem alloc_setCells (w : World) (cs vs : Array Value) (T : TypeId) (hs : vs.size = cs.size) (B : Nat) (hB : w.heap.size = B) : (w.alloc (.cells cs T)).setCells B 0 vs.toList = w.alloc (.cells vs T) := by
  subst hB
  have key : ∀ (l : List Value) (o : Nat) (ds : Array Value), (w.alloc (.cells ds T)).setCells w.heap.size o l = w.alloc (.cells (setMid ds o l) T) := by
    intro l
    induction l with
    | nil => intro o ds; rfl
    | cons v l ih =>
      intro o ds
      show (World.setCell (w.alloc (.cells ds T)) ⟨w.heap.size, o, none⟩ v).setCells w.heap.size (o + 1) l = _
      rw [World.setCell_alloc_at _ _ _ _ _ rfl]
      exact ih (o + 1) _
  rw [key]
  have h := (Blk.new w cs T w.heap.size rfl).setCells vs hs
  have h2 := blk_mid vs.toList 0 _ _ (Blk.new w cs T w.heap.size rfl)
  rw [show setMid cs 0 vs.toList = vs from by
    have := h.symm.trans h2
    injection this with this
    injection this with h1 _ _
    exact h1.symm]
end Go.Proofs.YtmkcooamgojbpaaGreatDoor.Blk
