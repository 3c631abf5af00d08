/- Parts of the proof: OwnRow, BlkRow, Fresh, Big. -/
import Derived.Test.YtmkcooamgojbpaaDoorPart2
import Derived.Deep.MidRow
import Derived.Laws.Rows

/- Rows of structs in memory that a function owns: each cell, one cell set. -/
namespace Go.Proofs.YtmkcooamgojbpaaDoor.Own
open Go.RowKit Go.Proofs.YtmkcooamgojbpaaDoor.Kit Go.Proofs.YtmkcooamgojbpaaDoor.Blk
set_option linter.unusedVariables false

section
variable {α : Type} (c : α → Array Value) (s : Nat) (hs : ∀ x, (c x).size = s)
include hs
theorem flat_at (l : List α) : ∀ (i : Nat) (h : i < l.length) (j : Nat) (v : Value), (c l[i])[j]? = some v → (l.flatMap fun m => (c m).toList)[i * s + j]? = some v := by
  induction l with
  | nil => intro i h; simp at h
  | cons m l ih =>
    intro i h j v hv
    have hc : ((m :: l).flatMap fun m => (c m).toList) = (c m).toList ++ (l.flatMap fun m => (c m).toList) := by simp
    have hsz : (c m).toList.length = s := by simpa using hs m
    rw [hc]
    cases i with
    | zero =>
      rw [List.getElem_cons_zero] at hv
      have hj : j < s := by have := (Array.getElem?_eq_some_iff.1 hv).1; rw [hs] at this; exact this
      rw [show 0 * s + j = j by simp, List.getElem?_append_left (by omega)]
      simpa using hv
    | succ i =>
      rw [List.getElem_cons_succ] at hv
      have he : (i + 1) * s + j = s + (i * s + j) := by rw [Nat.add_mul]; omega
      rw [he, List.getElem?_append_right (by omega), hsz, Nat.add_sub_cancel_left]
      exact ih i (by simpa using h) j v hv
theorem flat_len (l : List α) : (l.flatMap fun m => (c m).toList).length = l.length * s := by
  induction l with
  | nil => simp
  | cons m l ih =>
    have hc : ((m :: l).flatMap fun m => (c m).toList) = (c m).toList ++ (l.flatMap fun m => (c m).toList) := by simp
    rw [hc, List.length_append, ih, List.length_cons, Nat.add_mul]
    have : (c m).toList.length = s := by simpa using hs m
    omega
/-- A row that is owned: each of its cells. -/
theorem owned_at {w : World} {N T : Nat} {v : Value} {l : List α} (h : w.ownsRow N T s v l.length (l.flatMap fun m => (c m).toList)) :
    ∃ a cap, v = .slice a l.length cap ∧ l.length ≤ cap ∧ cap ≤ maxLen ∧ ∀ i, (hi : i < l.length) → ∃ g, a = some ⟨g, 0, none⟩ ∧ N ≤ g ∧ g < w.heap.size ∧ w.rangeAt g (i * s) (c l[i]).toList := by
  rcases h.2 with ⟨rfl, h0⟩ | ⟨g, cap, cur, rfl, hg, hgb, hn, hc, hsz, htk⟩
  · exact ⟨none, 0, by rw [h0], by omega, Nat.zero_le _, fun i hi => by omega⟩
  · refine ⟨_, cap, rfl, hn, hc, fun i hi => ⟨g, rfl, hg, (Array.getElem?_eq_some_iff.1 hgb).1, fun j u hu => ?_⟩⟩
    have hu' : (c l[i])[j]? = some u := by simpa using hu
    have h1 := flat_at c s hs l i hi j u hu'
    have h2 := h.cellAt (g := g) (cap := cap) (i * s + j) (by
      have hj : j < s := by have := (Array.getElem?_eq_some_iff.1 hu').1; rw [hs] at this; exact this
      have : (i + 1) * s ≤ l.length * s := Nat.mul_le_mul_right _ hi
      rw [Nat.add_mul] at this; omega)
    rw [h2]; exact h1
end

section
variable {α : Type} (c : α → Array Value) (s : Nat) (hs : ∀ x, (c x).size = s)
include hs
theorem flat_set (u : Value) (x' : α) : ∀ (l : List α) (i : Nat) (h : i < l.length) (j : Nat), j < s → (c x').toList = (c l[i]).toList.set j u → (l.flatMap fun m => (c m).toList).set (i * s + j) u = (l.set i x').flatMap fun m => (c m).toList := by
  intro l
  induction l with
  | nil => intro i h; simp at h
  | cons m l ih =>
    intro i h j hj hx
    have hsz : (c m).toList.length = s := by simpa using hs m
    cases i with
    | zero =>
      rw [List.getElem_cons_zero] at hx
      rw [List.set_cons_zero, List.flatMap_cons, List.flatMap_cons, hx, show 0 * s + j = j by simp, List.set_append_left _ _ (by omega)]
    | succ i =>
      rw [List.getElem_cons_succ] at hx
      rw [List.set_cons_succ, List.flatMap_cons, List.flatMap_cons, List.set_append_right _ _ (by rw [hsz, Nat.add_mul]; omega), hsz, show (i + 1) * s + j - s = i * s + j by rw [Nat.add_mul]; omega, ih i (by simpa using h) j hj hx]
/-- One cell of an owned row is set. -/
theorem own_row1 {w : World} {N T g cap : Nat} {l : List α} (h : w.ownsRow N T s (.slice (some ⟨g, 0, none⟩) l.length cap) l.length (l.flatMap fun m => (c m).toList)) (i : Nat) (hi : i < l.length) (j : Nat) (hj : j < s) (u : Value) (x' : α) (hx : (c x').toList = (c l[i]).toList.set j u) :
    (w.setCell ⟨g, i * s + j, none⟩ u).ownsRow N T s (.slice (some ⟨g, 0, none⟩) (l.set i x').length cap) (l.set i x').length ((l.set i x').flatMap fun m => (c m).toList) := by
  rcases h.2 with ⟨h0, _⟩ | ⟨g', cap', cur, hv, hg, hgb, hn, hc, hsz, htk⟩
  · cases h0
  · injection hv with hv hv1 hv2
    injection hv with hv
    injection hv with hv
    subst hv hv2
    rw [List.length_set]
    refine ⟨by rw [flat_len c s hs, List.length_set], .inr ⟨g, cap, cur.setIfInBounds (i * s + j) u, rfl, hg, (show Blk w g cur T from hgb).set _ u, hn, hc, by simpa using hsz, ?_⟩⟩
    rw [Array.toList_setIfInBounds, List.take_set, htk, flat_set c s hs u x' l i hi j hj hx]
end
end Go.Proofs.YtmkcooamgojbpaaDoor.Own

/- Whole blocks loaded and stored at once: a struct read out of, or written over, a block of its own. -/
namespace Go.Proofs.YtmkcooamgojbpaaDoor.Blk
open Go.RowKit Go.Proofs.YtmkcooamgojbpaaDoor.Kit

section
variable {w : World} {B : Nat} {cs : Array Value} {T : TypeId}
theorem Blk.range (h : Blk w B cs T) : w.rangeAt B 0 cs.toList := fun j v hv => by
  rw [Nat.zero_add]; exact h.cell j (by simpa using hv)
theorem Blk.there (h : Blk w B cs T) : w.there B 0 cs.size := fun j hj => by
  rw [Nat.zero_add]
  exact ⟨by rw [h.cell j (Array.getElem?_eq_getElem hj)]; rfl, h.free j⟩

theorem setCells_some (vs : List Value) : ∀ (o : Nat) (w : World) (cs : Array Value), Blk w B cs T → ∃ cs', Blk (w.setCells B o vs) B cs' T ∧ cs'.size = cs.size := by
  induction vs with
  | nil => intro o w cs h; exact ⟨cs, h, rfl⟩
  | cons v vs ih =>
    intro o w cs h
    obtain ⟨cs', h1, h2⟩ := ih (o + 1) _ _ (h.set o v)
    exact ⟨cs', h1, by rw [h2]; simp⟩

theorem Blk.setCells (h : Blk w B cs T) (vs : Array Value) (hs : vs.size = cs.size) : Blk (w.setCells B 0 vs.toList) B vs T := by
  obtain ⟨cs', h1, h2⟩ := setCells_some vs.toList 0 w cs h
  have e : cs' = vs := by
    apply Array.ext (by omega)
    intro j hj hj'
    have hin := World.cell?_setCells_in B vs.toList 0 w (fun i hi => by rw [Nat.zero_add, h.cell i (Array.getElem?_eq_getElem (by simp at hi; omega))]; rfl) j (by simpa using hj')
    rw [Nat.zero_add, h1.cell j (Array.getElem?_eq_getElem hj)] at hin
    simpa using hin
  rw [e] at h1; exact h1

theorem Chg.setCells {n d B : Nat} {a : World} (vs : List Value) : ∀ (o : Nat) (w : World), Chg n d a w → (B = d ∨ n ≤ B) → Chg n d a (w.setCells B o vs) := by
  induction vs with
  | nil => intro o w h _; exact h
  | cons v vs ih => intro o w h hB; exact ih (o + 1) _ (h.setCell _ _ hB) hB
theorem Below.setCells {n B : Nat} {a : World} (vs : List Value) : ∀ (o : Nat) (w : World), Below n a w → n ≤ B → Below n a (w.setCells B o vs) := by
  induction vs with
  | nil => intro o w h _; exact h
  | cons v vs ih => intro o w h hB; exact ih (o + 1) _ (h.setCell hB _) hB
theorem Blk.apartAll {B' : Nat} {cs' : Array Value} {T' : TypeId} (vs : List Value) : ∀ (o : Nat) (w : World), Blk w B' cs' T' → B ≠ B' → Blk (w.setCells B o vs) B' cs' T' := by
  induction vs with
  | nil => intro o w h _; exact h
  | cons v vs ih => intro o w h hB; exact ih (o + 1) _ (h.apart _ _ hB) hB
end

section
variable {P : Program} {ops : Array Oper} {rest : List Oper} {op : Oper} {a : Act} {w : World} {Q : Exit → Act → World → Prop}
theorem load_blk (hgd : op.guard = none) (ty : TypeId) (x : Operand) (ho : op.op = .load ty x) (B : Nat) (hx : a.eval x = .pointer (some ⟨B, 0, none⟩)) (cs : Array Value) (T : TypeId) (h : Blk w B cs T)
    (d : TypeDesc) (hu : P.underlying ty = some d) (hd : d.isRow = true) (hi : (P.info? ty).map (·.size) = some cs.size)
    (hk : wpList P ops Q rest (a.put op.dst (.agg cs)) w) : wpList P ops Q (op :: rest) a w :=
  wpList_load_mid hgd ty x ho B 0 hx cs.toList d h.range hu hd (by simpa using hi) (by simpa using hk)
theorem store_blk (hgd : op.guard = none) (ty : TypeId) (x y : Operand) (ho : op.op = .store ty x y) (B : Nat) (hx : a.eval x = .pointer (some ⟨B, 0, none⟩)) (cs vs : Array Value) (T : TypeId) (h : Blk w B cs T)
    (hy : a.eval y = .agg vs) (hs : vs.size = cs.size) (hi : (P.info? ty).map (·.size) = some vs.size) (h1 : vs.all (·.oneCell') = true)
    (hk : wpList P ops Q rest (a.put op.dst undef) (w.setCells B 0 vs.toList)) : wpList P ops Q (op :: rest) a w :=
  wpList_store_mid hgd ty x y ho B 0 vs hx hy (hs ▸ h.there) hi h1 hk
end
end Go.Proofs.YtmkcooamgojbpaaDoor.Blk

/- A block laid and filled at once. -/
namespace Go.Proofs.YtmkcooamgojbpaaDoor.Blk
open Go.RowKit Go.Proofs.YtmkcooamgojbpaaDoor.Kit

def setMid (cs : Array Value) (o : Nat) : List Value → Array Value
  | [] => cs
  | v :: vs => setMid (cs.setIfInBounds o v) (o + 1) vs
theorem blk_mid {B : Nat} {T : TypeId} (vs : List Value) : ∀ (o : Nat) (w : World) (cs : Array Value), Blk w B cs T → Blk (w.setCells B o vs) B (setMid cs o vs) T := by
  induction vs with
  | nil => intro o w cs h; exact h
  | cons v vs ih => intro o w cs h; exact ih (o + 1) _ _ (h.set o v)
/-- A block laid and filled is a block that is laid filled. -/
theorem alloc_setCells (w : World) (cs vs : Array Value) (T : TypeId) (hs : vs.size = cs.size) (B : Nat) (hB : w.heap.size = B) : (w.alloc (.cells cs T)).setCells B 0 vs.toList = w.alloc (.cells vs T) := by
  subst hB
  have key : ∀ (l : List Value) (o : Nat) (ds : Array Value), (w.alloc (.cells ds T)).setCells w.heap.size o l = w.alloc (.cells (setMid ds o l) T) := by
    intro l
    induction l with
    | nil => intro o ds; rfl
    | cons v l ih =>
      intro o ds
      show (World.setCell (w.alloc (.cells ds T)) ⟨w.heap.size, o, none⟩ v).setCells w.heap.size (o + 1) l = _
      rw [World.setCell_alloc_at _ _ _ _ _ rfl]
      exact ih (o + 1) _
  rw [key]
  have h := (Blk.new w cs T w.heap.size rfl).setCells vs hs
  have h2 := blk_mid vs.toList 0 _ _ (Blk.new w cs T w.heap.size rfl)
  rw [show setMid cs 0 vs.toList = vs from by
    have := h.symm.trans h2
    injection this with this
    injection this with h1 _ _
    exact h1.symm]
end Go.Proofs.YtmkcooamgojbpaaDoor.Blk

/- Long arrays made at once. -/
namespace Go.Proofs.YtmkcooamgojbpaaDoor.Blk
open Go.RowKit Go.Proofs.YtmkcooamgojbpaaDoor.Kit

section
variable {P : Program} {ops : Array Oper} {rest : List Oper} {op : Oper} {a : Act} {w : World} {Q : Exit → Act → World → Prop}
theorem run_alloc_big (T : TypeId) (i : TypeInfo) (hi : P.info? T = some i) (z : Value) (hz : i.zero = some z) (w : World) :
    (Instr.alloc T true (.tuple #[])).run P w = .ok (.pointer (some ⟨w.heap.size, 0, none⟩)) (w.alloc (.cells z.cells T)) := by
  simp [Instr.alloc, zeroValue, typeInfo, hi, hz, newVar, newRow]
theorem alloc_big (hgd : op.guard = none) (T : TypeId) (ho : op.op = .alloc T) (i : TypeInfo) (hi : P.info? T = some i) (z : Value) (hz : i.zero = some z)
    (hk : wpList P ops Q rest (a.put op.dst (.pointer (some ⟨w.heap.size, 0, none⟩))) (w.alloc (.cells z.cells T))) : wpList P ops Q (op :: rest) a w :=
  wpList_plain hgd fun _ hK => by
    unfold Oper.wp execOp
    simp only [ho, Sem.run_bind, Sem.run_pure, Result.andThen_ok, run_alloc_big T i hi z hz]
    exact hK _ _ hk
end
theorem results_blk_tmp {P : Program} {fn : Func} {p u : Tmp} {ty T : TypeId} {tmps : Array Value} {w : World} {B : Nat} {cs : Array Value} {d : TypeDesc} (h : fn.results = #[.cell p ty, .tmp u]) (hp : tmps.getD p undef = .pointer (some ⟨B, 0, none⟩)) (hb : Blk w B cs T)
    (hu : P.underlying ty = some d) (hd : d.isRow = true) (hi : (P.info? ty).map (·.size) = some cs.size) : (results fn tmps).run P w = .ok (.tuple #[.agg cs, tmps.getD u undef]) w := by
  have hp' : tmps[p]?.getD undef = .pointer (some ⟨B, 0, none⟩) := by simpa using hp
  have hl := run_loadVar_mid w B 0 ty cs.toList d hb.range hu hd (by simpa using hi)
  simp [results, h, hp', asAddr, hl]
theorem results_blk_blk {P : Program} {fn : Func} {p u : Tmp} {ty T U : TypeId} {tmps : Array Value} {w : World} {B C : Nat} {cs ds : Array Value} {d : TypeDesc} (h : fn.results = #[.cell p ty, .cell u ty]) (hp : tmps.getD p undef = .pointer (some ⟨B, 0, none⟩)) (hq : tmps.getD u undef = .pointer (some ⟨C, 0, none⟩)) (hb : Blk w B cs T) (hc : Blk w C ds U)
    (hu : P.underlying ty = some d) (hd : d.isRow = true) (hi : (P.info? ty).map (·.size) = some cs.size) (hj : (P.info? ty).map (·.size) = some ds.size) : (results fn tmps).run P w = .ok (.tuple #[.agg cs, .agg ds]) w := by
  have hp' : tmps[p]?.getD undef = .pointer (some ⟨B, 0, none⟩) := by simpa using hp
  have hq' : tmps[u]?.getD undef = .pointer (some ⟨C, 0, none⟩) := by simpa using hq
  have hl := run_loadVar_mid w B 0 ty cs.toList d hb.range hu hd (by simpa using hi)
  have hm := run_loadVar_mid w C 0 ty ds.toList d hc.range hu hd (by simpa using hj)
  simp [results, h, hp', hq', asAddr, hl, hm]
end Go.Proofs.YtmkcooamgojbpaaDoor.Blk
