/- Whole blocks loaded and stored at once: a struct read out of, or written over, a block of its own. -/
import Derived.Test.YtmkcooamgojbpaaBlk
import Derived.Deep.MidRow
namespace Go.Proofs.Ytmkcooamgojbpaa.Blk
open Go.RowKit Go.Proofs.Ytmkcooamgojbpaa.Kit

section
variable {w : World} {B : Nat} {cs : Array Value} {T : TypeId}
theorem Blk.range (h : Blk w B cs T) : w.rangeAt B 0 cs.toList := fun j v hv => by
  rw [Nat.zero_add]; exact h.cell j (by simpa using hv)
theorem Blk.there (h : Blk w B cs T) : w.there B 0 cs.size := fun j hj => by
  rw [Nat.zero_add]
  exact ⟨by rw [h.cell j (Array.getElem?_eq_getElem hj)]; rfl, h.free j⟩

theorem setCells_some (vs : List Value) : ∀ (o : Nat) (w : World) (cs : Array Value), Blk w B cs T → ∃ cs', Blk (w.setCells B o vs) B cs' T ∧ cs'.size = cs.size := by
  induction vs with
  | nil => intro o w cs h; exact ⟨cs, h, rfl⟩
  | cons v vs ih =>
    intro o w cs h
    obtain ⟨cs', h1, h2⟩ := ih (o + 1) _ _ (h.set o v)
    exact ⟨cs', h1, by rw [h2]; simp⟩

theorem Blk.setCells (h : Blk w B cs T) (vs : Array Value) (hs : vs.size = cs.size) : Blk (w.setCells B 0 vs.toList) B vs T := by
  obtain ⟨cs', h1, h2⟩ := setCells_some vs.toList 0 w cs h
  have e : cs' = vs := by
    apply Array.ext (by omega)
    intro j hj hj'
    have hin := World.cell?_setCells_in B vs.toList 0 w (fun i hi => by rw [Nat.zero_add, h.cell i (Array.getElem?_eq_getElem (by simp at hi; omega))]; rfl) j (by simpa using hj')
    rw [Nat.zero_add, h1.cell j (Array.getElem?_eq_getElem hj)] at hin
    simpa using hin
  rw [e] at h1; exact h1

theorem Chg.setCells {n d B : Nat} {a : World} (vs : List Value) : ∀ (o : Nat) (w : World), Chg n d a w → (B = d ∨ n ≤ B) → Chg n d a (w.setCells B o vs) := by
  induction vs with
  | nil => intro o w h _; exact h
  | cons v vs ih => intro o w h hB; exact ih (o + 1) _ (h.setCell _ _ hB) hB
theorem Below.setCells {n B : Nat} {a : World} (vs : List Value) : ∀ (o : Nat) (w : World), Below n a w → n ≤ B → Below n a (w.setCells B o vs) := by
  induction vs with
  | nil => intro o w h _; exact h
  | cons v vs ih => intro o w h hB; exact ih (o + 1) _ (h.setCell hB _) hB
theorem Blk.apartAll {B' : Nat} {cs' : Array Value} {T' : TypeId} (vs : List Value) : ∀ (o : Nat) (w : World), Blk w B' cs' T' → B ≠ B' → Blk (w.setCells B o vs) B' cs' T' := by
  induction vs with
  | nil => intro o w h _; exact h
  | cons v vs ih => intro o w h hB; exact ih (o + 1) _ (h.apart _ _ hB) hB
end

section
variable {P : Program} {ops : Array Oper} {rest : List Oper} {op : Oper} {a : Act} {w : World} {Q : Exit → Act → World → Prop}
theorem load_blk (hgd : op.guard = none) (ty : TypeId) (x : Operand) (ho : op.op = .load ty x) (B : Nat) (hx : a.eval x = .pointer (some ⟨B, 0, none⟩)) (cs : Array Value) (T : TypeId) (h : Blk w B cs T)
    (d : TypeDesc) (hu : P.underlying ty = some d) (hd : d.isRow = true) (hi : (P.info? ty).map (·.size) = some cs.size)
    (hk : wpList P ops Q rest (a.put op.dst (.agg cs)) w) : wpList P ops Q (op :: rest) a w :=
  wpList_load_mid hgd ty x ho B 0 hx cs.toList d h.range hu hd (by simpa using hi) (by simpa using hk)
theorem store_blk (hgd : op.guard = none) (ty : TypeId) (x y : Operand) (ho : op.op = .store ty x y) (B : Nat) (hx : a.eval x = .pointer (some ⟨B, 0, none⟩)) (cs vs : Array Value) (T : TypeId) (h : Blk w B cs T)
    (hy : a.eval y = .agg vs) (hs : vs.size = cs.size) (hi : (P.info? ty).map (·.size) = some vs.size) (h1 : vs.all (·.oneCell') = true)
    (hk : wpList P ops Q rest (a.put op.dst undef) (w.setCells B 0 vs.toList)) : wpList P ops Q (op :: rest) a w :=
  wpList_store_mid hgd ty x y ho B 0 vs hx hy (hs ▸ h.there) hi h1 hk
end
end Go.Proofs.Ytmkcooamgojbpaa.Blk
