/- strings.Builder: what it has been written. -/
import Derived.Test.YtmkcooamgojbpaaDoorRepNum
namespace Go.Proofs.YtmkcooamgojbpaaDoor.Lines
open Go.RowKit Go.Proofs.YtmkcooamgojbpaaDoor.Kit Go.Proofs.YtmkcooamgojbpaaDoor.Blk Go.Proofs.YtmkcooamgojbpaaDoor.Dec Go.Proofs.YtmkcooamgojbpaaDoor.Words Go.Proofs.YtmkcooamgojbpaaDoor.Octets
set_option linter.unusedVariables false

/-- A builder at block B, the first of a call's own, has been written l. -/
def BdS (B : Nat) (l : List UInt8) (W : World) : Prop := Lib.IsBuilderF 150 5 B B (Lib.byteCells l) W
theorem bd_new (w : World) (B : Nat) (h : w.heap.size = B) : BdS B [] (w.alloc (.cells #[.pointer none, .slice none 0 0] 150)) := by
  subst h
  exact .inl ⟨Nat.le_refl _, _, heap_alloc_new w _, World.ownsRowF_nil _ _ _ _, by simp [Value.ownBlock]⟩
theorem BdS.lt {B : Nat} {l : List UInt8} {W : World} (h : BdS B l W) : B < W.heap.size := h.elim (·.lt) (·.lt)
theorem at_below {B : Nat} {p : Value} {l : List Value} {W W' : World} (h : Lib.BuilderAtF 150 5 B B p l W) (hb : Below W.heap.size W W') : Lib.BuilderAtF 150 5 B B p l W' := by
  have hlt := h.lt
  obtain ⟨hB, v, h1, h2, h3⟩ := h
  exact ⟨hB, v, by rw [hb.block B hlt]; exact h1, h2.kept (row := none) ⟨hb.os, hb.tape, hb.output, hb.size, fun k hk _ => hb.block k hk⟩ (by cases v.ownBlock; exact .inl rfl; exact .inr (by simp)), h3⟩
theorem BdS.below {B : Nat} {l : List UInt8} {W W' : World} (h : BdS B l W) (hb : Below W.heap.size W W') : BdS B l W' := h.imp (at_below · hb) (at_below · hb)
theorem BdS.alloc {B : Nat} {l : List UInt8} {W : World} (h : BdS B l W) (o : Obj) : BdS B l (W.alloc o) := h.below ((Below.refl _ _).alloc (Nat.le_refl _) _)
theorem cells_app (l s : List UInt8) : Lib.byteCells (l ++ s) = Lib.byteCells l ++ Lib.byteCells s := by simp [Lib.byteCells]
/-- Behind a write. -/
def BwIs (B : Nat) (l : List UInt8) (v : Value) (w : World) (e : Ending) (w' : World) : Prop := e = .returned v ∧ BdS B l w' ∧ Below B w w'
theorem writeString_any (B : Nat) (l s : List UInt8) (w : World) (h : BdS B l w) (hl : l.length + s.length ≤ 100000000) :
    Calls Tryd.prog 104 #[.pointer (some ⟨B, 0, none⟩), .string (strB s)] w (BwIs B (l ++ s) (.tuple #[.int .i64 (strB s).size, .nilIface]) w) := by
  refine (Shelf.writeString B B (Lib.byteCells l) (strB s) w h (by rw [Lib.byteCells_length, strB_size]; omega) (Nat.le_of_lt h.lt)).mono fun e w' hh => ⟨hh.1, .inr ?_, hh.2.2.1⟩
  rw [cells_app]
  have := hh.2.1
  rwa [show Lib.strCells (strB s) = Lib.byteCells s from by simp [Lib.strCells, Lib.byteCells, strB]] at this
theorem writeByte_any (B : Nat) (l : List UInt8) (c : UInt8) (w : World) (h : BdS B l w) (hl : l.length ≤ 100000000) :
    Calls Tryd.prog 105 #[.pointer (some ⟨B, 0, none⟩), .int .u8 (c.toNat : Int)] w (BwIs B (l ++ [c]) .nilIface w) := by
  refine (Shelf.writeByte B B (Lib.byteCells l) (c.toNat : Int) w h (by rw [Lib.byteCells_length]; omega) (Nat.le_of_lt h.lt)).mono fun e w' hh => ⟨hh.1, .inr ?_, hh.2.2.1⟩
  rw [cells_app]
  exact hh.2.1
theorem string_any (B : Nat) (l : List UInt8) (w : World) (h : BdS B l w) :
    Calls Tryd.prog 106 #[.pointer (some ⟨B, 0, none⟩)] w fun e w' => e = .returned (.string (strB l)) ∧ Below B w w' :=
  (Shelf.Builder_String_any_k B B l w h (Nat.le_of_lt h.lt)).mono fun e w' hh => ⟨hh.1, hh.2.2.1⟩
end Go.Proofs.YtmkcooamgojbpaaDoor.Lines
