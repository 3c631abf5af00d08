/- Parts of the proof: ShFields, ShSymbol, ShTake, ShHead, ShReadF, ShRead1, ShReadW, ShTextW, ShTextX. -/
import Derived.Test.YtmkcooamgojbpaaGreatDoorPart32
import Derived.Test.YtmkcooamgojbpaaGreatDoorPart23
import Derived.Test.YtmkcooamgojbpaaGreatDoorPart26
import Derived.Test.YtmkcooamgojbpaaGreatDoorPart22
import Derived.Test.YtmkcooamgojbpaaGreatDoorPart30
import Derived.Test.YtmkcooamgojbpaaGreatDoorPart29
import Derived.Test.YtmkcooamgojbpaaGreatDoorPart31
import Derived.Test.YtmkcooamgojbpaaGreatDoorPart7
import Derived.Test.YtmkcooamgojbpaaGreatDoorPart8
import Derived.Test.YtmkcooamgojbpaaGreatDoorPart28
import Derived.Test.YtmkcooamgojbpaaGreatDoorPart17
import Derived.Test.YtmkcooamgojbpaaGreatDoorPart24

/- sheet.fields: the numbers of a symbol, in their order. -/
namespace Go.Proofs.YtmkcooamgojbpaaGreatDoor.Sheet
open Go.Proofs Go.RowKit Go.Proofs.YtmkcooamgojbpaaGreatDoor.Kit Go.Proofs.YtmkcooamgojbpaaGreatDoor.Blk Go.Proofs.YtmkcooamgojbpaaGreatDoor.Words Go.Proofs.YtmkcooamgojbpaaGreatDoor.Octets
attribute [local go_sem ↓] Go.wp_at_zero Go.wp_at_succ
set_option linter.unusedVariables false

/-- A row of pointers that lies somewhere. -/
def PAt (v : Value) (ps : List Addr) (w : World) : Prop := ∃ g, v = .slice (some ⟨g, 0, none⟩) ps.length ps.length ∧ g < w.heap.size ∧ ∀ j, (h : j < ps.length) → w.cell? ⟨g, 0 + j, none⟩ = some (.pointer (some ps[j]))
theorem PAt.below {v : Value} {ps : List Addr} {w w' : World} (h : PAt v ps w) (hb : Below w.heap.size w w') : PAt v ps w' := by
  obtain ⟨g, h1, h2, h3⟩ := h
  exact ⟨g, h1, Nat.lt_of_lt_of_le h2 hb.size, fun j hj => by rw [hb.cell (p := ⟨g, 0 + j, none⟩) h2]; exact h3 j hj⟩
theorem pat_new (w : World) (ps : List Addr) (T : TypeId) : PAt (.slice (some ⟨w.heap.size, 0, none⟩) ps.length ps.length) ps (w.alloc (.cells (ps.map fun a => Value.pointer (some a)).toArray T)) :=
  ⟨_, rfl, by simp, fun j hj => by
    rw [Nat.zero_add]
    exact (Blk.new w _ T w.heap.size rfl).cell j (by simp [hj])⟩
/-- The groups of a symbol's numbers: are they long ones, and where. -/
def grp (B : Nat) : Nat → Bool × List Addr
  | 0 => (true, [⟨B, 0, none⟩, ⟨B, 1, none⟩])
  | 1 => (false, [⟨B, 2, none⟩, ⟨B, 3, none⟩])
  | 2 => (true, [⟨B, 4, none⟩])
  | 3 => (false, [⟨B, 5, none⟩])
  | 4 => (true, [⟨B, 6, none⟩, ⟨B, 7, none⟩, ⟨B, 8, none⟩])
  | 5 => (false, [⟨B, 9, none⟩, ⟨B, 10, none⟩, ⟨B, 11, none⟩, ⟨B, 12, none⟩, ⟨B, 13, none⟩, ⟨B, 14, none⟩, ⟨B, 15, none⟩])
  | _ => (true, [])
def grpN (B k : Nat) : List (Bool × Addr) := (grp B k).2.map fun p => ((grp B k).1, p)
/-- A symbol's numbers. -/
def fieldsL (B : Nat) : List (Bool × Addr) := grpN B 0 ++ (grpN B 1 ++ (grpN B 2 ++ (grpN B 3 ++ (grpN B 4 ++ grpN B 5))))
theorem grp_len (B k : Nat) (h : k < 6) : 0 < (grpN B k).length ∧ (grpN B k).length ≤ 100 := by
  have : k = 0 ∨ k = 1 ∨ k = 2 ∨ k = 3 ∨ k = 4 ∨ k = 5 := by omega
  rcases this with rfl | rfl | rfl | rfl | rfl | rfl <;> simp [grpN, grp]
def XAt (B : Nat) (v : Value) (w : World) : Prop := ∃ g u0 u1 u2 u3 u4 u5, v = .slice (some ⟨g, 0, none⟩) 6 6 ∧ g < w.heap.size ∧ (∀ j, (h : j < 6) → w.cell? ⟨g, 0 + j, none⟩ = some [u0, u1, u2, u3, u4, u5][j]) ∧
  NAt w.heap.size u0 (grpN B 0) w ∧ NAt w.heap.size u1 (grpN B 1) w ∧ NAt w.heap.size u2 (grpN B 2) w ∧ NAt w.heap.size u3 (grpN B 3) w ∧ NAt w.heap.size u4 (grpN B 4) w ∧ NAt w.heap.size u5 (grpN B 5) w
theorem NAt.on {v : Value} {l : List (Bool × Addr)} {w w' : World} (h : NAt w.heap.size v l w) (hb : Below w.heap.size w w') : NAt w'.heap.size v l w' := by
  obtain ⟨g, c, h1, h2, h3⟩ := h.below (Nat.le_refl _) hb
  exact ⟨g, c, h1, Nat.lt_of_lt_of_le h2 hb.size, h3⟩
theorem XAt.below {B : Nat} {v : Value} {w w' : World} (h : XAt B v w) (hb : Below w.heap.size w w') : XAt B v w' := by
  obtain ⟨g, u0, u1, u2, u3, u4, u5, h1, h2, h3, n0, n1, n2, n3, n4, n5⟩ := h
  exact ⟨g, u0, u1, u2, u3, u4, u5, h1, Nat.lt_of_lt_of_le h2 hb.size, fun j hj => by rw [hb.cell (p := ⟨g, 0 + j, none⟩) h2]; exact h3 j hj, n0.on hb, n1.on hb, n2.on hb, n3.on hb, n4.on hb, n5.on hb⟩
theorem NRow.own {w0 w W : World} {v : Value} {l : List (Bool × Addr)} (h : NRow w v l W) (h0 : Below w0.heap.size w0 w) : NRow w0 v l W := ⟨own_base h.row h0.size, h0.trans (h.bel.mono h0.size)⟩
def up {α : Type} (k : Nat) (x : α) (f : Nat → α) : Nat → α := fun j => if j = k then x else f j
/-- What holds between two operations: b k, c k: group k's pointers, numbers are there (as v k, u k); b 6, c 6: the row of all rows, all numbers. -/
structure FI (B : Nat) (w0 : World) (b c : Nat → Bool) (v u : Nat → Value) (w : World) : Prop where
  bel : Below w0.heap.size w0 w
  ptr : ∀ k, k < 6 → b k = true → PAt (v k) (grp B k).2 w
  num : ∀ k, k < 6 → c k = true → NAt w.heap.size (u k) (grpN B k) w
  row : b 6 = true → XAt B (v 6) w
  all : c 6 = true → NRow w0 (u 6) (fieldsL B) w
section
variable {B : Nat} {w0 w w' : World} {b c : Nat → Bool} {v u : Nat → Value}
theorem FI.start : FI B w0 (fun _ => false) (fun _ => false) v u w0 := ⟨Below.refl _ _, fun _ _ h => (by cases h), fun _ _ h => (by cases h), fun h => (by cases h), fun h => (by cases h)⟩
theorem FI.on (h : FI B w0 b c v u w) (hb : Below w.heap.size w w') : FI B w0 b c v u w' :=
  ⟨h.bel.trans (hb.mono h.bel.size), fun k hk e => (h.ptr k hk e).below hb, fun k hk e => (h.num k hk e).on hb, fun e => (h.row e).below hb, fun e => (h.all e).below hb⟩
theorem FI.built (h : FI B w0 b c v u w) (k : Nat) (hk : k < 6) {x : Value} (hb : Below w.heap.size w w') (hx : PAt x (grp B k).2 w') : FI B w0 (up k true b) c (up k x v) u w' := by
  have h := h.on hb
  refine ⟨h.bel, fun j hj e => ?_, h.num, fun e => ?_, h.all⟩
  · by_cases hjk : j = k
    · subst hjk; simp only [up, if_true]; exact hx
    · simp only [up, if_neg hjk] at e ⊢; exact h.ptr j hj e
  · have : ¬ 6 = k := by omega
    simp only [up, if_neg this] at e ⊢
    exact h.row e
theorem FI.called (h : FI B w0 b c v u w) (k : Nat) (hk : k < 6) {x : Value} (hx : NRow w x (grpN B k) w') : FI B w0 b (up k true c) v (up k x u) w' := by
  have h := h.on hx.bel
  refine ⟨h.bel, h.ptr, fun j hj e => ?_, h.row, fun e => ?_⟩
  · by_cases hjk : j = k
    · subst hjk; simp only [up, if_true]; exact hx.at (grp_len B j hk).1
    · simp only [up, if_neg hjk] at e ⊢; exact h.num j hj e
  · have : ¬ 6 = k := by omega
    simp only [up, if_neg this] at e ⊢
    exact h.all e
theorem FI.rows (h : FI B w0 b c v u w) {x : Value} (hb : Below w.heap.size w w') (hx : XAt B x w') : FI B w0 (up 6 true b) c (up 6 x v) u w' := by
  have h := h.on hb
  refine ⟨h.bel, fun j hj e => ?_, h.num, fun e => ?_, h.all⟩
  · have : ¬ j = 6 := by omega
    simp only [up, if_neg this] at e ⊢
    exact h.ptr j hj e
  · simp only [up, if_true]; exact hx
theorem FI.done (h : FI B w0 b c v u w) {x : Value} (hx : NRow w x (fieldsL B) w') : FI B w0 b (up 6 true c) v (up 6 x u) w' := by
  have hb := h.bel
  have h := h.on hx.bel
  refine ⟨h.bel, h.ptr, fun j hj e => ?_, h.row, fun e => ?_⟩
  · have : ¬ j = 6 := by omega
    simp only [up, if_neg this] at e ⊢
    exact h.num j hj e
  · simp only [up, if_true]; exact hx.own hb
end
theorem ready_dep {md : Region.Mode} {ops : Array Oper} {listed : Array Bool} {i : Nat} (hi : i ∈ Region.ready md ops listed) (j : Nat)
    (hj : ((ops[i]?).map fun o => o.after.any fun e => (e.on == j) && Region.binds md e) = some true) : listed.getD j false = true := by
  obtain ⟨-, o, ho, hall⟩ := mem_ready.1 hi
  rw [ho] at hj
  simp only [Option.map_some, Option.some.injEq] at hj
  obtain ⟨k, hk, he⟩ := Array.any_eq_true.1 hj
  simp only [Bool.and_eq_true, beq_iff_eq] at he
  have := hall o.after[k] (Array.getElem_mem hk) he.2
  rwa [he.1] at this
theorem ready_in {md : Region.Mode} {ops : Array Oper} {listed : Array Bool} {i : Nat} (h1 : listed.getD i true = false) (deps : List Nat)
    (h3 : ((ops[i]?).map fun o => o.after.all fun e => deps.contains e.on) = some true) (h4 : ∀ j ∈ deps, listed.getD j false = true) : i ∈ Region.ready md ops listed := by
  cases ho : ops[i]? with
  | none => rw [ho] at h3; cases h3
  | some o =>
    rw [ho] at h3
    simp only [Option.map_some, Option.some.injEq] at h3
    refine mem_ready.2 ⟨h1, o, ho, fun e he _ => h4 _ ?_⟩
    have := Array.all_eq_true_iff_forall_mem.1 h3 e he
    simpa using this
theorem ready_out {md : Region.Mode} {ops : Array Oper} {listed : Array Bool} (hr : Region.ready md ops listed = []) (i : Nat) (h1 : listed.getD i true = false) (deps : List Nat)
    (h3 : ((ops[i]?).map fun o => o.after.all fun e => deps.contains e.on) = some true) (h4 : ∀ j ∈ deps, listed.getD j false = true) : False := by
  have := ready_in (md := md) h1 deps h3 h4
  rw [hr] at this
  cases this
theorem inv_step {P : Program} {ops : Array Oper} {Q : Exit → Act → World → Prop} {R : Act → World → Prop} {i : Nat} {o : Oper} {a : Act} {w : World} (ho : ops[i]? = some o)
    (h : ∀ K' : Act → World → Prop, Shut (∀ a w, R a w → K' a w) → if Region.wanted o (yielded ops a.tmps) = true then Oper.wp P o a w K' Q else K' (a.put o.dst undef) w) : wpOp P ops Q i R a w :=
  wpOp_step ho (fun K' hK => h K' hK)
theorem row_six {g : Nat} {W : World} {u0 u1 u2 u3 u4 u5 : Value} {l0 l1 l2 l3 l4 l5 : List (Bool × Addr)} (hc : ∀ j, (h : j < 6) → W.cell? ⟨g, 0 + j, none⟩ = some [u0, u1, u2, u3, u4, u5][j]) :
    ∀ j, (h : j < [(u0, l0), (u1, l1), (u2, l2), (u3, l3), (u4, l4), (u5, l5)].length) → W.cell? ⟨g, 0 + j, none⟩ = some [(u0, l0), (u1, l1), (u2, l2), (u3, l3), (u4, l4), (u5, l5)][j].1
  | 0, _ => hc 0 (by decide)
  | 1, _ => hc 1 (by decide)
  | 2, _ => hc 2 (by decide)
  | 3, _ => hc 3 (by decide)
  | 4, _ => hc 4 (by decide)
  | 5, _ => hc 5 (by decide)
theorem xat_new {B : Nat} {w : World} {u0 u1 u2 u3 u4 u5 : Value} (n0 : NAt w.heap.size u0 (grpN B 0) w) (n1 : NAt w.heap.size u1 (grpN B 1) w) (n2 : NAt w.heap.size u2 (grpN B 2) w) (n3 : NAt w.heap.size u3 (grpN B 3) w) (n4 : NAt w.heap.size u4 (grpN B 4) w) (n5 : NAt w.heap.size u5 (grpN B 5) w) (T : TypeId) :
    XAt B (.slice (some ⟨w.heap.size, 0, none⟩) 6 6) (w.alloc (.cells #[u0, u1, u2, u3, u4, u5] T)) := by
  have hb := (Below.refl w.heap.size w).alloc (Nat.le_refl _) (.cells #[u0, u1, u2, u3, u4, u5] T)
  refine ⟨_, u0, u1, u2, u3, u4, u5, rfl, by simp, fun j hj => ?_, n0.on hb, n1.on hb, n2.on hb, n3.on hb, n4.on hb, n5.on hb⟩
  rw [Nat.zero_add]
  refine (Blk.new w #[u0, u1, u2, u3, u4, u5] T w.heap.size rfl).cell j ?_
  simp [hj]
def lst (b c : Nat → Bool) (d : Bool) : Array Bool := #[true, true, true, true, true, true, b 0, c 0, true, true, true, true, true, true, b 1, c 1, true, true, true, b 2, c 2, true, true, true, b 3, c 3, true, true, true, true, true, true, true, true, true, b 4, c 4, true, true, true, true, true, true, true, true, true, true, true, true, true, true, true, true, true, true, true, true, true, b 5, c 5, b 6, c 6, d]
theorem which {b c : Nat → Bool} {d : Bool} {i : Nat} (h : (lst b c d).getD i true = false) : i = 6 ∨ i = 7 ∨ i = 14 ∨ i = 15 ∨ i = 19 ∨ i = 20 ∨ i = 24 ∨ i = 25 ∨ i = 35 ∨ i = 36 ∨ i = 58 ∨ i = 59 ∨ i = 60 ∨ i = 61 ∨ i = 62 := by
  have hi : i < 63 := by
    by_cases hi : i < 63
    · exact hi
    · exfalso
      simp [lst, Array.getD, hi] at h
  match i, hi, h with
  | 0, _, h => exact absurd (show true = false from h) (by decide)
  | 1, _, h => exact absurd (show true = false from h) (by decide)
  | 2, _, h => exact absurd (show true = false from h) (by decide)
  | 3, _, h => exact absurd (show true = false from h) (by decide)
  | 4, _, h => exact absurd (show true = false from h) (by decide)
  | 5, _, h => exact absurd (show true = false from h) (by decide)
  | 6, _, _ => simp
  | 7, _, _ => simp
  | 8, _, h => exact absurd (show true = false from h) (by decide)
  | 9, _, h => exact absurd (show true = false from h) (by decide)
  | 10, _, h => exact absurd (show true = false from h) (by decide)
  | 11, _, h => exact absurd (show true = false from h) (by decide)
  | 12, _, h => exact absurd (show true = false from h) (by decide)
  | 13, _, h => exact absurd (show true = false from h) (by decide)
  | 14, _, _ => simp
  | 15, _, _ => simp
  | 16, _, h => exact absurd (show true = false from h) (by decide)
  | 17, _, h => exact absurd (show true = false from h) (by decide)
  | 18, _, h => exact absurd (show true = false from h) (by decide)
  | 19, _, _ => simp
  | 20, _, _ => simp
  | 21, _, h => exact absurd (show true = false from h) (by decide)
  | 22, _, h => exact absurd (show true = false from h) (by decide)
  | 23, _, h => exact absurd (show true = false from h) (by decide)
  | 24, _, _ => simp
  | 25, _, _ => simp
  | 26, _, h => exact absurd (show true = false from h) (by decide)
  | 27, _, h => exact absurd (show true = false from h) (by decide)
  | 28, _, h => exact absurd (show true = false from h) (by decide)
  | 29, _, h => exact absurd (show true = false from h) (by decide)
  | 30, _, h => exact absurd (show true = false from h) (by decide)
  | 31, _, h => exact absurd (show true = false from h) (by decide)
  | 32, _, h => exact absurd (show true = false from h) (by decide)
  | 33, _, h => exact absurd (show true = false from h) (by decide)
  | 34, _, h => exact absurd (show true = false from h) (by decide)
  | 35, _, _ => simp
  | 36, _, _ => simp
  | 37, _, h => exact absurd (show true = false from h) (by decide)
  | 38, _, h => exact absurd (show true = false from h) (by decide)
  | 39, _, h => exact absurd (show true = false from h) (by decide)
  | 40, _, h => exact absurd (show true = false from h) (by decide)
  | 41, _, h => exact absurd (show true = false from h) (by decide)
  | 42, _, h => exact absurd (show true = false from h) (by decide)
  | 43, _, h => exact absurd (show true = false from h) (by decide)
  | 44, _, h => exact absurd (show true = false from h) (by decide)
  | 45, _, h => exact absurd (show true = false from h) (by decide)
  | 46, _, h => exact absurd (show true = false from h) (by decide)
  | 47, _, h => exact absurd (show true = false from h) (by decide)
  | 48, _, h => exact absurd (show true = false from h) (by decide)
  | 49, _, h => exact absurd (show true = false from h) (by decide)
  | 50, _, h => exact absurd (show true = false from h) (by decide)
  | 51, _, h => exact absurd (show true = false from h) (by decide)
  | 52, _, h => exact absurd (show true = false from h) (by decide)
  | 53, _, h => exact absurd (show true = false from h) (by decide)
  | 54, _, h => exact absurd (show true = false from h) (by decide)
  | 55, _, h => exact absurd (show true = false from h) (by decide)
  | 56, _, h => exact absurd (show true = false from h) (by decide)
  | 57, _, h => exact absurd (show true = false from h) (by decide)
  | 58, _, _ => simp
  | 59, _, _ => simp
  | 60, _, _ => simp
  | 61, _, _ => simp
  | 62, _, _ => simp
  | k + 63, hi, _ => omega
def frm (B : Nat) (v u : Nat → Value) (z : Value) : Array Value := #[.pointer (some ⟨B, 0, none⟩), undef, z, .pointer (some ⟨B, 0, none⟩), .pointer (some ⟨B, 0, none⟩), .pointer (some ⟨B, 0, none⟩), .pointer (some ⟨B, 0, none⟩), .pointer (some ⟨B, 0, none⟩), .pointer (some ⟨B, 1, none⟩), v 0, u 0, .pointer (some ⟨B, 0, none⟩), .pointer (some ⟨B, 0, none⟩), .pointer (some ⟨B, 2, none⟩), .pointer (some ⟨B, 0, none⟩), .pointer (some ⟨B, 0, none⟩), .pointer (some ⟨B, 3, none⟩), v 1, u 1, .pointer (some ⟨B, 0, none⟩), .pointer (some ⟨B, 0, none⟩), .pointer (some ⟨B, 4, none⟩), v 2, u 2, .pointer (some ⟨B, 0, none⟩), .pointer (some ⟨B, 0, none⟩), .pointer (some ⟨B, 5, none⟩), v 3, u 3, .pointer (some ⟨B, 0, none⟩), .pointer (some ⟨B, 0, none⟩), .pointer (some ⟨B, 6, none⟩), .pointer (some ⟨B, 0, none⟩), .pointer (some ⟨B, 0, none⟩), .pointer (some ⟨B, 7, none⟩), .pointer (some ⟨B, 0, none⟩), .pointer (some ⟨B, 0, none⟩), .pointer (some ⟨B, 8, none⟩), v 4, u 4, .pointer (some ⟨B, 0, none⟩), .pointer (some ⟨B, 0, none⟩), .pointer (some ⟨B, 9, none⟩), .pointer (some ⟨B, 0, none⟩), .pointer (some ⟨B, 0, none⟩), .pointer (some ⟨B, 10, none⟩), .pointer (some ⟨B, 0, none⟩), .pointer (some ⟨B, 0, none⟩), .pointer (some ⟨B, 11, none⟩), .pointer (some ⟨B, 0, none⟩), .pointer (some ⟨B, 0, none⟩), .pointer (some ⟨B, 12, none⟩), .pointer (some ⟨B, 0, none⟩), .pointer (some ⟨B, 0, none⟩), .pointer (some ⟨B, 13, none⟩), .pointer (some ⟨B, 0, none⟩), .pointer (some ⟨B, 0, none⟩), .pointer (some ⟨B, 14, none⟩), .pointer (some ⟨B, 0, none⟩), .pointer (some ⟨B, 0, none⟩), .pointer (some ⟨B, 15, none⟩), v 5, u 5, v 6, u 6]
set_option maxRecDepth 100000 in
set_option maxHeartbeats 8000000 in
theorem fields_any (B : Nat) (w : World) :
    Calls Tryz.prog 23 #[.pointer (some ⟨B, 0, none⟩)] w fun e w' => ∃ v, e = .returned v ∧ NRow w v (fieldsL B) w' := by
  go_enter Tryz.func23, Tryz.ntmps23
  go_upto_region 1 with fail
  refine wp_region_held_drew (S := (fun _ => True)) (by kernel_rfl) (trivial) (fun hHeld => ?_)
  refine wpAnyH_take (i := 0) (oi := ⟨some 3, _, _, _, _, _⟩) (v := ?_) rfl (by kernel_rfl) (by kernel_rfl) (by kernel_rfl) (fun _ _ _ h => h) (Or.inl ⟨by rfl, ?_⟩) (by assumption) ?_
  rotate_left
  · (intro w hSw; (try dsimp only at hSw); go_simp; (try with_reducible rfl))
  simp only [Act.put, List.setIfInBounds_toArray, List.set_cons_zero, List.set_cons_succ]
  refine wpAnyH_take (i := 1) (oi := ⟨some 4, _, _, _, _, _⟩) (v := ?_) rfl (by kernel_rfl) (by kernel_rfl) (by kernel_rfl) (fun _ _ _ h => h) (Or.inl ⟨by rfl, ?_⟩) (by assumption) ?_
  rotate_left
  · (intro w hSw; (try dsimp only at hSw); go_simp; (try with_reducible rfl))
  simp only [Act.put, List.setIfInBounds_toArray, List.set_cons_zero, List.set_cons_succ]
  refine wpAnyH_take (i := 2) (oi := ⟨some 5, _, _, _, _, _⟩) (v := ?_) rfl (by kernel_rfl) (by kernel_rfl) (by kernel_rfl) (fun _ _ _ h => h) (Or.inl ⟨by rfl, ?_⟩) (by assumption) ?_
  rotate_left
  · (intro w hSw; (try dsimp only at hSw); go_simp; (try with_reducible rfl))
  simp only [Act.put, List.setIfInBounds_toArray, List.set_cons_zero, List.set_cons_succ]
  refine wpAnyH_take (i := 3) (oi := ⟨some 6, _, _, _, _, _⟩) (v := ?_) rfl (by kernel_rfl) (by kernel_rfl) (by kernel_rfl) (fun _ _ _ h => h) (Or.inl ⟨by rfl, ?_⟩) (by assumption) ?_
  rotate_left
  · (intro w hSw; (try dsimp only at hSw); go_simp; (try with_reducible rfl))
  simp only [Act.put, List.setIfInBounds_toArray, List.set_cons_zero, List.set_cons_succ]
  refine wpAnyH_take (i := 4) (oi := ⟨some 7, _, _, _, _, _⟩) (v := ?_) rfl (by kernel_rfl) (by kernel_rfl) (by kernel_rfl) (fun _ _ _ h => h) (Or.inl ⟨by rfl, ?_⟩) (by assumption) ?_
  rotate_left
  · (intro w hSw; (try dsimp only at hSw); go_simp; (try with_reducible rfl))
  simp only [Act.put, List.setIfInBounds_toArray, List.set_cons_zero, List.set_cons_succ]
  refine wpAnyH_take (i := 5) (oi := ⟨some 8, _, _, _, _, _⟩) (v := ?_) rfl (by kernel_rfl) (by kernel_rfl) (by kernel_rfl) (fun _ _ _ h => h) (Or.inl ⟨by rfl, ?_⟩) (by assumption) ?_
  rotate_left
  · (intro w hSw; (try dsimp only at hSw); go_simp; (try with_reducible rfl))
  simp only [Act.put, List.setIfInBounds_toArray, List.set_cons_zero, List.set_cons_succ]
  refine wpAnyH_take (i := 8) (oi := ⟨some 11, _, _, _, _, _⟩) (v := ?_) rfl (by kernel_rfl) (by kernel_rfl) (by kernel_rfl) (fun _ _ _ h => h) (Or.inl ⟨by rfl, ?_⟩) (by assumption) ?_
  rotate_left
  · (intro w hSw; (try dsimp only at hSw); go_simp; (try with_reducible rfl))
  simp only [Act.put, List.setIfInBounds_toArray, List.set_cons_zero, List.set_cons_succ]
  refine wpAnyH_take (i := 9) (oi := ⟨some 12, _, _, _, _, _⟩) (v := ?_) rfl (by kernel_rfl) (by kernel_rfl) (by kernel_rfl) (fun _ _ _ h => h) (Or.inl ⟨by rfl, ?_⟩) (by assumption) ?_
  rotate_left
  · (intro w hSw; (try dsimp only at hSw); go_simp; (try with_reducible rfl))
  simp only [Act.put, List.setIfInBounds_toArray, List.set_cons_zero, List.set_cons_succ]
  refine wpAnyH_take (i := 10) (oi := ⟨some 13, _, _, _, _, _⟩) (v := ?_) rfl (by kernel_rfl) (by kernel_rfl) (by kernel_rfl) (fun _ _ _ h => h) (Or.inl ⟨by rfl, ?_⟩) (by assumption) ?_
  rotate_left
  · (intro w hSw; (try dsimp only at hSw); go_simp; (try with_reducible rfl))
  simp only [Act.put, List.setIfInBounds_toArray, List.set_cons_zero, List.set_cons_succ]
  refine wpAnyH_take (i := 11) (oi := ⟨some 14, _, _, _, _, _⟩) (v := ?_) rfl (by kernel_rfl) (by kernel_rfl) (by kernel_rfl) (fun _ _ _ h => h) (Or.inl ⟨by rfl, ?_⟩) (by assumption) ?_
  rotate_left
  · (intro w hSw; (try dsimp only at hSw); go_simp; (try with_reducible rfl))
  simp only [Act.put, List.setIfInBounds_toArray, List.set_cons_zero, List.set_cons_succ]
  refine wpAnyH_take (i := 12) (oi := ⟨some 15, _, _, _, _, _⟩) (v := ?_) rfl (by kernel_rfl) (by kernel_rfl) (by kernel_rfl) (fun _ _ _ h => h) (Or.inl ⟨by rfl, ?_⟩) (by assumption) ?_
  rotate_left
  · (intro w hSw; (try dsimp only at hSw); go_simp; (try with_reducible rfl))
  simp only [Act.put, List.setIfInBounds_toArray, List.set_cons_zero, List.set_cons_succ]
  refine wpAnyH_take (i := 13) (oi := ⟨some 16, _, _, _, _, _⟩) (v := ?_) rfl (by kernel_rfl) (by kernel_rfl) (by kernel_rfl) (fun _ _ _ h => h) (Or.inl ⟨by rfl, ?_⟩) (by assumption) ?_
  rotate_left
  · (intro w hSw; (try dsimp only at hSw); go_simp; (try with_reducible rfl))
  simp only [Act.put, List.setIfInBounds_toArray, List.set_cons_zero, List.set_cons_succ]
  refine wpAnyH_take (i := 16) (oi := ⟨some 19, _, _, _, _, _⟩) (v := ?_) rfl (by kernel_rfl) (by kernel_rfl) (by kernel_rfl) (fun _ _ _ h => h) (Or.inl ⟨by rfl, ?_⟩) (by assumption) ?_
  rotate_left
  · (intro w hSw; (try dsimp only at hSw); go_simp; (try with_reducible rfl))
  simp only [Act.put, List.setIfInBounds_toArray, List.set_cons_zero, List.set_cons_succ]
  refine wpAnyH_take (i := 17) (oi := ⟨some 20, _, _, _, _, _⟩) (v := ?_) rfl (by kernel_rfl) (by kernel_rfl) (by kernel_rfl) (fun _ _ _ h => h) (Or.inl ⟨by rfl, ?_⟩) (by assumption) ?_
  rotate_left
  · (intro w hSw; (try dsimp only at hSw); go_simp; (try with_reducible rfl))
  simp only [Act.put, List.setIfInBounds_toArray, List.set_cons_zero, List.set_cons_succ]
  refine wpAnyH_take (i := 18) (oi := ⟨some 21, _, _, _, _, _⟩) (v := ?_) rfl (by kernel_rfl) (by kernel_rfl) (by kernel_rfl) (fun _ _ _ h => h) (Or.inl ⟨by rfl, ?_⟩) (by assumption) ?_
  rotate_left
  · (intro w hSw; (try dsimp only at hSw); go_simp; (try with_reducible rfl))
  simp only [Act.put, List.setIfInBounds_toArray, List.set_cons_zero, List.set_cons_succ]
  refine wpAnyH_take (i := 21) (oi := ⟨some 24, _, _, _, _, _⟩) (v := ?_) rfl (by kernel_rfl) (by kernel_rfl) (by kernel_rfl) (fun _ _ _ h => h) (Or.inl ⟨by rfl, ?_⟩) (by assumption) ?_
  rotate_left
  · (intro w hSw; (try dsimp only at hSw); go_simp; (try with_reducible rfl))
  simp only [Act.put, List.setIfInBounds_toArray, List.set_cons_zero, List.set_cons_succ]
  refine wpAnyH_take (i := 22) (oi := ⟨some 25, _, _, _, _, _⟩) (v := ?_) rfl (by kernel_rfl) (by kernel_rfl) (by kernel_rfl) (fun _ _ _ h => h) (Or.inl ⟨by rfl, ?_⟩) (by assumption) ?_
  rotate_left
  · (intro w hSw; (try dsimp only at hSw); go_simp; (try with_reducible rfl))
  simp only [Act.put, List.setIfInBounds_toArray, List.set_cons_zero, List.set_cons_succ]
  refine wpAnyH_take (i := 23) (oi := ⟨some 26, _, _, _, _, _⟩) (v := ?_) rfl (by kernel_rfl) (by kernel_rfl) (by kernel_rfl) (fun _ _ _ h => h) (Or.inl ⟨by rfl, ?_⟩) (by assumption) ?_
  rotate_left
  · (intro w hSw; (try dsimp only at hSw); go_simp; (try with_reducible rfl))
  simp only [Act.put, List.setIfInBounds_toArray, List.set_cons_zero, List.set_cons_succ]
  refine wpAnyH_take (i := 26) (oi := ⟨some 29, _, _, _, _, _⟩) (v := ?_) rfl (by kernel_rfl) (by kernel_rfl) (by kernel_rfl) (fun _ _ _ h => h) (Or.inl ⟨by rfl, ?_⟩) (by assumption) ?_
  rotate_left
  · (intro w hSw; (try dsimp only at hSw); go_simp; (try with_reducible rfl))
  simp only [Act.put, List.setIfInBounds_toArray, List.set_cons_zero, List.set_cons_succ]
  refine wpAnyH_take (i := 27) (oi := ⟨some 30, _, _, _, _, _⟩) (v := ?_) rfl (by kernel_rfl) (by kernel_rfl) (by kernel_rfl) (fun _ _ _ h => h) (Or.inl ⟨by rfl, ?_⟩) (by assumption) ?_
  rotate_left
  · (intro w hSw; (try dsimp only at hSw); go_simp; (try with_reducible rfl))
  simp only [Act.put, List.setIfInBounds_toArray, List.set_cons_zero, List.set_cons_succ]
  refine wpAnyH_take (i := 28) (oi := ⟨some 31, _, _, _, _, _⟩) (v := ?_) rfl (by kernel_rfl) (by kernel_rfl) (by kernel_rfl) (fun _ _ _ h => h) (Or.inl ⟨by rfl, ?_⟩) (by assumption) ?_
  rotate_left
  · (intro w hSw; (try dsimp only at hSw); go_simp; (try with_reducible rfl))
  simp only [Act.put, List.setIfInBounds_toArray, List.set_cons_zero, List.set_cons_succ]
  refine wpAnyH_take (i := 29) (oi := ⟨some 32, _, _, _, _, _⟩) (v := ?_) rfl (by kernel_rfl) (by kernel_rfl) (by kernel_rfl) (fun _ _ _ h => h) (Or.inl ⟨by rfl, ?_⟩) (by assumption) ?_
  rotate_left
  · (intro w hSw; (try dsimp only at hSw); go_simp; (try with_reducible rfl))
  simp only [Act.put, List.setIfInBounds_toArray, List.set_cons_zero, List.set_cons_succ]
  refine wpAnyH_take (i := 30) (oi := ⟨some 33, _, _, _, _, _⟩) (v := ?_) rfl (by kernel_rfl) (by kernel_rfl) (by kernel_rfl) (fun _ _ _ h => h) (Or.inl ⟨by rfl, ?_⟩) (by assumption) ?_
  rotate_left
  · (intro w hSw; (try dsimp only at hSw); go_simp; (try with_reducible rfl))
  simp only [Act.put, List.setIfInBounds_toArray, List.set_cons_zero, List.set_cons_succ]
  refine wpAnyH_take (i := 31) (oi := ⟨some 34, _, _, _, _, _⟩) (v := ?_) rfl (by kernel_rfl) (by kernel_rfl) (by kernel_rfl) (fun _ _ _ h => h) (Or.inl ⟨by rfl, ?_⟩) (by assumption) ?_
  rotate_left
  · (intro w hSw; (try dsimp only at hSw); go_simp; (try with_reducible rfl))
  simp only [Act.put, List.setIfInBounds_toArray, List.set_cons_zero, List.set_cons_succ]
  refine wpAnyH_take (i := 32) (oi := ⟨some 35, _, _, _, _, _⟩) (v := ?_) rfl (by kernel_rfl) (by kernel_rfl) (by kernel_rfl) (fun _ _ _ h => h) (Or.inl ⟨by rfl, ?_⟩) (by assumption) ?_
  rotate_left
  · (intro w hSw; (try dsimp only at hSw); go_simp; (try with_reducible rfl))
  simp only [Act.put, List.setIfInBounds_toArray, List.set_cons_zero, List.set_cons_succ]
  refine wpAnyH_take (i := 33) (oi := ⟨some 36, _, _, _, _, _⟩) (v := ?_) rfl (by kernel_rfl) (by kernel_rfl) (by kernel_rfl) (fun _ _ _ h => h) (Or.inl ⟨by rfl, ?_⟩) (by assumption) ?_
  rotate_left
  · (intro w hSw; (try dsimp only at hSw); go_simp; (try with_reducible rfl))
  simp only [Act.put, List.setIfInBounds_toArray, List.set_cons_zero, List.set_cons_succ]
  refine wpAnyH_take (i := 34) (oi := ⟨some 37, _, _, _, _, _⟩) (v := ?_) rfl (by kernel_rfl) (by kernel_rfl) (by kernel_rfl) (fun _ _ _ h => h) (Or.inl ⟨by rfl, ?_⟩) (by assumption) ?_
  rotate_left
  · (intro w hSw; (try dsimp only at hSw); go_simp; (try with_reducible rfl))
  simp only [Act.put, List.setIfInBounds_toArray, List.set_cons_zero, List.set_cons_succ]
  refine wpAnyH_take (i := 37) (oi := ⟨some 40, _, _, _, _, _⟩) (v := ?_) rfl (by kernel_rfl) (by kernel_rfl) (by kernel_rfl) (fun _ _ _ h => h) (Or.inl ⟨by rfl, ?_⟩) (by assumption) ?_
  rotate_left
  · (intro w hSw; (try dsimp only at hSw); go_simp; (try with_reducible rfl))
  simp only [Act.put, List.setIfInBounds_toArray, List.set_cons_zero, List.set_cons_succ]
  refine wpAnyH_take (i := 38) (oi := ⟨some 41, _, _, _, _, _⟩) (v := ?_) rfl (by kernel_rfl) (by kernel_rfl) (by kernel_rfl) (fun _ _ _ h => h) (Or.inl ⟨by rfl, ?_⟩) (by assumption) ?_
  rotate_left
  · (intro w hSw; (try dsimp only at hSw); go_simp; (try with_reducible rfl))
  simp only [Act.put, List.setIfInBounds_toArray, List.set_cons_zero, List.set_cons_succ]
  refine wpAnyH_take (i := 39) (oi := ⟨some 42, _, _, _, _, _⟩) (v := ?_) rfl (by kernel_rfl) (by kernel_rfl) (by kernel_rfl) (fun _ _ _ h => h) (Or.inl ⟨by rfl, ?_⟩) (by assumption) ?_
  rotate_left
  · (intro w hSw; (try dsimp only at hSw); go_simp; (try with_reducible rfl))
  simp only [Act.put, List.setIfInBounds_toArray, List.set_cons_zero, List.set_cons_succ]
  refine wpAnyH_take (i := 40) (oi := ⟨some 43, _, _, _, _, _⟩) (v := ?_) rfl (by kernel_rfl) (by kernel_rfl) (by kernel_rfl) (fun _ _ _ h => h) (Or.inl ⟨by rfl, ?_⟩) (by assumption) ?_
  rotate_left
  · (intro w hSw; (try dsimp only at hSw); go_simp; (try with_reducible rfl))
  simp only [Act.put, List.setIfInBounds_toArray, List.set_cons_zero, List.set_cons_succ]
  refine wpAnyH_take (i := 41) (oi := ⟨some 44, _, _, _, _, _⟩) (v := ?_) rfl (by kernel_rfl) (by kernel_rfl) (by kernel_rfl) (fun _ _ _ h => h) (Or.inl ⟨by rfl, ?_⟩) (by assumption) ?_
  rotate_left
  · (intro w hSw; (try dsimp only at hSw); go_simp; (try with_reducible rfl))
  simp only [Act.put, List.setIfInBounds_toArray, List.set_cons_zero, List.set_cons_succ]
  refine wpAnyH_take (i := 42) (oi := ⟨some 45, _, _, _, _, _⟩) (v := ?_) rfl (by kernel_rfl) (by kernel_rfl) (by kernel_rfl) (fun _ _ _ h => h) (Or.inl ⟨by rfl, ?_⟩) (by assumption) ?_
  rotate_left
  · (intro w hSw; (try dsimp only at hSw); go_simp; (try with_reducible rfl))
  simp only [Act.put, List.setIfInBounds_toArray, List.set_cons_zero, List.set_cons_succ]
  refine wpAnyH_take (i := 43) (oi := ⟨some 46, _, _, _, _, _⟩) (v := ?_) rfl (by kernel_rfl) (by kernel_rfl) (by kernel_rfl) (fun _ _ _ h => h) (Or.inl ⟨by rfl, ?_⟩) (by assumption) ?_
  rotate_left
  · (intro w hSw; (try dsimp only at hSw); go_simp; (try with_reducible rfl))
  simp only [Act.put, List.setIfInBounds_toArray, List.set_cons_zero, List.set_cons_succ]
  refine wpAnyH_take (i := 44) (oi := ⟨some 47, _, _, _, _, _⟩) (v := ?_) rfl (by kernel_rfl) (by kernel_rfl) (by kernel_rfl) (fun _ _ _ h => h) (Or.inl ⟨by rfl, ?_⟩) (by assumption) ?_
  rotate_left
  · (intro w hSw; (try dsimp only at hSw); go_simp; (try with_reducible rfl))
  simp only [Act.put, List.setIfInBounds_toArray, List.set_cons_zero, List.set_cons_succ]
  refine wpAnyH_take (i := 45) (oi := ⟨some 48, _, _, _, _, _⟩) (v := ?_) rfl (by kernel_rfl) (by kernel_rfl) (by kernel_rfl) (fun _ _ _ h => h) (Or.inl ⟨by rfl, ?_⟩) (by assumption) ?_
  rotate_left
  · (intro w hSw; (try dsimp only at hSw); go_simp; (try with_reducible rfl))
  simp only [Act.put, List.setIfInBounds_toArray, List.set_cons_zero, List.set_cons_succ]
  refine wpAnyH_take (i := 46) (oi := ⟨some 49, _, _, _, _, _⟩) (v := ?_) rfl (by kernel_rfl) (by kernel_rfl) (by kernel_rfl) (fun _ _ _ h => h) (Or.inl ⟨by rfl, ?_⟩) (by assumption) ?_
  rotate_left
  · (intro w hSw; (try dsimp only at hSw); go_simp; (try with_reducible rfl))
  simp only [Act.put, List.setIfInBounds_toArray, List.set_cons_zero, List.set_cons_succ]
  refine wpAnyH_take (i := 47) (oi := ⟨some 50, _, _, _, _, _⟩) (v := ?_) rfl (by kernel_rfl) (by kernel_rfl) (by kernel_rfl) (fun _ _ _ h => h) (Or.inl ⟨by rfl, ?_⟩) (by assumption) ?_
  rotate_left
  · (intro w hSw; (try dsimp only at hSw); go_simp; (try with_reducible rfl))
  simp only [Act.put, List.setIfInBounds_toArray, List.set_cons_zero, List.set_cons_succ]
  refine wpAnyH_take (i := 48) (oi := ⟨some 51, _, _, _, _, _⟩) (v := ?_) rfl (by kernel_rfl) (by kernel_rfl) (by kernel_rfl) (fun _ _ _ h => h) (Or.inl ⟨by rfl, ?_⟩) (by assumption) ?_
  rotate_left
  · (intro w hSw; (try dsimp only at hSw); go_simp; (try with_reducible rfl))
  simp only [Act.put, List.setIfInBounds_toArray, List.set_cons_zero, List.set_cons_succ]
  refine wpAnyH_take (i := 49) (oi := ⟨some 52, _, _, _, _, _⟩) (v := ?_) rfl (by kernel_rfl) (by kernel_rfl) (by kernel_rfl) (fun _ _ _ h => h) (Or.inl ⟨by rfl, ?_⟩) (by assumption) ?_
  rotate_left
  · (intro w hSw; (try dsimp only at hSw); go_simp; (try with_reducible rfl))
  simp only [Act.put, List.setIfInBounds_toArray, List.set_cons_zero, List.set_cons_succ]
  refine wpAnyH_take (i := 50) (oi := ⟨some 53, _, _, _, _, _⟩) (v := ?_) rfl (by kernel_rfl) (by kernel_rfl) (by kernel_rfl) (fun _ _ _ h => h) (Or.inl ⟨by rfl, ?_⟩) (by assumption) ?_
  rotate_left
  · (intro w hSw; (try dsimp only at hSw); go_simp; (try with_reducible rfl))
  simp only [Act.put, List.setIfInBounds_toArray, List.set_cons_zero, List.set_cons_succ]
  refine wpAnyH_take (i := 51) (oi := ⟨some 54, _, _, _, _, _⟩) (v := ?_) rfl (by kernel_rfl) (by kernel_rfl) (by kernel_rfl) (fun _ _ _ h => h) (Or.inl ⟨by rfl, ?_⟩) (by assumption) ?_
  rotate_left
  · (intro w hSw; (try dsimp only at hSw); go_simp; (try with_reducible rfl))
  simp only [Act.put, List.setIfInBounds_toArray, List.set_cons_zero, List.set_cons_succ]
  refine wpAnyH_take (i := 52) (oi := ⟨some 55, _, _, _, _, _⟩) (v := ?_) rfl (by kernel_rfl) (by kernel_rfl) (by kernel_rfl) (fun _ _ _ h => h) (Or.inl ⟨by rfl, ?_⟩) (by assumption) ?_
  rotate_left
  · (intro w hSw; (try dsimp only at hSw); go_simp; (try with_reducible rfl))
  simp only [Act.put, List.setIfInBounds_toArray, List.set_cons_zero, List.set_cons_succ]
  refine wpAnyH_take (i := 53) (oi := ⟨some 56, _, _, _, _, _⟩) (v := ?_) rfl (by kernel_rfl) (by kernel_rfl) (by kernel_rfl) (fun _ _ _ h => h) (Or.inl ⟨by rfl, ?_⟩) (by assumption) ?_
  rotate_left
  · (intro w hSw; (try dsimp only at hSw); go_simp; (try with_reducible rfl))
  simp only [Act.put, List.setIfInBounds_toArray, List.set_cons_zero, List.set_cons_succ]
  refine wpAnyH_take (i := 54) (oi := ⟨some 57, _, _, _, _, _⟩) (v := ?_) rfl (by kernel_rfl) (by kernel_rfl) (by kernel_rfl) (fun _ _ _ h => h) (Or.inl ⟨by rfl, ?_⟩) (by assumption) ?_
  rotate_left
  · (intro w hSw; (try dsimp only at hSw); go_simp; (try with_reducible rfl))
  simp only [Act.put, List.setIfInBounds_toArray, List.set_cons_zero, List.set_cons_succ]
  refine wpAnyH_take (i := 55) (oi := ⟨some 58, _, _, _, _, _⟩) (v := ?_) rfl (by kernel_rfl) (by kernel_rfl) (by kernel_rfl) (fun _ _ _ h => h) (Or.inl ⟨by rfl, ?_⟩) (by assumption) ?_
  rotate_left
  · (intro w hSw; (try dsimp only at hSw); go_simp; (try with_reducible rfl))
  simp only [Act.put, List.setIfInBounds_toArray, List.set_cons_zero, List.set_cons_succ]
  refine wpAnyH_take (i := 56) (oi := ⟨some 59, _, _, _, _, _⟩) (v := ?_) rfl (by kernel_rfl) (by kernel_rfl) (by kernel_rfl) (fun _ _ _ h => h) (Or.inl ⟨by rfl, ?_⟩) (by assumption) ?_
  rotate_left
  · (intro w hSw; (try dsimp only at hSw); go_simp; (try with_reducible rfl))
  simp only [Act.put, List.setIfInBounds_toArray, List.set_cons_zero, List.set_cons_succ]
  refine wpAnyH_take (i := 57) (oi := ⟨some 60, _, _, _, _, _⟩) (v := ?_) rfl (by kernel_rfl) (by kernel_rfl) (by kernel_rfl) (fun _ _ _ h => h) (Or.inl ⟨by rfl, ?_⟩) (by assumption) ?_
  rotate_left
  · (intro w hSw; (try dsimp only at hSw); go_simp; (try with_reducible rfl))
  simp only [Act.put, List.setIfInBounds_toArray, List.set_cons_zero, List.set_cons_succ]
  refine Dag.wpAnyH_inv (fun listed a W => ∃ b c d v u z, listed = lst b c d ∧ a = { tmps := frm B v u z, defers := [] } ∧ FI B w b c v u W ∧ (d = true → c 6 = true ∧ z = u 6)) ?_ ?_ _ _ _ _ (by decide +kernel) ⟨fun _ => false, fun _ => false, false, fun _ => undef, fun _ => undef, .slice none 0 0, by kernel_rfl, by rfl, FI.start.on (Below.refl _ _).drew, fun h => (by cases h)⟩
  · rintro listed a W ⟨b, c, d, v, u, z, rfl, rfl, hI, hz⟩ hr
    have h6 : b 0 = true := by
      cases e : b 0 with
      | true => rfl
      | false =>
        exact (ready_out hr 6 (show (lst b c d).getD 6 true = false from e) [2, 5] (by kernel_rfl) (List.forall_mem_cons.2 ⟨(show (lst b c d).getD 2 false = true from rfl), List.forall_mem_cons.2 ⟨(show (lst b c d).getD 5 false = true from rfl), List.forall_mem_nil _⟩⟩)).elim
    have h7 : c 0 = true := by
      cases e : c 0 with
      | true => rfl
      | false =>
        exact (ready_out hr 7 (show (lst b c d).getD 7 true = false from e) [6] (by kernel_rfl) (List.forall_mem_cons.2 ⟨(show (lst b c d).getD 6 false = true from h6), List.forall_mem_nil _⟩)).elim
    have h14 : b 1 = true := by
      cases e : b 1 with
      | true => rfl
      | false =>
        exact (ready_out hr 14 (show (lst b c d).getD 14 true = false from e) [10, 13] (by kernel_rfl) (List.forall_mem_cons.2 ⟨(show (lst b c d).getD 10 false = true from rfl), List.forall_mem_cons.2 ⟨(show (lst b c d).getD 13 false = true from rfl), List.forall_mem_nil _⟩⟩)).elim
    have h15 : c 1 = true := by
      cases e : c 1 with
      | true => rfl
      | false =>
        exact (ready_out hr 15 (show (lst b c d).getD 15 true = false from e) [7, 14] (by kernel_rfl) (List.forall_mem_cons.2 ⟨(show (lst b c d).getD 7 false = true from h7), List.forall_mem_cons.2 ⟨(show (lst b c d).getD 14 false = true from h14), List.forall_mem_nil _⟩⟩)).elim
    have h19 : b 2 = true := by
      cases e : b 2 with
      | true => rfl
      | false =>
        exact (ready_out hr 19 (show (lst b c d).getD 19 true = false from e) [18] (by kernel_rfl) (List.forall_mem_cons.2 ⟨(show (lst b c d).getD 18 false = true from rfl), List.forall_mem_nil _⟩)).elim
    have h20 : c 2 = true := by
      cases e : c 2 with
      | true => rfl
      | false =>
        exact (ready_out hr 20 (show (lst b c d).getD 20 true = false from e) [15, 19] (by kernel_rfl) (List.forall_mem_cons.2 ⟨(show (lst b c d).getD 15 false = true from h15), List.forall_mem_cons.2 ⟨(show (lst b c d).getD 19 false = true from h19), List.forall_mem_nil _⟩⟩)).elim
    have h24 : b 3 = true := by
      cases e : b 3 with
      | true => rfl
      | false =>
        exact (ready_out hr 24 (show (lst b c d).getD 24 true = false from e) [23] (by kernel_rfl) (List.forall_mem_cons.2 ⟨(show (lst b c d).getD 23 false = true from rfl), List.forall_mem_nil _⟩)).elim
    have h25 : c 3 = true := by
      cases e : c 3 with
      | true => rfl
      | false =>
        exact (ready_out hr 25 (show (lst b c d).getD 25 true = false from e) [20, 24] (by kernel_rfl) (List.forall_mem_cons.2 ⟨(show (lst b c d).getD 20 false = true from h20), List.forall_mem_cons.2 ⟨(show (lst b c d).getD 24 false = true from h24), List.forall_mem_nil _⟩⟩)).elim
    have h35 : b 4 = true := by
      cases e : b 4 with
      | true => rfl
      | false =>
        exact (ready_out hr 35 (show (lst b c d).getD 35 true = false from e) [28, 31, 34] (by kernel_rfl) (List.forall_mem_cons.2 ⟨(show (lst b c d).getD 28 false = true from rfl), List.forall_mem_cons.2 ⟨(show (lst b c d).getD 31 false = true from rfl), List.forall_mem_cons.2 ⟨(show (lst b c d).getD 34 false = true from rfl), List.forall_mem_nil _⟩⟩⟩)).elim
    have h36 : c 4 = true := by
      cases e : c 4 with
      | true => rfl
      | false =>
        exact (ready_out hr 36 (show (lst b c d).getD 36 true = false from e) [25, 35] (by kernel_rfl) (List.forall_mem_cons.2 ⟨(show (lst b c d).getD 25 false = true from h25), List.forall_mem_cons.2 ⟨(show (lst b c d).getD 35 false = true from h35), List.forall_mem_nil _⟩⟩)).elim
    have h58 : b 5 = true := by
      cases e : b 5 with
      | true => rfl
      | false =>
        exact (ready_out hr 58 (show (lst b c d).getD 58 true = false from e) [39, 42, 45, 48, 51, 54, 57] (by kernel_rfl) (List.forall_mem_cons.2 ⟨(show (lst b c d).getD 39 false = true from rfl), List.forall_mem_cons.2 ⟨(show (lst b c d).getD 42 false = true from rfl), List.forall_mem_cons.2 ⟨(show (lst b c d).getD 45 false = true from rfl), List.forall_mem_cons.2 ⟨(show (lst b c d).getD 48 false = true from rfl), List.forall_mem_cons.2 ⟨(show (lst b c d).getD 51 false = true from rfl), List.forall_mem_cons.2 ⟨(show (lst b c d).getD 54 false = true from rfl), List.forall_mem_cons.2 ⟨(show (lst b c d).getD 57 false = true from rfl), List.forall_mem_nil _⟩⟩⟩⟩⟩⟩⟩)).elim
    have h59 : c 5 = true := by
      cases e : c 5 with
      | true => rfl
      | false =>
        exact (ready_out hr 59 (show (lst b c d).getD 59 true = false from e) [36, 58] (by kernel_rfl) (List.forall_mem_cons.2 ⟨(show (lst b c d).getD 36 false = true from h36), List.forall_mem_cons.2 ⟨(show (lst b c d).getD 58 false = true from h58), List.forall_mem_nil _⟩⟩)).elim
    have h60 : b 6 = true := by
      cases e : b 6 with
      | true => rfl
      | false =>
        exact (ready_out hr 60 (show (lst b c d).getD 60 true = false from e) [7, 15, 20, 25, 36, 59] (by kernel_rfl) (List.forall_mem_cons.2 ⟨(show (lst b c d).getD 7 false = true from h7), List.forall_mem_cons.2 ⟨(show (lst b c d).getD 15 false = true from h15), List.forall_mem_cons.2 ⟨(show (lst b c d).getD 20 false = true from h20), List.forall_mem_cons.2 ⟨(show (lst b c d).getD 25 false = true from h25), List.forall_mem_cons.2 ⟨(show (lst b c d).getD 36 false = true from h36), List.forall_mem_cons.2 ⟨(show (lst b c d).getD 59 false = true from h59), List.forall_mem_nil _⟩⟩⟩⟩⟩⟩)).elim
    have h61 : c 6 = true := by
      cases e : c 6 with
      | true => rfl
      | false =>
        exact (ready_out hr 61 (show (lst b c d).getD 61 true = false from e) [59, 60] (by kernel_rfl) (List.forall_mem_cons.2 ⟨(show (lst b c d).getD 59 false = true from h59), List.forall_mem_cons.2 ⟨(show (lst b c d).getD 60 false = true from h60), List.forall_mem_nil _⟩⟩)).elim
    have hd : d = true := by
      cases d with
      | true => rfl
      | false =>
        have e : lst b c false = lst (fun _ => true) (fun _ => true) false := by simp only [lst, h6, h7, h14, h15, h19, h20, h24, h25, h35, h36, h58, h59, h60, h61]
        have hall : ∀ j ∈ List.range 62, (lst (fun _ => true) (fun _ => true) false).getD j false = true := by decide +kernel
        rw [e] at hr
        exact (ready_out hr 62 (show (lst (fun _ => true) (fun _ => true) false).getD 62 true = false from rfl) (List.range 62) (by kernel_rfl) hall).elim
    obtain rfl := (hz hd).2
    have HR := Lib.hid (hI.all h61)
    clear hI hr
    simp only [frm]
    go_wp2_with fail
    go_ret
    exact ⟨_, rfl, HR.out⟩
  · rintro listed a W ⟨b, c, d, v, u, z, rfl, rfl, hI, hz⟩ i hi
    have HI := Lib.hid hI
    have HZ := Lib.hid hz
    have HRD := Lib.hid hi
    clear hI hz hi
    rcases which (mem_ready.1 HRD.out).1 with rfl | rfl | rfl | rfl | rfl | rfl | rfl | rfl | rfl | rfl | rfl | rfl | rfl | rfl | rfl
    · have hp := Lib.hid (show (lst b c d).getD 6 true = false from (mem_ready.1 HRD.out).1)
      clear HRD
      refine inv_step (o := ⟨some 9, _, _, _, _, _⟩) rfl (fun K' hK => ?_)
      simp only [frm]
      go_simp
      exact hK.out _ _ ⟨trivial, up 0 true b, c, d, up 0 _ v, u, z, rfl, rfl, HI.out.built 0 (by decide) ((Below.refl _ _).alloc (Nat.le_refl _) _) (pat_new W (grp B 0).2 _), HZ.out⟩
    · have hp := Lib.hid (show (lst b c d).getD 7 true = false from (mem_ready.1 HRD.out).1)
      have r6 : b 0 = true := ready_dep HRD.out 6 (by kernel_rfl)
      clear HRD
      obtain ⟨g, hv, hg, hc⟩ := HI.out.ptr 0 (by decide) r6
      have HC := Lib.hid (longs_any g 0 (grp B 0).2.length (grp B 0).2 (by simp [grp]) W hg hc)
      refine inv_step (o := ⟨some 10, _, _, _, _, _⟩) rfl (fun K' hK => ?_)
      simp only [frm, hv]
      have HV := Lib.hid hv
      clear hv hc hg
      go_simp
      refine HC.out.mono ?_
      rintro e W' ⟨x, rfl, hrow⟩
      exact hK.out _ _ ⟨trivial, b, up 0 true c, d, v, up 0 x u, z, rfl, by simp only [frm, HV.out]; rfl, HI.out.called 0 (by decide) hrow, HZ.out⟩
    · have hp := Lib.hid (show (lst b c d).getD 14 true = false from (mem_ready.1 HRD.out).1)
      clear HRD
      refine inv_step (o := ⟨some 17, _, _, _, _, _⟩) rfl (fun K' hK => ?_)
      simp only [frm]
      go_simp
      exact hK.out _ _ ⟨trivial, up 1 true b, c, d, up 1 _ v, u, z, rfl, rfl, HI.out.built 1 (by decide) ((Below.refl _ _).alloc (Nat.le_refl _) _) (pat_new W (grp B 1).2 _), HZ.out⟩
    · have hp := Lib.hid (show (lst b c d).getD 15 true = false from (mem_ready.1 HRD.out).1)
      have r7 : c 0 = true := ready_dep HRD.out 7 (by kernel_rfl)
      have r14 : b 1 = true := ready_dep HRD.out 14 (by kernel_rfl)
      clear HRD
      obtain ⟨g, hv, hg, hc⟩ := HI.out.ptr 1 (by decide) r14
      have HC := Lib.hid (shorts_any g 0 (grp B 1).2.length (grp B 1).2 (by simp [grp]) W hg hc)
      refine inv_step (o := ⟨some 18, _, _, _, _, _⟩) rfl (fun K' hK => ?_)
      simp only [frm, hv]
      have HV := Lib.hid hv
      clear hv hc hg
      go_simp
      refine HC.out.mono ?_
      rintro e W' ⟨x, rfl, hrow⟩
      exact hK.out _ _ ⟨trivial, b, up 1 true c, d, v, up 1 x u, z, rfl, by simp only [frm, HV.out]; rfl, HI.out.called 1 (by decide) hrow, HZ.out⟩
    · have hp := Lib.hid (show (lst b c d).getD 19 true = false from (mem_ready.1 HRD.out).1)
      clear HRD
      refine inv_step (o := ⟨some 22, _, _, _, _, _⟩) rfl (fun K' hK => ?_)
      simp only [frm]
      go_simp
      exact hK.out _ _ ⟨trivial, up 2 true b, c, d, up 2 _ v, u, z, rfl, rfl, HI.out.built 2 (by decide) ((Below.refl _ _).alloc (Nat.le_refl _) _) (pat_new W (grp B 2).2 _), HZ.out⟩
    · have hp := Lib.hid (show (lst b c d).getD 20 true = false from (mem_ready.1 HRD.out).1)
      have r15 : c 1 = true := ready_dep HRD.out 15 (by kernel_rfl)
      have r19 : b 2 = true := ready_dep HRD.out 19 (by kernel_rfl)
      clear HRD
      obtain ⟨g, hv, hg, hc⟩ := HI.out.ptr 2 (by decide) r19
      have HC := Lib.hid (longs_any g 0 (grp B 2).2.length (grp B 2).2 (by simp [grp]) W hg hc)
      refine inv_step (o := ⟨some 23, _, _, _, _, _⟩) rfl (fun K' hK => ?_)
      simp only [frm, hv]
      have HV := Lib.hid hv
      clear hv hc hg
      go_simp
      refine HC.out.mono ?_
      rintro e W' ⟨x, rfl, hrow⟩
      exact hK.out _ _ ⟨trivial, b, up 2 true c, d, v, up 2 x u, z, rfl, by simp only [frm, HV.out]; rfl, HI.out.called 2 (by decide) hrow, HZ.out⟩
    · have hp := Lib.hid (show (lst b c d).getD 24 true = false from (mem_ready.1 HRD.out).1)
      clear HRD
      refine inv_step (o := ⟨some 27, _, _, _, _, _⟩) rfl (fun K' hK => ?_)
      simp only [frm]
      go_simp
      exact hK.out _ _ ⟨trivial, up 3 true b, c, d, up 3 _ v, u, z, rfl, rfl, HI.out.built 3 (by decide) ((Below.refl _ _).alloc (Nat.le_refl _) _) (pat_new W (grp B 3).2 _), HZ.out⟩
    · have hp := Lib.hid (show (lst b c d).getD 25 true = false from (mem_ready.1 HRD.out).1)
      have r20 : c 2 = true := ready_dep HRD.out 20 (by kernel_rfl)
      have r24 : b 3 = true := ready_dep HRD.out 24 (by kernel_rfl)
      clear HRD
      obtain ⟨g, hv, hg, hc⟩ := HI.out.ptr 3 (by decide) r24
      have HC := Lib.hid (shorts_any g 0 (grp B 3).2.length (grp B 3).2 (by simp [grp]) W hg hc)
      refine inv_step (o := ⟨some 28, _, _, _, _, _⟩) rfl (fun K' hK => ?_)
      simp only [frm, hv]
      have HV := Lib.hid hv
      clear hv hc hg
      go_simp
      refine HC.out.mono ?_
      rintro e W' ⟨x, rfl, hrow⟩
      exact hK.out _ _ ⟨trivial, b, up 3 true c, d, v, up 3 x u, z, rfl, by simp only [frm, HV.out]; rfl, HI.out.called 3 (by decide) hrow, HZ.out⟩
    · have hp := Lib.hid (show (lst b c d).getD 35 true = false from (mem_ready.1 HRD.out).1)
      clear HRD
      refine inv_step (o := ⟨some 38, _, _, _, _, _⟩) rfl (fun K' hK => ?_)
      simp only [frm]
      go_simp
      exact hK.out _ _ ⟨trivial, up 4 true b, c, d, up 4 _ v, u, z, rfl, rfl, HI.out.built 4 (by decide) ((Below.refl _ _).alloc (Nat.le_refl _) _) (pat_new W (grp B 4).2 _), HZ.out⟩
    · have hp := Lib.hid (show (lst b c d).getD 36 true = false from (mem_ready.1 HRD.out).1)
      have r25 : c 3 = true := ready_dep HRD.out 25 (by kernel_rfl)
      have r35 : b 4 = true := ready_dep HRD.out 35 (by kernel_rfl)
      clear HRD
      obtain ⟨g, hv, hg, hc⟩ := HI.out.ptr 4 (by decide) r35
      have HC := Lib.hid (longs_any g 0 (grp B 4).2.length (grp B 4).2 (by simp [grp]) W hg hc)
      refine inv_step (o := ⟨some 39, _, _, _, _, _⟩) rfl (fun K' hK => ?_)
      simp only [frm, hv]
      have HV := Lib.hid hv
      clear hv hc hg
      go_simp
      refine HC.out.mono ?_
      rintro e W' ⟨x, rfl, hrow⟩
      exact hK.out _ _ ⟨trivial, b, up 4 true c, d, v, up 4 x u, z, rfl, by simp only [frm, HV.out]; rfl, HI.out.called 4 (by decide) hrow, HZ.out⟩
    · have hp := Lib.hid (show (lst b c d).getD 58 true = false from (mem_ready.1 HRD.out).1)
      clear HRD
      refine inv_step (o := ⟨some 61, _, _, _, _, _⟩) rfl (fun K' hK => ?_)
      simp only [frm]
      go_simp
      exact hK.out _ _ ⟨trivial, up 5 true b, c, d, up 5 _ v, u, z, rfl, rfl, HI.out.built 5 (by decide) ((Below.refl _ _).alloc (Nat.le_refl _) _) (pat_new W (grp B 5).2 _), HZ.out⟩
    · have hp := Lib.hid (show (lst b c d).getD 59 true = false from (mem_ready.1 HRD.out).1)
      have r36 : c 4 = true := ready_dep HRD.out 36 (by kernel_rfl)
      have r58 : b 5 = true := ready_dep HRD.out 58 (by kernel_rfl)
      clear HRD
      obtain ⟨g, hv, hg, hc⟩ := HI.out.ptr 5 (by decide) r58
      have HC := Lib.hid (shorts_any g 0 (grp B 5).2.length (grp B 5).2 (by simp [grp]) W hg hc)
      refine inv_step (o := ⟨some 62, _, _, _, _, _⟩) rfl (fun K' hK => ?_)
      simp only [frm, hv]
      have HV := Lib.hid hv
      clear hv hc hg
      go_simp
      refine HC.out.mono ?_
      rintro e W' ⟨x, rfl, hrow⟩
      exact hK.out _ _ ⟨trivial, b, up 5 true c, d, v, up 5 x u, z, rfl, by simp only [frm, HV.out]; rfl, HI.out.called 5 (by decide) hrow, HZ.out⟩
    · have hp := Lib.hid (show (lst b c d).getD 60 true = false from (mem_ready.1 HRD.out).1)
      have r7 : c 0 = true := ready_dep HRD.out 7 (by kernel_rfl)
      have r15 : c 1 = true := ready_dep HRD.out 15 (by kernel_rfl)
      have r20 : c 2 = true := ready_dep HRD.out 20 (by kernel_rfl)
      have r25 : c 3 = true := ready_dep HRD.out 25 (by kernel_rfl)
      have r36 : c 4 = true := ready_dep HRD.out 36 (by kernel_rfl)
      have r59 : c 5 = true := ready_dep HRD.out 59 (by kernel_rfl)
      clear HRD
      have N0 := HI.out.num 0 (by decide) r7
      obtain ⟨g0, q0, hu0, -⟩ := id N0
      rw [hu0] at N0
      replace N0 := Lib.hid N0
      have N1 := HI.out.num 1 (by decide) r15
      obtain ⟨g1, q1, hu1, -⟩ := id N1
      rw [hu1] at N1
      replace N1 := Lib.hid N1
      have N2 := HI.out.num 2 (by decide) r20
      obtain ⟨g2, q2, hu2, -⟩ := id N2
      rw [hu2] at N2
      replace N2 := Lib.hid N2
      have N3 := HI.out.num 3 (by decide) r25
      obtain ⟨g3, q3, hu3, -⟩ := id N3
      rw [hu3] at N3
      replace N3 := Lib.hid N3
      have N4 := HI.out.num 4 (by decide) r36
      obtain ⟨g4, q4, hu4, -⟩ := id N4
      rw [hu4] at N4
      replace N4 := Lib.hid N4
      have N5 := HI.out.num 5 (by decide) r59
      obtain ⟨g5, q5, hu5, -⟩ := id N5
      rw [hu5] at N5
      replace N5 := Lib.hid N5
      refine inv_step (o := ⟨some 63, _, _, _, _, _⟩) rfl (fun K' hK => ?_)
      simp only [frm, hu0, hu1, hu2, hu3, hu4, hu5]
      have HU := Lib.hid (And.intro hu0 (And.intro hu1 (And.intro hu2 (And.intro hu3 (And.intro hu4 hu5)))))
      clear hu0 hu1 hu2 hu3 hu4 hu5
      go_simp
      exact hK.out _ _ ⟨trivial, up 6 true b, c, d, up 6 _ v, u, z, rfl, by obtain ⟨h0, h1, h2, h3, h4, h5⟩ := HU.out; simp only [frm, h0, h1, h2, h3, h4, h5]; rfl, HI.out.rows ((Below.refl _ _).alloc (Nat.le_refl _) _) (xat_new N0.out N1.out N2.out N3.out N4.out N5.out _), HZ.out⟩
    · have hp := Lib.hid (show (lst b c d).getD 61 true = false from (mem_ready.1 HRD.out).1)
      have r59 : c 5 = true := ready_dep HRD.out 59 (by kernel_rfl)
      have r60 : b 6 = true := ready_dep HRD.out 60 (by kernel_rfl)
      clear HRD
      obtain ⟨g, u0, u1, u2, u3, u4, u5, hv, hg, hc, n0, n1, n2, n3, n4, n5⟩ := HI.out.row r60
      have HC := Lib.hid (concat_any g 0 6 [(u0, grpN B 0), (u1, grpN B 1), (u2, grpN B 2), (u3, grpN B 3), (u4, grpN B 4), (u5, grpN B 5)] (by simp) (by simp) W hg (row_six hc) (by
        intro x hx
        simp only [List.mem_cons, List.not_mem_nil, or_false] at hx
        rcases hx with rfl | rfl | rfl | rfl | rfl | rfl
        · exact ⟨n0, grp_len B 0 (by decide)⟩
        · exact ⟨n1, grp_len B 1 (by decide)⟩
        · exact ⟨n2, grp_len B 2 (by decide)⟩
        · exact ⟨n3, grp_len B 3 (by decide)⟩
        · exact ⟨n4, grp_len B 4 (by decide)⟩
        · exact ⟨n5, grp_len B 5 (by decide)⟩))
      refine inv_step (o := ⟨some 64, _, _, _, _, _⟩) rfl (fun K' hK => ?_)
      simp only [frm, hv]
      have HV := Lib.hid hv
      clear hv hc hg n0 n1 n2 n3 n4 n5
      go_simp
      refine HC.out.mono ?_
      rintro e W' ⟨x, rfl, hrow⟩
      exact hK.out _ _ ⟨trivial, b, up 6 true c, d, v, up 6 x u, z, rfl, by simp only [frm, HV.out]; rfl, HI.out.done (by simpa [fieldsL] using hrow), fun h => absurd (HZ.out h).1 (by rw [show c 6 = false from hp.out]; decide)⟩
    · have hp := Lib.hid (show (lst b c d).getD 62 true = false from (mem_ready.1 HRD.out).1)
      have r61 : c 6 = true := ready_dep HRD.out 61 (by kernel_rfl)
      clear HRD
      refine inv_step (o := ⟨some 2, _, _, _, _, _⟩) rfl (fun K' hK => ?_)
      simp only [frm]
      go_simp
      exact hK.out _ _ ⟨trivial, b, c, true, v, u, u 6, rfl, rfl, HI.out, fun _ => ⟨r61, rfl⟩⟩
end Go.Proofs.YtmkcooamgojbpaaGreatDoor.Sheet

/- sheet.Symbol: the symbol of a line. -/
namespace Go.Proofs.YtmkcooamgojbpaaGreatDoor.Sheet
open Go.RowKit Go.Proofs.YtmkcooamgojbpaaGreatDoor.Kit Go.Proofs.YtmkcooamgojbpaaGreatDoor.Blk Go.Proofs.YtmkcooamgojbpaaGreatDoor.Words Go.Proofs.YtmkcooamgojbpaaGreatDoor.Octets Go.Proofs.YtmkcooamgojbpaaGreatDoor.Lines Go.Proofs.YtmkcooamgojbpaaGreatDoor.Dec Go.Proofs.YtmkcooamgojbpaaGreatDoor.Symbol
attribute [local go_sem ↓] Go.wp_at_zero Go.wp_at_succ
set_option linter.unusedVariables false

def fieldsQ : List (Bool × Nat) := [(true, 0), (true, 1), (false, 2), (false, 3), (true, 4), (false, 5), (true, 6), (true, 7), (true, 8), (false, 9), (false, 10), (false, 11), (false, 12), (false, 13), (false, 14), (false, 15)]
theorem fieldsL_at (B : Nat) : fieldsL B = atB B fieldsQ := rfl
theorem plain_sym (s : Sym) : PlainC s.cells := fun j u hu => by
  have hj : j < 16 := (Array.getElem?_eq_some_iff.1 hu).1
  refine .inl ?_
  have : j = 0 ∨ j = 1 ∨ j = 2 ∨ j = 3 ∨ j = 4 ∨ j = 5 ∨ j = 6 ∨ j = 7 ∨ j = 8 ∨ j = 9 ∨ j = 10 ∨ j = 11 ∨ j = 12 ∨ j = 13 ∨ j = 14 ∨ j = 15 := by omega
  rcases this with rfl | rfl | rfl | rfl | rfl | rfl | rfl | rfl | rfl | rfl | rfl | rfl | rfl | rfl | rfl | rfl <;> (injection hu with hu; exact ⟨_, hu.symm⟩)
theorem fieldsQ_int (s : Sym) : ∀ y ∈ fieldsQ, ∃ n, s.cells[y.2]? = some (Value.int .i64 n) := by
  intro y hy
  simp only [fieldsQ, List.mem_cons, List.not_mem_nil, or_false] at hy
  rcases hy with rfl | rfl | rfl | rfl | rfl | rfl | rfl | rfl | rfl | rfl | rfl | rfl | rfl | rfl | rfl | rfl <;> exact ⟨_, rfl⟩
theorem setL_sym {ns : List Int} (h : ns.length = 16) (s : Sym) : setL s.cells (fieldsQ.map (·.2)) ns = (symL ns).cells := by
  match ns, h with
  | [_, _, _, _, _, _, _, _, _, _, _, _, _, _, _, _], _ => simp [setL, fieldsQ, Sym.cells, symL]
def SymE (line : Txt) (S : Nat) (b : Bool) (W : World) : Prop := (b = false ∧ symF line = none) ∨ ∃ s, b = true ∧ symF line = some s ∧ Blk W S s.cells 46
/-- What the closure that reads a symbol leaves. -/
def SymR (line : Txt) (S : Nat) (w : World) (b : Bool) (W : World) : Prop :=
  Chg w.heap.size S w W ∧ SymE line S b W
set_option maxRecDepth 20000 in
set_option maxHeartbeats 4000000 in
theorem symbol1_any (line : Txt) (hl : line.length ≤ 100000) (S L : Nat) (s : Sym) (w : World) (hm : MX w) (hS : Blk w S s.cells 46) (hL : w.cell? ⟨L, 0, none⟩ = some (.string (strB line))) :
    Calls Tryz.prog 79 #[.pointer (some ⟨S, 0, none⟩), .pointer (some ⟨L, 0, none⟩)] w fun e W => (e = .returned (.tuple #[]) ∧ SymR line S w true W) ∨ (e = badE ∧ SymR line S w false W) := by
  have HS := Lib.hid hS.drew
  have HM := Lib.hid (show MX w.drew from hm)
  have HF := Lib.hid (fields_any S w.drew)
  have HD := Lib.hid (show Chg w.heap.size S w w.drew from (Chg.refl _ _ _).drew)
  have hLd : w.drew.cell? ⟨L, 0, none⟩ = some (.string (strB line)) := hL
  have hLb : L < w.drew.heap.size := World.block_lt_of_cell? w _ hL
  have HLN := Lib.hid hl
  have HLS := Lib.hid (show L ≠ S from by
    rintro rfl
    have h2 := hS.cell 0 (v := .int .i64 s.grid) rfl
    rw [hL] at h2
    cases h2)
  clear hS hm hl hL
  go_enter Tryz.func79, Tryz.ntmps79
  refine wp_region_held_drew (S := (fun w' => w'.cell? ⟨L, 0, none⟩ = some (.string (strB line)))) (by kernel_rfl) (hLd) (fun hHeld => ?_)
  generalize w.drew = w1 at HS HM HF HD hLb hHeld ⊢
  refine wpAnyH_take (i := 2) (oi := ⟨some 4, _, _, _, _, _⟩) (v := (.string (strB line))) rfl (by kernel_rfl) (by kernel_rfl) (by kernel_rfl) (fun _ _ _ h => h) (Or.inl ⟨by rfl, fun w hSw => by (try dsimp only at hSw); go_simp⟩) (by assumption) ?_
  simp only [Act.put, List.setIfInBounds_toArray, List.set_cons_zero, List.set_cons_succ]
  refine wpAnyH_ready (rs := [0]) (by kernel_rfl) (by simp) ?_
  refine AllReadyH.cons (o := ⟨some 2, _, _, _, _, _⟩) rfl (fun KK hK => ?_) AllReadyH.nil
  go_simp
  refine HF.out.mono ?_
  rintro e w2 ⟨v, rfl, hrow⟩
  have hL2 : w2.cell? ⟨L, 0, none⟩ = some (.string (strB line)) := by rw [hrow.bel.cell (p := ⟨L, 0, none⟩) hLb]; exact hHeld
  have HRD := Lib.hid (read_any wSymbol line HLN.out S s.cells 46 fieldsQ v w2 (HM.out.below (n := w1.heap.size) hrow.bel) (HS.out.below hrow.bel HS.out.lt) (plain_sym s) (fieldsQ_int s) (by decide) (by decide) (hrow.at (by simp [fieldsL, grpN, grp])))
  have HD2 := Lib.hid (HD.out.step (hrow.bel.mono HD.out.size))
  obtain ⟨g, cp, rfl, -, -⟩ := World.ownsRow.form hrow.row (by simp [fieldsL, grpN, grp])
  clear hrow HF HM HS hHeld hLb
  refine hK.out _ _ (hL2) (fun hHeld => ?_)
  clear hK; try clear KK
  try simp only [Act.put, List.setIfInBounds_toArray, List.set_cons_zero, List.set_cons_succ]
  refine wpAnyH_take (i := 1) (oi := ⟨some 3, _, _, _, _, _⟩) (v := ?_) rfl (by kernel_rfl) (by kernel_rfl) (by kernel_rfl) (fun _ _ _ h => h) (Or.inl ⟨by rfl, ?_⟩) (by assumption) ?_
  rotate_left
  · (intro w hSw; (try dsimp only at hSw); go_simp; (try with_reducible rfl))
  simp only [Act.put, List.setIfInBounds_toArray, List.set_cons_zero, List.set_cons_succ]
  refine wpAnyH_ready (rs := [3]) (by kernel_rfl) (by simp) ?_
  refine AllReadyH.cons (o := ⟨some 5, _, _, _, _, _⟩) rfl (fun KK hK => ?_) AllReadyH.nil
  go_simp
  refine HRD.out.mono ?_
  rintro e w3 ⟨hc, ⟨ho, rfl⟩ | ⟨ns, ho, rfl, hb⟩⟩ <;> rw [show fieldsQ.length = 16 from rfl] at ho
  · exact ⟨rfl, .inr ⟨rfl, HD2.out.trans (hc.mono HD2.out.size), .inl ⟨rfl, by unfold symF; rw [ho]; rfl⟩⟩⟩
  · have HC3 := Lib.hid (HD2.out.trans (hc.mono HD2.out.size))
    have HE := Lib.hid (show SymE line S true w3 from .inr ⟨symL ns, rfl, by unfold symF; rw [ho]; rfl, by rw [← setL_sym (part_len ho) s]; exact hb⟩)
    have hL3 : w3.cell? ⟨L, 0, none⟩ = some (.string (strB line)) := by
      rw [hc.cell (p := ⟨L, 0, none⟩) (World.block_lt_of_cell? w2 _ hL2) HLS.out]
      exact hL2
    clear hc ho hb hL2 HD2 HRD
    dsimp only
    refine hK.out _ _ (hL3) (fun hHeld => ?_)
    clear hK; try clear KK
    try simp only [Act.put, List.setIfInBounds_toArray, List.set_cons_zero, List.set_cons_succ]
    refine wpAnyH_done (by kernel_rfl) ?_ _
    go_wp2_with fail
    go_end0
    exact .inl ⟨rfl, HC3.out, HE.out⟩
set_option maxRecDepth 20000 in
set_option maxHeartbeats 4000000 in
theorem symbol_any (line : Txt) (hl : line.length ≤ 100000) (w : World) (hm : MX w) :
    Calls Tryz.prog 44 #[.string (strB line)] w (SymIs (symF line) w) := by
  have hmf : ∀ (fn : Fn) (first cap : Array Value) (w : World), (Instr.makeFunc fn first cap).run Tryz.prog w = .ok (.func fn first cap) w := fun _ _ _ _ => rfl
  have hgo : ∀ c w, (callFunc 79 c).run Tryz.prog w = .ok (.enter 79 c) w := fun c w => callFunc_enter Tryz.func79 (by kernel_rfl) (by kernel_rfl) c w
  have HGO := Lib.hid hgo
  clear hgo
  have HW := Lib.hid (show Below w.heap.size w (((w.alloc (.cells #[.string (strB line)] 9)).alloc (.cells zeroSym.cells 46)).alloc (.cells zeroSym.cells 46)) from (((Below.refl _ _).alloc (Nat.le_refl _) _).alloc (by simp) _).alloc (by simp; omega) _)
  have HL := Lib.hid (((Blk.new w #[.string (strB line)] 9 w.heap.size rfl).old (.cells zeroSym.cells 46)).old (.cells zeroSym.cells 46))
  have HR := Lib.hid ((Blk.new (w.alloc (.cells #[.string (strB line)] 9)) zeroSym.cells 46 (w.heap.size + 1) (by simp)).old (.cells zeroSym.cells 46))
  have HS := Lib.hid (Blk.new ((w.alloc (.cells #[.string (strB line)] 9)).alloc (.cells zeroSym.cells 46)) zeroSym.cells 46 (w.heap.size + 2) (by simp))
  have HM := Lib.hid hm
  have HLN := Lib.hid hl
  clear hm hl
  go_enter Tryz.func44, Tryz.ntmps44
  go_upto_region 2 with fail
  change Code.wp _ _ _ _ (((w.alloc (.cells #[.string (strB line)] 9)).alloc (.cells zeroSym.cells 46)).alloc (.cells zeroSym.cells 46))
  generalize ((w.alloc (.cells #[.string (strB line)] 9)).alloc (.cells zeroSym.cells 46)).alloc (.cells zeroSym.cells 46) = w1 at HW HL HR HS ⊢
  have HT := Lib.hid (try_of 79 #[.pointer (some ⟨w.heap.size + 2, 0, none⟩), .pointer (some ⟨w.heap.size, 0, none⟩)] (HGO.out _) (SymR line (w.heap.size + 2) (w1.alloc (.cells #[.int .i64 0] 30))) w1
    (symbol1_any line HLN.out (w.heap.size + 2) w.heap.size zeroSym (w1.alloc (.cells #[.int .i64 0] 30)) (HM.out.below (n := w.heap.size) (HW.out.alloc HW.out.size _)) (HS.out.old _) ((HL.out.old _).cell 0 rfl))
    (fun b W h => h.1.blk (by simp) (by have := HS.out.lt; omega) (Blk.new w1 _ _ _ rfl)))
  go_wp2_with fail
  refine HT.out.mono ?_
  clear HT
  rintro e w2 ⟨b, W, ⟨hc, hb⟩, rfl, hbl⟩
  have HR2 := Lib.hid ((hc.blk (by simp; have := HR.out.lt; omega) (by omega) (HR.out.old _)).below hbl HR.out.lt)
  have HW2 := Lib.hid ((HW.out.trans (((Below.refl w1.heap.size w1).alloc (Nat.le_refl _) _).mono HW.out.size)).trans ((hc.below' (m := w.heap.size) (by omega) (by simp; have := HW.out.size; omega)).trans (hbl.mono HW.out.size)))
  rcases hb with ⟨rfl, ho⟩ | ⟨s, rfl, ho, hb⟩
  · have HN := Lib.hid ho
    clear hc ho hbl HR HL HS HW
    simp only [Bool.false_eq_true, if_false]
    go_wp2_with (refine store_blk (by rfl) 46 _ _ (by rfl) (w.heap.size + 1) (by rfl) _ zeroSym.cells 46 HR2.out (by rfl) rfl (by kernel_rfl) (sym_one _) ?_)
    refine bodyPost_ret (results_blk_tmp rfl rfl (HR2.out.setCells zeroSym.cells rfl) Tryz.underlying46 rfl (by kernel_rfl)) rfl ?_
    exact ⟨by rw [HN.out]; rfl, Blk.Below.setCells _ _ _ HW2.out (by omega)⟩
  · have HN := Lib.hid ho
    have HS2 := Lib.hid (hb.below hbl HS.out.lt)
    clear hc ho hb hbl HR HL HS HW
    simp only [if_true]
    go_wp2_with (first
      | (refine load_blk (by rfl) 46 _ (by rfl) (w.heap.size + 2) (by rfl) _ _ HS2.out _ Tryz.underlying46 rfl (by kernel_rfl) ?_)
      | (refine store_blk (by rfl) 46 _ _ (by rfl) (w.heap.size + 1) (by rfl) _ s.cells 46 HR2.out (by rfl) rfl (by kernel_rfl) (sym_one _) ?_))
    refine bodyPost_ret (results_blk_tmp rfl rfl (HR2.out.setCells s.cells rfl) Tryz.underlying46 rfl (by kernel_rfl)) rfl ?_
    exact ⟨by rw [HN.out]; rfl, Blk.Below.setCells _ _ _ HW2.out (by omega)⟩
end Go.Proofs.YtmkcooamgojbpaaGreatDoor.Sheet

/- sheet.Read's closures that take a row, and a symbol. -/
namespace Go.Proofs.YtmkcooamgojbpaaGreatDoor.Sheet
open Go.RowKit Go.Proofs.YtmkcooamgojbpaaGreatDoor.Kit Go.Proofs.YtmkcooamgojbpaaGreatDoor.Blk Go.Proofs.YtmkcooamgojbpaaGreatDoor.Words Go.Proofs.YtmkcooamgojbpaaGreatDoor.Octets Go.Proofs.YtmkcooamgojbpaaGreatDoor.Lines Go.Proofs.YtmkcooamgojbpaaGreatDoor.Dec Go.Proofs.YtmkcooamgojbpaaGreatDoor.Symbol Go.Proofs.YtmkcooamgojbpaaGreatDoor.Check
attribute [local go_sem ↓] Go.wp_at_zero Go.wp_at_succ
set_option linter.unusedVariables false

def cfgV (h : Cfg) (vs vt : Value) : Array Value := #[vs, vt, .int .i64 h.index, .int .i64 h.f0, .int .i64 h.f1, .int .i64 h.f2, .int .i64 h.h0, .int .i64 h.h1]
def rowsT (t : List (Int × Int)) : List Value := t.flatMap fun r => (rowC r).toList
def symsT (s : List Sym) : List Value := s.flatMap fun x => x.cells.toList
theorem rowsT_app (t u : List (Int × Int)) : rowsT (t ++ u) = rowsT t ++ rowsT u := by simp [rowsT]
theorem symsT_app (t u : List Sym) : symsT (t ++ u) = symsT t ++ symsT u := by simp [symsT]
theorem infoRow : (Tryz.prog.info? 40).map (fun i => (i.zero, i.size, i.bytes)) = some (some (.agg (rowC (0, 0))), 2, 16) := by kernel_rfl
theorem infoSy : (Tryz.prog.info? 46).map (fun i => (i.zero, i.size, i.bytes)) = some (some (.agg zeroSym.cells), 16, 128) := by kernel_rfl
/-- A configuration that is being read, in block C: its rows and symbols so far. -/
structure CfgA (w0 : World) (P C : Nat) (h : Cfg) (t : List (Int × Int)) (s : List Sym) (vs vt : Value) (W : World) : Prop where
  box : Blk W C (cfgV h vs vt) 27
  rs : W.ownsRow w0.heap.size 46 16 vs s.length (symsT s)
  rt : W.ownsRow w0.heap.size 40 2 vt t.length (rowsT t)
  pS : vs.ownBlock ≠ some P
  pT : vt.ownBlock ≠ some P
  ne : C ≠ P
section
variable {w0 W W' : World} {P C : Nat} {h : Cfg} {t : List (Int × Int)} {s : List Sym} {vs vt : Value}
theorem CfgA.below (k : CfgA w0 P C h t s vs vt W) (hb : Below W.heap.size W W') : CfgA w0 P C h t s vs vt W' :=
  ⟨k.box.below hb k.box.lt, grown_stay k.rs hb, grown_stay k.rt hb, k.pS, k.pT, k.ne⟩
theorem CfgA.chg (k : CfgA w0 P C h t s vs vt W) (hc : Chg W.heap.size P W W') : CfgA w0 P C h t s vs vt W' :=
  ⟨hc.blk k.box.lt k.ne k.box, k.rs.kept (row := some P) ⟨hc.os, hc.tape, hc.output, hc.size, fun j hj hne => hc.block j hj (fun e => hne (by rw [e]))⟩ (.inr k.pS),
    k.rt.kept (row := some P) ⟨hc.os, hc.tape, hc.output, hc.size, fun j hj hne => hc.block j hj (fun e => hne (by rw [e]))⟩ (.inr k.pT), k.pS, k.pT, k.ne⟩
end
theorem row_apart {W : World} {base e1 e2 z1 z2 n1 n2 : Nat} {v1 v2 : Value} {x1 x2 : List Value} (h1 : W.ownsRow base e1 z1 v1 n1 x1) (h2 : W.ownsRow base e2 z2 v2 n2 x2) (hne : e1 ≠ e2) : v1.ownBlock = none ∨ v1.ownBlock ≠ v2.ownBlock := by
  cases hv : v1.ownBlock with
  | none => exact .inl rfl
  | some j =>
    refine .inr fun e => ?_
    obtain ⟨_, c1, k1⟩ := row_from' h1 hv
    obtain ⟨_, c2, k2⟩ := row_from' h2 e.symm
    rw [k1] at k2
    injection k2 with k2
    injection k2 with _ k2 _
    exact hne k2
theorem row_blk {W : World} {base e z n B U : Nat} {v : Value} {x : List Value} {cs : Array Value} (h : W.ownsRow base e z v n x) (hb : Blk W B cs U) (hne : U ≠ e) : v.ownBlock ≠ some B := fun hv => by
  obtain ⟨_, c1, k1⟩ := row_from' h hv
  rw [show W.heap[B]? = _ from hb] at k1
  injection k1 with k1
  injection k1 with _ k1 _
  exact hne k1
/-- A row pushed. -/
theorem CfgA.pushT {w0 W W' : World} {P C g H : Nat} {h : Cfg} {t : List (Int × Int)} {s : List Sym} {vs vt vt' : Value} {r : Int × Int} (k : CfgA w0 P C h t s vs vt W) (hown : W'.ownsRow w0.heap.size 40 2 vt' (t.length + 1) (rowsT t ++ (rowC r).toList))
    (hg : W.grownBy W' vt.ownBlock) (hv' : vt'.ownBlock = some g) (hat : vt.ownBlock = some g ∨ g = H) (hP : P < H) (hC : w0.heap.size ≤ C) (hb : Below w0.heap.size w0 W) :
    CfgA w0 P C h (t ++ [r]) s vs vt' (W'.setCell ⟨C, 1, none⟩ vt') ∧ Below w0.heap.size w0 (W'.setCell ⟨C, 1, none⟩ vt') ∧ ∀ cs, Blk W P cs 84 → Blk (W'.setCell ⟨C, 1, none⟩ vt') P cs 84 := by
  have hbox : Blk W' C (cfgV h vs vt) 27 := blk_row' k.box (by decide) k.rt hg
  have hrs : W'.ownsRow w0.heap.size 46 16 vs s.length (symsT s) := k.rs.kept hg (row_apart k.rs k.rt (by decide))
  refine ⟨⟨hbox.set 1 _, hrs.kept (grown_cell W' C 1 _) (.inr (row_blk hrs hbox (by decide))), ?_, k.pS, ?_, k.ne⟩, ?_, fun cs hcs => ?_⟩
  · have := hown.kept (grown_cell W' C 1 vt') (.inr (row_blk hown hbox (by decide)))
    rw [List.length_append, rowsT_app]
    simpa [rowsT] using this
  · rw [hv']
    intro e
    injection e with e
    subst e
    rcases hat with hat | hat
    · exact k.pT hat
    · omega
  · exact (hb.grown hg hb.size (fun j e => (row_from' k.rt e).1)).setCell hC _
  · exact (blk_row' hcs (by decide) k.rt hg).apart _ _ k.ne
/-- A symbol pushed. -/
theorem CfgA.pushS {w0 W W' : World} {P C g H : Nat} {h : Cfg} {t : List (Int × Int)} {s : List Sym} {vs vt vs' : Value} {r : Sym} (k : CfgA w0 P C h t s vs vt W) (hown : W'.ownsRow w0.heap.size 46 16 vs' (s.length + 1) (symsT s ++ r.cells.toList))
    (hg : W.grownBy W' vs.ownBlock) (hv' : vs'.ownBlock = some g) (hat : vs.ownBlock = some g ∨ g = H) (hP : P < H) (hC : w0.heap.size ≤ C) (hb : Below w0.heap.size w0 W) :
    CfgA w0 P C h t (s ++ [r]) vs' vt (W'.setCell ⟨C, 0, none⟩ vs') ∧ Below w0.heap.size w0 (W'.setCell ⟨C, 0, none⟩ vs') ∧ ∀ cs, Blk W P cs 84 → Blk (W'.setCell ⟨C, 0, none⟩ vs') P cs 84 := by
  have hbox : Blk W' C (cfgV h vs vt) 27 := blk_row' k.box (by decide) k.rs hg
  have hrt : W'.ownsRow w0.heap.size 40 2 vt t.length (rowsT t) := k.rt.kept hg (row_apart k.rt k.rs (by decide))
  refine ⟨⟨hbox.set 0 _, ?_, hrt.kept (grown_cell W' C 0 _) (.inr (row_blk hrt hbox (by decide))), ?_, k.pT, k.ne⟩, ?_, fun cs hcs => ?_⟩
  · have := hown.kept (grown_cell W' C 0 vs') (.inr (row_blk hown hbox (by decide)))
    rw [List.length_append, symsT_app]
    simpa [symsT] using this
  · rw [hv']
    intro e
    injection e with e
    subst e
    rcases hat with hat | hat
    · exact k.pS hat
    · omega
  · exact (hb.grown hg hb.size (fun j e => (row_from' k.rs e).1)).setCell hC _
  · exact (blk_row' hcs (by decide) k.rs hg).apart _ _ k.ne
def JC (w0 : World) (P C : Nat) (h : Cfg) (t : List (Int × Int)) (s : List Sym) (W : World) : Prop := ∃ vs vt, CfgA w0 P C h t s vs vt W
set_option maxRecDepth 20000 in
set_option maxHeartbeats 4000000 in
theorem take2_any (line : Txt) (hl : line.length ≤ 90000) (w0 : World) (hm0 : MX w0) (P C : Nat) (h : Cfg) (t : List (Int × Int)) (s : List Sym) (w : World) (hj : JC w0 P C h t s w) (hb : Below w0.heap.size w0 w) (ht : t.length ≤ 100000) (hP : P < w.heap.size) (hC : w0.heap.size ≤ C) :
    Calls Tryz.prog 42 #[.string (strB line), .pointer (some ⟨C, 0, none⟩)] w (TakesL rowF w0 P (fun t W => JC w0 P C h t s W) line t w) := by
  obtain ⟨i0, hi0, hz0, hz1, hz2⟩ := info_parts infoRow
  obtain ⟨vs, vt, hA⟩ := hj
  have HR := Lib.hid (row_any line hl w (hm0.below (n := 0) hb))
  have HA := Lib.hid hA
  have HB := Lib.hid hb
  have HC := Lib.hid hC
  have HPW := Lib.hid hP
  unfold RowIs at HR
  cases ho : rowF line with
  | none =>
    have HO := Lib.hid ho
    rw [ho] at HR
    simp only [Option.getD_none, Option.isSome_none] at HR
    clear ho hA hb hm0 hl
    unfold rowC at HR
    go_enter Tryz.func42, Tryz.ntmps42
    go_wp2_with fail
    refine HR.out.mono ?_
    rintro e w1 ⟨rfl, hb1⟩
    have HB1 := Lib.hid (hb1.alloc hb1.size (.cells (rowC (0, 0)) 40))
    clear hb1
    simp only [Bool.false_eq_true, if_false]
    go_upto_region 2 with fail
    change Code.wp _ _ _ _ (w1.alloc (.cells (rowC (0, 0)) 40))
    generalize w1.alloc (.cells (rowC (0, 0)) 40) = w2 at HB1 ⊢
    go_wp2_with fail
    go_ret
    exact .inr ⟨HO.out, rfl, ⟨vs, vt, HA.out.below HB1.out⟩, HB.out.trans (HB1.out.mono HB.out.size), fun cs hcs => hcs.below HB1.out hcs.lt⟩
  | some r =>
    have HO := Lib.hid ho
    rw [ho] at HR
    simp only [Option.getD_some, Option.isSome_some] at HR
    clear ho hA hb hm0 hl
    unfold rowC at HR
    go_enter Tryz.func42, Tryz.ntmps42
    go_wp2_with fail
    refine HR.out.mono ?_
    rintro e w1 ⟨rfl, hb1⟩
    have HB1 := Lib.hid (hb1.alloc hb1.size (.cells (rowC r) 40))
    have HX1 := Lib.hid (Blk.new w1 (rowC r) 40 w1.heap.size rfl)
    clear hb1
    simp only [if_true]
    go_upto_region 2 with fail
    change Code.wp _ _ _ _ (w1.alloc (.cells (rowC r) 40))
    generalize w1.alloc (.cells (rowC r) 40) = w2 at HB1 HX1 ⊢
    have HA2 := Lib.hid (HA.out.below HB1.out)
    have HB2 := Lib.hid (HB.out.trans (HB1.out.mono HB.out.size))
    obtain ⟨ta, tc, rfl⟩ : ∃ a c, vt = .slice a t.length c := by
      rcases HA.out.rt.2 with ⟨rfl, h0⟩ | ⟨g, cap, cur, rfl, _⟩
      · exact ⟨none, 0, by rw [show t.length = 0 from h0]⟩
      · exact ⟨_, cap, rfl⟩
    have c1 : w2.cell? ⟨C, 1, none⟩ = some (.slice ta t.length tc) := HA2.out.box.cell 1 rfl
    have cr0 : w2.cell? ⟨w1.heap.size, 0, none⟩ = some (.int .i64 r.1) := HX1.out.cell 0 rfl
    have cr1 : w2.cell? ⟨w1.heap.size, 1, none⟩ = some (.int .i64 r.2) := HX1.out.cell 1 rfl
    have HNB := Lib.hid (Blk.new w2 (rowC r) 40 w2.heap.size rfl)
    have HA3 := Lib.hid (HA2.out.below ((Below.refl w2.heap.size w2).alloc (Nat.le_refl _) (.cells (rowC r) 40)))
    have HB3 := Lib.hid (HB2.out.alloc HB2.out.size (.cells (rowC r) 40))
    unfold rowC at HNB HA3 HB3
    have HTL := ht
    go_wp2_with (at_builtin; refine wpList_append_lies _ (by rfl) _ _ _ (by rfl) w0.heap.size 40 i0 (.agg (rowC (0, 0))) 2 16 Tryz.underlying23 hi0 hz0 hz1 hz2 (by rfl) (by decide) _ t.length (rowsT t) (by rfl) HA3.out.rt ⟨w2.heap.size, 0, none⟩ 1 1 (rowC r).toList (by rfl) (by rfl) (Lines.news_stp HNB.out) (Lines.mem_stp (by simp [rowC, Value.oneCell'])) (by decide) (by unfold maxLen; omega) (by omega) HB3.out.size (w2.heap.size + 1) (by simp) ?_; intro g cap2 w9 hown9 hgrow9 hat9 hlt9; have HX9 := Lib.hid (blk_row' HA3.out.box (by decide) HA3.out.rt hgrow9); have H9 := Lib.hid (HA3.out.pushT hown9 hgrow9 rfl hat9 (by have := HPW.out; have := HB1.out.size; omega) HC.out HB3.out); have c9 := HX9.out.cell 1 rfl; have f9 := HX9.out.free 1; clear hown9 hgrow9 hat9 hlt9)
    go_ret
    refine .inl ⟨r, HO.out, rfl, ⟨_, _, H9.out.1⟩, H9.out.2.1, fun cs hcs => ?_⟩
    exact H9.out.2.2 cs ((hcs.below HB1.out hcs.lt).old _)
set_option maxRecDepth 20000 in
set_option maxHeartbeats 4000000 in
theorem take3_any (line : Txt) (hl : line.length ≤ 90000) (w0 : World) (hm0 : MX w0) (P C : Nat) (h : Cfg) (t : List (Int × Int)) (s : List Sym) (w : World) (hj : JC w0 P C h t s w) (hb : Below w0.heap.size w0 w) (ht : s.length ≤ 100000) (hP : P < w.heap.size) (hC : w0.heap.size ≤ C) :
    Calls Tryz.prog 43 #[.string (strB line), .pointer (some ⟨C, 0, none⟩)] w (TakesL symF w0 P (fun s W => JC w0 P C h t s W) line s w) := by
  obtain ⟨i0, hi0, hz0, hz1, hz2⟩ := info_parts infoSy
  obtain ⟨vs, vt, hA⟩ := hj
  have HR := Lib.hid (symbol_any line (by omega) w (hm0.below (n := 0) hb))
  have HA := Lib.hid hA
  have HB := Lib.hid hb
  have HC := Lib.hid hC
  have HPW := Lib.hid hP
  unfold SymIs at HR
  cases ho : symF line with
  | none =>
    have HO := Lib.hid ho
    rw [ho] at HR
    simp only [Option.getD_none, Option.isSome_none] at HR
    clear ho hA hb hm0 hl
    unfold Sym.cells at HR
    go_enter Tryz.func43, Tryz.ntmps43
    go_wp2_with fail
    refine HR.out.mono ?_
    rintro e w1 ⟨rfl, hb1⟩
    have HB1 := Lib.hid (hb1.alloc hb1.size (.cells zeroSym.cells 46))
    clear hb1
    simp only [Bool.false_eq_true, if_false]
    go_upto_region 2 with fail
    change Code.wp _ _ _ _ (w1.alloc (.cells zeroSym.cells 46))
    generalize w1.alloc (.cells zeroSym.cells 46) = w2 at HB1 ⊢
    go_wp2_with fail
    go_ret
    exact .inr ⟨HO.out, rfl, ⟨vs, vt, HA.out.below HB1.out⟩, HB.out.trans (HB1.out.mono HB.out.size), fun cs hcs => hcs.below HB1.out hcs.lt⟩
  | some r =>
    have HO := Lib.hid ho
    rw [ho] at HR
    simp only [Option.getD_some, Option.isSome_some] at HR
    clear ho hA hb hm0 hl
    unfold Sym.cells at HR
    go_enter Tryz.func43, Tryz.ntmps43
    go_wp2_with fail
    refine HR.out.mono ?_
    rintro e w1 ⟨rfl, hb1⟩
    have HB1 := Lib.hid (hb1.alloc hb1.size (.cells r.cells 46))
    have HX1 := Lib.hid (Blk.new w1 r.cells 46 w1.heap.size rfl)
    clear hb1
    simp only [if_true]
    go_upto_region 2 with fail
    change Code.wp _ _ _ _ (w1.alloc (.cells r.cells 46))
    generalize w1.alloc (.cells r.cells 46) = w2 at HB1 HX1 ⊢
    have HA2 := Lib.hid (HA.out.below HB1.out)
    have HB2 := Lib.hid (HB.out.trans (HB1.out.mono HB.out.size))
    obtain ⟨ta, tc, rfl⟩ : ∃ a c, vs = .slice a s.length c := by
      rcases HA.out.rs.2 with ⟨rfl, h0⟩ | ⟨g, cap, cur, rfl, _⟩
      · exact ⟨none, 0, by rw [show s.length = 0 from h0]⟩
      · exact ⟨_, cap, rfl⟩
    have c1 : w2.cell? ⟨C, 0, none⟩ = some (.slice ta s.length tc) := HA2.out.box.cell 0 rfl
    have HNB := Lib.hid (Blk.new w2 r.cells 46 w2.heap.size rfl)
    have HA3 := Lib.hid (HA2.out.below ((Below.refl w2.heap.size w2).alloc (Nat.le_refl _) (.cells r.cells 46)))
    have HB3 := Lib.hid (HB2.out.alloc HB2.out.size (.cells r.cells 46))
    unfold Sym.cells at HNB HA3 HB3
    have HTL := ht
    go_wp2_with (first | (refine load_blk (by rfl) 46 _ (by rfl) w1.heap.size (by rfl) _ _ HX1.out _ Tryz.underlying46 rfl (by kernel_rfl) ?_; unfold Sym.cells) | (at_builtin; refine wpList_append_lies _ (by rfl) _ _ _ (by rfl) w0.heap.size 46 i0 (.agg zeroSym.cells) 16 128 Tryz.underlying22 hi0 hz0 hz1 hz2 (by rfl) (by decide) _ s.length (symsT s) (by rfl) HA3.out.rs ⟨w2.heap.size, 0, none⟩ 1 1 r.cells.toList (by rfl) (by rfl) (Lines.news_stp HNB.out) (Lines.mem_stp (by simp [Sym.cells, Value.oneCell'])) (by decide) (by unfold maxLen; omega) (by omega) HB3.out.size (w2.heap.size + 1) (by simp) ?_; intro g cap2 w9 hown9 hgrow9 hat9 hlt9; have HX9 := Lib.hid (blk_row' HA3.out.box (by decide) HA3.out.rs hgrow9); have H9 := Lib.hid (HA3.out.pushS hown9 hgrow9 rfl hat9 (by have := HPW.out; have := HB1.out.size; omega) HC.out HB3.out); have c9 := HX9.out.cell 0 rfl; have f9 := HX9.out.free 0; clear hown9 hgrow9 hat9 hlt9))
    go_ret
    refine .inl ⟨r, HO.out, rfl, ⟨_, _, H9.out.1⟩, H9.out.2.1, fun cs hcs => ?_⟩
    exact H9.out.2.2 cs ((hcs.below HB1.out hcs.lt).old _)
end Go.Proofs.YtmkcooamgojbpaaGreatDoor.Sheet

/- sheet.head: the first three parts of a configuration. -/
namespace Go.Proofs.YtmkcooamgojbpaaGreatDoor.Sheet
open Go.Proofs Go.RowKit Go.Proofs.YtmkcooamgojbpaaGreatDoor.Kit Go.Proofs.YtmkcooamgojbpaaGreatDoor.Blk Go.Proofs.YtmkcooamgojbpaaGreatDoor.Words Go.Proofs.YtmkcooamgojbpaaGreatDoor.Octets Go.Proofs.YtmkcooamgojbpaaGreatDoor.Lines
attribute [local go_sem ↓] Go.wp_at_zero Go.wp_at_succ
set_option linter.unusedVariables false

def hgrp : Nat → List (Bool × Nat)
  | 0 => [(true, 2)]
  | 1 => [(false, 3), (false, 4), (false, 5)]
  | 2 => [(true, 6), (true, 7)]
  | _ => []
def hlong : Nat → Bool
  | 1 => false
  | _ => true
def hps (B k : Nat) : List Addr := (hgrp k).map fun x => ⟨B, x.2, none⟩
def hword : Nat → Txt
  | 0 => wIndex
  | 1 => wFalls
  | _ => wHalts
theorem hps_at (B k : Nat) (h : k < 3) : (hps B k).map (fun p => (hlong k, p)) = atB B (hgrp k) := by
  have : k = 0 ∨ k = 1 ∨ k = 2 := by omega
  rcases this with rfl | rfl | rfl <;> rfl
theorem hgrp_len (k : Nat) (h : k < 3) : 0 < (hgrp k).length ∧ (hgrp k).length ≤ 100 := by
  have : k = 0 ∨ k = 1 ∨ k = 2 := by omega
  rcases this with rfl | rfl | rfl <;> decide
theorem hps_len (B k : Nat) : (hps B k).length = (hgrp k).length := by simp [hps]
theorem atB_len (B : Nat) (q : List (Bool × Nat)) : (atB B q).length = q.length := by simp [atB]
def partA (k : Nat) (v : Value) : Value := .agg #[.string (strB (hword k)), v]
def headA (u : Nat → Value) : Array Value := #[.string (strB wIndex), u 0, .string (strB wFalls), u 1, .string (strB wHalts), u 2]
def hzero : Array Value := #[.string ⟨#[]⟩, .slice none 0 0, .string ⟨#[]⟩, .slice none 0 0, .string ⟨#[]⟩, .slice none 0 0]
/-- A row of numbers, with its block's type. -/
def NAtY (M : Nat) (v : Value) (l : List (Bool × Addr)) (W : World) : Prop := ∃ g c, v = .slice (some ⟨g, 0, none⟩) l.length c ∧ g < M ∧ (∀ j u, (numL l)[j]? = some u → W.cell? ⟨g, j, none⟩ = some u) ∧ ∃ cs fz, W.heap[g]? = some (.cells cs 107 fz)
theorem NAtY.at {M : Nat} {v : Value} {l : List (Bool × Addr)} {W : World} (h : NAtY M v l W) : NAt M v l W := by
  obtain ⟨g, c, h1, h2, h3, -⟩ := h
  exact ⟨g, c, h1, h2, h3⟩
theorem NAtY.on {v : Value} {l : List (Bool × Addr)} {w w' : World} (h : NAtY w.heap.size v l w) (hb : Below w.heap.size w w') : NAtY w'.heap.size v l w' := by
  obtain ⟨g, c, h1, h2, h3, cs, fz, h4⟩ := h
  exact ⟨g, c, h1, Nat.lt_of_lt_of_le h2 hb.size, fun j u hu => by rw [hb.cell (p := ⟨g, j, none⟩) h2]; exact h3 j u hu, cs, fz, (hb.block g h2).trans h4⟩
theorem NRow.aty {w W : World} {v : Value} {l : List (Bool × Addr)} (h : NRow w v l W) (h0 : 0 < l.length) : NAtY W.heap.size v l W := by
  obtain ⟨g, c, rfl, h2, h3⟩ := h.at h0
  rcases h.row.2 with ⟨e, -⟩ | ⟨g', cap, cur, e, -, hgb, -⟩
  · cases e
  · injection e with e1 _ _
    injection e1 with e1
    injection e1 with e1
    subst e1
    exact ⟨g, c, rfl, h2, h3, _, _, hgb⟩
/-- What holds between two operations. -/
structure HI (B : Nat) (w0 : World) (R : Nat) (b c m : Nat → Bool) (d : Bool) (v u q : Nat → Value) (w : World) : Prop where
  bel : Below w0.heap.size w0 w
  ptr : ∀ k, k < 3 → b k = true → PAt (v k) (hps B k) w
  num : ∀ k, k < 3 → c k = true → NAtY w.heap.size (u k) (atB B (hgrp k)) w
  par : ∀ k, k < 3 → m k = true → q k = partA k (u k) ∧ c k = true
  row : m 3 = true → q 3 = .agg (headA u) ∧ ∀ k, k < 3 → c k = true
  res : if d = true then Blk w R (headA u) 63 ∧ (∀ k, k < 3 → c k = true) else Blk w R hzero 63
section
variable {B R : Nat} {w0 w w' : World} {b c m : Nat → Bool} {d : Bool} {v u q : Nat → Value}
theorem HI.on (h : HI B w0 R b c m d v u q w) (hb : Below w.heap.size w w') : HI B w0 R b c m d v u q w' :=
  ⟨h.bel.trans (hb.mono h.bel.size), fun k hk e => (h.ptr k hk e).below hb, fun k hk e => (h.num k hk e).on hb, h.par, h.row, by
    have := h.res
    by_cases e : d = true
    · rw [if_pos e] at this ⊢; exact ⟨this.1.below hb this.1.lt, this.2⟩
    · rw [if_neg e] at this ⊢; exact this.below hb this.lt⟩
theorem HI.built (h : HI B w0 R b c m d v u q w) (k : Nat) (hk : k < 3) {x : Value} (hb : Below w.heap.size w w') (hx : PAt x (hps B k) w') : HI B w0 R (up k true b) c m d (up k x v) u q w' := by
  have h := h.on hb
  refine ⟨h.bel, fun j hj e => ?_, h.num, h.par, h.row, h.res⟩
  by_cases hjk : j = k
  · subst hjk; simp only [up, if_true]; exact hx
  · simp only [up, if_neg hjk] at e ⊢; exact h.ptr j hj e
theorem HI.called (h : HI B w0 R b c m d v u q w) (k : Nat) (hk : k < 3) (hc : c k = false) {x : Value} (hx : NRow w x (atB B (hgrp k)) w') : HI B w0 R b (up k true c) m d v (up k x u) q w' := by
  have h := h.on hx.bel
  have hne : ∀ j, c j = true → j ≠ k := fun j hj e => by rw [e, hc] at hj; cases hj
  have hal : (∀ j, j < 3 → c j = true) → False := fun ha => by rw [ha k hk] at hc; cases hc
  refine ⟨h.bel, h.ptr, fun j hj e => ?_, fun j hj e => ?_, fun e => (hal (h.row e).2).elim, ?_⟩
  · by_cases hjk : j = k
    · subst hjk; simp only [up, if_true]; exact hx.aty (by rw [atB_len]; exact (hgrp_len j hk).1)
    · simp only [up, if_neg hjk] at e ⊢; exact h.num j hj e
  · obtain ⟨h1, h2⟩ := h.par j hj e
    simp only [up, if_neg (hne j h2)]
    exact ⟨h1, h2⟩
  · have hr := h.res
    by_cases e : d = true
    · rw [if_pos e] at hr; exact (hal hr.2).elim
    · rw [if_neg e] at hr ⊢; exact hr
theorem HI.part (h : HI B w0 R b c m d v u q w) (k : Nat) (hk : k < 3) (hc : c k = true) : HI B w0 R b c (up k true m) d v u (up k (partA k (u k)) q) w := by
  have h3 : ¬ 3 = k := by omega
  refine ⟨h.bel, h.ptr, h.num, fun j hj e => ?_, fun e => ?_, h.res⟩
  · by_cases hjk : j = k
    · subst hjk; simp only [up, if_true]; exact ⟨trivial, hc⟩
    · simp only [up, if_neg hjk] at e ⊢; exact h.par j hj e
  · simp only [up, if_neg h3] at e ⊢
    exact h.row e
theorem HI.parts (h : HI B w0 R b c m d v u q w) (hm : ∀ k, k < 3 → m k = true) : HI B w0 R b c (up 3 true m) d v u (up 3 (.agg (headA u)) q) w := by
  refine ⟨h.bel, h.ptr, h.num, fun j hj e => ?_, fun e => ?_, h.res⟩
  · have : ¬ j = 3 := by omega
    simp only [up, if_neg this] at e ⊢
    exact h.par j hj e
  · simp only [up, if_true]; exact ⟨trivial, fun k hk => (h.par k hk (hm k hk)).2⟩
theorem HI.stored (h : HI B w0 R b c m d v u q w) (hR : w0.heap.size ≤ R) (hn : ∀ k, k < 3 → b k = true → PAt (v k) (hps B k) w') (hu : ∀ k, k < 3 → c k = true → NAtY w'.heap.size (u k) (atB B (hgrp k)) w') (hc : ∀ k, k < 3 → c k = true)
    (hb : Below w0.heap.size w0 w') (hr : Blk w' R (headA u) 63) : HI B w0 R b c m true v u q w' :=
  ⟨hb, hn, hu, h.par, h.row, by rw [if_pos rfl]; exact ⟨hr, hc⟩⟩
end
theorem cells_far {g R o : Nat} (hg : g ≠ R) : ∀ (vs : List Value) (i : Nat) (W : World), (W.setCells R i vs).cell? ⟨g, o, none⟩ = W.cell? ⟨g, o, none⟩
  | [], _, _ => rfl
  | x :: vs, i, W => by
    rw [show W.setCells R i (x :: vs) = (W.setCell ⟨R, i, none⟩ x).setCells R (i + 1) vs from rfl, cells_far hg vs (i + 1)]
    exact World.cell?_of_block (Below.heap_setCell _ _ _ _ hg)
theorem cells_size {R : Nat} : ∀ (vs : List Value) (i : Nat) (W : World), (W.setCells R i vs).heap.size = W.heap.size
  | [], _, _ => rfl
  | x :: vs, i, W => by
    rw [show W.setCells R i (x :: vs) = (W.setCell ⟨R, i, none⟩ x).setCells R (i + 1) vs from rfl, cells_size vs (i + 1)]
    simp [World.setCell]
theorem ptr_ne {w : World} {R g : Nat} {T : TypeId} {z : Option Addr} (hR : Blk w R hzero T) (h : w.cell? ⟨g, 0, none⟩ = some (.pointer z)) : g ≠ R := by
  rintro rfl
  rw [hR.cell 0 (v := .string ⟨#[]⟩) rfl] at h
  cases h
theorem PAt.cells {v : Value} {ps : List Addr} {w : World} {R : Nat} {T : TypeId} (h : PAt v ps w) (h0 : 0 < ps.length) (hR : Blk w R hzero T) (vs : List Value) : PAt v ps (w.setCells R 0 vs) := by
  obtain ⟨g, h1, h2, h3⟩ := h
  have hg : g ≠ R := ptr_ne hR (h3 0 h0)
  exact ⟨g, h1, by rw [cells_size]; exact h2, fun j hj => by rw [cells_far hg]; exact h3 j hj⟩
theorem cells_heap {g R : Nat} (hg : g ≠ R) : ∀ (vs : List Value) (i : Nat) (W : World), (W.setCells R i vs).heap[g]? = W.heap[g]?
  | [], _, _ => rfl
  | x :: vs, i, W => by
    rw [show W.setCells R i (x :: vs) = (W.setCell ⟨R, i, none⟩ x).setCells R (i + 1) vs from rfl, cells_heap hg vs (i + 1)]
    exact Below.heap_setCell _ _ _ _ hg
theorem NAtY.cells {v : Value} {l : List (Bool × Addr)} {w : World} {R : Nat} {T : TypeId} (h : NAtY w.heap.size v l w) (h0 : 0 < l.length) (hR : Blk w R hzero T) (vs : List Value) : NAtY (w.setCells R 0 vs).heap.size v l (w.setCells R 0 vs) := by
  obtain ⟨g, c, h1, h2, h3, cs, fz, h4⟩ := h
  have hg : g ≠ R := by
    cases l with
    | nil => simp at h0
    | cons y q =>
      obtain ⟨u, hu, z, rfl⟩ : ∃ u, (numL (y :: q))[0]? = some u ∧ ∃ z, u = .pointer z := by
        simp only [numL, List.flatMap_cons, numC]
        split <;> exact ⟨_, rfl, _, rfl⟩
      exact ptr_ne hR (h3 0 _ hu)
  exact ⟨g, c, h1, by rw [cells_size]; exact h2, fun j u hu => by rw [cells_far hg]; exact h3 j u hu, cs, fz, by rw [cells_heap hg]; exact h4⟩
def hlst (b c m : Nat → Bool) (d : Bool) : Array Bool := #[true, true, true, b 0, c 0, m 0, true, true, true, true, true, true, true, true, true, true, true, true, b 1, c 1, m 1, true, true, true, true, true, true, true, true, b 2, c 2, m 2, m 3, d]
theorem hwhich {b c m : Nat → Bool} {d : Bool} {i : Nat} (h : (hlst b c m d).getD i true = false) : i = 3 ∨ i = 4 ∨ i = 5 ∨ i = 18 ∨ i = 19 ∨ i = 20 ∨ i = 29 ∨ i = 30 ∨ i = 31 ∨ i = 32 ∨ i = 33 := by
  have hi : i < 34 := by
    by_cases hi : i < 34
    · exact hi
    · exfalso
      simp [hlst, Array.getD, hi] at h
  match i, hi, h with
  | 0, _, h => exact absurd (show true = false from h) (by decide)
  | 1, _, h => exact absurd (show true = false from h) (by decide)
  | 2, _, h => exact absurd (show true = false from h) (by decide)
  | 3, _, _ => simp
  | 4, _, _ => simp
  | 5, _, _ => simp
  | 6, _, h => exact absurd (show true = false from h) (by decide)
  | 7, _, h => exact absurd (show true = false from h) (by decide)
  | 8, _, h => exact absurd (show true = false from h) (by decide)
  | 9, _, h => exact absurd (show true = false from h) (by decide)
  | 10, _, h => exact absurd (show true = false from h) (by decide)
  | 11, _, h => exact absurd (show true = false from h) (by decide)
  | 12, _, h => exact absurd (show true = false from h) (by decide)
  | 13, _, h => exact absurd (show true = false from h) (by decide)
  | 14, _, h => exact absurd (show true = false from h) (by decide)
  | 15, _, h => exact absurd (show true = false from h) (by decide)
  | 16, _, h => exact absurd (show true = false from h) (by decide)
  | 17, _, h => exact absurd (show true = false from h) (by decide)
  | 18, _, _ => simp
  | 19, _, _ => simp
  | 20, _, _ => simp
  | 21, _, h => exact absurd (show true = false from h) (by decide)
  | 22, _, h => exact absurd (show true = false from h) (by decide)
  | 23, _, h => exact absurd (show true = false from h) (by decide)
  | 24, _, h => exact absurd (show true = false from h) (by decide)
  | 25, _, h => exact absurd (show true = false from h) (by decide)
  | 26, _, h => exact absurd (show true = false from h) (by decide)
  | 27, _, h => exact absurd (show true = false from h) (by decide)
  | 28, _, h => exact absurd (show true = false from h) (by decide)
  | 29, _, _ => simp
  | 30, _, _ => simp
  | 31, _, _ => simp
  | 32, _, _ => simp
  | 33, _, _ => simp
  | k + 34, hi, _ => omega
def hfrm (B R : Nat) (v u q : Nat → Value) : Array Value := #[.pointer (some ⟨B, 0, none⟩), undef, .pointer (some ⟨R, 0, none⟩), .pointer (some ⟨B, 0, none⟩), .pointer (some ⟨B, 0, none⟩), .pointer (some ⟨B, 2, none⟩), v 0, u 0, q 0, .pointer (some ⟨B, 0, none⟩), .pointer (some ⟨B, 0, none⟩), .pointer (some ⟨B, 3, none⟩), .pointer (some ⟨B, 3, none⟩), .pointer (some ⟨B, 0, none⟩), .pointer (some ⟨B, 0, none⟩), .pointer (some ⟨B, 3, none⟩), .pointer (some ⟨B, 4, none⟩), .pointer (some ⟨B, 0, none⟩), .pointer (some ⟨B, 0, none⟩), .pointer (some ⟨B, 3, none⟩), .pointer (some ⟨B, 5, none⟩), v 1, u 1, q 1, .pointer (some ⟨B, 0, none⟩), .pointer (some ⟨B, 0, none⟩), .pointer (some ⟨B, 6, none⟩), .pointer (some ⟨B, 6, none⟩), .pointer (some ⟨B, 0, none⟩), .pointer (some ⟨B, 0, none⟩), .pointer (some ⟨B, 6, none⟩), .pointer (some ⟨B, 7, none⟩), v 2, u 2, q 2, q 3]
theorem heval {B R : Nat} {v u q : Nat → Value} {x : Value} (h : q 3 = x) : Act.eval { tmps := hfrm B R v u q, defers := [] } (.tmp 35) = x := h
set_option maxRecDepth 100000 in
set_option maxHeartbeats 8000000 in
theorem head_any_y (B : Nat) (w : World) :
    Calls Tryz.prog 19 #[.pointer (some ⟨B, 0, none⟩)] w fun e w' => ∃ u : Nat → Value, e = .returned (.agg (headA u)) ∧ (∀ k, k < 3 → NAtY w'.heap.size (u k) (atB B (hgrp k)) w') ∧ Below w.heap.size w w' := by
  have HX := Lib.hid (Blk.new w hzero 63 w.heap.size rfl)
  have HB := Lib.hid ((Below.refl w.heap.size w).alloc (Nat.le_refl _) (.cells hzero 63))
  go_enter Tryz.func19, Tryz.ntmps19
  go_upto_region 1 with fail
  change Code.wp _ _ _ _ (w.alloc (.cells hzero 63))
  generalize w.alloc (.cells hzero 63) = w1 at HX HB ⊢
  refine wp_region_held_drew (S := (fun _ => True)) (by kernel_rfl) (trivial) (fun hHeld => ?_)
  refine wpAnyH_take (i := 0) (oi := ⟨some 3, _, _, _, _, _⟩) (v := ?_) rfl (by kernel_rfl) (by kernel_rfl) (by kernel_rfl) (fun _ _ _ h => h) (Or.inl ⟨by rfl, ?_⟩) (by assumption) ?_
  rotate_left
  · (intro w hSw; (try dsimp only at hSw); go_simp; (try with_reducible rfl))
  simp only [Act.put, List.setIfInBounds_toArray, List.set_cons_zero, List.set_cons_succ]
  refine wpAnyH_take (i := 1) (oi := ⟨some 4, _, _, _, _, _⟩) (v := ?_) rfl (by kernel_rfl) (by kernel_rfl) (by kernel_rfl) (fun _ _ _ h => h) (Or.inl ⟨by rfl, ?_⟩) (by assumption) ?_
  rotate_left
  · (intro w hSw; (try dsimp only at hSw); go_simp; (try with_reducible rfl))
  simp only [Act.put, List.setIfInBounds_toArray, List.set_cons_zero, List.set_cons_succ]
  refine wpAnyH_take (i := 2) (oi := ⟨some 5, _, _, _, _, _⟩) (v := ?_) rfl (by kernel_rfl) (by kernel_rfl) (by kernel_rfl) (fun _ _ _ h => h) (Or.inl ⟨by rfl, ?_⟩) (by assumption) ?_
  rotate_left
  · (intro w hSw; (try dsimp only at hSw); go_simp; (try with_reducible rfl))
  simp only [Act.put, List.setIfInBounds_toArray, List.set_cons_zero, List.set_cons_succ]
  refine wpAnyH_take (i := 6) (oi := ⟨some 9, _, _, _, _, _⟩) (v := ?_) rfl (by kernel_rfl) (by kernel_rfl) (by kernel_rfl) (fun _ _ _ h => h) (Or.inl ⟨by rfl, ?_⟩) (by assumption) ?_
  rotate_left
  · (intro w hSw; (try dsimp only at hSw); go_simp; (try with_reducible rfl))
  simp only [Act.put, List.setIfInBounds_toArray, List.set_cons_zero, List.set_cons_succ]
  refine wpAnyH_take (i := 7) (oi := ⟨some 10, _, _, _, _, _⟩) (v := ?_) rfl (by kernel_rfl) (by kernel_rfl) (by kernel_rfl) (fun _ _ _ h => h) (Or.inl ⟨by rfl, ?_⟩) (by assumption) ?_
  rotate_left
  · (intro w hSw; (try dsimp only at hSw); go_simp; (try with_reducible rfl))
  simp only [Act.put, List.setIfInBounds_toArray, List.set_cons_zero, List.set_cons_succ]
  refine wpAnyH_take (i := 8) (oi := ⟨some 11, _, _, _, _, _⟩) (v := ?_) rfl (by kernel_rfl) (by kernel_rfl) (by kernel_rfl) (fun _ _ _ h => h) (Or.inl ⟨by rfl, ?_⟩) (by assumption) ?_
  rotate_left
  · (intro w hSw; (try dsimp only at hSw); go_simp; (try with_reducible rfl))
  simp only [Act.put, List.setIfInBounds_toArray, List.set_cons_zero, List.set_cons_succ]
  refine wpAnyH_take (i := 9) (oi := ⟨some 12, _, _, _, _, _⟩) (v := ?_) rfl (by kernel_rfl) (by kernel_rfl) (by kernel_rfl) (fun _ _ _ h => h) (Or.inl ⟨by rfl, ?_⟩) (by assumption) ?_
  rotate_left
  · (intro w hSw; (try dsimp only at hSw); go_simp; (try with_reducible rfl))
  simp only [Act.put, List.setIfInBounds_toArray, List.set_cons_zero, List.set_cons_succ]
  refine wpAnyH_take (i := 10) (oi := ⟨some 13, _, _, _, _, _⟩) (v := ?_) rfl (by kernel_rfl) (by kernel_rfl) (by kernel_rfl) (fun _ _ _ h => h) (Or.inl ⟨by rfl, ?_⟩) (by assumption) ?_
  rotate_left
  · (intro w hSw; (try dsimp only at hSw); go_simp; (try with_reducible rfl))
  simp only [Act.put, List.setIfInBounds_toArray, List.set_cons_zero, List.set_cons_succ]
  refine wpAnyH_take (i := 11) (oi := ⟨some 14, _, _, _, _, _⟩) (v := ?_) rfl (by kernel_rfl) (by kernel_rfl) (by kernel_rfl) (fun _ _ _ h => h) (Or.inl ⟨by rfl, ?_⟩) (by assumption) ?_
  rotate_left
  · (intro w hSw; (try dsimp only at hSw); go_simp; (try with_reducible rfl))
  simp only [Act.put, List.setIfInBounds_toArray, List.set_cons_zero, List.set_cons_succ]
  refine wpAnyH_take (i := 12) (oi := ⟨some 15, _, _, _, _, _⟩) (v := ?_) rfl (by kernel_rfl) (by kernel_rfl) (by kernel_rfl) (fun _ _ _ h => h) (Or.inl ⟨by rfl, ?_⟩) (by assumption) ?_
  rotate_left
  · (intro w hSw; (try dsimp only at hSw); go_simp; (try with_reducible rfl))
  simp only [Act.put, List.setIfInBounds_toArray, List.set_cons_zero, List.set_cons_succ]
  refine wpAnyH_take (i := 13) (oi := ⟨some 16, _, _, _, _, _⟩) (v := ?_) rfl (by kernel_rfl) (by kernel_rfl) (by kernel_rfl) (fun _ _ _ h => h) (Or.inl ⟨by rfl, ?_⟩) (by assumption) ?_
  rotate_left
  · (intro w hSw; (try dsimp only at hSw); go_simp; (try with_reducible rfl))
  simp only [Act.put, List.setIfInBounds_toArray, List.set_cons_zero, List.set_cons_succ]
  refine wpAnyH_take (i := 14) (oi := ⟨some 17, _, _, _, _, _⟩) (v := ?_) rfl (by kernel_rfl) (by kernel_rfl) (by kernel_rfl) (fun _ _ _ h => h) (Or.inl ⟨by rfl, ?_⟩) (by assumption) ?_
  rotate_left
  · (intro w hSw; (try dsimp only at hSw); go_simp; (try with_reducible rfl))
  simp only [Act.put, List.setIfInBounds_toArray, List.set_cons_zero, List.set_cons_succ]
  refine wpAnyH_take (i := 15) (oi := ⟨some 18, _, _, _, _, _⟩) (v := ?_) rfl (by kernel_rfl) (by kernel_rfl) (by kernel_rfl) (fun _ _ _ h => h) (Or.inl ⟨by rfl, ?_⟩) (by assumption) ?_
  rotate_left
  · (intro w hSw; (try dsimp only at hSw); go_simp; (try with_reducible rfl))
  simp only [Act.put, List.setIfInBounds_toArray, List.set_cons_zero, List.set_cons_succ]
  refine wpAnyH_take (i := 16) (oi := ⟨some 19, _, _, _, _, _⟩) (v := ?_) rfl (by kernel_rfl) (by kernel_rfl) (by kernel_rfl) (fun _ _ _ h => h) (Or.inl ⟨by rfl, ?_⟩) (by assumption) ?_
  rotate_left
  · (intro w hSw; (try dsimp only at hSw); go_simp; (try with_reducible rfl))
  simp only [Act.put, List.setIfInBounds_toArray, List.set_cons_zero, List.set_cons_succ]
  refine wpAnyH_take (i := 17) (oi := ⟨some 20, _, _, _, _, _⟩) (v := ?_) rfl (by kernel_rfl) (by kernel_rfl) (by kernel_rfl) (fun _ _ _ h => h) (Or.inl ⟨by rfl, ?_⟩) (by assumption) ?_
  rotate_left
  · (intro w hSw; (try dsimp only at hSw); go_simp; (try with_reducible rfl))
  simp only [Act.put, List.setIfInBounds_toArray, List.set_cons_zero, List.set_cons_succ]
  refine wpAnyH_take (i := 21) (oi := ⟨some 24, _, _, _, _, _⟩) (v := ?_) rfl (by kernel_rfl) (by kernel_rfl) (by kernel_rfl) (fun _ _ _ h => h) (Or.inl ⟨by rfl, ?_⟩) (by assumption) ?_
  rotate_left
  · (intro w hSw; (try dsimp only at hSw); go_simp; (try with_reducible rfl))
  simp only [Act.put, List.setIfInBounds_toArray, List.set_cons_zero, List.set_cons_succ]
  refine wpAnyH_take (i := 22) (oi := ⟨some 25, _, _, _, _, _⟩) (v := ?_) rfl (by kernel_rfl) (by kernel_rfl) (by kernel_rfl) (fun _ _ _ h => h) (Or.inl ⟨by rfl, ?_⟩) (by assumption) ?_
  rotate_left
  · (intro w hSw; (try dsimp only at hSw); go_simp; (try with_reducible rfl))
  simp only [Act.put, List.setIfInBounds_toArray, List.set_cons_zero, List.set_cons_succ]
  refine wpAnyH_take (i := 23) (oi := ⟨some 26, _, _, _, _, _⟩) (v := ?_) rfl (by kernel_rfl) (by kernel_rfl) (by kernel_rfl) (fun _ _ _ h => h) (Or.inl ⟨by rfl, ?_⟩) (by assumption) ?_
  rotate_left
  · (intro w hSw; (try dsimp only at hSw); go_simp; (try with_reducible rfl))
  simp only [Act.put, List.setIfInBounds_toArray, List.set_cons_zero, List.set_cons_succ]
  refine wpAnyH_take (i := 24) (oi := ⟨some 27, _, _, _, _, _⟩) (v := ?_) rfl (by kernel_rfl) (by kernel_rfl) (by kernel_rfl) (fun _ _ _ h => h) (Or.inl ⟨by rfl, ?_⟩) (by assumption) ?_
  rotate_left
  · (intro w hSw; (try dsimp only at hSw); go_simp; (try with_reducible rfl))
  simp only [Act.put, List.setIfInBounds_toArray, List.set_cons_zero, List.set_cons_succ]
  refine wpAnyH_take (i := 25) (oi := ⟨some 28, _, _, _, _, _⟩) (v := ?_) rfl (by kernel_rfl) (by kernel_rfl) (by kernel_rfl) (fun _ _ _ h => h) (Or.inl ⟨by rfl, ?_⟩) (by assumption) ?_
  rotate_left
  · (intro w hSw; (try dsimp only at hSw); go_simp; (try with_reducible rfl))
  simp only [Act.put, List.setIfInBounds_toArray, List.set_cons_zero, List.set_cons_succ]
  refine wpAnyH_take (i := 26) (oi := ⟨some 29, _, _, _, _, _⟩) (v := ?_) rfl (by kernel_rfl) (by kernel_rfl) (by kernel_rfl) (fun _ _ _ h => h) (Or.inl ⟨by rfl, ?_⟩) (by assumption) ?_
  rotate_left
  · (intro w hSw; (try dsimp only at hSw); go_simp; (try with_reducible rfl))
  simp only [Act.put, List.setIfInBounds_toArray, List.set_cons_zero, List.set_cons_succ]
  refine wpAnyH_take (i := 27) (oi := ⟨some 30, _, _, _, _, _⟩) (v := ?_) rfl (by kernel_rfl) (by kernel_rfl) (by kernel_rfl) (fun _ _ _ h => h) (Or.inl ⟨by rfl, ?_⟩) (by assumption) ?_
  rotate_left
  · (intro w hSw; (try dsimp only at hSw); go_simp; (try with_reducible rfl))
  simp only [Act.put, List.setIfInBounds_toArray, List.set_cons_zero, List.set_cons_succ]
  refine wpAnyH_take (i := 28) (oi := ⟨some 31, _, _, _, _, _⟩) (v := ?_) rfl (by kernel_rfl) (by kernel_rfl) (by kernel_rfl) (fun _ _ _ h => h) (Or.inl ⟨by rfl, ?_⟩) (by assumption) ?_
  rotate_left
  · (intro w hSw; (try dsimp only at hSw); go_simp; (try with_reducible rfl))
  simp only [Act.put, List.setIfInBounds_toArray, List.set_cons_zero, List.set_cons_succ]
  refine Dag.wpAnyH_inv (fun listed a W => ∃ b c m d v u q, listed = hlst b c m d ∧ a = { tmps := hfrm B w.heap.size v u q, defers := [] } ∧ HI B w w.heap.size b c m d v u q W) ?_ ?_ _ _ _ _ (by decide +kernel) ⟨fun _ => false, fun _ => false, fun _ => false, false, fun _ => undef, fun _ => undef, fun _ => undef, by kernel_rfl, by rfl, HB.out.drew, fun _ _ h => (by cases h), fun _ _ h => (by cases h), fun _ _ h => (by cases h), fun h => (by cases h), by rw [if_neg (by decide)]; exact HX.out.drew⟩
  · rintro listed a W ⟨b, c, m, d, v, u, q, rfl, rfl, hI⟩ hr
    have h3 : b 0 = true := by
      cases e : b 0 with
      | true => rfl
      | false => exact (ready_out hr 3 (show (hlst b c m d).getD 3 true = false from e) [2] (by kernel_rfl) (List.forall_mem_cons.2 ⟨(show (hlst b c m d).getD 2 false = true from rfl), List.forall_mem_nil _⟩)).elim
    have h4 : c 0 = true := by
      cases e : c 0 with
      | true => rfl
      | false => exact (ready_out hr 4 (show (hlst b c m d).getD 4 true = false from e) [3] (by kernel_rfl) (List.forall_mem_cons.2 ⟨(show (hlst b c m d).getD 3 false = true from h3), List.forall_mem_nil _⟩)).elim
    have h5 : m 0 = true := by
      cases e : m 0 with
      | true => rfl
      | false => exact (ready_out hr 5 (show (hlst b c m d).getD 5 true = false from e) [4] (by kernel_rfl) (List.forall_mem_cons.2 ⟨(show (hlst b c m d).getD 4 false = true from h4), List.forall_mem_nil _⟩)).elim
    have h18 : b 1 = true := by
      cases e : b 1 with
      | true => rfl
      | false => exact (ready_out hr 18 (show (hlst b c m d).getD 18 true = false from e) [9, 13, 17] (by kernel_rfl) (List.forall_mem_cons.2 ⟨(show (hlst b c m d).getD 9 false = true from rfl), List.forall_mem_cons.2 ⟨(show (hlst b c m d).getD 13 false = true from rfl), List.forall_mem_cons.2 ⟨(show (hlst b c m d).getD 17 false = true from rfl), List.forall_mem_nil _⟩⟩⟩)).elim
    have h19 : c 1 = true := by
      cases e : c 1 with
      | true => rfl
      | false => exact (ready_out hr 19 (show (hlst b c m d).getD 19 true = false from e) [4, 18] (by kernel_rfl) (List.forall_mem_cons.2 ⟨(show (hlst b c m d).getD 4 false = true from h4), List.forall_mem_cons.2 ⟨(show (hlst b c m d).getD 18 false = true from h18), List.forall_mem_nil _⟩⟩)).elim
    have h20 : m 1 = true := by
      cases e : m 1 with
      | true => rfl
      | false => exact (ready_out hr 20 (show (hlst b c m d).getD 20 true = false from e) [19] (by kernel_rfl) (List.forall_mem_cons.2 ⟨(show (hlst b c m d).getD 19 false = true from h19), List.forall_mem_nil _⟩)).elim
    have h29 : b 2 = true := by
      cases e : b 2 with
      | true => rfl
      | false => exact (ready_out hr 29 (show (hlst b c m d).getD 29 true = false from e) [24, 28] (by kernel_rfl) (List.forall_mem_cons.2 ⟨(show (hlst b c m d).getD 24 false = true from rfl), List.forall_mem_cons.2 ⟨(show (hlst b c m d).getD 28 false = true from rfl), List.forall_mem_nil _⟩⟩)).elim
    have h30 : c 2 = true := by
      cases e : c 2 with
      | true => rfl
      | false => exact (ready_out hr 30 (show (hlst b c m d).getD 30 true = false from e) [19, 29] (by kernel_rfl) (List.forall_mem_cons.2 ⟨(show (hlst b c m d).getD 19 false = true from h19), List.forall_mem_cons.2 ⟨(show (hlst b c m d).getD 29 false = true from h29), List.forall_mem_nil _⟩⟩)).elim
    have h31 : m 2 = true := by
      cases e : m 2 with
      | true => rfl
      | false => exact (ready_out hr 31 (show (hlst b c m d).getD 31 true = false from e) [30] (by kernel_rfl) (List.forall_mem_cons.2 ⟨(show (hlst b c m d).getD 30 false = true from h30), List.forall_mem_nil _⟩)).elim
    have h32 : m 3 = true := by
      cases e : m 3 with
      | true => rfl
      | false => exact (ready_out hr 32 (show (hlst b c m d).getD 32 true = false from e) [5, 20, 31] (by kernel_rfl) (List.forall_mem_cons.2 ⟨(show (hlst b c m d).getD 5 false = true from h5), List.forall_mem_cons.2 ⟨(show (hlst b c m d).getD 20 false = true from h20), List.forall_mem_cons.2 ⟨(show (hlst b c m d).getD 31 false = true from h31), List.forall_mem_nil _⟩⟩⟩)).elim
    have hd : d = true := by
      cases d with
      | true => rfl
      | false =>
        have e : hlst b c m false = hlst (fun _ => true) (fun _ => true) (fun _ => true) false := by simp only [hlst, h3, h4, h5, h18, h19, h20, h29, h30, h31, h32]
        have hall : ∀ j ∈ List.range 33, (hlst (fun _ => true) (fun _ => true) (fun _ => true) false).getD j false = true := by decide +kernel
        rw [e] at hr
        exact (ready_out hr 33 (show (hlst (fun _ => true) (fun _ => true) (fun _ => true) false).getD 33 true = false from rfl) (List.range 33) (by kernel_rfl) hall).elim
    subst hd
    have hres := hI.res
    rw [if_pos rfl] at hres
    have HR := Lib.hid hres.1
    have HE := Lib.hid (show (∀ k, k < 3 → NAtY W.heap.size (u k) (atB B (hgrp k)) W) ∧ Below w.heap.size w W from ⟨fun k hk => hI.num k hk (hres.2 k hk), hI.bel⟩)
    clear hI hr hres
    simp only [hfrm]
    go_wp2_with fail
    refine bodyPost_ret (results_blk (cs := headA u) rfl rfl HR.out Tryz.underlying63 rfl (by kernel_rfl)) rfl ⟨u, rfl, HE.out.1, HE.out.2⟩
  · rintro listed a W ⟨b, c, m, d, v, u, q, rfl, rfl, hI⟩ i hi
    have HI := Lib.hid hI
    have HRD := Lib.hid hi
    clear hI hi
    rcases hwhich (mem_ready.1 HRD.out).1 with rfl | rfl | rfl | rfl | rfl | rfl | rfl | rfl | rfl | rfl | rfl
    · have hp := Lib.hid (show (hlst b c m d).getD 3 true = false from (mem_ready.1 HRD.out).1)
      clear HRD
      refine inv_step (o := ⟨some 6, _, _, _, _, _⟩) rfl (fun K' hK => ?_)
      simp only [hfrm]
      go_simp
      exact hK.out _ _ ⟨trivial, up 0 true b, c, m, d, up 0 _ v, u, q, rfl, rfl, HI.out.built 0 (by decide) ((Below.refl _ _).alloc (Nat.le_refl _) _) (pat_new W (hps B 0) _)⟩
    · have hp := Lib.hid (show (hlst b c m d).getD 4 true = false from (mem_ready.1 HRD.out).1)
      have r3 : b 0 = true := ready_dep HRD.out 3 (by kernel_rfl)
      clear HRD
      obtain ⟨g, hv, hg, hc⟩ := HI.out.ptr 0 (by decide) r3
      have HC := Lib.hid (longs_any g 0 (hps B 0).length (hps B 0) (by simp [hps, hgrp]) W hg hc)
      refine inv_step (o := ⟨some 7, _, _, _, _, _⟩) rfl (fun K' hK => ?_)
      simp only [hfrm, hv]
      have HV := Lib.hid hv
      clear hv hc hg
      go_simp
      refine HC.out.mono ?_
      rintro e W' ⟨x, rfl, hrow⟩
      exact hK.out _ _ ⟨trivial, b, up 0 true c, m, d, v, up 0 x u, q, rfl, by simp only [hfrm, HV.out]; rfl, HI.out.called 0 (by decide) hp.out hrow⟩
    · have hp := Lib.hid (show (hlst b c m d).getD 5 true = false from (mem_ready.1 HRD.out).1)
      have r4 : c 0 = true := ready_dep HRD.out 4 (by kernel_rfl)
      clear HRD
      have N0 := HI.out.num 0 (by decide) r4
      obtain ⟨g, x, hu, -⟩ := N0
      refine inv_step (o := ⟨some 8, _, _, _, _, _⟩) rfl (fun K' hK => ?_)
      simp only [hfrm, hu]
      have HU := Lib.hid hu
      clear hu
      go_simp
      exact hK.out _ _ ⟨trivial, b, c, up 0 true m, d, v, u, up 0 (partA 0 (u 0)) q, rfl, by simp only [hfrm, HU.out, up]; simp [partA, hword]; rfl, HI.out.part 0 (by decide) r4⟩
    · have hp := Lib.hid (show (hlst b c m d).getD 18 true = false from (mem_ready.1 HRD.out).1)
      clear HRD
      refine inv_step (o := ⟨some 21, _, _, _, _, _⟩) rfl (fun K' hK => ?_)
      simp only [hfrm]
      go_simp
      exact hK.out _ _ ⟨trivial, up 1 true b, c, m, d, up 1 _ v, u, q, rfl, rfl, HI.out.built 1 (by decide) ((Below.refl _ _).alloc (Nat.le_refl _) _) (pat_new W (hps B 1) _)⟩
    · have hp := Lib.hid (show (hlst b c m d).getD 19 true = false from (mem_ready.1 HRD.out).1)
      have r4 : c 0 = true := ready_dep HRD.out 4 (by kernel_rfl)
      have r18 : b 1 = true := ready_dep HRD.out 18 (by kernel_rfl)
      clear HRD
      obtain ⟨g, hv, hg, hc⟩ := HI.out.ptr 1 (by decide) r18
      have HC := Lib.hid (shorts_any g 0 (hps B 1).length (hps B 1) (by simp [hps, hgrp]) W hg hc)
      refine inv_step (o := ⟨some 22, _, _, _, _, _⟩) rfl (fun K' hK => ?_)
      simp only [hfrm, hv]
      have HV := Lib.hid hv
      clear hv hc hg
      go_simp
      refine HC.out.mono ?_
      rintro e W' ⟨x, rfl, hrow⟩
      exact hK.out _ _ ⟨trivial, b, up 1 true c, m, d, v, up 1 x u, q, rfl, by simp only [hfrm, HV.out]; rfl, HI.out.called 1 (by decide) hp.out hrow⟩
    · have hp := Lib.hid (show (hlst b c m d).getD 20 true = false from (mem_ready.1 HRD.out).1)
      have r19 : c 1 = true := ready_dep HRD.out 19 (by kernel_rfl)
      clear HRD
      have N1 := HI.out.num 1 (by decide) r19
      obtain ⟨g, x, hu, -⟩ := N1
      refine inv_step (o := ⟨some 23, _, _, _, _, _⟩) rfl (fun K' hK => ?_)
      simp only [hfrm, hu]
      have HU := Lib.hid hu
      clear hu
      go_simp
      exact hK.out _ _ ⟨trivial, b, c, up 1 true m, d, v, u, up 1 (partA 1 (u 1)) q, rfl, by simp only [hfrm, HU.out, up]; simp [partA, hword]; rfl, HI.out.part 1 (by decide) r19⟩
    · have hp := Lib.hid (show (hlst b c m d).getD 29 true = false from (mem_ready.1 HRD.out).1)
      clear HRD
      refine inv_step (o := ⟨some 32, _, _, _, _, _⟩) rfl (fun K' hK => ?_)
      simp only [hfrm]
      go_simp
      exact hK.out _ _ ⟨trivial, up 2 true b, c, m, d, up 2 _ v, u, q, rfl, rfl, HI.out.built 2 (by decide) ((Below.refl _ _).alloc (Nat.le_refl _) _) (pat_new W (hps B 2) _)⟩
    · have hp := Lib.hid (show (hlst b c m d).getD 30 true = false from (mem_ready.1 HRD.out).1)
      have r19 : c 1 = true := ready_dep HRD.out 19 (by kernel_rfl)
      have r29 : b 2 = true := ready_dep HRD.out 29 (by kernel_rfl)
      clear HRD
      obtain ⟨g, hv, hg, hc⟩ := HI.out.ptr 2 (by decide) r29
      have HC := Lib.hid (longs_any g 0 (hps B 2).length (hps B 2) (by simp [hps, hgrp]) W hg hc)
      refine inv_step (o := ⟨some 33, _, _, _, _, _⟩) rfl (fun K' hK => ?_)
      simp only [hfrm, hv]
      have HV := Lib.hid hv
      clear hv hc hg
      go_simp
      refine HC.out.mono ?_
      rintro e W' ⟨x, rfl, hrow⟩
      exact hK.out _ _ ⟨trivial, b, up 2 true c, m, d, v, up 2 x u, q, rfl, by simp only [hfrm, HV.out]; rfl, HI.out.called 2 (by decide) hp.out hrow⟩
    · have hp := Lib.hid (show (hlst b c m d).getD 31 true = false from (mem_ready.1 HRD.out).1)
      have r30 : c 2 = true := ready_dep HRD.out 30 (by kernel_rfl)
      clear HRD
      have N2 := HI.out.num 2 (by decide) r30
      obtain ⟨g, x, hu, -⟩ := N2
      refine inv_step (o := ⟨some 34, _, _, _, _, _⟩) rfl (fun K' hK => ?_)
      simp only [hfrm, hu]
      have HU := Lib.hid hu
      clear hu
      go_simp
      exact hK.out _ _ ⟨trivial, b, c, up 2 true m, d, v, u, up 2 (partA 2 (u 2)) q, rfl, by simp only [hfrm, HU.out, up]; simp [partA, hword]; rfl, HI.out.part 2 (by decide) r30⟩
    · have hp := Lib.hid (show (hlst b c m d).getD 32 true = false from (mem_ready.1 HRD.out).1)
      have r5 : m 0 = true := ready_dep HRD.out 5 (by kernel_rfl)
      have r20 : m 1 = true := ready_dep HRD.out 20 (by kernel_rfl)
      have r31 : m 2 = true := ready_dep HRD.out 31 (by kernel_rfl)
      clear HRD
      have e0 := (HI.out.par 0 (by decide) r5).1
      have e1 := (HI.out.par 1 (by decide) r20).1
      have e2 := (HI.out.par 2 (by decide) r31).1
      have hm : ∀ k, k < 3 → m k = true := fun k hk => by
        have : k = 0 ∨ k = 1 ∨ k = 2 := by omega
        rcases this with rfl | rfl | rfl
        · exact r5
        · exact r20
        · exact r31
      obtain ⟨g0, x0, hu0, -⟩ := HI.out.num 0 (by decide) (HI.out.par 0 (by decide) r5).2
      obtain ⟨g1, x1, hu1, -⟩ := HI.out.num 1 (by decide) (HI.out.par 1 (by decide) r20).2
      obtain ⟨g2, x2, hu2, -⟩ := HI.out.num 2 (by decide) (HI.out.par 2 (by decide) r31).2
      refine inv_step (o := ⟨some 35, _, _, _, _, _⟩) rfl (fun K' hK => ?_)
      simp only [hfrm, e0, e1, e2, partA, hword, hu0, hu1, hu2]
      have HU := Lib.hid (And.intro e0 (And.intro e1 (And.intro e2 (And.intro hu0 (And.intro hu1 hu2)))))
      clear e0 e1 e2 hu0 hu1 hu2
      go_simp
      exact hK.out _ _ ⟨trivial, b, c, up 3 true m, d, v, u, up 3 (.agg (headA u)) q, rfl, by obtain ⟨e0, e1, e2, hu0, hu1, hu2⟩ := HU.out; simp only [hfrm, e0, e1, e2, partA, hword, hu0, hu1, hu2, up, headA]; rfl, HI.out.parts hm⟩
    · have hp := Lib.hid (show (hlst b c m d).getD 33 true = false from (mem_ready.1 HRD.out).1)
      have r3 : b 0 = true := ready_dep HRD.out 3 (by kernel_rfl)
      have r4 : c 0 = true := ready_dep HRD.out 4 (by kernel_rfl)
      have r5 : m 0 = true := ready_dep HRD.out 5 (by kernel_rfl)
      have r18 : b 1 = true := ready_dep HRD.out 18 (by kernel_rfl)
      have r19 : c 1 = true := ready_dep HRD.out 19 (by kernel_rfl)
      have r20 : m 1 = true := ready_dep HRD.out 20 (by kernel_rfl)
      have r29 : b 2 = true := ready_dep HRD.out 29 (by kernel_rfl)
      have r30 : c 2 = true := ready_dep HRD.out 30 (by kernel_rfl)
      have r31 : m 2 = true := ready_dep HRD.out 31 (by kernel_rfl)
      have r32 : m 3 = true := ready_dep HRD.out 32 (by kernel_rfl)
      clear HRD
      obtain ⟨e3, hc⟩ := HI.out.row r32
      have hdf : d = false := hp.out
      have hres := HI.out.res
      rw [hdf, if_neg (by decide)] at hres
      have HRS := Lib.hid hres
      obtain ⟨g0, x0, hu0, -⟩ := HI.out.num 0 (by decide) (hc 0 (by decide))
      obtain ⟨g1, x1, hu1, -⟩ := HI.out.num 1 (by decide) (hc 1 (by decide))
      obtain ⟨g2, x2, hu2, -⟩ := HI.out.num 2 (by decide) (hc 2 (by decide))
      refine inv_step (o := ⟨none, _, _, _, _, _⟩) rfl (fun K' hK => ?_)
      have HU := Lib.hid (And.intro e3 (And.intro hu0 (And.intro hu1 hu2)))
      have HCC := Lib.hid hc
      have hone : (headA u).all (·.oneCell') = true := by simp [headA, hu0, hu1, hu2, Value.oneCell']
      clear e3 hu0 hu1 hu2 hres hc
      refine step_store_blk (by rfl) 63 _ _ (by rfl) w.heap.size (by rfl) hzero (headA u) 63 HRS.out (heval HU.out.1) rfl (by kernel_rfl) hone ?_
      exact hK.out _ _ ⟨trivial, b, c, m, true, v, u, q, rfl, by simp only [hfrm, HU.out.1]; rfl, HI.out.stored (Nat.le_refl _) (fun k hk e => (HI.out.ptr k hk e).cells (by rw [hps_len]; exact (hgrp_len k hk).1) HRS.out _) (fun k hk e => (HI.out.num k hk e).cells (by rw [atB_len]; exact (hgrp_len k hk).1) HRS.out _) HCC.out (Blk.Below.setCells _ _ _ HI.out.bel (Nat.le_refl _)) (HRS.out.setCells (headA u) rfl)⟩
theorem head_any (B : Nat) (w : World) :
    Calls Tryz.prog 19 #[.pointer (some ⟨B, 0, none⟩)] w fun e w' => ∃ u : Nat → Value, e = .returned (.agg (headA u)) ∧ (∀ k, k < 3 → NAt w'.heap.size (u k) (atB B (hgrp k)) w') ∧ Below w.heap.size w w' :=
  (head_any_y B w).mono fun e w' ⟨u, h1, h2, h3⟩ => ⟨u, h1, fun k hk => (h2 k hk).at, h3⟩
end Go.Proofs.YtmkcooamgojbpaaGreatDoor.Sheet

/- Reading a configuration, step by step, plain; what a row of a configuration that was read holds. -/
namespace Go.Proofs.YtmkcooamgojbpaaGreatDoor.Sheet
open Go.RowKit Go.Proofs.YtmkcooamgojbpaaGreatDoor.Kit Go.Proofs.YtmkcooamgojbpaaGreatDoor.Blk Go.Proofs.YtmkcooamgojbpaaGreatDoor.Words Go.Proofs.YtmkcooamgojbpaaGreatDoor.Octets Go.Proofs.YtmkcooamgojbpaaGreatDoor.Lines Go.Proofs.YtmkcooamgojbpaaGreatDoor.Dec Go.Proofs.YtmkcooamgojbpaaGreatDoor.Symbol Go.Proofs.YtmkcooamgojbpaaGreatDoor.Check Go.Proofs.YtmkcooamgojbpaaGreatDoor.Table
set_option linter.unusedVariables false

def hdL : List (Txt × Nat) := [(wIndex, 1), (wFalls, 3), (wHalts, 2)]
def goF : List (Txt × Nat) → Nat → List (List Int) → List Txt → RRes
  | [], _, zs, ps => bodyF (zs.getD 0 []) (zs.getD 1 []) (zs.getD 2 []) ps
  | x :: r, k, zs, ps => match oneG x.1 x.2 ps with
    | none => .bad (k + 1)
    | some a => goF r (k + 1) (zs ++ [a.1]) a.2
theorem read_go (s : Txt) : readF s = goF hdL 0 [] (cutW 10 s) := by
  unfold readF hdL
  rw [goF]
  dsimp only
  cases oneG wIndex 1 (cutW 10 s) with
  | none => rfl
  | some a =>
    dsimp only
    rw [goF]
    dsimp only
    cases oneG wFalls 3 a.2 with
    | none => rfl
    | some b =>
      dsimp only
      rw [goF]
      dsimp only
      cases oneG wHalts 2 b.2 with
      | none => rfl
      | some c => rfl
theorem hd_drop : ∀ {k : Nat}, k < 3 → hdL.drop k = (hword k, (hgrp k).length) :: hdL.drop (k + 1)
  | 0, _ => rfl
  | 1, _ => rfl
  | 2, _ => rfl
  | k + 3, h => by omega
theorem go_one {k : Nat} (hk : k < 3) (zs : List (List Int)) (x : Txt) : goF (hdL.drop k) k zs [x] = .bad (k + 1) := by
  rw [hd_drop hk, goF]; rfl
theorem go_bad {k : Nat} (hk : k < 3) (zs : List (List Int)) {x : Txt} (h : partF (hword k) (hgrp k).length x = none) (y : Txt) (t : List Txt) : goF (hdL.drop k) k zs (x :: y :: t) = .bad (k + 1) := by
  rw [hd_drop hk, goF, oneG, h]; rfl
theorem go_ok {k : Nat} (hk : k < 3) (zs : List (List Int)) {x : Txt} {ns : List Int} (h : partF (hword k) (hgrp k).length x = some ns) (y : Txt) (t : List Txt) : goF (hdL.drop k) k zs (x :: y :: t) = goF (hdL.drop (k + 1)) (k + 1) (zs ++ [ns]) (y :: t) := by
  rw [hd_drop hk, goF, oneG, h]; rfl
theorem go_end (zs : List (List Int)) (ps : List Txt) : goF (hdL.drop 3) 3 zs ps = bodyF (zs.getD 0 []) (zs.getD 1 []) (zs.getD 2 []) ps := rfl
/-- The configuration's block, when the first lines' numbers are these. -/
def hdC (zs : List (List Int)) : Cfg := cfgL (zs.getD 0 []) (zs.getD 1 []) (zs.getD 2 []) [] []
def csA (zs : List (List Int)) : Array Value := cfgV (hdC zs) (.slice none 0 0) (.slice none 0 0)
theorem set_csA : ∀ {k : Nat} {zs : List (List Int)} {a : List Int}, k < 3 → zs.length = k → a.length = (hgrp k).length → setL (csA zs) ((hgrp k).map (·.2)) a = csA (zs ++ [a])
  | 0, [], [_], _, _, _ => rfl
  | 1, [_], [_, _, _], _, _, _ => rfl
  | 2, [_, _], [_, _], _, _, _ => rfl
theorem csA_plain (zs : List (List Int)) : PlainC (csA zs) := fun j u hu => by
  match j, hu with
  | 0, hu => injection hu with hu; exact .inr ⟨_, _, _, hu.symm⟩
  | 1, hu => injection hu with hu; exact .inr ⟨_, _, _, hu.symm⟩
  | 2, hu => injection hu with hu; exact .inl ⟨_, hu.symm⟩
  | 3, hu => injection hu with hu; exact .inl ⟨_, hu.symm⟩
  | 4, hu => injection hu with hu; exact .inl ⟨_, hu.symm⟩
  | 5, hu => injection hu with hu; exact .inl ⟨_, hu.symm⟩
  | 6, hu => injection hu with hu; exact .inl ⟨_, hu.symm⟩
  | 7, hu => injection hu with hu; exact .inl ⟨_, hu.symm⟩
  | j + 8, hu => rw [Array.getElem?_eq_none (by simp [csA, cfgV])] at hu; cases hu
theorem csA_int (zs : List (List Int)) : ∀ {k : Nat}, k < 3 → ∀ y ∈ hgrp k, ∃ n, (csA zs)[y.2]? = some (Value.int .i64 n)
  | 0, _, y, hy => by simp only [hgrp, List.mem_cons, List.not_mem_nil, or_false] at hy; subst hy; exact ⟨_, rfl⟩
  | 1, _, y, hy => by simp only [hgrp, List.mem_cons, List.not_mem_nil, or_false] at hy; rcases hy with rfl | rfl | rfl <;> exact ⟨_, rfl⟩
  | 2, _, y, hy => by simp only [hgrp, List.mem_cons, List.not_mem_nil, or_false] at hy; rcases hy with rfl | rfl <;> exact ⟨_, rfl⟩
  | k + 3, h, _, _ => by omega
/-- What is told of a text. -/
def cfg0 : Cfg := ⟨[], [], 0, 0, 0, 0, 0, 0⟩
def resF : RRes → Cfg × Int × Int
  | .bad n => (cfg0, (n : Int), 4)
  | .wrong f => (cfg0, 0, f)
  | .good c => (c, 0, 0)
def CfgOut (r : Cfg × Int × Int) (w : World) (e : Ending) (w' : World) : Prop :=
  ∃ sa ta sc tc, e = .returned (.tuple #[.agg (r.1.cells sa ta sc tc), .int .i64 r.2.1, .int .i64 r.2.2]) ∧ r.1.In w' sa ta ∧ Below w.heap.size w w'
theorem cfg0_in (w : World) : cfg0.In w none none := ⟨fun i h => by simp [cfg0] at h, fun i h => by simp [cfg0] at h, by simp [cfg0, maxLen], by simp [cfg0, maxLen]⟩
theorem cfgOut_bad {w w' : World} (n f : Int) (h : Below w.heap.size w w') : CfgOut (cfg0, n, f) w (.returned (.tuple #[.agg (cfg0.cells none none 0 0), .int .i64 n, .int .i64 f])) w' :=
  ⟨none, none, 0, 0, rfl, cfg0_in _, h⟩
/- Rows. -/
section
variable {α : Type} (c : α → Array Value) (z : Nat) (hz : ∀ x, (c x).size = z)
include hz
theorem flat_at (l : List α) : ∀ (i : Nat) (h : i < l.length) (j : Nat) (v : Value), (c l[i])[j]? = some v → (l.flatMap fun m => (c m).toList)[i * z + j]? = some v := by
  induction l with
  | nil => intro i h; simp at h
  | cons m l ih =>
    intro i h j v hv
    have hsz : (c m).toList.length = z := by simpa using hz m
    rw [List.flatMap_cons]
    cases i with
    | zero =>
      rw [List.getElem_cons_zero] at hv
      have hj : j < z := by have := (Array.getElem?_eq_some_iff.1 hv).1; rw [hz] at this; exact this
      rw [show 0 * z + j = j by simp, List.getElem?_append_left (by omega)]
      simpa using hv
    | succ i =>
      rw [List.getElem_cons_succ] at hv
      have he : (i + 1) * z + j = z + (i * z + j) := by rw [Nat.add_mul]; omega
      rw [he, List.getElem?_append_right (by omega), hsz, Nat.add_sub_cancel_left]
      exact ih i (by simpa using h) j v hv
theorem own_row {W : World} {base T : Nat} {v : Value} {l : List α} (ho : W.ownsRow base T z v l.length (l.flatMap fun m => (c m).toList)) :
    ∃ a cap, v = .slice a l.length cap ∧ l.length ≤ maxLen ∧ ∀ W' : World, W'.ownsRow base T z v l.length (l.flatMap fun m => (c m).toList) → ∀ i, (h : i < l.length) → ∃ b, a = some ⟨b, 0, none⟩ ∧ b < W'.heap.size ∧ ∀ (j : Nat) (u : Value), (c l[i])[j]? = some u → W'.cell? ⟨b, i * z + j, none⟩ = some u := by
  rcases ho.2 with ⟨rfl, h0⟩ | ⟨g, cap, cur, rfl, hg, hgb, hn, hc, hsz, htk⟩
  · exact ⟨none, 0, by rw [h0], by omega, fun W' _ i hi => by omega⟩
  · refine ⟨_, cap, rfl, by omega, fun W' ho' i hi => ⟨g, rfl, (World.ownsRow.lt ho' g rfl).2, fun j u hu => ?_⟩⟩
    have hlen : (l.flatMap fun m => (c m).toList).length = l.length * z := flat_size c z hz l
    have h1 := flat_at c z hz l i hi j u hu
    have h2 := (List.getElem?_eq_some_iff.1 h1).1
    rw [World.ownsRow.cellAt ho' (i * z + j) (by omega)]
    exact h1
end
theorem cfgA_in {w0 W : World} {P C : Nat} {h : Cfg} {t : List (Int × Int)} {s : List Sym} {vs vt : Value} (k : CfgA w0 P C h t s vs vt W) :
    ∃ sa ta sc tc, cfgV h vs vt = (Cfg.cells ⟨s, t, h.index, h.f0, h.f1, h.f2, h.h0, h.h1⟩ sa ta sc tc) ∧ ∀ W' : World, W'.ownsRow w0.heap.size 46 16 vs s.length (symsT s) → W'.ownsRow w0.heap.size 40 2 vt t.length (rowsT t) → Cfg.In ⟨s, t, h.index, h.f0, h.f1, h.f2, h.h0, h.h1⟩ W' sa ta := by
  obtain ⟨sa, sc, rfl, h1, h2⟩ := own_row (fun x : Sym => x.cells) 16 (fun _ => rfl) k.rs
  obtain ⟨ta, tc, rfl, h3, h4⟩ := own_row rowC 2 (fun _ => rfl) k.rt
  refine ⟨sa, ta, sc, tc, rfl, fun W' r1 r2 => ⟨fun i hi => ?_, fun i hi => ?_, h1, h3⟩⟩
  · obtain ⟨b, rfl, hb, hc⟩ := h2 W' r1 i hi
    exact ⟨b, 0, rfl, hb, fun j v hv => by rw [show 0 + i * 16 + j = i * 16 + j by omega]; exact hc j v hv⟩
  · obtain ⟨b, rfl, hb, hc⟩ := h4 W' r2 i hi
    exact ⟨b, 0, rfl, hb, by rw [show 0 + i * 2 = i * 2 + 0 by omega]; exact hc 0 _ rfl, by rw [show 0 + i * 2 + 1 = i * 2 + 1 by omega]; exact hc 1 _ rfl⟩
/-- A store into another configuration's block. -/
theorem CfgA.other {w0 W : World} {P C R : Nat} {h : Cfg} {t : List (Int × Int)} {s : List Sym} {vs vt : Value} {cs : Array Value} (k : CfgA w0 P C h t s vs vt W) (hR : Blk W R cs 27) (xs : List Value) (o : Nat) :
    (W.setCells R o xs).ownsRow w0.heap.size 46 16 vs s.length (symsT s) ∧ (W.setCells R o xs).ownsRow w0.heap.size 40 2 vt t.length (rowsT t) := by
  have hc := Chg.setCells (n := W.heap.size) (d := R) (a := W) xs o W (Chg.refl _ _ _) (.inl rfl)
  exact ⟨k.rs.kept (row := some R) ⟨hc.os, hc.tape, hc.output, hc.size, fun j hj hne => hc.block j hj (fun e => hne (by rw [e]))⟩ (.inr (row_blk k.rs hR (by decide))),
    k.rt.kept (row := some R) ⟨hc.os, hc.tape, hc.output, hc.size, fun j hj hne => hc.block j hj (fun e => hne (by rw [e]))⟩ (.inr (row_blk k.rt hR (by decide)))⟩
/-- A row of numbers whose block is not this one. -/
theorem nat_ne {M B T : Nat} {v : Value} {l : List (Bool × Addr)} {W : World} {cs : Array Value} {x : Value} (h : NAt M v l W) (h0 : 0 < l.length) (hb : Blk W B cs T) (hx : cs[0]? = some x) (hp : ∀ z, x ≠ .pointer z) : ∃ g c, v = .slice (some ⟨g, 0, none⟩) l.length c ∧ g < M ∧ g ≠ B := by
  obtain ⟨g, c, rfl, hg, hc⟩ := h
  refine ⟨g, c, rfl, hg, ?_⟩
  rintro rfl
  cases l with
  | nil => simp at h0
  | cons y l =>
    obtain ⟨u, hu, z, rfl⟩ : ∃ u, (numL (y :: l))[0]? = some u ∧ ∃ z, u = .pointer z := by
      simp only [numL, List.flatMap_cons, numC]
      split <;> exact ⟨_, rfl, _, rfl⟩
    have h2 := hc 0 _ hu
    rw [hb.cell 0 hx] at h2
    injection h2 with h2
    exact hp z h2
theorem nat_chg {M n B T : Nat} {v : Value} {l : List (Bool × Addr)} {W W' : World} {cs : Array Value} {x : Value} (h : NAt M v l W) (h0 : 0 < l.length) (hb : Blk W B cs T) (hx : cs[0]? = some x) (hp : ∀ z, x ≠ .pointer z) (hM : M ≤ n) (hc : Chg n B W W') : NAt M v l W' := by
  obtain ⟨g, c, rfl, hg, hne⟩ := nat_ne h h0 hb hx hp
  obtain ⟨g', c', e, h2, h3⟩ := h
  injection e with e1 _ e3
  injection e1 with e1
  injection e1 with e1
  subst e1
  exact ⟨g, c, rfl, hg, fun j u hu => by rw [hc.cell (p := ⟨g, j, none⟩) (by show g < n; omega) hne]; exact h3 j u hu⟩
end Go.Proofs.YtmkcooamgojbpaaGreatDoor.Sheet

/- sheet.Read's closure that reads a part; damperref07's configurations as the rows have them. -/
namespace Go.Proofs.YtmkcooamgojbpaaGreatDoor.Sheet
open Go.RowKit Go.Proofs.YtmkcooamgojbpaaGreatDoor.Kit Go.Proofs.YtmkcooamgojbpaaGreatDoor.Blk Go.Proofs.YtmkcooamgojbpaaGreatDoor.Words Go.Proofs.YtmkcooamgojbpaaGreatDoor.Octets Go.Proofs.YtmkcooamgojbpaaGreatDoor.Lines Go.Proofs.YtmkcooamgojbpaaGreatDoor.Dec Go.Proofs.YtmkcooamgojbpaaGreatDoor.Symbol Go.Proofs.YtmkcooamgojbpaaGreatDoor.Check
attribute [local go_sem ↓] Go.wp_at_zero Go.wp_at_succ
set_option linter.unusedVariables false

def PartE (x line : Txt) (q : List (Bool × Nat)) (C : Nat) (cs : Array Value) (b : Bool) (W : World) : Prop :=
  (b = false ∧ partF x q.length line = none) ∨ ∃ ns, b = true ∧ partF x q.length line = some ns ∧ Blk W C (setL cs (q.map (·.2)) ns) 27
def PartR (x line : Txt) (q : List (Bool × Nat)) (C : Nat) (cs : Array Value) (w : World) (b : Bool) (W : World) : Prop := Chg w.heap.size C w W ∧ PartE x line q C cs b W
set_option maxRecDepth 20000 in
set_option maxHeartbeats 4000000 in
theorem read1_any (x line : Txt) (hl : line.length ≤ 100000) (Pb L C : Nat) (cs : Array Value) (q : List (Bool × Nat)) (v : Value) (w : World) (hm : MX w) (hb : Blk w C cs 27) (hcs : PlainC cs)
    (hq : ∀ y ∈ q, ∃ n, cs[y.2]? = some (Value.int .i64 n)) (h0 : 0 < q.length) (h1 : q.length ≤ 1000) (hn : NAt w.heap.size v (atB C q) w)
    (hP : Blk w Pb #[.string (strB x), v] 62) (hL : w.cell? ⟨L, 0, none⟩ = some (.string (strB line))) :
    Calls Tryz.prog 38 #[.pointer (some ⟨Pb, 0, none⟩), .pointer (some ⟨L, 0, none⟩)] w fun e W => (e = .returned (.tuple #[]) ∧ PartR x line q C cs w true W) ∨ (e = badE ∧ PartR x line q C cs w false W) := by
  have HR := Lib.hid (read_any x line hl C cs 27 q v w hm hb hcs hq h0 h1 hn)
  obtain ⟨g, c, rfl, -, -⟩ := hn
  have c0 := hP.cell 0 rfl
  have c1 := hP.cell 1 rfl
  clear hb hcs hq h0 h1 hP hm
  go_enter Tryz.func38, Tryz.ntmps38
  go_wp2_with fail
  refine HR.out.mono ?_
  rintro e w3 ⟨hc, ⟨ho, rfl⟩ | ⟨ns, ho, rfl, hb⟩⟩
  · have HC := Lib.hid (show PartR x line q C cs w false w3 from ⟨hc, .inl ⟨rfl, ho⟩⟩)
    clear hc ho
    go_wp2_with fail
    exact ⟨rfl, .inr ⟨rfl, HC.out⟩⟩
  · have HC := Lib.hid (show PartR x line q C cs w true w3 from ⟨hc, .inr ⟨ns, rfl, ho, hb⟩⟩)
    clear hc ho hb
    go_wp2_with fail
    go_end0
    exact .inl ⟨rfl, HC.out⟩
end Go.Proofs.YtmkcooamgojbpaaGreatDoor.Sheet

/- sheet.Read. -/
namespace Go.Proofs.YtmkcooamgojbpaaGreatDoor.Sheet
open Go.RowKit Go.Proofs.YtmkcooamgojbpaaGreatDoor.Kit Go.Proofs.YtmkcooamgojbpaaGreatDoor.Blk Go.Proofs.YtmkcooamgojbpaaGreatDoor.Words Go.Proofs.YtmkcooamgojbpaaGreatDoor.Octets Go.Proofs.YtmkcooamgojbpaaGreatDoor.Lines Go.Proofs.YtmkcooamgojbpaaGreatDoor.Dec Go.Proofs.YtmkcooamgojbpaaGreatDoor.Symbol Go.Proofs.YtmkcooamgojbpaaGreatDoor.Check Go.Proofs.YtmkcooamgojbpaaGreatDoor.Table
attribute [local go_sem ↓] Go.wp_at_zero Go.wp_at_succ
set_option linter.unusedVariables false

theorem results_blk_tmps {P : Program} {fn : Func} {p u v : Tmp} {ty T : TypeId} {tmps : Array Value} {w : World} {B : Nat} {cs : Array Value} {d : TypeDesc} (h : fn.results = #[.cell p ty, .tmp u, .tmp v]) (hp : tmps.getD p undef = .pointer (some ⟨B, 0, none⟩)) (hb : Blk w B cs T)
    (hu : P.underlying ty = some d) (hd : d.isRow = true) (hi : (P.info? ty).map (·.size) = some cs.size) : (results fn tmps).run P w = .ok (.tuple #[.agg cs, tmps.getD u undef, tmps.getD v undef]) w := by
  have hp' : tmps[p]?.getD undef = .pointer (some ⟨B, 0, none⟩) := by simpa using hp
  have hl := run_loadVar_mid w B 0 ty cs.toList d hb.range hu hd (by simpa using hi)
  simp [results, h, hp', asAddr, hl]
theorem NAt.up {M M' : Nat} {v : Value} {l : List (Bool × Addr)} {W : World} (h : NAt M v l W) (hM : M ≤ M') : NAt M' v l W := by
  obtain ⟨g, c, h1, h2, h3⟩ := h
  exact ⟨g, c, h1, by omega, h3⟩
/-- Between two of the first lines: w1: the world behind the result's block; the reader's and the configuration's blocks come next. -/
structure HdS (w1 : World) (u : Nat → Value) (l : Txt) (k : Nat) (zs : List (List Int)) (ps : List Txt) (W : World) : Prop where
  rd : RdS w1.heap.size ps k W
  box : Blk W (w1.heap.size + 1) (csA zs) 27
  nums : ∀ j, j < 3 → NAt W.heap.size (u j) (atB (w1.heap.size + 1) (hgrp j)) W
  bel : Below w1.heap.size w1 W
  len : zs.length = k
  go : goF (hdL.drop k) k zs ps = readF l
section
variable {w1 W W' W2 : World} {u : Nat → Value} {l : Txt} {k : Nat} {zs : List (List Int)} {ps : List Txt}
theorem atB_pos {B j : Nat} (hj : j < 3) : 0 < (atB B (hgrp j)).length := by rw [atB_len]; exact (hgrp_len j hj).1
theorem HdS.below (h : HdS w1 u l k zs ps W) (hb : Below W.heap.size W W') : HdS w1 u l k zs ps W' :=
  ⟨h.rd.blk (h.rd.box.below hb h.rd.box.lt), h.box.below hb h.box.lt, fun j hj => (h.nums j hj).on hb, h.bel.trans (hb.mono h.bel.size), h.len, h.go⟩
/-- A line was tried. -/
theorem HdS.tried (h : HdS w1 u l k zs ps W) (o : Obj) (hc : Chg (W.alloc o).heap.size (w1.heap.size + 1) (W.alloc o) W') (hb : Below W.heap.size W' W2) :
    RdS w1.heap.size ps k W2 ∧ (∀ j, j < 3 → NAt W2.heap.size (u j) (atB (w1.heap.size + 1) (hgrp j)) W2) ∧ Below w1.heap.size w1 W2 := by
  have h0 : W.heap.size ≤ (W.alloc o).heap.size := by simp
  have hs : W.heap.size ≤ W2.heap.size := Nat.le_trans h0 (Nat.le_trans hc.size hb.size)
  refine ⟨h.rd.blk ((hc.blk (by have := h.rd.box.lt; omega) (by omega) (h.rd.box.old o)).below hb h.rd.box.lt), fun j hj => ?_, ?_⟩
  · have n1 := (h.nums j hj).below (Nat.le_refl _) ((Below.refl _ _).alloc (Nat.le_refl _) o)
    have n2 := nat_chg n1 (atB_pos hj) (h.box.old o) (show (csA zs)[0]? = some (.slice none 0 0) from rfl) (fun z e => by cases e) h0 hc
    exact (n2.below (Nat.le_refl _) hb).up hs
  · exact ((h.bel.alloc h.bel.size o).trans (hc.below' (Nat.le_succ _) (Nat.le_trans h.bel.size h0))).trans (hb.mono h.bel.size)
/-- And taken. -/
theorem HdS.next {ns : List Int} {qs : List Txt} (hlen : zs.length = k) (hk : k < 3) (hn : ns.length = (hgrp k).length) (hbox : Blk W2 (w1.heap.size + 1) (setL (csA zs) ((hgrp k).map (·.2)) ns) 27)
    (hnum : ∀ j, j < 3 → NAt W2.heap.size (u j) (atB (w1.heap.size + 1) (hgrp j)) W2) (hbel : Below w1.heap.size w1 W2) (hgo : goF (hdL.drop (k + 1)) (k + 1) (zs ++ [ns]) qs = readF l)
    (hrd : RdS w1.heap.size qs (k + 1) W') {cs : Array Value} {x : ByteArray} (hP : Blk W2 w1.heap.size cs 84) (hx : cs[0]? = some (.string x)) (hc : Chg W2.heap.size w1.heap.size W2 W') : HdS w1 u l (k + 1) (zs ++ [ns]) qs W' :=
  ⟨hrd, by rw [← set_csA hk hlen hn]; exact hc.blk hbox.lt (by omega) hbox, fun j hj => (nat_chg (hnum j hj) (atB_pos hj) hP hx (fun z e => by cases e) (Nat.le_refl _) hc).up hc.size, hbel.trans (hc.below' (Nat.le_refl _) hbel.size), by simp [hlen], hgo⟩
end
theorem HdS.start {w1 w2 w3 : World} {u : Nat → Value} {l : Txt} (hl : l.length ≤ 80000) (hp : Blk w2 w1.heap.size #[.string (strB l), .int .i64 0] 84) (hc : Blk w2 (w1.heap.size + 1) (csA []) 27) (hb : Below w1.heap.size w1 w2)
    (hn : ∀ j, j < 3 → NAt w3.heap.size (u j) (atB (w1.heap.size + 1) (hgrp j)) w3) (hb3 : Below w2.heap.size w2 w3) : HdS w1 u l 0 [] (cutW 10 l) w3 := by
  refine ⟨⟨?_, ?_, cutW_ne 10 l, ?_, ?_⟩, hc.below hb3 hc.lt, hn, hb.trans (hb3.mono hb.size), rfl, ?_⟩
  · rw [join_cut]; exact hp.below hb3 hp.lt
  · exact cut_clean 10 l
  · rw [join_cut]; omega
  · rw [cut_len]; have := List.count_le_length (a := (10 : UInt8)) (l := l); omega
  · exact (read_go l).symm
theorem JC.chg {w0 W W' : World} {P C : Nat} {h : Cfg} {t : List (Int × Int)} {s : List Sym} (k : JC w0 P C h t s W) (hc : Chg W.heap.size P W W') : JC w0 P C h t s W' := by
  obtain ⟨vs, vt, k⟩ := k
  exact ⟨vs, vt, k.chg hc⟩
theorem JC.lt {w0 W : World} {P : Nat} {h : Cfg} {t : List (Int × Int)} {s : List Sym} (k : JC w0 P (P + 1) h t s W) : P < W.heap.size := by
  obtain ⟨vs, vt, k⟩ := k
  have := k.box.lt
  omega
theorem part_index (u : Nat → Value) : ∀ {k : Nat}, k < 3 → ∀ w, (Instr.index 63 (.agg (headA u)) (.int .i64 (k : Int))).run Tryz.prog w = .ok (.agg #[.string (strB (hword k)), u k]) w
  | 0, _, _ => by kernel_rfl
  | 1, _, _ => by kernel_rfl
  | 2, _, _ => by kernel_rfl
  | k + 3, h, _ => by omega
theorem empty_join {qs : List Txt} (hne : qs ≠ []) (h : joinW 10 qs = []) : qs = [[]] := by
  match qs, hne with
  | [x], _ => rw [show joinW 10 [x] = x from rfl] at h; rw [h]
  | x :: y :: t, _ => rw [join_cons (by simp)] at h; simp at h
theorem cfgOut_bad' {w w' : World} (n f : Int) (h : Below w.heap.size w w') : CfgOut (cfg0, n, f) w (.returned (.tuple #[.agg (csA []), .int .i64 n, .int .i64 f])) w' := cfgOut_bad n f h
set_option maxRecDepth 20000 in
set_option maxHeartbeats 1000000 in
theorem read_sheet_any (l : Txt) (hl : l.length ≤ 80000) (w : World) (hm : MX w) :
    Calls Tryz.prog 10 #[.string (strB l)] w (CfgOut (resF (readF l)) w) := by
  have hmf : ∀ (fn : Fn) (first cap : Array Value) (w : World), (Instr.makeFunc fn first cap).run Tryz.prog w = .ok (.func fn first cap) w := fun _ _ _ _ => rfl
  have HG1 := Lib.hid (fun c w => callFunc_enter (P := Tryz.prog) Tryz.func38 (by kernel_rfl) (by kernel_rfl) c w)
  have HG2 := Lib.hid (fun c w => callFunc_enter (P := Tryz.prog) Tryz.func42 (by kernel_rfl) (by kernel_rfl) c w)
  have HG3 := Lib.hid (fun c w => callFunc_enter (P := Tryz.prog) Tryz.func43 (by kernel_rfl) (by kernel_rfl) c w)
  have HLN := Lib.hid hl
  obtain ⟨w1, hw1⟩ : ∃ w1, w1 = w.alloc (.cells (csA []) 27) := ⟨_, rfl⟩
  have HR1 := Lib.hid (show Blk w1 w.heap.size (csA []) 27 by rw [hw1]; exact Blk.new _ _ _ _ rfl)
  have HM1 := Lib.hid (show MX w1 by rw [hw1]; exact hm.below (n := 0) ((Below.refl _ _).alloc (Nat.le_refl _) _))
  have hs1 : w1.heap.size = w.heap.size + 1 := by rw [hw1]; simp
  have HB1 := Lib.hid (show Below w.heap.size w w1 by rw [hw1]; exact (Below.refl _ _).alloc (Nat.le_refl _) _)
  have HP1 := Lib.hid ((Blk.new w1 #[.string (strB l), .int .i64 0] 84 w1.heap.size rfl).old (.cells (csA []) 27))
  have HC1 := Lib.hid (Blk.new (w1.alloc (.cells #[.string (strB l), .int .i64 0] 84)) (csA []) 27 (w1.heap.size + 1) (by simp))
  have HB2 := Lib.hid (show Below w1.heap.size w1 ((w1.alloc (.cells #[.string (strB l), .int .i64 0] 84)).alloc (.cells (csA []) 27)) from ((Below.refl _ _).alloc (Nat.le_refl _) _).alloc (by simp) _)
  clear hm hl
  go_enter Tryz.func10, Tryz.ntmps10
  go_upto_region 3 with fail
  change Code.wp _ _ _ _ (((w.alloc (.cells (csA []) 27)).alloc (.cells #[.string (strB l), .int .i64 0] 84)).alloc (.cells (csA []) 27))
  rw [← hw1]
  have e1 : w.heap.size + 1 = w1.heap.size := hs1.symm
  have HSZ := Lib.hid hs1
  clear hs1
  clear hw1
  generalize (w1.alloc (.cells #[.string (strB l), .int .i64 0] 84)).alloc (.cells (csA []) 27) = w2 at HP1 HC1 HB2 ⊢
  have HHD := Lib.hid (head_any (w1.heap.size + 1) w2)
  rw [e1]
  clear e1
  go_wp2_with fail
  refine HHD.out.mono ?_
  clear HHD
  rintro e w3 ⟨u, rfl, hnum, hb3⟩
  have H0 := Lib.hid (HdS.start HLN.out HP1.out HC1.out HB2.out hnum hb3)
  clear HP1 HC1 HB2 hnum hb3
  go_wp2_with fail
  go_loopw [17] (fun i wr => ∃ k zs ps, k ≤ 3 ∧ i = .int .i64 ((k : Nat) : Int) ∧ HdS w1 u l k zs ps wr) (fun i _ => 3 - (intOf i).toNat)
  case atStart => exact ⟨0, [], cutW 10 l, by omega, rfl, H0.out⟩
  case round =>
    obtain ⟨k, zs, ps, hk, rfl, hS⟩ := hrel
    have HS := Lib.hid hS
    clear hS H0
    by_cases hk3 : k < 3
    · have hk4 : (k : Int) < 3 := by omega
      have hidx := part_index u hk3
      obtain ⟨g, c, hu, hg⟩ := HS.out.nums k hk3
      rw [hu] at hidx
      have HNB := Lib.hid (Blk.new wr #[.string (strB (hword k)), .slice (some ⟨g, 0, none⟩) (atB (w1.heap.size + 1) (hgrp k)).length c] 62 wr.heap.size rfl)
      have HS1 := Lib.hid (HS.out.below ((Below.refl wr.heap.size wr).alloc (Nat.le_refl _) (.cells #[.string (strB (hword k)), .slice (some ⟨g, 0, none⟩) (atB (w1.heap.size + 1) (hgrp k)).length c] 62)))
      have HN := Lib.hid (next_any w1.heap.size k ps _ (HM1.out.below (n := 0) HS1.out.bel) HS1.out.rd)
      clear hg
      match ps with
      | [] => exact absurd rfl HS.out.rd.ne
      | [x] =>
        have HBAD := Lib.hid (show resF (readF l) = (cfg0, (k : Int) + 1, 4) by rw [← HS.out.go, go_one hk3]; simp [resF])
        go_wp2_with fail
        refine HN.out.mono ?_
        rintro e w4 ⟨rfl, hb4⟩
        have HS4 := Lib.hid ((HS1.out.below hb4).below ((Below.refl w4.heap.size w4).alloc (Nat.le_refl _) (.cells #[.string (strB x)] 9)))
        clear hb4 HN HNB HS HS1
        simp only [headT']
        go_upto_region 8 with fail
        change Code.wp _ _ _ _ (w4.alloc (.cells #[.string (strB x)] 9))
        generalize w4.alloc (.cells #[.string (strB x)] 9) = w5 at HS4 ⊢
        have HRD := Lib.hid HS4.out.rd
        have HRES := Lib.hid (HR1.out.below HS4.out.bel HR1.out.lt)
        have HBEL := Lib.hid (HB1.out.trans (HS4.out.bel.mono HB1.out.size))
        have q1 : (k : Int) + 1 ≤ 4 := by omega
        have q3 : IntKind.i64.wrap ((k : Int) + 1) = (k : Int) + 1 := IntWalk.i64_in _ (by omega)
        refine wp_region_held_drew (S := (fun w' => w'.cell? ⟨w1.heap.size, 1, none⟩ = some (.int .i64 (k : Int)))) (by kernel_rfl) (HRD.out.box.cell 1 rfl) (fun hHeld => ?_)
        refine wpAnyH_take (i := 0) (oi := ⟨some 32, _, _, _, _, _⟩) (v := ?_) rfl (by kernel_rfl) (by kernel_rfl) (by kernel_rfl) (fun _ _ _ h => h) (Or.inl ⟨by rfl, ?_⟩) (by assumption) ?_
        rotate_left
        · (intro w hSw; (try dsimp only at hSw); go_simp; (try with_reducible rfl))
        simp only [Act.put, List.setIfInBounds_toArray, List.set_cons_zero, List.set_cons_succ]
        refine wpAnyH_take (i := 1) (oi := ⟨some 33, _, _, _, _, _⟩) (v := ?_) rfl (by kernel_rfl) (by kernel_rfl) (by kernel_rfl) (fun _ _ _ h => h) (Or.inl ⟨by rfl, ?_⟩) (by assumption) ?_
        rotate_left
        · (intro w hSw; (try dsimp only at hSw); go_simp; (try with_reducible rfl))
        simp only [Act.put, List.setIfInBounds_toArray, List.set_cons_zero, List.set_cons_succ]
        refine wpAnyH_take (i := 2) (oi := ⟨some 34, _, _, _, _, _⟩) (v := ?_) rfl (by kernel_rfl) (by kernel_rfl) (by kernel_rfl) (fun _ _ _ h => h) (Or.inl ⟨by rfl, ?_⟩) (by assumption) ?_
        rotate_left
        · (intro w hSw; (try dsimp only at hSw); go_simp; (try with_reducible rfl))
        simp only [Act.put, List.setIfInBounds_toArray, List.set_cons_zero, List.set_cons_succ]
        refine wpAnyH_take (i := 3) (oi := ⟨some 35, _, _, _, _, _⟩) (v := ?_) rfl (by kernel_rfl) (by kernel_rfl) (by kernel_rfl) (fun _ _ _ h => h) (Or.inl ⟨by rfl, ?_⟩) (by assumption) ?_
        rotate_left
        · (intro w hSw; (try dsimp only at hSw); go_simp; (try with_reducible rfl))
        simp only [Act.put, List.setIfInBounds_toArray, List.set_cons_zero, List.set_cons_succ]
        refine wpAnyH_take (i := 4) (oi := ⟨some 36, _, _, _, _, _⟩) (v := ?_) rfl (by kernel_rfl) (by kernel_rfl) (by kernel_rfl) (fun _ _ _ h => h) (Or.inl ⟨by rfl, ?_⟩) (by assumption) ?_
        rotate_left
        · (intro w hSw; (try dsimp only at hSw); go_simp; (try with_reducible rfl))
        simp only [Act.put, List.setIfInBounds_toArray, List.set_cons_zero, List.set_cons_succ]
        refine wpAnyH_take (i := 5) (oi := ⟨some 37, _, _, _, _, _⟩) (v := (.int .i64 ((k : Int) + 1))) rfl (by kernel_rfl) (by kernel_rfl) (by kernel_rfl) (fun _ _ _ h => h) (Or.inl ⟨by rfl, fun w hSw => by (try dsimp only at hSw); go_simp⟩) (by assumption) ?_
        simp only [Act.put, List.setIfInBounds_toArray, List.set_cons_zero, List.set_cons_succ]
        refine wpAnyH_ready (rs := [6]) (by kernel_rfl) (by simp) ?_
        refine AllReadyH.cons (o := ⟨none, _, _, _, _, _⟩) rfl (fun KK hK => ?_) AllReadyH.nil
        refine step_store_blk (by rfl) 27 _ _ (by rfl) w.heap.size (by rfl) (csA []) (csA []) 27 HRES.out.drew (by rfl) rfl (by kernel_rfl) (by simp [csA, cfgV, Value.oneCell']) ?_
        refine hK.out _ _ ((HRD.out.box.drew.apartAll (csA []).toList 0 _ (by have := HSZ.out; omega)).cell 1 rfl) (fun hHeld => ?_)
        clear hK; try clear KK
        refine wpAnyH_take (i := 7) (oi := ⟨some 3, _, _, _, _, _⟩) (v := ?_) rfl (by kernel_rfl) (by kernel_rfl) (by kernel_rfl) (fun _ _ _ h => h) (Or.inl ⟨by rfl, ?_⟩) (by assumption) ?_
        rotate_left
        · (intro w hSw; (try dsimp only at hSw); go_simp; (try with_reducible rfl))
        simp only [Act.put, List.setIfInBounds_toArray, List.set_cons_zero, List.set_cons_succ]
        refine wpAnyH_take (i := 8) (oi := ⟨some 4, _, _, _, _, _⟩) (v := ?_) rfl (by kernel_rfl) (by kernel_rfl) (by kernel_rfl) (fun _ _ _ h => h) (Or.inl ⟨by rfl, ?_⟩) (by assumption) ?_
        rotate_left
        · (intro w hSw; (try dsimp only at hSw); go_simp; (try with_reducible rfl))
        simp only [Act.put, List.setIfInBounds_toArray, List.set_cons_zero, List.set_cons_succ]
        refine wpAnyH_done (by kernel_rfl) ?_ _
        clear hHeld
        go_wp2_with fail
        refine bodyPost_ret (results_blk_tmps rfl rfl (HRES.out.drew.setCells (csA []) rfl) Tryz.underlying27 rfl (by kernel_rfl)) rfl ?_
        rw [HBAD.out]
        change CfgOut (cfg0, (k : Int) + 1, 4) w (.returned (.tuple #[.agg (csA []), .int .i64 ((k : Int) + 1), .int .i64 4])) _
        exact cfgOut_bad' ((k : Int) + 1) 4 (Blk.Below.setCells _ _ _ HBEL.out.drew (Nat.le_refl _))
      | x :: y :: t =>
        go_wp2_with fail
        refine HN.out.mono ?_
        rintro e w4 ⟨rfl, hb4⟩
        have HS4 := Lib.hid ((HS1.out.below hb4).below ((Below.refl w4.heap.size w4).alloc (Nat.le_refl _) (.cells #[.string (strB x)] 9)))
        have HPB := Lib.hid ((HNB.out.below hb4 (by simp)).old (.cells #[.string (strB x)] 9))
        have HLB := Lib.hid (Blk.new w4 #[.string (strB x)] 9 w4.heap.size rfl)
        have hx : x.length ≤ 90000 := by
          have := HS.out.rd.len
          rw [join_cons (by simp)] at this
          simp at this
          omega
        clear hb4 HN HNB HS HS1
        simp only [headT']
        generalize hW5 : w4.alloc (.cells #[.string (strB x)] 9) = w5 at HS4 HPB HLB
        have HTR := Lib.hid (try_of 38 #[.pointer (some ⟨wr.heap.size, 0, none⟩), .pointer (some ⟨w4.heap.size, 0, none⟩)] (HG1.out _) (PartR (hword k) x (hgrp k) (w1.heap.size + 1) (csA zs) (w5.alloc (.cells #[.int .i64 0] 30))) w5
          (read1_any (hword k) x (by omega) wr.heap.size w4.heap.size (w1.heap.size + 1) (csA zs) (hgrp k) _ (w5.alloc (.cells #[.int .i64 0] 30)) (HM1.out.below (n := 0) (HS4.out.bel.alloc HS4.out.bel.size _)) (HS4.out.box.old _) (csA_plain zs) (csA_int zs hk3) (hgrp_len k hk3).1 (by have := (hgrp_len k hk3).2; omega)
            (by rw [← hu]; exact (HS4.out.nums k hk3).on ((Below.refl _ _).alloc (Nat.le_refl _) _)) (HPB.out.old _) ((HLB.out.old _).cell 0 rfl))
          (fun b W h => h.1.blk (by simp) (by have := HS4.out.box.lt; omega) (Blk.new w5 _ _ _ rfl)))
        have HRES := Lib.hid (HR1.out.below HS4.out.bel HR1.out.lt)
        go_upto_region 7 with fail
        go_wp2_with fail
        refine HTR.out.mono ?_
        clear HTR hW5
        rintro e w6 ⟨b, W, ⟨hc, hp⟩, rfl, hb6⟩
        obtain ⟨hrd6, hnum6, hbel6⟩ := HS4.out.tried _ hc hb6
        have HRD := Lib.hid hrd6
        have HNU := Lib.hid hnum6
        have HBE := Lib.hid hbel6
        have HRES6 := Lib.hid (HR1.out.below hbel6 HR1.out.lt)
        clear hrd6 hnum6 hbel6
        rcases hp with ⟨rfl, ho⟩ | ⟨ns, rfl, ho, hbox⟩
        · have HBAD := Lib.hid (show resF (readF l) = (cfg0, (k : Int) + 1, 4) by rw [← HS4.out.go, go_bad hk3 _ ho]; simp [resF])
          have HBEL := Lib.hid (HB1.out.trans (HBE.out.mono HB1.out.size))
          clear HRES
          have HRES := HRES6
          clear ho hc hb6 HS4 HRES6
          simp only [Bool.false_eq_true, if_false]
          go_upto_region 8 with fail
          have q1 : (k : Int) + 1 ≤ 4 := by omega
          have q3 : IntKind.i64.wrap ((k : Int) + 1) = (k : Int) + 1 := IntWalk.i64_in _ (by omega)
          refine wp_region_held_drew (S := (fun w' => w'.cell? ⟨w1.heap.size, 1, none⟩ = some (.int .i64 (k : Int)))) (by kernel_rfl) (HRD.out.box.cell 1 rfl) (fun hHeld => ?_)
          refine wpAnyH_take (i := 0) (oi := ⟨some 32, _, _, _, _, _⟩) (v := ?_) rfl (by kernel_rfl) (by kernel_rfl) (by kernel_rfl) (fun _ _ _ h => h) (Or.inl ⟨by rfl, ?_⟩) (by assumption) ?_
          rotate_left
          · (intro w hSw; (try dsimp only at hSw); go_simp; (try with_reducible rfl))
          simp only [Act.put, List.setIfInBounds_toArray, List.set_cons_zero, List.set_cons_succ]
          refine wpAnyH_take (i := 1) (oi := ⟨some 33, _, _, _, _, _⟩) (v := ?_) rfl (by kernel_rfl) (by kernel_rfl) (by kernel_rfl) (fun _ _ _ h => h) (Or.inl ⟨by rfl, ?_⟩) (by assumption) ?_
          rotate_left
          · (intro w hSw; (try dsimp only at hSw); go_simp; (try with_reducible rfl))
          simp only [Act.put, List.setIfInBounds_toArray, List.set_cons_zero, List.set_cons_succ]
          refine wpAnyH_take (i := 2) (oi := ⟨some 34, _, _, _, _, _⟩) (v := ?_) rfl (by kernel_rfl) (by kernel_rfl) (by kernel_rfl) (fun _ _ _ h => h) (Or.inl ⟨by rfl, ?_⟩) (by assumption) ?_
          rotate_left
          · (intro w hSw; (try dsimp only at hSw); go_simp; (try with_reducible rfl))
          simp only [Act.put, List.setIfInBounds_toArray, List.set_cons_zero, List.set_cons_succ]
          refine wpAnyH_take (i := 3) (oi := ⟨some 35, _, _, _, _, _⟩) (v := ?_) rfl (by kernel_rfl) (by kernel_rfl) (by kernel_rfl) (fun _ _ _ h => h) (Or.inl ⟨by rfl, ?_⟩) (by assumption) ?_
          rotate_left
          · (intro w hSw; (try dsimp only at hSw); go_simp; (try with_reducible rfl))
          simp only [Act.put, List.setIfInBounds_toArray, List.set_cons_zero, List.set_cons_succ]
          refine wpAnyH_take (i := 4) (oi := ⟨some 36, _, _, _, _, _⟩) (v := ?_) rfl (by kernel_rfl) (by kernel_rfl) (by kernel_rfl) (fun _ _ _ h => h) (Or.inl ⟨by rfl, ?_⟩) (by assumption) ?_
          rotate_left
          · (intro w hSw; (try dsimp only at hSw); go_simp; (try with_reducible rfl))
          simp only [Act.put, List.setIfInBounds_toArray, List.set_cons_zero, List.set_cons_succ]
          refine wpAnyH_take (i := 5) (oi := ⟨some 37, _, _, _, _, _⟩) (v := (.int .i64 ((k : Int) + 1))) rfl (by kernel_rfl) (by kernel_rfl) (by kernel_rfl) (fun _ _ _ h => h) (Or.inl ⟨by rfl, fun w hSw => by (try dsimp only at hSw); go_simp⟩) (by assumption) ?_
          simp only [Act.put, List.setIfInBounds_toArray, List.set_cons_zero, List.set_cons_succ]
          refine wpAnyH_ready (rs := [6]) (by kernel_rfl) (by simp) ?_
          refine AllReadyH.cons (o := ⟨none, _, _, _, _, _⟩) rfl (fun KK hK => ?_) AllReadyH.nil
          refine step_store_blk (by rfl) 27 _ _ (by rfl) w.heap.size (by rfl) (csA []) (csA []) 27 HRES.out.drew (by rfl) rfl (by kernel_rfl) (by simp [csA, cfgV, Value.oneCell']) ?_
          refine hK.out _ _ ((HRD.out.box.drew.apartAll (csA []).toList 0 _ (by have := HSZ.out; omega)).cell 1 rfl) (fun hHeld => ?_)
          clear hK; try clear KK
          refine wpAnyH_take (i := 7) (oi := ⟨some 3, _, _, _, _, _⟩) (v := ?_) rfl (by kernel_rfl) (by kernel_rfl) (by kernel_rfl) (fun _ _ _ h => h) (Or.inl ⟨by rfl, ?_⟩) (by assumption) ?_
          rotate_left
          · (intro w hSw; (try dsimp only at hSw); go_simp; (try with_reducible rfl))
          simp only [Act.put, List.setIfInBounds_toArray, List.set_cons_zero, List.set_cons_succ]
          refine wpAnyH_take (i := 8) (oi := ⟨some 4, _, _, _, _, _⟩) (v := ?_) rfl (by kernel_rfl) (by kernel_rfl) (by kernel_rfl) (fun _ _ _ h => h) (Or.inl ⟨by rfl, ?_⟩) (by assumption) ?_
          rotate_left
          · (intro w hSw; (try dsimp only at hSw); go_simp; (try with_reducible rfl))
          simp only [Act.put, List.setIfInBounds_toArray, List.set_cons_zero, List.set_cons_succ]
          refine wpAnyH_done (by kernel_rfl) ?_ _
          clear hHeld
          go_wp2_with fail
          refine bodyPost_ret (results_blk_tmps rfl rfl (HRES.out.drew.setCells (csA []) rfl) Tryz.underlying27 rfl (by kernel_rfl)) rfl ?_
          rw [HBAD.out]
          change CfgOut (cfg0, (k : Int) + 1, 4) w (.returned (.tuple #[.agg (csA []), .int .i64 ((k : Int) + 1), .int .i64 4])) _
          exact cfgOut_bad' ((k : Int) + 1) 4 (Blk.Below.setCells _ _ _ HBEL.out.drew (Nat.le_refl _))
        · have HBOX := Lib.hid (hbox.below hb6 HS4.out.box.lt)
          have HPL := Lib.hid (part_len ho)
          have HGO := Lib.hid (show goF (hdL.drop (k + 1)) (k + 1) (zs ++ [ns]) (y :: t) = readF l by rw [← HS4.out.go, go_ok hk3 _ ho])
          have HT := Lib.hid (took_any w1.heap.size k x y t w6 (HM1.out.below (n := 0) HBE.out) HRD.out)
          have HZL := Lib.hid HS4.out.len
          clear ho hc hb6 HS4 hbox
          simp only [if_true]
          go_wp2_with fail
          refine HT.out.mono ?_
          rintro e w7 ⟨rfl, hr7, hc7⟩
          have HN := Lib.hid (show HdS w1 u l (k + 1) (zs ++ [ns]) (y :: t) w7 from HdS.next HZL.out hk3 HPL.out HBOX.out HNU.out HBE.out HGO.out hr7 HRD.out.box rfl hc7)
          clear hr7 hc7
          go_wp2_with fail
          go_roundw
          case rel => exact ⟨k + 1, zs ++ [ns], y :: t, by omega, by go_num, HN.out⟩
          case measure => simp [intOf]; omega
    · obtain rfl : k = 3 := by omega
      have HGO := Lib.hid (show readF l = bodyF (zs.getD 0 []) (zs.getD 1 []) (zs.getD 2 []) ps from HS.out.go.symm)
      have HJ := Lib.hid (show JC w1 w1.heap.size (w1.heap.size + 1) (hdC zs) [] [] wr from ⟨.slice none 0 0, .slice none 0 0, HS.out.box, World.ownsRow_nil _ _ _ _, World.ownsRow_nil _ _ _ _, fun h => (by cases h), fun h => (by cases h), by omega⟩)
      have HA := Lib.hid (all_any rowF 42 #[.pointer (some ⟨w1.heap.size + 1, 0, none⟩)] HG2.out w1 HM1.out w1.heap.size (Nat.le_refl _) (fun t W => JC w1 w1.heap.size (w1.heap.size + 1) (hdC zs) t [] W)
        (fun r W W' hj hb hc => hj.chg hc) (fun line r W h1 h2 hj hb => take2_any line h1 w1 HM1.out _ _ _ r [] W hj hb h2 hj.lt (Nat.le_succ _)) ps 3 [] wr HS.out.rd HJ.out HS.out.bel (by have := HS.out.rd.few; simp; omega))
      clear HS HJ
      go_wp2_with fail
      refine HA.out.mono ?_
      clear HA
      rintro e w4 ⟨rfl, hr4, hj4, hb4⟩
      have HE := Lib.hid (show readF l = endF (zs.getD 0 []) (zs.getD 1 []) (zs.getD 2 []) (takeG rowF ps).1 (takeG symF (takeG rowF ps).2) from HGO.out)
      rw [List.nil_append] at hj4
      clear HGO
      generalize (takeG rowF ps).1 = t at hr4 hj4 HE
      generalize (takeG rowF ps).2 = qs at hr4 HE
      have HR4 := Lib.hid hr4
      have HA := Lib.hid (all_any symF 43 #[.pointer (some ⟨w1.heap.size + 1, 0, none⟩)] HG3.out w1 HM1.out w1.heap.size (Nat.le_refl _) (fun s W => JC w1 w1.heap.size (w1.heap.size + 1) (hdC zs) t s W)
        (fun r W W' hj hb hc => hj.chg hc) (fun line r W h1 h2 hj hb => take3_any line h1 w1 HM1.out _ _ _ t r W hj hb h2 hj.lt (Nat.le_succ _)) qs (3 + t.length) [] w4 HR4.out hj4 hb4 (by have := HR4.out.few; simp; omega))
      clear hr4 hj4 hb4
      go_wp2_with fail
      refine HA.out.mono ?_
      clear HA HR4
      rintro e w5 ⟨rfl, hr5, hj5, hb5⟩
      rw [List.nil_append] at hj5
      generalize (takeG symF qs) = y at hr5 hj5 HE
      obtain ⟨s, qs5⟩ := y
      have HRD := Lib.hid hr5
      have HJ5 := Lib.hid hj5
      have HBE := Lib.hid hb5
      have HRES := Lib.hid (HR1.out.below hb5 HR1.out.lt)
      have HBEL := Lib.hid (HB1.out.trans (hb5.mono HB1.out.size))
      have c0 : w5.cell? ⟨w1.heap.size, 0, none⟩ = some (.string (strB (joinW 10 qs5))) := hr5.box.cell 0 rfl
      clear hr5 hj5 hb5
      by_cases hq : qs5 = [[]]
      · have b1 : (strB []).toList = [] := by rw [ByteArray.toList_eq, strB_list]
        have e0 : joinW 10 qs5 = [] := by rw [hq]; rfl
        rw [e0] at c0
        clear e0
        obtain ⟨vs, vt, hkA⟩ := HJ5.out
        obtain ⟨sa, ta, sc, tc, hcs, hin⟩ := cfgA_in hkA
        have HKA := Lib.hid hkA
        have HEE := Lib.hid (show readF l = if (checkF (cfgL (zs.getD 0 []) (zs.getD 1 []) (zs.getD 2 []) t s)).1 = 0 then .good (cfgL (zs.getD 0 []) (zs.getD 1 []) (zs.getD 2 []) t s) else .wrong (checkF (cfgL (zs.getD 0 []) (zs.getD 1 []) (zs.getD 2 []) t s)).1 by rw [HE.out, endF, if_pos hq])
        have HIN := Lib.hid hin
        have HBX := hkA.box
        rw [hcs] at HBX
        change Blk w5 (w1.heap.size + 1) (Cfg.cells (cfgL (zs.getD 0 []) (zs.getD 1 []) (zs.getD 2 []) t s) sa ta sc tc) _ at HBX
        change Hid (∀ W' : World, _ → _ → Cfg.In (cfgL (zs.getD 0 []) (zs.getD 1 []) (zs.getD 2 []) t s) W' sa ta) at HIN
        generalize cfgL (zs.getD 0 []) (zs.getD 1 []) (zs.getD 2 []) t s = c at HEE HIN HBX
        have HX := Lib.hid HBX
        have HCK := Lib.hid (check_any c sa ta sc tc w5 (HIN.out w5 hkA.rs hkA.rt))
        have b3 : ((strB []).toList == []) = true := by rw [b1]; rfl
        clear hkA hcs hin HBX hq HJ5 HE
        go_wp2_with (refine load_blk (by rfl) 27 _ (by rfl) (w1.heap.size + 1) (by rfl) _ _ HX.out _ Tryz.underlying27 rfl (by kernel_rfl) ?_)
        refine HCK.out.mono ?_
        clear HCK
        rintro e w6 ⟨rfl, hb6⟩
        have HX6 := Lib.hid (HX.out.below hb6 HX.out.lt)
        have HRES6 := Lib.hid (HRES.out.below hb6 HRES.out.lt)
        have HKA6 := Lib.hid (HKA.out.below hb6)
        have HBEL6 := Lib.hid (HBEL.out.trans (hb6.mono HBEL.out.size))
        clear hb6 HX HRES HKA HBEL
        by_cases hf : (checkF c).1 = 0
        · rw [if_pos hf] at HEE
          rw [hf]
          clear hf
          have hone : (c.cells sa ta sc tc).all (·.oneCell') = true := by simp [Cfg.cells, Value.oneCell']
          go_wp2_with (first
            | (refine load_blk (by rfl) 27 _ (by rfl) (w1.heap.size + 1) (by rfl) _ _ HX6.out _ Tryz.underlying27 rfl (by kernel_rfl) ?_)
            | (refine store_blk (by rfl) 27 _ _ (by rfl) w.heap.size (by rfl) _ (c.cells sa ta sc tc) 27 HRES6.out (by rfl) rfl (by kernel_rfl) hone ?_))
          refine bodyPost_ret (results_blk_tmps rfl rfl (HRES6.out.setCells (c.cells sa ta sc tc) rfl) Tryz.underlying27 rfl (by kernel_rfl)) rfl ?_
          rw [HEE.out]
          refine ⟨sa, ta, sc, tc, rfl, ?_, Blk.Below.setCells _ _ _ HBEL6.out (Nat.le_refl _)⟩
          exact HIN.out _ (HKA6.out.other HRES6.out _ 0).1 (HKA6.out.other HRES6.out _ 0).2
        · rw [if_neg hf] at HEE
          have b4 : ((checkF c).1 != 0) = true := by simpa using hf
          clear hf
          generalize (checkF c).1 = f at b4 HEE
          go_wp2_with (refine store_blk (by rfl) 27 _ _ (by rfl) w.heap.size (by rfl) _ (csA []) 27 HRES6.out (by rfl) rfl (by kernel_rfl) (by simp [csA, cfgV, Value.oneCell']) ?_)
          refine bodyPost_ret (results_blk_tmps rfl rfl (HRES6.out.setCells (csA []) rfl) Tryz.underlying27 rfl (by kernel_rfl)) rfl ?_
          rw [HEE.out]
          change CfgOut (cfg0, 0, f) w (.returned (.tuple #[.agg (csA []), .int .i64 0, .int .i64 f])) _
          exact cfgOut_bad' 0 f (Blk.Below.setCells _ _ _ HBEL6.out (Nat.le_refl _))
      · have hne : joinW 10 qs5 ≠ [] := fun h => hq (empty_join HRD.out.ne h)
        have HBAD := Lib.hid (show resF (readF l) = (cfg0, (3 : Int) + t.length + s.length + 1, 4) by rw [HE.out, endF, if_neg hq]; simp [resF])
        have hfew := HRD.out.few
        generalize joinW 10 qs5 = z at c0 hne
        have b1 : ((strB z).toList == []) = false := by rw [ByteArray.toList_eq, strB_list]; simpa using hne
        have b2 : ((strB z).toList.isEmpty) = false := by rw [ByteArray.toList_eq, strB_list]; simpa using hne
        clear hne
        go_upto_region 14 with fail
        have q3 : IntKind.i64.wrap (((3 : Int) + t.length + s.length) + 1) = ((3 : Int) + t.length + s.length) + 1 := IntWalk.i64_in _ (by omega)
        refine wp_region_held_drew (S := (fun w' => w'.cell? ⟨w1.heap.size, 1, none⟩ = some (.int .i64 ((3 : Int) + t.length + s.length)))) (by kernel_rfl) (HRD.out.box.cell 1 rfl) (fun hHeld => ?_)
        refine wpAnyH_take (i := 0) (oi := ⟨some 52, _, _, _, _, _⟩) (v := ?_) rfl (by kernel_rfl) (by kernel_rfl) (by kernel_rfl) (fun _ _ _ h => h) (Or.inl ⟨by rfl, ?_⟩) (by assumption) ?_
        rotate_left
        · (intro w hSw; (try dsimp only at hSw); go_simp; (try with_reducible rfl))
        simp only [Act.put, List.setIfInBounds_toArray, List.set_cons_zero, List.set_cons_succ]
        refine wpAnyH_take (i := 1) (oi := ⟨some 53, _, _, _, _, _⟩) (v := ?_) rfl (by kernel_rfl) (by kernel_rfl) (by kernel_rfl) (fun _ _ _ h => h) (Or.inl ⟨by rfl, ?_⟩) (by assumption) ?_
        rotate_left
        · (intro w hSw; (try dsimp only at hSw); go_simp; (try with_reducible rfl))
        simp only [Act.put, List.setIfInBounds_toArray, List.set_cons_zero, List.set_cons_succ]
        refine wpAnyH_take (i := 2) (oi := ⟨some 54, _, _, _, _, _⟩) (v := ?_) rfl (by kernel_rfl) (by kernel_rfl) (by kernel_rfl) (fun _ _ _ h => h) (Or.inl ⟨by rfl, ?_⟩) (by assumption) ?_
        rotate_left
        · (intro w hSw; (try dsimp only at hSw); go_simp; (try with_reducible rfl))
        simp only [Act.put, List.setIfInBounds_toArray, List.set_cons_zero, List.set_cons_succ]
        refine wpAnyH_take (i := 3) (oi := ⟨some 55, _, _, _, _, _⟩) (v := ?_) rfl (by kernel_rfl) (by kernel_rfl) (by kernel_rfl) (fun _ _ _ h => h) (Or.inl ⟨by rfl, ?_⟩) (by assumption) ?_
        rotate_left
        · (intro w hSw; (try dsimp only at hSw); go_simp; (try with_reducible rfl))
        simp only [Act.put, List.setIfInBounds_toArray, List.set_cons_zero, List.set_cons_succ]
        refine wpAnyH_take (i := 4) (oi := ⟨some 56, _, _, _, _, _⟩) (v := ?_) rfl (by kernel_rfl) (by kernel_rfl) (by kernel_rfl) (fun _ _ _ h => h) (Or.inl ⟨by rfl, ?_⟩) (by assumption) ?_
        rotate_left
        · (intro w hSw; (try dsimp only at hSw); go_simp; (try with_reducible rfl))
        simp only [Act.put, List.setIfInBounds_toArray, List.set_cons_zero, List.set_cons_succ]
        refine wpAnyH_take (i := 5) (oi := ⟨some 57, _, _, _, _, _⟩) (v := (.int .i64 (((3 : Int) + t.length + s.length) + 1))) rfl (by kernel_rfl) (by kernel_rfl) (by kernel_rfl) (fun _ _ _ h => h) (Or.inl ⟨by rfl, fun w hSw => by (try dsimp only at hSw); go_simp⟩) (by assumption) ?_
        simp only [Act.put, List.setIfInBounds_toArray, List.set_cons_zero, List.set_cons_succ]
        refine wpAnyH_ready (rs := [6]) (by kernel_rfl) (by simp) ?_
        refine AllReadyH.cons (o := ⟨none, _, _, _, _, _⟩) rfl (fun KK hK => ?_) AllReadyH.nil
        refine step_store_blk (by rfl) 27 _ _ (by rfl) w.heap.size (by rfl) (csA []) (csA []) 27 HRES.out.drew (by rfl) rfl (by kernel_rfl) (by simp [csA, cfgV, Value.oneCell']) ?_
        refine hK.out _ _ ((HRD.out.box.drew.apartAll (csA []).toList 0 _ (by have := HSZ.out; omega)).cell 1 rfl) (fun hHeld => ?_)
        clear hK; try clear KK
        refine wpAnyH_take (i := 7) (oi := ⟨some 3, _, _, _, _, _⟩) (v := ?_) rfl (by kernel_rfl) (by kernel_rfl) (by kernel_rfl) (fun _ _ _ h => h) (Or.inl ⟨by rfl, ?_⟩) (by assumption) ?_
        rotate_left
        · (intro w hSw; (try dsimp only at hSw); go_simp; (try with_reducible rfl))
        simp only [Act.put, List.setIfInBounds_toArray, List.set_cons_zero, List.set_cons_succ]
        refine wpAnyH_take (i := 8) (oi := ⟨some 4, _, _, _, _, _⟩) (v := ?_) rfl (by kernel_rfl) (by kernel_rfl) (by kernel_rfl) (fun _ _ _ h => h) (Or.inl ⟨by rfl, ?_⟩) (by assumption) ?_
        rotate_left
        · (intro w hSw; (try dsimp only at hSw); go_simp; (try with_reducible rfl))
        simp only [Act.put, List.setIfInBounds_toArray, List.set_cons_zero, List.set_cons_succ]
        refine wpAnyH_done (by kernel_rfl) ?_ _
        clear hHeld
        go_wp2_with fail
        refine bodyPost_ret (results_blk_tmps rfl rfl (HRES.out.drew.setCells (csA []) rfl) Tryz.underlying27 rfl (by kernel_rfl)) rfl ?_
        rw [HBAD.out]
        change CfgOut (cfg0, ((3 : Int) + t.length + s.length) + 1, 4) w (.returned (.tuple #[.agg (csA []), .int .i64 (((3 : Int) + t.length + s.length) + 1), .int .i64 4])) _
        exact cfgOut_bad' (((3 : Int) + t.length + s.length) + 1) 4 (Blk.Below.setCells _ _ _ HBEL.out.drew (Nat.le_refl _))
end Go.Proofs.YtmkcooamgojbpaaGreatDoor.Sheet

/- sheet.Text. -/
namespace Go.Proofs.YtmkcooamgojbpaaGreatDoor.Sheet
open Go.RowKit Go.Proofs.YtmkcooamgojbpaaGreatDoor.Kit Go.Proofs.YtmkcooamgojbpaaGreatDoor.Blk Go.Proofs.YtmkcooamgojbpaaGreatDoor.Words Go.Proofs.YtmkcooamgojbpaaGreatDoor.Octets Go.Proofs.YtmkcooamgojbpaaGreatDoor.Lines Go.Proofs.YtmkcooamgojbpaaGreatDoor.Dec Go.Proofs.YtmkcooamgojbpaaGreatDoor.Symbol Go.Proofs.YtmkcooamgojbpaaGreatDoor.Check Go.Proofs.YtmkcooamgojbpaaGreatDoor.Table
attribute [local go_sem ↓] Go.wp_at_zero Go.wp_at_succ
set_option linter.unusedVariables false

/-- Behind a write into the builder in block B: what else is kept. -/
def BkIs (B : Nat) (l : Txt) (v : Value) (w : World) (e : Ending) (w' : World) : Prop := e = .returned v ∧ BdS B l w' ∧ Below B w w' ∧ Lib.OthersKept 5 (some B) w w'
theorem wstring_k (B : Nat) (l s : List UInt8) (w : World) (h : BdS B l w) (hl : l.length + s.length ≤ 100000000) :
    Calls Tryz.prog 16 #[.pointer (some ⟨B, 0, none⟩), .string (strB s)] w (BkIs B (l ++ s) (.tuple #[.int .i64 (strB s).size, .nilIface]) w) := by
  refine (Shelf.writeString B B (Lib.byteCells l) (strB s) w h (by rw [Lib.byteCells_length, strB_size]; omega) (Nat.le_of_lt h.lt)).mono fun e w' hh => ⟨hh.1, .inr ?_, hh.2.2.1, hh.2.2.2⟩
  rw [cells_app]
  have := hh.2.1
  rwa [show Lib.strCells (strB s) = Lib.byteCells s from by simp [Lib.strCells, Lib.byteCells, strB]] at this
theorem wbyte_k (B : Nat) (l : List UInt8) (c : UInt8) (w : World) (h : BdS B l w) (hl : l.length ≤ 100000000) :
    Calls Tryz.prog 18 #[.pointer (some ⟨B, 0, none⟩), .int .u8 (c.toNat : Int)] w (BkIs B (l ++ [c]) .nilIface w) := by
  refine (Shelf.writeByte B B (Lib.byteCells l) (c.toNat : Int) w h (by rw [Lib.byteCells_length]; omega) (Nat.le_of_lt h.lt)).mono fun e w' hh => ⟨hh.1, .inr ?_, hh.2.2.1, hh.2.2.2⟩
  rw [cells_app]
  exact hh.2.1
theorem kept_below {b : Option Nat} {w w' : World} (hb : Below w.heap.size w w') : Lib.OthersKept 5 b w w' := fun k o hk _ _ => (hb.block k (Array.getElem?_eq_some_iff.1 hk).1).trans hk
theorem kept_blk {B K : Nat} {cs : Array Value} {T : TypeId} {w w' : World} (hk : Lib.OthersKept 5 (some B) w w') (h : Blk w K cs T) (hne : K ≠ B) (hT : T ≠ 5) : Blk w' K cs T :=
  hk K _ h (fun e => hne (Option.some.inj e)) (fun c fz e => by injection e with _ e2 _; exact hT e2)
theorem bd_cells {B : Nat} {l : List UInt8} {w : World} (h : BdS B l w) : ∃ cs fz, w.heap[B]? = some (.cells cs 51 fz) := by
  rcases h with ⟨_, v, h1, _, _⟩ | ⟨_, v, h1, _, _⟩ <;> exact ⟨_, _, h1⟩
theorem NAtY.put {B M : Nat} {t : List UInt8} {v : Value} {l : List (Bool × Addr)} {w w' : World} (h : NAtY M v l w) (hb : BdS B t w) (hk : Lib.OthersKept 5 (some B) w w') : NAtY M v l w' := by
  obtain ⟨g, c, h1, h2, h3, cs, fz, h4⟩ := h
  obtain ⟨cs', fz', h5⟩ := bd_cells hb
  have hne : g ≠ B := by
    rintro rfl
    rw [h4] at h5
    injection h5 with h5
    injection h5 with _ h5 _
    exact absurd h5 (by decide)
  have h6 := hk g _ h4 (fun e => hne (Option.some.inj e)) (fun c fz e => by injection e with _ e2 _; exact absurd e2 (by decide))
  exact ⟨g, c, h1, h2, fun j u hu => (World.cell?_of_block (a := ⟨g, j, none⟩) (h6.trans h4.symm)).trans (h3 j u hu), cs, fz, h6⟩
theorem NAtY.up {M M' : Nat} {v : Value} {l : List (Bool × Addr)} {W : World} (h : NAtY M v l W) (hM : M ≤ M') : NAtY M' v l W := by
  obtain ⟨g, c, h1, h2, h3, h4⟩ := h
  exact ⟨g, c, h1, by omega, h3, h4⟩
set_option maxRecDepth 20000 in
set_option maxHeartbeats 2000000 in
theorem put_any (B : Nat) (t : Txt) (g cap : Nat) (ws : List Txt) (w : World) (h : BdS B t w) (hg : g < w.heap.size) (hc : ws.length ≤ cap) (hl : ws.length ≤ 10000) (hj : (joinW 32 ws).length ≤ 10000) (ht : t.length ≤ 90000000)
    (hcells : ∀ j x, (ws.map strB)[j]? = some x → w.cell? ⟨g, 0 + j, none⟩ = some (.string x)) :
    Calls Tryz.prog 15 #[.slice (some ⟨g, 0, none⟩) ws.length cap, .pointer (some ⟨B, 0, none⟩)] w (BkIs B (t ++ (joinW 32 ws ++ [10])) (.tuple #[]) w) := by
  have HJ := Lib.hid (join_any g cap ws w hg hc hl (by omega) hcells)
  have HB := Lib.hid h
  have HL := Lib.hid (And.intro hj ht)
  clear h hg hc hl hj ht hcells
  go_enter Tryz.func15, Tryz.ntmps15
  go_wp2_with fail
  refine HJ.out.mono ?_
  rintro e w1 ⟨rfl, hb1⟩
  have HK1 := Lib.hid (kept_below (b := some B) hb1)
  have HW1 := Lib.hid (hb1.mono (Nat.le_of_lt HB.out.lt))
  have HS := Lib.hid (wstring_k B t (joinW 32 ws) w1 (HB.out.below hb1) (by have := HL.out; omega))
  clear hb1 HJ
  go_wp2_with fail
  refine HS.out.mono ?_
  rintro e w2 ⟨rfl, h2, hb2, hk2⟩
  have HK2 := Lib.hid (HK1.out.trans hk2)
  have HW2 := Lib.hid (HW1.out.trans hb2)
  have HY := Lib.hid (wbyte_k B (t ++ joinW 32 ws) 10 w2 h2 (by have := HL.out; simp; omega))
  rw [List.append_assoc] at HY
  clear h2 hb2 hk2 HS HK1 HW1
  go_wp2_with fail
  refine HY.out.mono ?_
  rintro e w3 ⟨rfl, h3, hb3, hk3⟩
  have HF := Lib.hid (show BkIs B (t ++ (joinW 32 ws ++ [10])) (.tuple #[]) w (.returned (.tuple #[])) w3 from ⟨rfl, h3, HW2.out.trans hb3, HK2.out.trans hk3⟩)
  clear h3 hb3 hk3 HY
  go_wp2_with fail
  go_end0
  exact HF.out
end Go.Proofs.YtmkcooamgojbpaaGreatDoor.Sheet

/- sheet.Text: the whole. -/
namespace Go.Proofs.YtmkcooamgojbpaaGreatDoor.Sheet
open Go.RowKit Go.Proofs.YtmkcooamgojbpaaGreatDoor.Kit Go.Proofs.YtmkcooamgojbpaaGreatDoor.Blk Go.Proofs.YtmkcooamgojbpaaGreatDoor.Words Go.Proofs.YtmkcooamgojbpaaGreatDoor.Octets Go.Proofs.YtmkcooamgojbpaaGreatDoor.Lines Go.Proofs.YtmkcooamgojbpaaGreatDoor.Dec Go.Proofs.YtmkcooamgojbpaaGreatDoor.Symbol Go.Proofs.YtmkcooamgojbpaaGreatDoor.Check Go.Proofs.YtmkcooamgojbpaaGreatDoor.Table
attribute [local go_sem ↓] Go.wp_at_zero Go.wp_at_succ
set_option linter.unusedVariables false

theorem cells_one (W : World) (x : Txt) : ∀ j y, ([x].map strB)[j]? = some y → (W.alloc (.cells #[.string (strB x)] 9)).cell? ⟨W.heap.size, 0 + j, none⟩ = some (.string y)
  | 0, y, h => by
    have : strB x = y := by simpa using h
    subst this
    exact (Blk.new W #[.string (strB x)] 9 W.heap.size rfl).cell 0 rfl
  | j + 1, y, h => by simp at h
theorem cells_three (W : World) (x y z : Txt) : ∀ j v, ([x, y, z].map strB)[j]? = some v → (W.alloc (.cells #[.string (strB x), .string (strB y), .string (strB z)] 9)).cell? ⟨W.heap.size, 0 + j, none⟩ = some (.string v)
  | 0, v, h => by
    have : strB x = v := by simpa using h
    subst this
    exact (Blk.new W #[.string (strB x), .string (strB y), .string (strB z)] 9 W.heap.size rfl).cell 0 rfl
  | 1, v, h => by
    have : strB y = v := by simpa using h
    subst this
    exact (Blk.new W #[.string (strB x), .string (strB y), .string (strB z)] 9 W.heap.size rfl).cell 1 rfl
  | 2, v, h => by
    have : strB z = v := by simpa using h
    subst this
    exact (Blk.new W #[.string (strB x), .string (strB y), .string (strB z)] 9 W.heap.size rfl).cell 2 rfl
  | j + 3, v, h => by simp at h
/-- What Text answers. -/
def TextIs (c : Cfg) (w : World) (e : Ending) (w' : World) : Prop := e = .returned (.tuple #[.string (strB (if (checkF c).1 = 0 then sheetF c else [])), .int .i64 (checkF c).1]) ∧ Below w.heap.size w w'
/-- Between two lines: the boxed configuration, the builder in block B, what it was written. -/
structure TxS (c : Cfg) (sa ta : Option Addr) (sc tc B : Nat) (w : World) (t : Txt) (W : World) : Prop where
  box : Blk W w.heap.size (c.cells sa ta sc tc) 27
  bd : BdS B t W
  bel : Below w.heap.size w W
  lt : w.heap.size < B
section
variable {c : Cfg} {sa ta : Option Addr} {sc tc B : Nat} {w : World} {t t' : Txt} {W W' : World}
theorem TxS.below (h : TxS c sa ta sc tc B w t W) (hb : Below W.heap.size W W') : TxS c sa ta sc tc B w t W' := ⟨h.box.below hb h.box.lt, h.bd.below hb, h.bel.trans (hb.mono h.bel.size), h.lt⟩
theorem TxS.put {v : Value} {e : Ending} (h : TxS c sa ta sc tc B w t W) (hp : BkIs B t' v W e W') : TxS c sa ta sc tc B w t' W' := ⟨h.box.below hp.2.2.1 h.lt, hp.2.1, h.bel.trans (hp.2.2.1.mono (by have := h.lt; omega)), h.lt⟩
end
def hvals (c : Cfg) : Nat → List Int
  | 0 => [c.index]
  | 1 => [c.f0, c.f1, c.f2]
  | _ => [c.h0, c.h1]
def hline (c : Cfg) (k : Nat) : Txt := lineP (hword k) (hvals c k)
def hlines (c : Cfg) (k : Nat) : List Txt := (List.range k).map (hline c)
theorem hlines_next (c : Cfg) (k : Nat) : feedT (hlines c (k + 1)) = feedT (hlines c k) ++ (hline c k ++ [10]) := by
  unfold hlines feedT
  rw [List.range_succ, List.map_append, List.flatMap_append]
  simp
theorem feed_next {α : Type} (f : α → Txt) {l : List α} {k : Nat} (h : k < l.length) (p : Txt) : p ++ feedT ((l.take (k + 1)).map f) = p ++ feedT ((l.take k).map f) ++ (f l[k] ++ [10]) := by
  unfold feedT
  rw [List.take_succ_eq_append_getElem h, List.map_append, List.flatMap_append, List.append_assoc]
  simp
theorem hvals_cell (c : Cfg) (sa ta : Option Addr) (sc tc : Nat) : ∀ {k : Nat}, k < 3 → ∀ j, (h : j < (hgrp k).length) → (c.cells sa ta sc tc)[((hgrp k)[j]).2]? = some (.int .i64 ((hvals c k).getD j 0))
  | 0, _, 0, _ => rfl
  | 1, _, 0, _ => rfl
  | 1, _, 1, _ => rfl
  | 1, _, 2, _ => rfl
  | 2, _, 0, _ => rfl
  | 2, _, 1, _ => rfl
theorem hvals_len (c : Cfg) : ∀ {k : Nat}, k < 3 → (hgrp k).length = (hvals c k).length
  | 0, _ => rfl
  | 1, _ => rfl
  | 2, _ => rfl
theorem hvals_nat {c : Cfg} (h : NatC c) : ∀ {k : Nat}, k < 3 → ∀ n ∈ hvals c k, nat64 n
  | 0, _, n, hn => by simp only [hvals, List.mem_cons, List.not_mem_nil, or_false] at hn; subst hn; exact h.head.1
  | 1, _, n, hn => by
    simp only [hvals, List.mem_cons, List.not_mem_nil, or_false] at hn
    obtain ⟨-, ⟨h1, h2, h3⟩, -⟩ := h.head
    rcases hn with rfl | rfl | rfl <;> assumption
  | 2, _, n, hn => by
    simp only [hvals, List.mem_cons, List.not_mem_nil, or_false] at hn
    obtain ⟨-, -, h1, h2⟩ := h.head
    rcases hn with rfl | rfl <;> assumption
theorem hword_len (k : Nat) : (hword k).length ≤ 6 := by
  match k with
  | 0 => decide
  | 1 => decide
  | k + 2 => exact (by decide : wHalts.length ≤ 6)
theorem hline_len {c : Cfg} (h : NatC c) {k : Nat} (hk : k < 3) : (hline c k).length ≤ 100 := by
  have h1 := lineP_len (hword k) (hvals c k) (hvals_nat h hk)
  have h2 := hword_len k
  have h3 : (hvals c k).length ≤ 3 := by
    match k, hk with
    | 0, _ => simp [hvals]
    | 1, _ => simp [hvals]
    | 2, _ => simp [hvals]
  unfold hline
  omega
theorem hlines_len {c : Cfg} (h : NatC c) : ∀ k, k ≤ 3 → (feedT (hlines c k)).length ≤ 101 * k
  | 0, _ => by simp [hlines, feedT]
  | k + 1, hk => by
    have h1 := hlines_len h k (by omega)
    have h2 := hline_len h (k := k) (by omega)
    rw [hlines_next]
    simp
    omega
theorem feed_len {α : Type} {f : α → Txt} {m : Nat} : ∀ {l : List α}, (∀ x ∈ l, (f x).length ≤ m) → (feedT (l.map f)).length ≤ (m + 1) * l.length
  | [], _ => by simp [feedT]
  | x :: l, h => by
    have h1 := feed_len (l := l) fun y hy => h y (List.mem_cons_of_mem _ hy)
    have h2 := h x List.mem_cons_self
    have e : (m + 1) * (l.length + 1) = (m + 1) * l.length + (m + 1) := by rw [Nat.mul_add, Nat.mul_one]
    unfold feedT at h1 ⊢
    rw [List.map_cons, List.flatMap_cons, List.length_append, List.length_cons, e, List.length_append]
    have : ([10] : Txt).length = 1 := rfl
    omega
theorem phaseT_len (p : Int) : (phaseT p).length ≤ 10 := by
  unfold phaseT
  split
  · decide
  · split <;> decide
theorem rowT_len {c : Cfg} (h : NatC c) : ∀ r ∈ c.tab, (rowT r).length ≤ 50 := fun r hr => by
  have h1 := (h.rows r hr).1
  have h2 := dec_len (n := r.1) (by have := h1.1; omega) h1.2
  have h3 := phaseT_len r.2
  unfold rowT
  rw [join_cons (by simp), join_cons (by simp)]
  simp [joinW, wRow]
  omega
theorem symT_len {c : Cfg} (h : NatC c) : ∀ s ∈ c.syms, (symT s).length ≤ 400 := fun s hs => by
  have h1 := lineP_len wSymbol s.vals (h.syms s hs)
  have h2 : s.vals.length = 16 := rfl
  unfold symT
  have h3 : wSymbol.length = 6 := rfl
  omega
theorem sheet_parts (c : Cfg) : sheetF c = feedT (hlines c 3) ++ feedT (c.tab.map rowT) ++ feedT (c.syms.map symT) := by
  unfold sheetF linesT feedT
  simp only [List.flatMap_cons, List.flatMap_append]
  show _ = List.flatMap _ [hline c 0, hline c 1, hline c 2] ++ _ ++ _
  simp only [List.flatMap_cons, List.flatMap_nil, List.append_nil, List.append_assoc]
  rfl
theorem row_rng {W : World} {g o : Nat} {r : Int × Int} (h1 : W.cell? ⟨g, o, none⟩ = some (.int .i64 r.1)) (h2 : W.cell? ⟨g, o + 1, none⟩ = some (.int .i64 r.2)) : W.rangeAt g o (rowC r).toList
  | 0, v, hv => by injection hv with hv; subst hv; exact h1
  | 1, v, hv => by injection hv with hv; subst hv; exact h2
  | j + 2, v, hv => by simp [rowC] at hv
theorem fields_cell (s : Sym) : ∀ k, (h : k < fieldsQ.length) → s.cells[(fieldsQ[k]).2]? = some (.int .i64 (s.vals.getD k 0))
  | 0, _ => rfl
  | 1, _ => rfl
  | 2, _ => rfl
  | 3, _ => rfl
  | 4, _ => rfl
  | 5, _ => rfl
  | 6, _ => rfl
  | 7, _ => rfl
  | 8, _ => rfl
  | 9, _ => rfl
  | 10, _ => rfl
  | 11, _ => rfl
  | 12, _ => rfl
  | 13, _ => rfl
  | 14, _ => rfl
  | 15, _ => rfl
  | k + 16, h => absurd h (by show ¬ k + 16 < 16; omega)
theorem phase_index0 (w : World) : (Instr.index 68 (.agg phaseA) (.int .i64 0)).run Tryz.prog w = .ok (.string (strB (phaseT 0))) w := by kernel_rfl
theorem phase_index1 (w : World) : (Instr.index 68 (.agg phaseA) (.int .i64 1)).run Tryz.prog w = .ok (.string (strB (phaseT 1))) w := by kernel_rfl
theorem phase_index2 (w : World) : (Instr.index 68 (.agg phaseA) (.int .i64 2)).run Tryz.prog w = .ok (.string (strB (phaseT 2))) w := by kernel_rfl
theorem phase_index {p : Int} (h0 : 0 ≤ p) (h2 : p ≤ 2) (w : World) : (Instr.index 68 (.agg phaseA) (.int .i64 p)).run Tryz.prog w = .ok (.string (strB (phaseT p))) w := by
  have : p = 0 ∨ p = 1 ∨ p = 2 := by omega
  rcases this with h | h | h
  · subst h; exact phase_index0 w
  · subst h; exact phase_index1 w
  · subst h; exact phase_index2 w
set_option maxRecDepth 20000 in
set_option maxHeartbeats 2000000 in
theorem sheet_text (c : Cfg) (sa ta : Option Addr) (sc tc : Nat) (w : World) (hin : c.In w sa ta) (hs : c.syms.length ≤ 10000) (ht : c.tab.length ≤ 10000) :
    Calls Tryz.prog 7 #[.agg (c.cells sa ta sc tc)] w (TextIs c w) := by
  have HM := Lib.hid (Blk.new w (c.cells sa ta sc tc) 27 w.heap.size rfl)
  have HB := Lib.hid ((Below.refl w.heap.size w).alloc (Nat.le_refl _) (.cells (c.cells sa ta sc tc) 27))
  have HIN := Lib.hid hin
  have HLN := Lib.hid (And.intro hs ht)
  have HCK := Lib.hid (check_any c sa ta sc tc (w.alloc (.cells (c.cells sa ta sc tc) 27)) (hin.below HB.out))
  clear hin hs ht
  unfold Cfg.cells
  go_enter Tryz.func7, Tryz.ntmps7
  go_upto_region 1 with fail
  change Code.wp _ _ _ _ (w.alloc (.cells (c.cells sa ta sc tc) 27))
  generalize w.alloc (.cells (c.cells sa ta sc tc) 27) = w1 at HM HB HCK ⊢
  go_wp2_with (refine load_blk (by rfl) 27 _ (by rfl) w.heap.size (by rfl) _ _ HM.out _ Tryz.underlying27 rfl (by kernel_rfl) ?_)
  refine HCK.out.mono ?_
  clear HCK
  rintro e w2 ⟨rfl, hb2⟩
  have HM2 := Lib.hid (HM.out.below hb2 HM.out.lt)
  have HB2 := Lib.hid (HB.out.trans (hb2.mono HB.out.size))
  clear hb2 HM HB
  by_cases hf : (checkF c).1 = 0
  · have HN := Lib.hid (check_nat hf)
    have HF := Lib.hid hf
    rw [hf]
    clear hf
    have HT3 := Lib.hid (show TxS c sa ta sc tc w2.heap.size w [] (w2.alloc (.cells #[.pointer none, .slice none 0 0] 51)) from ⟨HM2.out.old _, bd_new w2 w2.heap.size rfl, HB2.out.alloc HB2.out.size _, HM2.out.lt⟩)
    have hmf : ∀ (fn : Fn) (first cap : Array Value) (w : World), (Instr.makeFunc fn first cap).run Tryz.prog w = .ok (.func fn first cap) w := fun _ _ _ _ => rfl
    go_wp2_with fail
    refine (head_any_y w.heap.size _).mono ?_
    rintro e w4 ⟨u, rfl, hnum, hb4⟩
    have HT4 := Lib.hid (HT3.out.below hb4)
    have HN4 := Lib.hid hnum
    clear hb4 hnum HT3 HM2 HB2
    generalize w2.heap.size = B at HT4 ⊢
    go_wp2_with fail
    go_loopw [24] (fun i wr => ∃ k : Nat, k ≤ 3 ∧ i = .int .i64 ((k : Nat) : Int) ∧ TxS c sa ta sc tc B w (feedT (hlines c k)) wr ∧ ∀ j, j < 3 → NAtY wr.heap.size (u j) (atB w.heap.size (hgrp j)) wr) (fun i _ => 3 - (intOf i).toNat)
    case atStart => exact ⟨0, by omega, rfl, HT4.out, HN4.out⟩
    case round =>
      obtain ⟨k, hk, rfl, ht, hn⟩ := hrel
      clear HT4 HN4
      have HT := Lib.hid ht
      have HNU := Lib.hid hn
      clear ht hn
      by_cases hk3 : k < 3
      · have hk4 : (k : Int) < 3 := by omega
        have hidx := part_index u hk3
        have HNK := Lib.hid (HNU.out k hk3)
        have hnk := HNU.out k hk3
        obtain ⟨g, cp, hu, -⟩ := hnk
        rw [hu] at hidx HNK
        have HTL := Lib.hid (hlines_len HN.out k hk)
        have HLL := Lib.hid (hline_len HN.out hk3)
        have HA := Lib.hid ((Below.refl wr.heap.size wr).alloc (Nat.le_refl _) (.cells #[.string (strB (hword k)), .slice (some ⟨g, 0, none⟩) (atB w.heap.size (hgrp k)).length cp] 62))
        have HX := Lib.hid (Blk.new wr #[.string (strB (hword k)), .slice (some ⟨g, 0, none⟩) (atB w.heap.size (hgrp k)).length cp] 62 wr.heap.size rfl)
        have HT5 := Lib.hid (HT.out.below HA.out)
        have HN5 := Lib.hid (fun j hj => (HNU.out j hj).on HA.out)
        have HLI := Lib.hid (line_any (hword k) (by have := hword_len k; omega) w.heap.size (hgrp k) (hvals c k) (hvals_len c hk3) (hgrp_len k hk3).2 _ _ (HNK.out.on HA.out).at (fun j hj => HT5.out.box.cell _ (hvals_cell c sa ta sc tc hk3 j hj)) (hvals_nat HN.out hk3))
        clear HNK HT HNU
        go_upto_region 9 with fail
        change Code.wp _ _ _ _ (wr.alloc (.cells #[.string (strB (hword k)), .slice (some ⟨g, 0, none⟩) (atB w.heap.size (hgrp k)).length cp] 62))
        generalize wr.alloc (.cells #[.string (strB (hword k)), .slice (some ⟨g, 0, none⟩) (atB w.heap.size (hgrp k)).length cp] 62) = w5 at HX HT5 HN5 HLI ⊢
        clear HA hidx
        have c0 : w5.cell? ⟨wr.heap.size, 0, none⟩ = some (.string (strB (hword k))) := HX.out.cell 0 rfl
        have c1 : w5.cell? ⟨wr.heap.size, 1, none⟩ = some (.slice (some ⟨g, 0, none⟩) (atB w.heap.size (hgrp k)).length cp) := HX.out.cell 1 rfl
        go_wp2_with fail
        refine HLI.out.mono ?_
        rintro e w6 ⟨rfl, hb6⟩
        have HA6 := Lib.hid (hb6.trans ((Below.refl w6.heap.size w6).alloc (Nat.le_refl _) (.cells #[.string (strB (hline c k))] 9) |>.mono hb6.size))
        have HT6 := Lib.hid (HT5.out.below HA6.out)
        have HN6 := Lib.hid (fun j hj => (HN5.out j hj).on HA6.out)
        have HP := Lib.hid (put_any B (feedT (hlines c k)) w6.heap.size 1 [hline c k] (w6.alloc (.cells #[.string (strB (hline c k))] 9)) HT6.out.bd (by simp) (by simp) (by simp) (by have := HLL.out; simp [joinW]; omega) (by have := HTL.out; omega) (cells_one w6 (hline c k)))
        clear hb6 HT5 HN5 HLI HA6 c0 c1 HX
        have HHL := Lib.hid (show lineP (hword k) (hvals c k) = hline c k from rfl)
        rw [HHL.out]
        go_wp2_with fail
        refine HP.out.mono ?_
        rintro e w7 hp
        obtain rfl := hp.1
        have HT7 := Lib.hid (HT6.out.put hp)
        have HN7 := Lib.hid (fun j hj => ((HN6.out j hj).put HT6.out.bd hp.2.2.2).up hp.2.2.1.size)
        clear hp HP HT6 HN6
        go_wp2_with fail
        go_roundw
        case rel => exact ⟨k + 1, by omega, by go_num, by rw [hlines_next]; exact HT7.out, HN7.out⟩
        case measure => simp [intOf]; omega
      · obtain rfl : k = 3 := by omega
        clear HNU
        rw [show ((3 : Nat) : Int) = 3 from rfl]
        have c1 : wr.cell? ⟨w.heap.size, 1, none⟩ = some (.slice ta c.tab.length tc) := HT.out.box.cell 1 rfl
        have hl3 := hlines_len HN.out 3 (Nat.le_refl _)
        have HL3 := Lib.hid hl3
        have hlt2 := HLN.out.2
        go_wp2_with fail
        clear c1 hl3
        obtain ⟨wo, rfl⟩ : ∃ wo : World, wo = wr := ⟨_, rfl⟩
        go_loopw [36] (fun i wr => ∃ k : Nat, k ≤ c.tab.length ∧ i = .int .i64 ((k : Nat) : Int) ∧ TxS c sa ta sc tc B w (feedT (hlines c 3) ++ feedT ((c.tab.take k).map rowT)) wr) (fun i _ => c.tab.length - (intOf i).toNat)
        case atStart => exact ⟨0, by omega, rfl, by simpa [feedT] using HT.out⟩
        case round =>
          obtain ⟨k, hk, rfl, ht⟩ := hrel
          clear HT
          have HT := Lib.hid ht
          clear ht
          by_cases hlt : k < c.tab.length
          · have hkl : (k : Int) < (c.tab.length : Int) := by omega
            obtain ⟨b, off, rfl, hbl, hc1, hc2⟩ := (HIN.out.below HT.out.bel).tab k hlt
            have HR := Lib.hid (row_rng hc1 hc2)
            have hrn := HN.out.rows _ (List.getElem_mem hlt)
            have HNX := Lib.hid (feed_next rowT hlt (feedT (hlines c 3)))
            have HTL := Lib.hid (show (feedT (hlines c 3) ++ feedT ((c.tab.take k).map rowT)).length ≤ 1000000 from by
              have h1 := feed_len (f := rowT) (m := 50) (l := c.tab.take k) (fun x hx => rowT_len HN.out x (List.mem_of_mem_take hx))
              have h2 := HL3.out
              rw [List.length_take] at h1
              rw [List.length_append]
              omega)
            have HRL := Lib.hid (rowT_len HN.out _ (List.getElem_mem hlt))
            generalize c.tab[k] = r at HR hrn HNX HRL
            have HTX := Lib.hid (text_any r.1 hrn.1)
            have hpx := fun W => phase_index hrn.2.1 hrn.2.2 W
            have HA := Lib.hid ((Below.refl wr.heap.size wr).alloc (Nat.le_refl _) (.cells (rowC r) 40))
            have HX := Lib.hid (Blk.new wr (rowC r) 40 wr.heap.size rfl)
            have HT5 := Lib.hid (HT.out.below HA.out)
            have HBL := Lib.hid (show B < wr.heap.size from HT.out.bd.lt)
            clear hc1 hc2 hbl hrn HT HA
            go_upto_region 14 with (refine wpList_load_mid rfl 40 _ rfl _ _ rfl _ _ HR.out Tryz.underlying40 rfl (by kernel_rfl) ?_; simp only [rowC])
            change Code.wp _ _ _ _ (wr.alloc (.cells (rowC r) 40))
            have HXN := Lib.hid (show wr.heap.size ≠ B by have := HBL.out; omega)
            generalize wr.alloc (.cells (rowC r) 40) = w5 at HX HT5 ⊢
            clear HR
            obtain ⟨Rb, hRb⟩ : ∃ Rb, Rb = wr.heap.size := ⟨_, rfl⟩
            rw [← hRb] at HX HXN ⊢
            clear hRb
            refine wp_region_held_drew (S := (fun w' => w'.cell? ⟨Rb, 0, none⟩ = some (.int .i64 r.1) ∧ w'.cell? ⟨Rb, 1, none⟩ = some (.int .i64 r.2))) (by kernel_rfl) (⟨HX.out.cell 0 rfl, HX.out.cell 1 rfl⟩) (fun hHeld => ?_)
            replace HX := Lib.hid HX.out.drew
            replace HT5 := Lib.hid (HT5.out.below (Below.refl _ _).drew)
            generalize w5.drew = w6 at HX HT5 hHeld ⊢
            refine wpAnyH_take (i := 0) (oi := ⟨some 40, _, _, _, _, _⟩) (v := (.func (.func 15) #[] #[.pointer (some ⟨B, 0, none⟩)])) rfl (by kernel_rfl) (by kernel_rfl) (by kernel_rfl) (fun _ _ _ h => h) (Or.inl ⟨by rfl, fun w hSw => by (try dsimp only at hSw); go_simp⟩) (by assumption) ?_
            simp only [Act.put, List.setIfInBounds_toArray, List.set_cons_zero, List.set_cons_succ]
            refine wpAnyH_take (i := 1) (oi := ⟨some 41, _, _, _, _, _⟩) (v := (.pointer (some ⟨Rb, 0, none⟩))) rfl (by kernel_rfl) (by kernel_rfl) (by kernel_rfl) (fun _ _ _ h => h) (Or.inl ⟨by rfl, fun w hSw => by (try dsimp only at hSw); go_simp⟩) (by assumption) ?_
            simp only [Act.put, List.setIfInBounds_toArray, List.set_cons_zero, List.set_cons_succ]
            refine wpAnyH_take (i := 2) (oi := ⟨some 42, _, _, _, _, _⟩) (v := (.int .i64 r.1)) rfl (by kernel_rfl) (by kernel_rfl) (by kernel_rfl) (fun _ _ _ h => h) (Or.inl ⟨by rfl, fun w hSw => by (try dsimp only at hSw); go_simp⟩) (by assumption) ?_
            simp only [Act.put, List.setIfInBounds_toArray, List.set_cons_zero, List.set_cons_succ]
            refine wpAnyH_take (i := 5) (oi := ⟨some 45, _, _, _, _, _⟩) (v := (.pointer (some ⟨Rb, 1, none⟩))) rfl (by kernel_rfl) (by kernel_rfl) (by kernel_rfl) (fun _ _ _ h => h) (Or.inl ⟨by rfl, fun w hSw => by (try dsimp only at hSw); go_simp⟩) (by assumption) ?_
            simp only [Act.put, List.setIfInBounds_toArray, List.set_cons_zero, List.set_cons_succ]
            refine wpAnyH_take (i := 6) (oi := ⟨some 46, _, _, _, _, _⟩) (v := (.int .i64 r.2)) rfl (by kernel_rfl) (by kernel_rfl) (by kernel_rfl) (fun _ _ _ h => h) (Or.inl ⟨by rfl, fun w hSw => by (try dsimp only at hSw); go_simp⟩) (by assumption) ?_
            simp only [Act.put, List.setIfInBounds_toArray, List.set_cons_zero, List.set_cons_succ]
            refine wpAnyH_ready (rs := [3]) (by kernel_rfl) (by simp) ?_
            refine AllReadyH.cons (o := ⟨some 43, _, _, _, _, _⟩) rfl (fun KK hK => ?_) AllReadyH.nil
            go_simp
            refine (HTX.out w6).mono ?_
            rintro e w7 ⟨rfl, hb7⟩
            have HX7 := Lib.hid (HX.out.below hb7 HX.out.lt)
            have HT7 := Lib.hid (HT5.out.below hb7)
            clear hb7 HX HT5 hHeld
            dsimp only
            refine hK.out _ _ ⟨HX7.out.cell 0 rfl, HX7.out.cell 1 rfl⟩ (fun hHeld => ?_)
            clear hK; try clear KK
            try simp only [Act.put, List.setIfInBounds_toArray, List.set_cons_zero, List.set_cons_succ]
            refine wpAnyH_ready (rs := [4]) (by kernel_rfl) (by simp) ?_
            refine AllReadyH.cons (o := ⟨some 44, _, _, _, _, _⟩) rfl (fun KK hK => ?_) AllReadyH.nil
            go_simp
            refine (phases_any w7).mono ?_
            rintro e w8 ⟨rfl, hb8⟩
            have HX8 := Lib.hid (HX7.out.below hb8 HX7.out.lt)
            have HT8 := Lib.hid (HT7.out.below hb8)
            clear hb8 HX7 HT7 hHeld
            dsimp only
            refine hK.out _ _ ⟨HX8.out.cell 0 rfl, HX8.out.cell 1 rfl⟩ (fun hHeld => ?_)
            clear hK; try clear KK
            try simp only [Act.put, List.setIfInBounds_toArray, List.set_cons_zero, List.set_cons_succ]
            refine wpAnyH_take (i := 7) (oi := ⟨some 47, _, _, _, _, _⟩) (v := (.string (strB (phaseT r.2)))) rfl (by kernel_rfl) (by kernel_rfl) (by kernel_rfl) (fun _ _ _ h => h) (Or.inl ⟨by rfl, fun w hSw => by (try dsimp only at hSw); go_simp⟩) (by assumption) ?_
            simp only [Act.put, List.setIfInBounds_toArray, List.set_cons_zero, List.set_cons_succ]
            refine wpAnyH_ready (rs := [8]) (by kernel_rfl) (by simp) ?_
            refine AllReadyH.cons (o := ⟨some 48, _, _, _, _, _⟩) rfl (fun KK hK => ?_) AllReadyH.nil
            go_simp
            change KK _ (w8.alloc (.cells #[.string (strB wRow), .string (strB (decB r.1)), .string (strB (phaseT r.2))] 9))
            have HA9 := Lib.hid ((Below.refl w8.heap.size w8).alloc (Nat.le_refl _) (.cells #[.string (strB wRow), .string (strB (decB r.1)), .string (strB (phaseT r.2))] 9))
            have HX9 := Lib.hid (HX8.out.below HA9.out HX8.out.lt)
            have HT9 := Lib.hid (HT8.out.below HA9.out)
            have HP := Lib.hid (put_any B (feedT (hlines c 3) ++ feedT ((c.tab.take k).map rowT)) w8.heap.size 3 [wRow, decB r.1, phaseT r.2] (w8.alloc (.cells #[.string (strB wRow), .string (strB (decB r.1)), .string (strB (phaseT r.2))] 9)) HT9.out.bd (by simp) (by simp) (by simp) (by have := HRL.out; unfold rowT at this; omega) (by have := HTL.out; omega) (cells_three w8 wRow (decB r.1) (phaseT r.2)))
            clear HX8 HT8 hHeld HA9
            refine hK.out _ _ ⟨HX9.out.cell 0 rfl, HX9.out.cell 1 rfl⟩ (fun hHeld => ?_)
            clear hK; try clear KK
            try simp only [Act.put, List.setIfInBounds_toArray, List.set_cons_zero, List.set_cons_succ]
            refine wpAnyH_ready (rs := [9]) (by kernel_rfl) (by simp) ?_
            refine AllReadyH.cons (o := ⟨some 49, _, _, _, _, _⟩) rfl (fun KK hK => ?_) AllReadyH.nil
            go_simp
            refine HP.out.mono ?_
            rintro e w10 hp
            obtain rfl := hp.1
            have HT10 := Lib.hid (HT9.out.put hp)
            have HX10 := Lib.hid (kept_blk hp.2.2.2 HX9.out HXN.out (by decide))
            clear hp HP HT9 HX9 hHeld
            dsimp only
            refine hK.out _ _ ⟨HX10.out.cell 0 rfl, HX10.out.cell 1 rfl⟩ (fun hHeld => ?_)
            clear hK; try clear KK
            refine wpAnyH_done (by kernel_rfl) ?_ _
            clear hHeld
            go_wp2_with fail
            go_roundw
            case rel => exact ⟨k + 1, by omega, by go_num, by rw [HNX.out]; exact HT10.out⟩
            case measure => simp [intOf]; omega
          · obtain rfl : k = c.tab.length := by omega
            rw [List.take_length] at HT
            have c1 : wr.cell? ⟨w.heap.size, 0, none⟩ = some (.slice sa c.syms.length sc) := HT.out.box.cell 0 rfl
            have HTB := Lib.hid (show (feedT (c.tab.map rowT)).length ≤ 600000 from by
              have h1 := feed_len (f := rowT) (m := 50) (l := c.tab) (fun x hx => rowT_len HN.out x hx)
              omega)
            have hlt3 := HLN.out.1
            go_wp2_with fail
            clear c1
            obtain ⟨wp, rfl⟩ : ∃ wp : World, wp = wr := ⟨_, rfl⟩
            go_loopw [54] (fun i wr => ∃ k : Nat, k ≤ c.syms.length ∧ i = .int .i64 ((k : Nat) : Int) ∧ TxS c sa ta sc tc B w ((feedT (hlines c 3) ++ feedT (c.tab.map rowT)) ++ feedT ((c.syms.take k).map symT)) wr) (fun i _ => c.syms.length - (intOf i).toNat)
            case atStart => exact ⟨0, by omega, rfl, by simpa [feedT] using HT.out⟩
            case round =>
              obtain ⟨k, hk, rfl, ht⟩ := hrel
              clear HT
              have HT := Lib.hid ht
              clear ht
              by_cases hlt : k < c.syms.length
              · have hkl : (k : Int) < (c.syms.length : Int) := by omega
                obtain ⟨b, off, rfl, hbl, hcs⟩ := (HIN.out.below HT.out.bel).syms k hlt
                have HR := Lib.hid (show wr.rangeAt b (off + k * 16) c.syms[k].cells.toList from fun j v hv => hcs j v (by simpa using hv))
                have HNS := Lib.hid (HN.out.syms _ (List.getElem_mem hlt))
                have HNX := Lib.hid (feed_next symT hlt (feedT (hlines c 3) ++ feedT (c.tab.map rowT)))
                have HTL := Lib.hid (show ((feedT (hlines c 3) ++ feedT (c.tab.map rowT)) ++ feedT ((c.syms.take k).map symT)).length ≤ 10000000 from by
                  have h1 := feed_len (f := symT) (m := 400) (l := c.syms.take k) (fun x hx => symT_len HN.out x (List.mem_of_mem_take hx))
                  have h2 := HL3.out
                  have h3 := HTB.out
                  rw [List.length_take] at h1
                  rw [List.length_append, List.length_append]
                  omega)
                have HSL := Lib.hid (symT_len HN.out _ (List.getElem_mem hlt))
                generalize c.syms[k] = s at HR HNS HNX HSL
                have HA := Lib.hid ((Below.refl wr.heap.size wr).alloc (Nat.le_refl _) (.cells s.cells 46))
                have HX := Lib.hid (Blk.new wr s.cells 46 wr.heap.size rfl)
                have HT5 := Lib.hid (HT.out.below HA.out)
                clear hcs hbl HT HA
                go_upto_region 19 with (refine wpList_load_mid rfl 46 _ rfl _ _ rfl _ _ HR.out Tryz.underlying46 rfl (by kernel_rfl) ?_; simp only [Sym.cells])
                change Code.wp _ _ _ _ (wr.alloc (.cells s.cells 46))
                generalize wr.alloc (.cells s.cells 46) = w5 at HX HT5 ⊢
                clear HR
                obtain ⟨Rb, hRb⟩ : ∃ Rb, Rb = wr.heap.size := ⟨_, rfl⟩
                rw [← hRb] at HX ⊢
                clear hRb
                go_wp2_with fail
                refine (fields_any Rb w5).mono ?_
                rintro e w6 ⟨v, rfl, hrow⟩
                have HX6 := Lib.hid (HX.out.below hrow.bel HX.out.lt)
                have HT6 := Lib.hid (HT5.out.below hrow.bel)
                have hna := hrow.at (by simp [fieldsL, grpN, grp])
                rw [fieldsL_at] at hna
                have HLI := Lib.hid (line_any wSymbol (by decide) Rb fieldsQ s.vals rfl (by decide) v w6 hna (fun j hj => HX6.out.cell _ (fields_cell s j hj)) HNS.out)
                obtain ⟨g, cp, rfl, -⟩ := hna
                clear hrow HX HT5
                go_wp2_with fail
                refine HLI.out.mono ?_
                rintro e w7 ⟨rfl, hb7⟩
                have HST := Lib.hid (show lineP wSymbol s.vals = symT s from rfl)
                rw [HST.out]
                have HA7 := Lib.hid (hb7.trans ((Below.refl w7.heap.size w7).alloc (Nat.le_refl _) (.cells #[.string (strB (symT s))] 9) |>.mono hb7.size))
                have HT7 := Lib.hid (HT6.out.below HA7.out)
                have HP := Lib.hid (put_any B ((feedT (hlines c 3) ++ feedT (c.tab.map rowT)) ++ feedT ((c.syms.take k).map symT)) w7.heap.size 1 [symT s] (w7.alloc (.cells #[.string (strB (symT s))] 9)) HT7.out.bd (by simp) (by simp) (by simp) (by have := HSL.out; simp [joinW]; omega) (by have := HTL.out; omega) (cells_one w7 (symT s)))
                clear hb7 HT6 HLI HA7 HX6 HST
                go_wp2_with fail
                refine HP.out.mono ?_
                rintro e w8 hp
                obtain rfl := hp.1
                have HT8 := Lib.hid (HT7.out.put hp)
                clear hp HP HT7
                go_wp2_with fail
                go_roundw
                case rel => exact ⟨k + 1, by omega, by go_num, by rw [HNX.out]; exact HT8.out⟩
                case measure => simp [intOf]; omega
              · obtain rfl : k = c.syms.length := by omega
                rw [List.take_length, ← sheet_parts] at HT
                have HS := Lib.hid (string_any B (sheetF c) wr HT.out.bd)
                have HBE := Lib.hid HT.out.bel
                have HBL := Lib.hid HT.out.lt
                go_wp2_with fail
                refine HS.out.mono ?_
                rintro e w9 ⟨rfl, hb9⟩
                have HB9 := Lib.hid (HBE.out.trans (hb9.mono (by have := HBL.out; omega)))
                clear hb9
                go_wp2_with fail
                go_ret2
                exact ⟨by rw [if_pos HF.out, HF.out]; rfl, HB9.out⟩
  · have HF := Lib.hid hf
    have b1 : ((checkF c).1 != 0) = true := by simpa using hf
    clear hf
    go_wp2_with fail
    go_ret2
    exact ⟨by rw [if_neg HF.out]; rfl, HB2.out⟩
end Go.Proofs.YtmkcooamgojbpaaGreatDoor.Sheet
