/- Parts of the proof: ShFields, ShHead. -/
import Derived.Test.YtmkcooamgojbpaaDoorPart27
import Derived.Test.YtmkcooamgojbpaaDoorPart23
import Derived.Test.YtmkcooamgojbpaaDoorPart26
import Derived.Test.YtmkcooamgojbpaaDoorPart7
import Derived.Test.YtmkcooamgojbpaaDoorPart8

/- sheet.fields: the numbers of a symbol, in their order. -/
namespace Go.Proofs.YtmkcooamgojbpaaDoor.Sheet
open Go.Proofs Go.RowKit Go.Proofs.YtmkcooamgojbpaaDoor.Kit Go.Proofs.YtmkcooamgojbpaaDoor.Blk Go.Proofs.YtmkcooamgojbpaaDoor.Words Go.Proofs.YtmkcooamgojbpaaDoor.Octets
attribute [local go_sem ↓] Go.wp_at_zero Go.wp_at_succ
set_option linter.unusedVariables false

/-- A row of pointers that lies somewhere. -/
def PAt (v : Value) (ps : List Addr) (w : World) : Prop := ∃ g, v = .slice (some ⟨g, 0, none⟩) ps.length ps.length ∧ g < w.heap.size ∧ ∀ j, (h : j < ps.length) → w.cell? ⟨g, 0 + j, none⟩ = some (.pointer (some ps[j]))
theorem PAt.below {v : Value} {ps : List Addr} {w w' : World} (h : PAt v ps w) (hb : Below w.heap.size w w') : PAt v ps w' := by
  obtain ⟨g, h1, h2, h3⟩ := h
  exact ⟨g, h1, Nat.lt_of_lt_of_le h2 hb.size, fun j hj => by rw [hb.cell (p := ⟨g, 0 + j, none⟩) h2]; exact h3 j hj⟩
theorem pat_new (w : World) (ps : List Addr) (T : TypeId) : PAt (.slice (some ⟨w.heap.size, 0, none⟩) ps.length ps.length) ps (w.alloc (.cells (ps.map fun a => Value.pointer (some a)).toArray T)) :=
  ⟨_, rfl, by simp, fun j hj => by
    rw [Nat.zero_add]
    exact (Blk.new w _ T w.heap.size rfl).cell j (by simp [hj])⟩
/-- The groups of a symbol's numbers: are they long ones, and where. -/
def grp (B : Nat) : Nat → Bool × List Addr
  | 0 => (true, [⟨B, 0, none⟩, ⟨B, 1, none⟩])
  | 1 => (false, [⟨B, 2, none⟩, ⟨B, 3, none⟩])
  | 2 => (true, [⟨B, 4, none⟩])
  | 3 => (false, [⟨B, 5, none⟩])
  | 4 => (true, [⟨B, 6, none⟩, ⟨B, 7, none⟩, ⟨B, 8, none⟩])
  | 5 => (false, [⟨B, 9, none⟩, ⟨B, 10, none⟩, ⟨B, 11, none⟩, ⟨B, 12, none⟩, ⟨B, 13, none⟩, ⟨B, 14, none⟩, ⟨B, 15, none⟩])
  | _ => (true, [])
def grpN (B k : Nat) : List (Bool × Addr) := (grp B k).2.map fun p => ((grp B k).1, p)
/-- A symbol's numbers. -/
def fieldsL (B : Nat) : List (Bool × Addr) := grpN B 0 ++ (grpN B 1 ++ (grpN B 2 ++ (grpN B 3 ++ (grpN B 4 ++ grpN B 5))))
theorem grp_len (B k : Nat) (h : k < 6) : 0 < (grpN B k).length ∧ (grpN B k).length ≤ 100 := by
  have : k = 0 ∨ k = 1 ∨ k = 2 ∨ k = 3 ∨ k = 4 ∨ k = 5 := by omega
  rcases this with rfl | rfl | rfl | rfl | rfl | rfl <;> simp [grpN, grp]
def XAt (B : Nat) (v : Value) (w : World) : Prop := ∃ g u0 u1 u2 u3 u4 u5, v = .slice (some ⟨g, 0, none⟩) 6 6 ∧ g < w.heap.size ∧ (∀ j, (h : j < 6) → w.cell? ⟨g, 0 + j, none⟩ = some [u0, u1, u2, u3, u4, u5][j]) ∧
  NAt w.heap.size u0 (grpN B 0) w ∧ NAt w.heap.size u1 (grpN B 1) w ∧ NAt w.heap.size u2 (grpN B 2) w ∧ NAt w.heap.size u3 (grpN B 3) w ∧ NAt w.heap.size u4 (grpN B 4) w ∧ NAt w.heap.size u5 (grpN B 5) w
theorem NAt.on {v : Value} {l : List (Bool × Addr)} {w w' : World} (h : NAt w.heap.size v l w) (hb : Below w.heap.size w w') : NAt w'.heap.size v l w' := by
  obtain ⟨g, c, h1, h2, h3⟩ := h.below (Nat.le_refl _) hb
  exact ⟨g, c, h1, Nat.lt_of_lt_of_le h2 hb.size, h3⟩
theorem XAt.below {B : Nat} {v : Value} {w w' : World} (h : XAt B v w) (hb : Below w.heap.size w w') : XAt B v w' := by
  obtain ⟨g, u0, u1, u2, u3, u4, u5, h1, h2, h3, n0, n1, n2, n3, n4, n5⟩ := h
  exact ⟨g, u0, u1, u2, u3, u4, u5, h1, Nat.lt_of_lt_of_le h2 hb.size, fun j hj => by rw [hb.cell (p := ⟨g, 0 + j, none⟩) h2]; exact h3 j hj, n0.on hb, n1.on hb, n2.on hb, n3.on hb, n4.on hb, n5.on hb⟩
theorem NRow.own {w0 w W : World} {v : Value} {l : List (Bool × Addr)} (h : NRow w v l W) (h0 : Below w0.heap.size w0 w) : NRow w0 v l W := ⟨own_base h.row h0.size, h0.trans (h.bel.mono h0.size)⟩
def up {α : Type} (k : Nat) (x : α) (f : Nat → α) : Nat → α := fun j => if j = k then x else f j
/-- What holds between two operations: b k, c k: group k's pointers, numbers are there (as v k, u k); b 6, c 6: the row of all rows, all numbers. -/
structure FI (B : Nat) (w0 : World) (b c : Nat → Bool) (v u : Nat → Value) (w : World) : Prop where
  bel : Below w0.heap.size w0 w
  ptr : ∀ k, k < 6 → b k = true → PAt (v k) (grp B k).2 w
  num : ∀ k, k < 6 → c k = true → NAt w.heap.size (u k) (grpN B k) w
  row : b 6 = true → XAt B (v 6) w
  all : c 6 = true → NRow w0 (u 6) (fieldsL B) w
section
variable {B : Nat} {w0 w w' : World} {b c : Nat → Bool} {v u : Nat → Value}
theorem FI.start : FI B w0 (fun _ => false) (fun _ => false) v u w0 := ⟨Below.refl _ _, fun _ _ h => (by cases h), fun _ _ h => (by cases h), fun h => (by cases h), fun h => (by cases h)⟩
theorem FI.on (h : FI B w0 b c v u w) (hb : Below w.heap.size w w') : FI B w0 b c v u w' :=
  ⟨h.bel.trans (hb.mono h.bel.size), fun k hk e => (h.ptr k hk e).below hb, fun k hk e => (h.num k hk e).on hb, fun e => (h.row e).below hb, fun e => (h.all e).below hb⟩
theorem FI.built (h : FI B w0 b c v u w) (k : Nat) (hk : k < 6) {x : Value} (hb : Below w.heap.size w w') (hx : PAt x (grp B k).2 w') : FI B w0 (up k true b) c (up k x v) u w' := by
  have h := h.on hb
  refine ⟨h.bel, fun j hj e => ?_, h.num, fun e => ?_, h.all⟩
  · by_cases hjk : j = k
    · subst hjk; simp only [up, if_true]; exact hx
    · simp only [up, if_neg hjk] at e ⊢; exact h.ptr j hj e
  · have : ¬ 6 = k := by omega
    simp only [up, if_neg this] at e ⊢
    exact h.row e
theorem FI.called (h : FI B w0 b c v u w) (k : Nat) (hk : k < 6) {x : Value} (hx : NRow w x (grpN B k) w') : FI B w0 b (up k true c) v (up k x u) w' := by
  have h := h.on hx.bel
  refine ⟨h.bel, h.ptr, fun j hj e => ?_, h.row, fun e => ?_⟩
  · by_cases hjk : j = k
    · subst hjk; simp only [up, if_true]; exact hx.at (grp_len B j hk).1
    · simp only [up, if_neg hjk] at e ⊢; exact h.num j hj e
  · have : ¬ 6 = k := by omega
    simp only [up, if_neg this] at e ⊢
    exact h.all e
theorem FI.rows (h : FI B w0 b c v u w) {x : Value} (hb : Below w.heap.size w w') (hx : XAt B x w') : FI B w0 (up 6 true b) c (up 6 x v) u w' := by
  have h := h.on hb
  refine ⟨h.bel, fun j hj e => ?_, h.num, fun e => ?_, h.all⟩
  · have : ¬ j = 6 := by omega
    simp only [up, if_neg this] at e ⊢
    exact h.ptr j hj e
  · simp only [up, if_true]; exact hx
theorem FI.done (h : FI B w0 b c v u w) {x : Value} (hx : NRow w x (fieldsL B) w') : FI B w0 b (up 6 true c) v (up 6 x u) w' := by
  have hb := h.bel
  have h := h.on hx.bel
  refine ⟨h.bel, h.ptr, fun j hj e => ?_, h.row, fun e => ?_⟩
  · have : ¬ j = 6 := by omega
    simp only [up, if_neg this] at e ⊢
    exact h.num j hj e
  · simp only [up, if_true]; exact hx.own hb
end
theorem ready_dep {md : Region.Mode} {ops : Array Oper} {listed : Array Bool} {i : Nat} (hi : i ∈ Region.ready md ops listed) (j : Nat)
    (hj : ((ops[i]?).map fun o => o.after.any fun e => (e.on == j) && Region.binds md e) = some true) : listed.getD j false = true := by
  obtain ⟨-, o, ho, hall⟩ := mem_ready.1 hi
  rw [ho] at hj
  simp only [Option.map_some, Option.some.injEq] at hj
  obtain ⟨k, hk, he⟩ := Array.any_eq_true.1 hj
  simp only [Bool.and_eq_true, beq_iff_eq] at he
  have := hall o.after[k] (Array.getElem_mem hk) he.2
  rwa [he.1] at this
theorem ready_in {md : Region.Mode} {ops : Array Oper} {listed : Array Bool} {i : Nat} (h1 : listed.getD i true = false) (deps : List Nat)
    (h3 : ((ops[i]?).map fun o => o.after.all fun e => deps.contains e.on) = some true) (h4 : ∀ j ∈ deps, listed.getD j false = true) : i ∈ Region.ready md ops listed := by
  cases ho : ops[i]? with
  | none => rw [ho] at h3; cases h3
  | some o =>
    rw [ho] at h3
    simp only [Option.map_some, Option.some.injEq] at h3
    refine mem_ready.2 ⟨h1, o, ho, fun e he _ => h4 _ ?_⟩
    have := Array.all_eq_true_iff_forall_mem.1 h3 e he
    simpa using this
theorem ready_out {md : Region.Mode} {ops : Array Oper} {listed : Array Bool} (hr : Region.ready md ops listed = []) (i : Nat) (h1 : listed.getD i true = false) (deps : List Nat)
    (h3 : ((ops[i]?).map fun o => o.after.all fun e => deps.contains e.on) = some true) (h4 : ∀ j ∈ deps, listed.getD j false = true) : False := by
  have := ready_in (md := md) h1 deps h3 h4
  rw [hr] at this
  cases this
theorem inv_step {P : Program} {ops : Array Oper} {Q : Exit → Act → World → Prop} {R : Act → World → Prop} {i : Nat} {o : Oper} {a : Act} {w : World} (ho : ops[i]? = some o)
    (h : ∀ K' : Act → World → Prop, Shut (∀ a w, R a w → K' a w) → if Region.wanted o (yielded ops a.tmps) = true then Oper.wp P o a w K' Q else K' (a.put o.dst undef) w) : wpOp P ops Q i R a w :=
  wpOp_step ho (fun K' hK => h K' hK)
theorem row_six {g : Nat} {W : World} {u0 u1 u2 u3 u4 u5 : Value} {l0 l1 l2 l3 l4 l5 : List (Bool × Addr)} (hc : ∀ j, (h : j < 6) → W.cell? ⟨g, 0 + j, none⟩ = some [u0, u1, u2, u3, u4, u5][j]) :
    ∀ j, (h : j < [(u0, l0), (u1, l1), (u2, l2), (u3, l3), (u4, l4), (u5, l5)].length) → W.cell? ⟨g, 0 + j, none⟩ = some [(u0, l0), (u1, l1), (u2, l2), (u3, l3), (u4, l4), (u5, l5)][j].1
  | 0, _ => hc 0 (by decide)
  | 1, _ => hc 1 (by decide)
  | 2, _ => hc 2 (by decide)
  | 3, _ => hc 3 (by decide)
  | 4, _ => hc 4 (by decide)
  | 5, _ => hc 5 (by decide)
theorem xat_new {B : Nat} {w : World} {u0 u1 u2 u3 u4 u5 : Value} (n0 : NAt w.heap.size u0 (grpN B 0) w) (n1 : NAt w.heap.size u1 (grpN B 1) w) (n2 : NAt w.heap.size u2 (grpN B 2) w) (n3 : NAt w.heap.size u3 (grpN B 3) w) (n4 : NAt w.heap.size u4 (grpN B 4) w) (n5 : NAt w.heap.size u5 (grpN B 5) w) (T : TypeId) :
    XAt B (.slice (some ⟨w.heap.size, 0, none⟩) 6 6) (w.alloc (.cells #[u0, u1, u2, u3, u4, u5] T)) := by
  have hb := (Below.refl w.heap.size w).alloc (Nat.le_refl _) (.cells #[u0, u1, u2, u3, u4, u5] T)
  refine ⟨_, u0, u1, u2, u3, u4, u5, rfl, by simp, fun j hj => ?_, n0.on hb, n1.on hb, n2.on hb, n3.on hb, n4.on hb, n5.on hb⟩
  rw [Nat.zero_add]
  refine (Blk.new w #[u0, u1, u2, u3, u4, u5] T w.heap.size rfl).cell j ?_
  simp [hj]
def lst (b c : Nat → Bool) (d : Bool) : Array Bool := #[true, true, true, true, true, true, b 0, c 0, true, true, true, true, true, true, b 1, c 1, true, true, true, b 2, c 2, true, true, true, b 3, c 3, true, true, true, true, true, true, true, true, true, b 4, c 4, true, true, true, true, true, true, true, true, true, true, true, true, true, true, true, true, true, true, true, true, true, b 5, c 5, b 6, c 6, d]
theorem which {b c : Nat → Bool} {d : Bool} {i : Nat} (h : (lst b c d).getD i true = false) : i = 6 ∨ i = 7 ∨ i = 14 ∨ i = 15 ∨ i = 19 ∨ i = 20 ∨ i = 24 ∨ i = 25 ∨ i = 35 ∨ i = 36 ∨ i = 58 ∨ i = 59 ∨ i = 60 ∨ i = 61 ∨ i = 62 := by
  have hi : i < 63 := by
    by_cases hi : i < 63
    · exact hi
    · exfalso
      simp [lst, Array.getD, hi] at h
  match i, hi, h with
  | 0, _, h => exact absurd (show true = false from h) (by decide)
  | 1, _, h => exact absurd (show true = false from h) (by decide)
  | 2, _, h => exact absurd (show true = false from h) (by decide)
  | 3, _, h => exact absurd (show true = false from h) (by decide)
  | 4, _, h => exact absurd (show true = false from h) (by decide)
  | 5, _, h => exact absurd (show true = false from h) (by decide)
  | 6, _, _ => simp
  | 7, _, _ => simp
  | 8, _, h => exact absurd (show true = false from h) (by decide)
  | 9, _, h => exact absurd (show true = false from h) (by decide)
  | 10, _, h => exact absurd (show true = false from h) (by decide)
  | 11, _, h => exact absurd (show true = false from h) (by decide)
  | 12, _, h => exact absurd (show true = false from h) (by decide)
  | 13, _, h => exact absurd (show true = false from h) (by decide)
  | 14, _, _ => simp
  | 15, _, _ => simp
  | 16, _, h => exact absurd (show true = false from h) (by decide)
  | 17, _, h => exact absurd (show true = false from h) (by decide)
  | 18, _, h => exact absurd (show true = false from h) (by decide)
  | 19, _, _ => simp
  | 20, _, _ => simp
  | 21, _, h => exact absurd (show true = false from h) (by decide)
  | 22, _, h => exact absurd (show true = false from h) (by decide)
  | 23, _, h => exact absurd (show true = false from h) (by decide)
  | 24, _, _ => simp
  | 25, _, _ => simp
  | 26, _, h => exact absurd (show true = false from h) (by decide)
  | 27, _, h => exact absurd (show true = false from h) (by decide)
  | 28, _, h => exact absurd (show true = false from h) (by decide)
  | 29, _, h => exact absurd (show true = false from h) (by decide)
  | 30, _, h => exact absurd (show true = false from h) (by decide)
  | 31, _, h => exact absurd (show true = false from h) (by decide)
  | 32, _, h => exact absurd (show true = false from h) (by decide)
  | 33, _, h => exact absurd (show true = false from h) (by decide)
  | 34, _, h => exact absurd (show true = false from h) (by decide)
  | 35, _, _ => simp
  | 36, _, _ => simp
  | 37, _, h => exact absurd (show true = false from h) (by decide)
  | 38, _, h => exact absurd (show true = false from h) (by decide)
  | 39, _, h => exact absurd (show true = false from h) (by decide)
  | 40, _, h => exact absurd (show true = false from h) (by decide)
  | 41, _, h => exact absurd (show true = false from h) (by decide)
  | 42, _, h => exact absurd (show true = false from h) (by decide)
  | 43, _, h => exact absurd (show true = false from h) (by decide)
  | 44, _, h => exact absurd (show true = false from h) (by decide)
  | 45, _, h => exact absurd (show true = false from h) (by decide)
  | 46, _, h => exact absurd (show true = false from h) (by decide)
  | 47, _, h => exact absurd (show true = false from h) (by decide)
  | 48, _, h => exact absurd (show true = false from h) (by decide)
  | 49, _, h => exact absurd (show true = false from h) (by decide)
  | 50, _, h => exact absurd (show true = false from h) (by decide)
  | 51, _, h => exact absurd (show true = false from h) (by decide)
  | 52, _, h => exact absurd (show true = false from h) (by decide)
  | 53, _, h => exact absurd (show true = false from h) (by decide)
  | 54, _, h => exact absurd (show true = false from h) (by decide)
  | 55, _, h => exact absurd (show true = false from h) (by decide)
  | 56, _, h => exact absurd (show true = false from h) (by decide)
  | 57, _, h => exact absurd (show true = false from h) (by decide)
  | 58, _, _ => simp
  | 59, _, _ => simp
  | 60, _, _ => simp
  | 61, _, _ => simp
  | 62, _, _ => simp
  | k + 63, hi, _ => omega
def frm (B : Nat) (v u : Nat → Value) (z : Value) : Array Value := #[.pointer (some ⟨B, 0, none⟩), undef, z, .pointer (some ⟨B, 0, none⟩), .pointer (some ⟨B, 0, none⟩), .pointer (some ⟨B, 0, none⟩), .pointer (some ⟨B, 0, none⟩), .pointer (some ⟨B, 0, none⟩), .pointer (some ⟨B, 1, none⟩), v 0, u 0, .pointer (some ⟨B, 0, none⟩), .pointer (some ⟨B, 0, none⟩), .pointer (some ⟨B, 2, none⟩), .pointer (some ⟨B, 0, none⟩), .pointer (some ⟨B, 0, none⟩), .pointer (some ⟨B, 3, none⟩), v 1, u 1, .pointer (some ⟨B, 0, none⟩), .pointer (some ⟨B, 0, none⟩), .pointer (some ⟨B, 4, none⟩), v 2, u 2, .pointer (some ⟨B, 0, none⟩), .pointer (some ⟨B, 0, none⟩), .pointer (some ⟨B, 5, none⟩), v 3, u 3, .pointer (some ⟨B, 0, none⟩), .pointer (some ⟨B, 0, none⟩), .pointer (some ⟨B, 6, none⟩), .pointer (some ⟨B, 0, none⟩), .pointer (some ⟨B, 0, none⟩), .pointer (some ⟨B, 7, none⟩), .pointer (some ⟨B, 0, none⟩), .pointer (some ⟨B, 0, none⟩), .pointer (some ⟨B, 8, none⟩), v 4, u 4, .pointer (some ⟨B, 0, none⟩), .pointer (some ⟨B, 0, none⟩), .pointer (some ⟨B, 9, none⟩), .pointer (some ⟨B, 0, none⟩), .pointer (some ⟨B, 0, none⟩), .pointer (some ⟨B, 10, none⟩), .pointer (some ⟨B, 0, none⟩), .pointer (some ⟨B, 0, none⟩), .pointer (some ⟨B, 11, none⟩), .pointer (some ⟨B, 0, none⟩), .pointer (some ⟨B, 0, none⟩), .pointer (some ⟨B, 12, none⟩), .pointer (some ⟨B, 0, none⟩), .pointer (some ⟨B, 0, none⟩), .pointer (some ⟨B, 13, none⟩), .pointer (some ⟨B, 0, none⟩), .pointer (some ⟨B, 0, none⟩), .pointer (some ⟨B, 14, none⟩), .pointer (some ⟨B, 0, none⟩), .pointer (some ⟨B, 0, none⟩), .pointer (some ⟨B, 15, none⟩), v 5, u 5, v 6, u 6]
set_option maxRecDepth 100000 in
set_option maxHeartbeats 8000000 in
theorem fields_any (B : Nat) (w : World) :
    Calls Tryd.prog 74 #[.pointer (some ⟨B, 0, none⟩)] w fun e w' => ∃ v, e = .returned v ∧ NRow w v (fieldsL B) w' := by
  go_enter Tryd.func74, Tryd.ntmps74
  go_upto_region 1 with fail
  refine wp_region_held_drew (S := (fun _ => True)) (by kernel_rfl) (trivial) (fun hHeld => ?_)
  refine wpAnyH_take (i := 0) (oi := ⟨some 3, _, _, _, _, _⟩) (v := ?_) rfl (by kernel_rfl) (by kernel_rfl) (by kernel_rfl) (fun _ _ _ h => h) (Or.inl ⟨by rfl, ?_⟩) (by assumption) ?_
  rotate_left
  · (intro w hSw; (try dsimp only at hSw); go_simp; (try with_reducible rfl))
  simp only [Act.put, List.setIfInBounds_toArray, List.set_cons_zero, List.set_cons_succ]
  refine wpAnyH_take (i := 1) (oi := ⟨some 4, _, _, _, _, _⟩) (v := ?_) rfl (by kernel_rfl) (by kernel_rfl) (by kernel_rfl) (fun _ _ _ h => h) (Or.inl ⟨by rfl, ?_⟩) (by assumption) ?_
  rotate_left
  · (intro w hSw; (try dsimp only at hSw); go_simp; (try with_reducible rfl))
  simp only [Act.put, List.setIfInBounds_toArray, List.set_cons_zero, List.set_cons_succ]
  refine wpAnyH_take (i := 2) (oi := ⟨some 5, _, _, _, _, _⟩) (v := ?_) rfl (by kernel_rfl) (by kernel_rfl) (by kernel_rfl) (fun _ _ _ h => h) (Or.inl ⟨by rfl, ?_⟩) (by assumption) ?_
  rotate_left
  · (intro w hSw; (try dsimp only at hSw); go_simp; (try with_reducible rfl))
  simp only [Act.put, List.setIfInBounds_toArray, List.set_cons_zero, List.set_cons_succ]
  refine wpAnyH_take (i := 3) (oi := ⟨some 6, _, _, _, _, _⟩) (v := ?_) rfl (by kernel_rfl) (by kernel_rfl) (by kernel_rfl) (fun _ _ _ h => h) (Or.inl ⟨by rfl, ?_⟩) (by assumption) ?_
  rotate_left
  · (intro w hSw; (try dsimp only at hSw); go_simp; (try with_reducible rfl))
  simp only [Act.put, List.setIfInBounds_toArray, List.set_cons_zero, List.set_cons_succ]
  refine wpAnyH_take (i := 4) (oi := ⟨some 7, _, _, _, _, _⟩) (v := ?_) rfl (by kernel_rfl) (by kernel_rfl) (by kernel_rfl) (fun _ _ _ h => h) (Or.inl ⟨by rfl, ?_⟩) (by assumption) ?_
  rotate_left
  · (intro w hSw; (try dsimp only at hSw); go_simp; (try with_reducible rfl))
  simp only [Act.put, List.setIfInBounds_toArray, List.set_cons_zero, List.set_cons_succ]
  refine wpAnyH_take (i := 5) (oi := ⟨some 8, _, _, _, _, _⟩) (v := ?_) rfl (by kernel_rfl) (by kernel_rfl) (by kernel_rfl) (fun _ _ _ h => h) (Or.inl ⟨by rfl, ?_⟩) (by assumption) ?_
  rotate_left
  · (intro w hSw; (try dsimp only at hSw); go_simp; (try with_reducible rfl))
  simp only [Act.put, List.setIfInBounds_toArray, List.set_cons_zero, List.set_cons_succ]
  refine wpAnyH_take (i := 8) (oi := ⟨some 11, _, _, _, _, _⟩) (v := ?_) rfl (by kernel_rfl) (by kernel_rfl) (by kernel_rfl) (fun _ _ _ h => h) (Or.inl ⟨by rfl, ?_⟩) (by assumption) ?_
  rotate_left
  · (intro w hSw; (try dsimp only at hSw); go_simp; (try with_reducible rfl))
  simp only [Act.put, List.setIfInBounds_toArray, List.set_cons_zero, List.set_cons_succ]
  refine wpAnyH_take (i := 9) (oi := ⟨some 12, _, _, _, _, _⟩) (v := ?_) rfl (by kernel_rfl) (by kernel_rfl) (by kernel_rfl) (fun _ _ _ h => h) (Or.inl ⟨by rfl, ?_⟩) (by assumption) ?_
  rotate_left
  · (intro w hSw; (try dsimp only at hSw); go_simp; (try with_reducible rfl))
  simp only [Act.put, List.setIfInBounds_toArray, List.set_cons_zero, List.set_cons_succ]
  refine wpAnyH_take (i := 10) (oi := ⟨some 13, _, _, _, _, _⟩) (v := ?_) rfl (by kernel_rfl) (by kernel_rfl) (by kernel_rfl) (fun _ _ _ h => h) (Or.inl ⟨by rfl, ?_⟩) (by assumption) ?_
  rotate_left
  · (intro w hSw; (try dsimp only at hSw); go_simp; (try with_reducible rfl))
  simp only [Act.put, List.setIfInBounds_toArray, List.set_cons_zero, List.set_cons_succ]
  refine wpAnyH_take (i := 11) (oi := ⟨some 14, _, _, _, _, _⟩) (v := ?_) rfl (by kernel_rfl) (by kernel_rfl) (by kernel_rfl) (fun _ _ _ h => h) (Or.inl ⟨by rfl, ?_⟩) (by assumption) ?_
  rotate_left
  · (intro w hSw; (try dsimp only at hSw); go_simp; (try with_reducible rfl))
  simp only [Act.put, List.setIfInBounds_toArray, List.set_cons_zero, List.set_cons_succ]
  refine wpAnyH_take (i := 12) (oi := ⟨some 15, _, _, _, _, _⟩) (v := ?_) rfl (by kernel_rfl) (by kernel_rfl) (by kernel_rfl) (fun _ _ _ h => h) (Or.inl ⟨by rfl, ?_⟩) (by assumption) ?_
  rotate_left
  · (intro w hSw; (try dsimp only at hSw); go_simp; (try with_reducible rfl))
  simp only [Act.put, List.setIfInBounds_toArray, List.set_cons_zero, List.set_cons_succ]
  refine wpAnyH_take (i := 13) (oi := ⟨some 16, _, _, _, _, _⟩) (v := ?_) rfl (by kernel_rfl) (by kernel_rfl) (by kernel_rfl) (fun _ _ _ h => h) (Or.inl ⟨by rfl, ?_⟩) (by assumption) ?_
  rotate_left
  · (intro w hSw; (try dsimp only at hSw); go_simp; (try with_reducible rfl))
  simp only [Act.put, List.setIfInBounds_toArray, List.set_cons_zero, List.set_cons_succ]
  refine wpAnyH_take (i := 16) (oi := ⟨some 19, _, _, _, _, _⟩) (v := ?_) rfl (by kernel_rfl) (by kernel_rfl) (by kernel_rfl) (fun _ _ _ h => h) (Or.inl ⟨by rfl, ?_⟩) (by assumption) ?_
  rotate_left
  · (intro w hSw; (try dsimp only at hSw); go_simp; (try with_reducible rfl))
  simp only [Act.put, List.setIfInBounds_toArray, List.set_cons_zero, List.set_cons_succ]
  refine wpAnyH_take (i := 17) (oi := ⟨some 20, _, _, _, _, _⟩) (v := ?_) rfl (by kernel_rfl) (by kernel_rfl) (by kernel_rfl) (fun _ _ _ h => h) (Or.inl ⟨by rfl, ?_⟩) (by assumption) ?_
  rotate_left
  · (intro w hSw; (try dsimp only at hSw); go_simp; (try with_reducible rfl))
  simp only [Act.put, List.setIfInBounds_toArray, List.set_cons_zero, List.set_cons_succ]
  refine wpAnyH_take (i := 18) (oi := ⟨some 21, _, _, _, _, _⟩) (v := ?_) rfl (by kernel_rfl) (by kernel_rfl) (by kernel_rfl) (fun _ _ _ h => h) (Or.inl ⟨by rfl, ?_⟩) (by assumption) ?_
  rotate_left
  · (intro w hSw; (try dsimp only at hSw); go_simp; (try with_reducible rfl))
  simp only [Act.put, List.setIfInBounds_toArray, List.set_cons_zero, List.set_cons_succ]
  refine wpAnyH_take (i := 21) (oi := ⟨some 24, _, _, _, _, _⟩) (v := ?_) rfl (by kernel_rfl) (by kernel_rfl) (by kernel_rfl) (fun _ _ _ h => h) (Or.inl ⟨by rfl, ?_⟩) (by assumption) ?_
  rotate_left
  · (intro w hSw; (try dsimp only at hSw); go_simp; (try with_reducible rfl))
  simp only [Act.put, List.setIfInBounds_toArray, List.set_cons_zero, List.set_cons_succ]
  refine wpAnyH_take (i := 22) (oi := ⟨some 25, _, _, _, _, _⟩) (v := ?_) rfl (by kernel_rfl) (by kernel_rfl) (by kernel_rfl) (fun _ _ _ h => h) (Or.inl ⟨by rfl, ?_⟩) (by assumption) ?_
  rotate_left
  · (intro w hSw; (try dsimp only at hSw); go_simp; (try with_reducible rfl))
  simp only [Act.put, List.setIfInBounds_toArray, List.set_cons_zero, List.set_cons_succ]
  refine wpAnyH_take (i := 23) (oi := ⟨some 26, _, _, _, _, _⟩) (v := ?_) rfl (by kernel_rfl) (by kernel_rfl) (by kernel_rfl) (fun _ _ _ h => h) (Or.inl ⟨by rfl, ?_⟩) (by assumption) ?_
  rotate_left
  · (intro w hSw; (try dsimp only at hSw); go_simp; (try with_reducible rfl))
  simp only [Act.put, List.setIfInBounds_toArray, List.set_cons_zero, List.set_cons_succ]
  refine wpAnyH_take (i := 26) (oi := ⟨some 29, _, _, _, _, _⟩) (v := ?_) rfl (by kernel_rfl) (by kernel_rfl) (by kernel_rfl) (fun _ _ _ h => h) (Or.inl ⟨by rfl, ?_⟩) (by assumption) ?_
  rotate_left
  · (intro w hSw; (try dsimp only at hSw); go_simp; (try with_reducible rfl))
  simp only [Act.put, List.setIfInBounds_toArray, List.set_cons_zero, List.set_cons_succ]
  refine wpAnyH_take (i := 27) (oi := ⟨some 30, _, _, _, _, _⟩) (v := ?_) rfl (by kernel_rfl) (by kernel_rfl) (by kernel_rfl) (fun _ _ _ h => h) (Or.inl ⟨by rfl, ?_⟩) (by assumption) ?_
  rotate_left
  · (intro w hSw; (try dsimp only at hSw); go_simp; (try with_reducible rfl))
  simp only [Act.put, List.setIfInBounds_toArray, List.set_cons_zero, List.set_cons_succ]
  refine wpAnyH_take (i := 28) (oi := ⟨some 31, _, _, _, _, _⟩) (v := ?_) rfl (by kernel_rfl) (by kernel_rfl) (by kernel_rfl) (fun _ _ _ h => h) (Or.inl ⟨by rfl, ?_⟩) (by assumption) ?_
  rotate_left
  · (intro w hSw; (try dsimp only at hSw); go_simp; (try with_reducible rfl))
  simp only [Act.put, List.setIfInBounds_toArray, List.set_cons_zero, List.set_cons_succ]
  refine wpAnyH_take (i := 29) (oi := ⟨some 32, _, _, _, _, _⟩) (v := ?_) rfl (by kernel_rfl) (by kernel_rfl) (by kernel_rfl) (fun _ _ _ h => h) (Or.inl ⟨by rfl, ?_⟩) (by assumption) ?_
  rotate_left
  · (intro w hSw; (try dsimp only at hSw); go_simp; (try with_reducible rfl))
  simp only [Act.put, List.setIfInBounds_toArray, List.set_cons_zero, List.set_cons_succ]
  refine wpAnyH_take (i := 30) (oi := ⟨some 33, _, _, _, _, _⟩) (v := ?_) rfl (by kernel_rfl) (by kernel_rfl) (by kernel_rfl) (fun _ _ _ h => h) (Or.inl ⟨by rfl, ?_⟩) (by assumption) ?_
  rotate_left
  · (intro w hSw; (try dsimp only at hSw); go_simp; (try with_reducible rfl))
  simp only [Act.put, List.setIfInBounds_toArray, List.set_cons_zero, List.set_cons_succ]
  refine wpAnyH_take (i := 31) (oi := ⟨some 34, _, _, _, _, _⟩) (v := ?_) rfl (by kernel_rfl) (by kernel_rfl) (by kernel_rfl) (fun _ _ _ h => h) (Or.inl ⟨by rfl, ?_⟩) (by assumption) ?_
  rotate_left
  · (intro w hSw; (try dsimp only at hSw); go_simp; (try with_reducible rfl))
  simp only [Act.put, List.setIfInBounds_toArray, List.set_cons_zero, List.set_cons_succ]
  refine wpAnyH_take (i := 32) (oi := ⟨some 35, _, _, _, _, _⟩) (v := ?_) rfl (by kernel_rfl) (by kernel_rfl) (by kernel_rfl) (fun _ _ _ h => h) (Or.inl ⟨by rfl, ?_⟩) (by assumption) ?_
  rotate_left
  · (intro w hSw; (try dsimp only at hSw); go_simp; (try with_reducible rfl))
  simp only [Act.put, List.setIfInBounds_toArray, List.set_cons_zero, List.set_cons_succ]
  refine wpAnyH_take (i := 33) (oi := ⟨some 36, _, _, _, _, _⟩) (v := ?_) rfl (by kernel_rfl) (by kernel_rfl) (by kernel_rfl) (fun _ _ _ h => h) (Or.inl ⟨by rfl, ?_⟩) (by assumption) ?_
  rotate_left
  · (intro w hSw; (try dsimp only at hSw); go_simp; (try with_reducible rfl))
  simp only [Act.put, List.setIfInBounds_toArray, List.set_cons_zero, List.set_cons_succ]
  refine wpAnyH_take (i := 34) (oi := ⟨some 37, _, _, _, _, _⟩) (v := ?_) rfl (by kernel_rfl) (by kernel_rfl) (by kernel_rfl) (fun _ _ _ h => h) (Or.inl ⟨by rfl, ?_⟩) (by assumption) ?_
  rotate_left
  · (intro w hSw; (try dsimp only at hSw); go_simp; (try with_reducible rfl))
  simp only [Act.put, List.setIfInBounds_toArray, List.set_cons_zero, List.set_cons_succ]
  refine wpAnyH_take (i := 37) (oi := ⟨some 40, _, _, _, _, _⟩) (v := ?_) rfl (by kernel_rfl) (by kernel_rfl) (by kernel_rfl) (fun _ _ _ h => h) (Or.inl ⟨by rfl, ?_⟩) (by assumption) ?_
  rotate_left
  · (intro w hSw; (try dsimp only at hSw); go_simp; (try with_reducible rfl))
  simp only [Act.put, List.setIfInBounds_toArray, List.set_cons_zero, List.set_cons_succ]
  refine wpAnyH_take (i := 38) (oi := ⟨some 41, _, _, _, _, _⟩) (v := ?_) rfl (by kernel_rfl) (by kernel_rfl) (by kernel_rfl) (fun _ _ _ h => h) (Or.inl ⟨by rfl, ?_⟩) (by assumption) ?_
  rotate_left
  · (intro w hSw; (try dsimp only at hSw); go_simp; (try with_reducible rfl))
  simp only [Act.put, List.setIfInBounds_toArray, List.set_cons_zero, List.set_cons_succ]
  refine wpAnyH_take (i := 39) (oi := ⟨some 42, _, _, _, _, _⟩) (v := ?_) rfl (by kernel_rfl) (by kernel_rfl) (by kernel_rfl) (fun _ _ _ h => h) (Or.inl ⟨by rfl, ?_⟩) (by assumption) ?_
  rotate_left
  · (intro w hSw; (try dsimp only at hSw); go_simp; (try with_reducible rfl))
  simp only [Act.put, List.setIfInBounds_toArray, List.set_cons_zero, List.set_cons_succ]
  refine wpAnyH_take (i := 40) (oi := ⟨some 43, _, _, _, _, _⟩) (v := ?_) rfl (by kernel_rfl) (by kernel_rfl) (by kernel_rfl) (fun _ _ _ h => h) (Or.inl ⟨by rfl, ?_⟩) (by assumption) ?_
  rotate_left
  · (intro w hSw; (try dsimp only at hSw); go_simp; (try with_reducible rfl))
  simp only [Act.put, List.setIfInBounds_toArray, List.set_cons_zero, List.set_cons_succ]
  refine wpAnyH_take (i := 41) (oi := ⟨some 44, _, _, _, _, _⟩) (v := ?_) rfl (by kernel_rfl) (by kernel_rfl) (by kernel_rfl) (fun _ _ _ h => h) (Or.inl ⟨by rfl, ?_⟩) (by assumption) ?_
  rotate_left
  · (intro w hSw; (try dsimp only at hSw); go_simp; (try with_reducible rfl))
  simp only [Act.put, List.setIfInBounds_toArray, List.set_cons_zero, List.set_cons_succ]
  refine wpAnyH_take (i := 42) (oi := ⟨some 45, _, _, _, _, _⟩) (v := ?_) rfl (by kernel_rfl) (by kernel_rfl) (by kernel_rfl) (fun _ _ _ h => h) (Or.inl ⟨by rfl, ?_⟩) (by assumption) ?_
  rotate_left
  · (intro w hSw; (try dsimp only at hSw); go_simp; (try with_reducible rfl))
  simp only [Act.put, List.setIfInBounds_toArray, List.set_cons_zero, List.set_cons_succ]
  refine wpAnyH_take (i := 43) (oi := ⟨some 46, _, _, _, _, _⟩) (v := ?_) rfl (by kernel_rfl) (by kernel_rfl) (by kernel_rfl) (fun _ _ _ h => h) (Or.inl ⟨by rfl, ?_⟩) (by assumption) ?_
  rotate_left
  · (intro w hSw; (try dsimp only at hSw); go_simp; (try with_reducible rfl))
  simp only [Act.put, List.setIfInBounds_toArray, List.set_cons_zero, List.set_cons_succ]
  refine wpAnyH_take (i := 44) (oi := ⟨some 47, _, _, _, _, _⟩) (v := ?_) rfl (by kernel_rfl) (by kernel_rfl) (by kernel_rfl) (fun _ _ _ h => h) (Or.inl ⟨by rfl, ?_⟩) (by assumption) ?_
  rotate_left
  · (intro w hSw; (try dsimp only at hSw); go_simp; (try with_reducible rfl))
  simp only [Act.put, List.setIfInBounds_toArray, List.set_cons_zero, List.set_cons_succ]
  refine wpAnyH_take (i := 45) (oi := ⟨some 48, _, _, _, _, _⟩) (v := ?_) rfl (by kernel_rfl) (by kernel_rfl) (by kernel_rfl) (fun _ _ _ h => h) (Or.inl ⟨by rfl, ?_⟩) (by assumption) ?_
  rotate_left
  · (intro w hSw; (try dsimp only at hSw); go_simp; (try with_reducible rfl))
  simp only [Act.put, List.setIfInBounds_toArray, List.set_cons_zero, List.set_cons_succ]
  refine wpAnyH_take (i := 46) (oi := ⟨some 49, _, _, _, _, _⟩) (v := ?_) rfl (by kernel_rfl) (by kernel_rfl) (by kernel_rfl) (fun _ _ _ h => h) (Or.inl ⟨by rfl, ?_⟩) (by assumption) ?_
  rotate_left
  · (intro w hSw; (try dsimp only at hSw); go_simp; (try with_reducible rfl))
  simp only [Act.put, List.setIfInBounds_toArray, List.set_cons_zero, List.set_cons_succ]
  refine wpAnyH_take (i := 47) (oi := ⟨some 50, _, _, _, _, _⟩) (v := ?_) rfl (by kernel_rfl) (by kernel_rfl) (by kernel_rfl) (fun _ _ _ h => h) (Or.inl ⟨by rfl, ?_⟩) (by assumption) ?_
  rotate_left
  · (intro w hSw; (try dsimp only at hSw); go_simp; (try with_reducible rfl))
  simp only [Act.put, List.setIfInBounds_toArray, List.set_cons_zero, List.set_cons_succ]
  refine wpAnyH_take (i := 48) (oi := ⟨some 51, _, _, _, _, _⟩) (v := ?_) rfl (by kernel_rfl) (by kernel_rfl) (by kernel_rfl) (fun _ _ _ h => h) (Or.inl ⟨by rfl, ?_⟩) (by assumption) ?_
  rotate_left
  · (intro w hSw; (try dsimp only at hSw); go_simp; (try with_reducible rfl))
  simp only [Act.put, List.setIfInBounds_toArray, List.set_cons_zero, List.set_cons_succ]
  refine wpAnyH_take (i := 49) (oi := ⟨some 52, _, _, _, _, _⟩) (v := ?_) rfl (by kernel_rfl) (by kernel_rfl) (by kernel_rfl) (fun _ _ _ h => h) (Or.inl ⟨by rfl, ?_⟩) (by assumption) ?_
  rotate_left
  · (intro w hSw; (try dsimp only at hSw); go_simp; (try with_reducible rfl))
  simp only [Act.put, List.setIfInBounds_toArray, List.set_cons_zero, List.set_cons_succ]
  refine wpAnyH_take (i := 50) (oi := ⟨some 53, _, _, _, _, _⟩) (v := ?_) rfl (by kernel_rfl) (by kernel_rfl) (by kernel_rfl) (fun _ _ _ h => h) (Or.inl ⟨by rfl, ?_⟩) (by assumption) ?_
  rotate_left
  · (intro w hSw; (try dsimp only at hSw); go_simp; (try with_reducible rfl))
  simp only [Act.put, List.setIfInBounds_toArray, List.set_cons_zero, List.set_cons_succ]
  refine wpAnyH_take (i := 51) (oi := ⟨some 54, _, _, _, _, _⟩) (v := ?_) rfl (by kernel_rfl) (by kernel_rfl) (by kernel_rfl) (fun _ _ _ h => h) (Or.inl ⟨by rfl, ?_⟩) (by assumption) ?_
  rotate_left
  · (intro w hSw; (try dsimp only at hSw); go_simp; (try with_reducible rfl))
  simp only [Act.put, List.setIfInBounds_toArray, List.set_cons_zero, List.set_cons_succ]
  refine wpAnyH_take (i := 52) (oi := ⟨some 55, _, _, _, _, _⟩) (v := ?_) rfl (by kernel_rfl) (by kernel_rfl) (by kernel_rfl) (fun _ _ _ h => h) (Or.inl ⟨by rfl, ?_⟩) (by assumption) ?_
  rotate_left
  · (intro w hSw; (try dsimp only at hSw); go_simp; (try with_reducible rfl))
  simp only [Act.put, List.setIfInBounds_toArray, List.set_cons_zero, List.set_cons_succ]
  refine wpAnyH_take (i := 53) (oi := ⟨some 56, _, _, _, _, _⟩) (v := ?_) rfl (by kernel_rfl) (by kernel_rfl) (by kernel_rfl) (fun _ _ _ h => h) (Or.inl ⟨by rfl, ?_⟩) (by assumption) ?_
  rotate_left
  · (intro w hSw; (try dsimp only at hSw); go_simp; (try with_reducible rfl))
  simp only [Act.put, List.setIfInBounds_toArray, List.set_cons_zero, List.set_cons_succ]
  refine wpAnyH_take (i := 54) (oi := ⟨some 57, _, _, _, _, _⟩) (v := ?_) rfl (by kernel_rfl) (by kernel_rfl) (by kernel_rfl) (fun _ _ _ h => h) (Or.inl ⟨by rfl, ?_⟩) (by assumption) ?_
  rotate_left
  · (intro w hSw; (try dsimp only at hSw); go_simp; (try with_reducible rfl))
  simp only [Act.put, List.setIfInBounds_toArray, List.set_cons_zero, List.set_cons_succ]
  refine wpAnyH_take (i := 55) (oi := ⟨some 58, _, _, _, _, _⟩) (v := ?_) rfl (by kernel_rfl) (by kernel_rfl) (by kernel_rfl) (fun _ _ _ h => h) (Or.inl ⟨by rfl, ?_⟩) (by assumption) ?_
  rotate_left
  · (intro w hSw; (try dsimp only at hSw); go_simp; (try with_reducible rfl))
  simp only [Act.put, List.setIfInBounds_toArray, List.set_cons_zero, List.set_cons_succ]
  refine wpAnyH_take (i := 56) (oi := ⟨some 59, _, _, _, _, _⟩) (v := ?_) rfl (by kernel_rfl) (by kernel_rfl) (by kernel_rfl) (fun _ _ _ h => h) (Or.inl ⟨by rfl, ?_⟩) (by assumption) ?_
  rotate_left
  · (intro w hSw; (try dsimp only at hSw); go_simp; (try with_reducible rfl))
  simp only [Act.put, List.setIfInBounds_toArray, List.set_cons_zero, List.set_cons_succ]
  refine wpAnyH_take (i := 57) (oi := ⟨some 60, _, _, _, _, _⟩) (v := ?_) rfl (by kernel_rfl) (by kernel_rfl) (by kernel_rfl) (fun _ _ _ h => h) (Or.inl ⟨by rfl, ?_⟩) (by assumption) ?_
  rotate_left
  · (intro w hSw; (try dsimp only at hSw); go_simp; (try with_reducible rfl))
  simp only [Act.put, List.setIfInBounds_toArray, List.set_cons_zero, List.set_cons_succ]
  refine Dag.wpAnyH_inv (fun listed a W => ∃ b c d v u z, listed = lst b c d ∧ a = { tmps := frm B v u z, defers := [] } ∧ FI B w b c v u W ∧ (d = true → c 6 = true ∧ z = u 6)) ?_ ?_ _ _ _ _ (by decide +kernel) ⟨fun _ => false, fun _ => false, false, fun _ => undef, fun _ => undef, .slice none 0 0, by kernel_rfl, by rfl, FI.start.on (Below.refl _ _).drew, fun h => (by cases h)⟩
  · rintro listed a W ⟨b, c, d, v, u, z, rfl, rfl, hI, hz⟩ hr
    have h6 : b 0 = true := by
      cases e : b 0 with
      | true => rfl
      | false =>
        exact (ready_out hr 6 (show (lst b c d).getD 6 true = false from e) [2, 5] (by kernel_rfl) (List.forall_mem_cons.2 ⟨(show (lst b c d).getD 2 false = true from rfl), List.forall_mem_cons.2 ⟨(show (lst b c d).getD 5 false = true from rfl), List.forall_mem_nil _⟩⟩)).elim
    have h7 : c 0 = true := by
      cases e : c 0 with
      | true => rfl
      | false =>
        exact (ready_out hr 7 (show (lst b c d).getD 7 true = false from e) [6] (by kernel_rfl) (List.forall_mem_cons.2 ⟨(show (lst b c d).getD 6 false = true from h6), List.forall_mem_nil _⟩)).elim
    have h14 : b 1 = true := by
      cases e : b 1 with
      | true => rfl
      | false =>
        exact (ready_out hr 14 (show (lst b c d).getD 14 true = false from e) [10, 13] (by kernel_rfl) (List.forall_mem_cons.2 ⟨(show (lst b c d).getD 10 false = true from rfl), List.forall_mem_cons.2 ⟨(show (lst b c d).getD 13 false = true from rfl), List.forall_mem_nil _⟩⟩)).elim
    have h15 : c 1 = true := by
      cases e : c 1 with
      | true => rfl
      | false =>
        exact (ready_out hr 15 (show (lst b c d).getD 15 true = false from e) [7, 14] (by kernel_rfl) (List.forall_mem_cons.2 ⟨(show (lst b c d).getD 7 false = true from h7), List.forall_mem_cons.2 ⟨(show (lst b c d).getD 14 false = true from h14), List.forall_mem_nil _⟩⟩)).elim
    have h19 : b 2 = true := by
      cases e : b 2 with
      | true => rfl
      | false =>
        exact (ready_out hr 19 (show (lst b c d).getD 19 true = false from e) [18] (by kernel_rfl) (List.forall_mem_cons.2 ⟨(show (lst b c d).getD 18 false = true from rfl), List.forall_mem_nil _⟩)).elim
    have h20 : c 2 = true := by
      cases e : c 2 with
      | true => rfl
      | false =>
        exact (ready_out hr 20 (show (lst b c d).getD 20 true = false from e) [15, 19] (by kernel_rfl) (List.forall_mem_cons.2 ⟨(show (lst b c d).getD 15 false = true from h15), List.forall_mem_cons.2 ⟨(show (lst b c d).getD 19 false = true from h19), List.forall_mem_nil _⟩⟩)).elim
    have h24 : b 3 = true := by
      cases e : b 3 with
      | true => rfl
      | false =>
        exact (ready_out hr 24 (show (lst b c d).getD 24 true = false from e) [23] (by kernel_rfl) (List.forall_mem_cons.2 ⟨(show (lst b c d).getD 23 false = true from rfl), List.forall_mem_nil _⟩)).elim
    have h25 : c 3 = true := by
      cases e : c 3 with
      | true => rfl
      | false =>
        exact (ready_out hr 25 (show (lst b c d).getD 25 true = false from e) [20, 24] (by kernel_rfl) (List.forall_mem_cons.2 ⟨(show (lst b c d).getD 20 false = true from h20), List.forall_mem_cons.2 ⟨(show (lst b c d).getD 24 false = true from h24), List.forall_mem_nil _⟩⟩)).elim
    have h35 : b 4 = true := by
      cases e : b 4 with
      | true => rfl
      | false =>
        exact (ready_out hr 35 (show (lst b c d).getD 35 true = false from e) [28, 31, 34] (by kernel_rfl) (List.forall_mem_cons.2 ⟨(show (lst b c d).getD 28 false = true from rfl), List.forall_mem_cons.2 ⟨(show (lst b c d).getD 31 false = true from rfl), List.forall_mem_cons.2 ⟨(show (lst b c d).getD 34 false = true from rfl), List.forall_mem_nil _⟩⟩⟩)).elim
    have h36 : c 4 = true := by
      cases e : c 4 with
      | true => rfl
      | false =>
        exact (ready_out hr 36 (show (lst b c d).getD 36 true = false from e) [25, 35] (by kernel_rfl) (List.forall_mem_cons.2 ⟨(show (lst b c d).getD 25 false = true from h25), List.forall_mem_cons.2 ⟨(show (lst b c d).getD 35 false = true from h35), List.forall_mem_nil _⟩⟩)).elim
    have h58 : b 5 = true := by
      cases e : b 5 with
      | true => rfl
      | false =>
        exact (ready_out hr 58 (show (lst b c d).getD 58 true = false from e) [39, 42, 45, 48, 51, 54, 57] (by kernel_rfl) (List.forall_mem_cons.2 ⟨(show (lst b c d).getD 39 false = true from rfl), List.forall_mem_cons.2 ⟨(show (lst b c d).getD 42 false = true from rfl), List.forall_mem_cons.2 ⟨(show (lst b c d).getD 45 false = true from rfl), List.forall_mem_cons.2 ⟨(show (lst b c d).getD 48 false = true from rfl), List.forall_mem_cons.2 ⟨(show (lst b c d).getD 51 false = true from rfl), List.forall_mem_cons.2 ⟨(show (lst b c d).getD 54 false = true from rfl), List.forall_mem_cons.2 ⟨(show (lst b c d).getD 57 false = true from rfl), List.forall_mem_nil _⟩⟩⟩⟩⟩⟩⟩)).elim
    have h59 : c 5 = true := by
      cases e : c 5 with
      | true => rfl
      | false =>
        exact (ready_out hr 59 (show (lst b c d).getD 59 true = false from e) [36, 58] (by kernel_rfl) (List.forall_mem_cons.2 ⟨(show (lst b c d).getD 36 false = true from h36), List.forall_mem_cons.2 ⟨(show (lst b c d).getD 58 false = true from h58), List.forall_mem_nil _⟩⟩)).elim
    have h60 : b 6 = true := by
      cases e : b 6 with
      | true => rfl
      | false =>
        exact (ready_out hr 60 (show (lst b c d).getD 60 true = false from e) [7, 15, 20, 25, 36, 59] (by kernel_rfl) (List.forall_mem_cons.2 ⟨(show (lst b c d).getD 7 false = true from h7), List.forall_mem_cons.2 ⟨(show (lst b c d).getD 15 false = true from h15), List.forall_mem_cons.2 ⟨(show (lst b c d).getD 20 false = true from h20), List.forall_mem_cons.2 ⟨(show (lst b c d).getD 25 false = true from h25), List.forall_mem_cons.2 ⟨(show (lst b c d).getD 36 false = true from h36), List.forall_mem_cons.2 ⟨(show (lst b c d).getD 59 false = true from h59), List.forall_mem_nil _⟩⟩⟩⟩⟩⟩)).elim
    have h61 : c 6 = true := by
      cases e : c 6 with
      | true => rfl
      | false =>
        exact (ready_out hr 61 (show (lst b c d).getD 61 true = false from e) [59, 60] (by kernel_rfl) (List.forall_mem_cons.2 ⟨(show (lst b c d).getD 59 false = true from h59), List.forall_mem_cons.2 ⟨(show (lst b c d).getD 60 false = true from h60), List.forall_mem_nil _⟩⟩)).elim
    have hd : d = true := by
      cases d with
      | true => rfl
      | false =>
        have e : lst b c false = lst (fun _ => true) (fun _ => true) false := by simp only [lst, h6, h7, h14, h15, h19, h20, h24, h25, h35, h36, h58, h59, h60, h61]
        have hall : ∀ j ∈ List.range 62, (lst (fun _ => true) (fun _ => true) false).getD j false = true := by decide +kernel
        rw [e] at hr
        exact (ready_out hr 62 (show (lst (fun _ => true) (fun _ => true) false).getD 62 true = false from rfl) (List.range 62) (by kernel_rfl) hall).elim
    obtain rfl := (hz hd).2
    have HR := Lib.hid (hI.all h61)
    clear hI hr
    simp only [frm]
    go_wp2_with fail
    go_ret
    exact ⟨_, rfl, HR.out⟩
  · rintro listed a W ⟨b, c, d, v, u, z, rfl, rfl, hI, hz⟩ i hi
    have HI := Lib.hid hI
    have HZ := Lib.hid hz
    have HRD := Lib.hid hi
    clear hI hz hi
    rcases which (mem_ready.1 HRD.out).1 with rfl | rfl | rfl | rfl | rfl | rfl | rfl | rfl | rfl | rfl | rfl | rfl | rfl | rfl | rfl
    · have hp := Lib.hid (show (lst b c d).getD 6 true = false from (mem_ready.1 HRD.out).1)
      clear HRD
      refine inv_step (o := ⟨some 9, _, _, _, _, _⟩) rfl (fun K' hK => ?_)
      simp only [frm]
      go_simp
      exact hK.out _ _ ⟨trivial, up 0 true b, c, d, up 0 _ v, u, z, rfl, rfl, HI.out.built 0 (by decide) ((Below.refl _ _).alloc (Nat.le_refl _) _) (pat_new W (grp B 0).2 _), HZ.out⟩
    · have hp := Lib.hid (show (lst b c d).getD 7 true = false from (mem_ready.1 HRD.out).1)
      have r6 : b 0 = true := ready_dep HRD.out 6 (by kernel_rfl)
      clear HRD
      obtain ⟨g, hv, hg, hc⟩ := HI.out.ptr 0 (by decide) r6
      have HC := Lib.hid (longs_any g 0 (grp B 0).2.length (grp B 0).2 (by simp [grp]) W hg hc)
      refine inv_step (o := ⟨some 10, _, _, _, _, _⟩) rfl (fun K' hK => ?_)
      simp only [frm, hv]
      have HV := Lib.hid hv
      clear hv hc hg
      go_simp
      refine HC.out.mono ?_
      rintro e W' ⟨x, rfl, hrow⟩
      exact hK.out _ _ ⟨trivial, b, up 0 true c, d, v, up 0 x u, z, rfl, by simp only [frm, HV.out]; rfl, HI.out.called 0 (by decide) hrow, HZ.out⟩
    · have hp := Lib.hid (show (lst b c d).getD 14 true = false from (mem_ready.1 HRD.out).1)
      clear HRD
      refine inv_step (o := ⟨some 17, _, _, _, _, _⟩) rfl (fun K' hK => ?_)
      simp only [frm]
      go_simp
      exact hK.out _ _ ⟨trivial, up 1 true b, c, d, up 1 _ v, u, z, rfl, rfl, HI.out.built 1 (by decide) ((Below.refl _ _).alloc (Nat.le_refl _) _) (pat_new W (grp B 1).2 _), HZ.out⟩
    · have hp := Lib.hid (show (lst b c d).getD 15 true = false from (mem_ready.1 HRD.out).1)
      have r7 : c 0 = true := ready_dep HRD.out 7 (by kernel_rfl)
      have r14 : b 1 = true := ready_dep HRD.out 14 (by kernel_rfl)
      clear HRD
      obtain ⟨g, hv, hg, hc⟩ := HI.out.ptr 1 (by decide) r14
      have HC := Lib.hid (shorts_any g 0 (grp B 1).2.length (grp B 1).2 (by simp [grp]) W hg hc)
      refine inv_step (o := ⟨some 18, _, _, _, _, _⟩) rfl (fun K' hK => ?_)
      simp only [frm, hv]
      have HV := Lib.hid hv
      clear hv hc hg
      go_simp
      refine HC.out.mono ?_
      rintro e W' ⟨x, rfl, hrow⟩
      exact hK.out _ _ ⟨trivial, b, up 1 true c, d, v, up 1 x u, z, rfl, by simp only [frm, HV.out]; rfl, HI.out.called 1 (by decide) hrow, HZ.out⟩
    · have hp := Lib.hid (show (lst b c d).getD 19 true = false from (mem_ready.1 HRD.out).1)
      clear HRD
      refine inv_step (o := ⟨some 22, _, _, _, _, _⟩) rfl (fun K' hK => ?_)
      simp only [frm]
      go_simp
      exact hK.out _ _ ⟨trivial, up 2 true b, c, d, up 2 _ v, u, z, rfl, rfl, HI.out.built 2 (by decide) ((Below.refl _ _).alloc (Nat.le_refl _) _) (pat_new W (grp B 2).2 _), HZ.out⟩
    · have hp := Lib.hid (show (lst b c d).getD 20 true = false from (mem_ready.1 HRD.out).1)
      have r15 : c 1 = true := ready_dep HRD.out 15 (by kernel_rfl)
      have r19 : b 2 = true := ready_dep HRD.out 19 (by kernel_rfl)
      clear HRD
      obtain ⟨g, hv, hg, hc⟩ := HI.out.ptr 2 (by decide) r19
      have HC := Lib.hid (longs_any g 0 (grp B 2).2.length (grp B 2).2 (by simp [grp]) W hg hc)
      refine inv_step (o := ⟨some 23, _, _, _, _, _⟩) rfl (fun K' hK => ?_)
      simp only [frm, hv]
      have HV := Lib.hid hv
      clear hv hc hg
      go_simp
      refine HC.out.mono ?_
      rintro e W' ⟨x, rfl, hrow⟩
      exact hK.out _ _ ⟨trivial, b, up 2 true c, d, v, up 2 x u, z, rfl, by simp only [frm, HV.out]; rfl, HI.out.called 2 (by decide) hrow, HZ.out⟩
    · have hp := Lib.hid (show (lst b c d).getD 24 true = false from (mem_ready.1 HRD.out).1)
      clear HRD
      refine inv_step (o := ⟨some 27, _, _, _, _, _⟩) rfl (fun K' hK => ?_)
      simp only [frm]
      go_simp
      exact hK.out _ _ ⟨trivial, up 3 true b, c, d, up 3 _ v, u, z, rfl, rfl, HI.out.built 3 (by decide) ((Below.refl _ _).alloc (Nat.le_refl _) _) (pat_new W (grp B 3).2 _), HZ.out⟩
    · have hp := Lib.hid (show (lst b c d).getD 25 true = false from (mem_ready.1 HRD.out).1)
      have r20 : c 2 = true := ready_dep HRD.out 20 (by kernel_rfl)
      have r24 : b 3 = true := ready_dep HRD.out 24 (by kernel_rfl)
      clear HRD
      obtain ⟨g, hv, hg, hc⟩ := HI.out.ptr 3 (by decide) r24
      have HC := Lib.hid (shorts_any g 0 (grp B 3).2.length (grp B 3).2 (by simp [grp]) W hg hc)
      refine inv_step (o := ⟨some 28, _, _, _, _, _⟩) rfl (fun K' hK => ?_)
      simp only [frm, hv]
      have HV := Lib.hid hv
      clear hv hc hg
      go_simp
      refine HC.out.mono ?_
      rintro e W' ⟨x, rfl, hrow⟩
      exact hK.out _ _ ⟨trivial, b, up 3 true c, d, v, up 3 x u, z, rfl, by simp only [frm, HV.out]; rfl, HI.out.called 3 (by decide) hrow, HZ.out⟩
    · have hp := Lib.hid (show (lst b c d).getD 35 true = false from (mem_ready.1 HRD.out).1)
      clear HRD
      refine inv_step (o := ⟨some 38, _, _, _, _, _⟩) rfl (fun K' hK => ?_)
      simp only [frm]
      go_simp
      exact hK.out _ _ ⟨trivial, up 4 true b, c, d, up 4 _ v, u, z, rfl, rfl, HI.out.built 4 (by decide) ((Below.refl _ _).alloc (Nat.le_refl _) _) (pat_new W (grp B 4).2 _), HZ.out⟩
    · have hp := Lib.hid (show (lst b c d).getD 36 true = false from (mem_ready.1 HRD.out).1)
      have r25 : c 3 = true := ready_dep HRD.out 25 (by kernel_rfl)
      have r35 : b 4 = true := ready_dep HRD.out 35 (by kernel_rfl)
      clear HRD
      obtain ⟨g, hv, hg, hc⟩ := HI.out.ptr 4 (by decide) r35
      have HC := Lib.hid (longs_any g 0 (grp B 4).2.length (grp B 4).2 (by simp [grp]) W hg hc)
      refine inv_step (o := ⟨some 39, _, _, _, _, _⟩) rfl (fun K' hK => ?_)
      simp only [frm, hv]
      have HV := Lib.hid hv
      clear hv hc hg
      go_simp
      refine HC.out.mono ?_
      rintro e W' ⟨x, rfl, hrow⟩
      exact hK.out _ _ ⟨trivial, b, up 4 true c, d, v, up 4 x u, z, rfl, by simp only [frm, HV.out]; rfl, HI.out.called 4 (by decide) hrow, HZ.out⟩
    · have hp := Lib.hid (show (lst b c d).getD 58 true = false from (mem_ready.1 HRD.out).1)
      clear HRD
      refine inv_step (o := ⟨some 61, _, _, _, _, _⟩) rfl (fun K' hK => ?_)
      simp only [frm]
      go_simp
      exact hK.out _ _ ⟨trivial, up 5 true b, c, d, up 5 _ v, u, z, rfl, rfl, HI.out.built 5 (by decide) ((Below.refl _ _).alloc (Nat.le_refl _) _) (pat_new W (grp B 5).2 _), HZ.out⟩
    · have hp := Lib.hid (show (lst b c d).getD 59 true = false from (mem_ready.1 HRD.out).1)
      have r36 : c 4 = true := ready_dep HRD.out 36 (by kernel_rfl)
      have r58 : b 5 = true := ready_dep HRD.out 58 (by kernel_rfl)
      clear HRD
      obtain ⟨g, hv, hg, hc⟩ := HI.out.ptr 5 (by decide) r58
      have HC := Lib.hid (shorts_any g 0 (grp B 5).2.length (grp B 5).2 (by simp [grp]) W hg hc)
      refine inv_step (o := ⟨some 62, _, _, _, _, _⟩) rfl (fun K' hK => ?_)
      simp only [frm, hv]
      have HV := Lib.hid hv
      clear hv hc hg
      go_simp
      refine HC.out.mono ?_
      rintro e W' ⟨x, rfl, hrow⟩
      exact hK.out _ _ ⟨trivial, b, up 5 true c, d, v, up 5 x u, z, rfl, by simp only [frm, HV.out]; rfl, HI.out.called 5 (by decide) hrow, HZ.out⟩
    · have hp := Lib.hid (show (lst b c d).getD 60 true = false from (mem_ready.1 HRD.out).1)
      have r7 : c 0 = true := ready_dep HRD.out 7 (by kernel_rfl)
      have r15 : c 1 = true := ready_dep HRD.out 15 (by kernel_rfl)
      have r20 : c 2 = true := ready_dep HRD.out 20 (by kernel_rfl)
      have r25 : c 3 = true := ready_dep HRD.out 25 (by kernel_rfl)
      have r36 : c 4 = true := ready_dep HRD.out 36 (by kernel_rfl)
      have r59 : c 5 = true := ready_dep HRD.out 59 (by kernel_rfl)
      clear HRD
      have N0 := HI.out.num 0 (by decide) r7
      obtain ⟨g0, q0, hu0, -⟩ := id N0
      rw [hu0] at N0
      replace N0 := Lib.hid N0
      have N1 := HI.out.num 1 (by decide) r15
      obtain ⟨g1, q1, hu1, -⟩ := id N1
      rw [hu1] at N1
      replace N1 := Lib.hid N1
      have N2 := HI.out.num 2 (by decide) r20
      obtain ⟨g2, q2, hu2, -⟩ := id N2
      rw [hu2] at N2
      replace N2 := Lib.hid N2
      have N3 := HI.out.num 3 (by decide) r25
      obtain ⟨g3, q3, hu3, -⟩ := id N3
      rw [hu3] at N3
      replace N3 := Lib.hid N3
      have N4 := HI.out.num 4 (by decide) r36
      obtain ⟨g4, q4, hu4, -⟩ := id N4
      rw [hu4] at N4
      replace N4 := Lib.hid N4
      have N5 := HI.out.num 5 (by decide) r59
      obtain ⟨g5, q5, hu5, -⟩ := id N5
      rw [hu5] at N5
      replace N5 := Lib.hid N5
      refine inv_step (o := ⟨some 63, _, _, _, _, _⟩) rfl (fun K' hK => ?_)
      simp only [frm, hu0, hu1, hu2, hu3, hu4, hu5]
      have HU := Lib.hid (And.intro hu0 (And.intro hu1 (And.intro hu2 (And.intro hu3 (And.intro hu4 hu5)))))
      clear hu0 hu1 hu2 hu3 hu4 hu5
      go_simp
      exact hK.out _ _ ⟨trivial, up 6 true b, c, d, up 6 _ v, u, z, rfl, by obtain ⟨h0, h1, h2, h3, h4, h5⟩ := HU.out; simp only [frm, h0, h1, h2, h3, h4, h5]; rfl, HI.out.rows ((Below.refl _ _).alloc (Nat.le_refl _) _) (xat_new N0.out N1.out N2.out N3.out N4.out N5.out _), HZ.out⟩
    · have hp := Lib.hid (show (lst b c d).getD 61 true = false from (mem_ready.1 HRD.out).1)
      have r59 : c 5 = true := ready_dep HRD.out 59 (by kernel_rfl)
      have r60 : b 6 = true := ready_dep HRD.out 60 (by kernel_rfl)
      clear HRD
      obtain ⟨g, u0, u1, u2, u3, u4, u5, hv, hg, hc, n0, n1, n2, n3, n4, n5⟩ := HI.out.row r60
      have HC := Lib.hid (concat_any g 0 6 [(u0, grpN B 0), (u1, grpN B 1), (u2, grpN B 2), (u3, grpN B 3), (u4, grpN B 4), (u5, grpN B 5)] (by simp) (by simp) W hg (row_six hc) (by
        intro x hx
        simp only [List.mem_cons, List.not_mem_nil, or_false] at hx
        rcases hx with rfl | rfl | rfl | rfl | rfl | rfl
        · exact ⟨n0, grp_len B 0 (by decide)⟩
        · exact ⟨n1, grp_len B 1 (by decide)⟩
        · exact ⟨n2, grp_len B 2 (by decide)⟩
        · exact ⟨n3, grp_len B 3 (by decide)⟩
        · exact ⟨n4, grp_len B 4 (by decide)⟩
        · exact ⟨n5, grp_len B 5 (by decide)⟩))
      refine inv_step (o := ⟨some 64, _, _, _, _, _⟩) rfl (fun K' hK => ?_)
      simp only [frm, hv]
      have HV := Lib.hid hv
      clear hv hc hg n0 n1 n2 n3 n4 n5
      go_simp
      refine HC.out.mono ?_
      rintro e W' ⟨x, rfl, hrow⟩
      exact hK.out _ _ ⟨trivial, b, up 6 true c, d, v, up 6 x u, z, rfl, by simp only [frm, HV.out]; rfl, HI.out.done (by simpa [fieldsL] using hrow), fun h => absurd (HZ.out h).1 (by rw [show c 6 = false from hp.out]; decide)⟩
    · have hp := Lib.hid (show (lst b c d).getD 62 true = false from (mem_ready.1 HRD.out).1)
      have r61 : c 6 = true := ready_dep HRD.out 61 (by kernel_rfl)
      clear HRD
      refine inv_step (o := ⟨some 2, _, _, _, _, _⟩) rfl (fun K' hK => ?_)
      simp only [frm]
      go_simp
      exact hK.out _ _ ⟨trivial, b, c, true, v, u, u 6, rfl, rfl, HI.out, fun _ => ⟨r61, rfl⟩⟩
end Go.Proofs.YtmkcooamgojbpaaDoor.Sheet

/- sheet.head: the first three parts of a configuration. -/
namespace Go.Proofs.YtmkcooamgojbpaaDoor.Sheet
open Go.Proofs Go.RowKit Go.Proofs.YtmkcooamgojbpaaDoor.Kit Go.Proofs.YtmkcooamgojbpaaDoor.Blk Go.Proofs.YtmkcooamgojbpaaDoor.Words Go.Proofs.YtmkcooamgojbpaaDoor.Octets Go.Proofs.YtmkcooamgojbpaaDoor.Lines
attribute [local go_sem ↓] Go.wp_at_zero Go.wp_at_succ
set_option linter.unusedVariables false

def hgrp : Nat → List (Bool × Nat)
  | 0 => [(true, 2)]
  | 1 => [(false, 3), (false, 4), (false, 5)]
  | 2 => [(true, 6), (true, 7)]
  | _ => []
def hlong : Nat → Bool
  | 1 => false
  | _ => true
def hps (B k : Nat) : List Addr := (hgrp k).map fun x => ⟨B, x.2, none⟩
def hword : Nat → Txt
  | 0 => wIndex
  | 1 => wFalls
  | _ => wHalts
theorem hps_at (B k : Nat) (h : k < 3) : (hps B k).map (fun p => (hlong k, p)) = atB B (hgrp k) := by
  have : k = 0 ∨ k = 1 ∨ k = 2 := by omega
  rcases this with rfl | rfl | rfl <;> rfl
theorem hgrp_len (k : Nat) (h : k < 3) : 0 < (hgrp k).length ∧ (hgrp k).length ≤ 100 := by
  have : k = 0 ∨ k = 1 ∨ k = 2 := by omega
  rcases this with rfl | rfl | rfl <;> decide
theorem hps_len (B k : Nat) : (hps B k).length = (hgrp k).length := by simp [hps]
theorem atB_len (B : Nat) (q : List (Bool × Nat)) : (atB B q).length = q.length := by simp [atB]
def partA (k : Nat) (v : Value) : Value := .agg #[.string (strB (hword k)), v]
def headA (u : Nat → Value) : Array Value := #[.string (strB wIndex), u 0, .string (strB wFalls), u 1, .string (strB wHalts), u 2]
def hzero : Array Value := #[.string ⟨#[]⟩, .slice none 0 0, .string ⟨#[]⟩, .slice none 0 0, .string ⟨#[]⟩, .slice none 0 0]
/-- What holds between two operations. -/
structure HI (B : Nat) (w0 : World) (R : Nat) (b c m : Nat → Bool) (d : Bool) (v u q : Nat → Value) (w : World) : Prop where
  bel : Below w0.heap.size w0 w
  ptr : ∀ k, k < 3 → b k = true → PAt (v k) (hps B k) w
  num : ∀ k, k < 3 → c k = true → NAt w.heap.size (u k) (atB B (hgrp k)) w
  par : ∀ k, k < 3 → m k = true → q k = partA k (u k) ∧ c k = true
  row : m 3 = true → q 3 = .agg (headA u) ∧ ∀ k, k < 3 → c k = true
  res : if d = true then Blk w R (headA u) 129 ∧ (∀ k, k < 3 → c k = true) else Blk w R hzero 129
section
variable {B R : Nat} {w0 w w' : World} {b c m : Nat → Bool} {d : Bool} {v u q : Nat → Value}
theorem HI.on (h : HI B w0 R b c m d v u q w) (hb : Below w.heap.size w w') : HI B w0 R b c m d v u q w' :=
  ⟨h.bel.trans (hb.mono h.bel.size), fun k hk e => (h.ptr k hk e).below hb, fun k hk e => (h.num k hk e).on hb, h.par, h.row, by
    have := h.res
    by_cases e : d = true
    · rw [if_pos e] at this ⊢; exact ⟨this.1.below hb this.1.lt, this.2⟩
    · rw [if_neg e] at this ⊢; exact this.below hb this.lt⟩
theorem HI.built (h : HI B w0 R b c m d v u q w) (k : Nat) (hk : k < 3) {x : Value} (hb : Below w.heap.size w w') (hx : PAt x (hps B k) w') : HI B w0 R (up k true b) c m d (up k x v) u q w' := by
  have h := h.on hb
  refine ⟨h.bel, fun j hj e => ?_, h.num, h.par, h.row, h.res⟩
  by_cases hjk : j = k
  · subst hjk; simp only [up, if_true]; exact hx
  · simp only [up, if_neg hjk] at e ⊢; exact h.ptr j hj e
theorem HI.called (h : HI B w0 R b c m d v u q w) (k : Nat) (hk : k < 3) (hc : c k = false) {x : Value} (hx : NRow w x (atB B (hgrp k)) w') : HI B w0 R b (up k true c) m d v (up k x u) q w' := by
  have h := h.on hx.bel
  have hne : ∀ j, c j = true → j ≠ k := fun j hj e => by rw [e, hc] at hj; cases hj
  have hal : (∀ j, j < 3 → c j = true) → False := fun ha => by rw [ha k hk] at hc; cases hc
  refine ⟨h.bel, h.ptr, fun j hj e => ?_, fun j hj e => ?_, fun e => (hal (h.row e).2).elim, ?_⟩
  · by_cases hjk : j = k
    · subst hjk; simp only [up, if_true]; exact hx.at (by rw [atB_len]; exact (hgrp_len j hk).1)
    · simp only [up, if_neg hjk] at e ⊢; exact h.num j hj e
  · obtain ⟨h1, h2⟩ := h.par j hj e
    simp only [up, if_neg (hne j h2)]
    exact ⟨h1, h2⟩
  · have hr := h.res
    by_cases e : d = true
    · rw [if_pos e] at hr; exact (hal hr.2).elim
    · rw [if_neg e] at hr ⊢; exact hr
theorem HI.part (h : HI B w0 R b c m d v u q w) (k : Nat) (hk : k < 3) (hc : c k = true) : HI B w0 R b c (up k true m) d v u (up k (partA k (u k)) q) w := by
  have h3 : ¬ 3 = k := by omega
  refine ⟨h.bel, h.ptr, h.num, fun j hj e => ?_, fun e => ?_, h.res⟩
  · by_cases hjk : j = k
    · subst hjk; simp only [up, if_true]; exact ⟨trivial, hc⟩
    · simp only [up, if_neg hjk] at e ⊢; exact h.par j hj e
  · simp only [up, if_neg h3] at e ⊢
    exact h.row e
theorem HI.parts (h : HI B w0 R b c m d v u q w) (hm : ∀ k, k < 3 → m k = true) : HI B w0 R b c (up 3 true m) d v u (up 3 (.agg (headA u)) q) w := by
  refine ⟨h.bel, h.ptr, h.num, fun j hj e => ?_, fun e => ?_, h.res⟩
  · have : ¬ j = 3 := by omega
    simp only [up, if_neg this] at e ⊢
    exact h.par j hj e
  · simp only [up, if_true]; exact ⟨trivial, fun k hk => (h.par k hk (hm k hk)).2⟩
theorem HI.stored (h : HI B w0 R b c m d v u q w) (hR : w0.heap.size ≤ R) (hn : ∀ k, k < 3 → b k = true → PAt (v k) (hps B k) w') (hu : ∀ k, k < 3 → c k = true → NAt w'.heap.size (u k) (atB B (hgrp k)) w') (hc : ∀ k, k < 3 → c k = true)
    (hb : Below w0.heap.size w0 w') (hr : Blk w' R (headA u) 129) : HI B w0 R b c m true v u q w' :=
  ⟨hb, hn, hu, h.par, h.row, by rw [if_pos rfl]; exact ⟨hr, hc⟩⟩
end
theorem cells_far {g R o : Nat} (hg : g ≠ R) : ∀ (vs : List Value) (i : Nat) (W : World), (W.setCells R i vs).cell? ⟨g, o, none⟩ = W.cell? ⟨g, o, none⟩
  | [], _, _ => rfl
  | x :: vs, i, W => by
    rw [show W.setCells R i (x :: vs) = (W.setCell ⟨R, i, none⟩ x).setCells R (i + 1) vs from rfl, cells_far hg vs (i + 1)]
    exact World.cell?_of_block (Below.heap_setCell _ _ _ _ hg)
theorem cells_size {R : Nat} : ∀ (vs : List Value) (i : Nat) (W : World), (W.setCells R i vs).heap.size = W.heap.size
  | [], _, _ => rfl
  | x :: vs, i, W => by
    rw [show W.setCells R i (x :: vs) = (W.setCell ⟨R, i, none⟩ x).setCells R (i + 1) vs from rfl, cells_size vs (i + 1)]
    simp [World.setCell]
theorem ptr_ne {w : World} {R g : Nat} {T : TypeId} {z : Option Addr} (hR : Blk w R hzero T) (h : w.cell? ⟨g, 0, none⟩ = some (.pointer z)) : g ≠ R := by
  rintro rfl
  rw [hR.cell 0 (v := .string ⟨#[]⟩) rfl] at h
  cases h
theorem PAt.cells {v : Value} {ps : List Addr} {w : World} {R : Nat} {T : TypeId} (h : PAt v ps w) (h0 : 0 < ps.length) (hR : Blk w R hzero T) (vs : List Value) : PAt v ps (w.setCells R 0 vs) := by
  obtain ⟨g, h1, h2, h3⟩ := h
  have hg : g ≠ R := ptr_ne hR (h3 0 h0)
  exact ⟨g, h1, by rw [cells_size]; exact h2, fun j hj => by rw [cells_far hg]; exact h3 j hj⟩
theorem NAt.cells {v : Value} {l : List (Bool × Addr)} {w : World} {R : Nat} {T : TypeId} (h : NAt w.heap.size v l w) (h0 : 0 < l.length) (hR : Blk w R hzero T) (vs : List Value) : NAt (w.setCells R 0 vs).heap.size v l (w.setCells R 0 vs) := by
  obtain ⟨g, c, h1, h2, h3⟩ := h
  have hg : g ≠ R := by
    cases l with
    | nil => simp at h0
    | cons y q =>
      obtain ⟨u, hu, z, rfl⟩ : ∃ u, (numL (y :: q))[0]? = some u ∧ ∃ z, u = .pointer z := by
        simp only [numL, List.flatMap_cons, numC]
        split <;> exact ⟨_, rfl, _, rfl⟩
      exact ptr_ne hR (h3 0 _ hu)
  exact ⟨g, c, h1, by rw [cells_size]; exact h2, fun j u hu => by rw [cells_far hg]; exact h3 j u hu⟩
def hlst (b c m : Nat → Bool) (d : Bool) : Array Bool := #[true, true, true, b 0, c 0, m 0, true, true, true, true, true, true, true, true, true, true, true, true, b 1, c 1, m 1, true, true, true, true, true, true, true, true, b 2, c 2, m 2, m 3, d]
theorem hwhich {b c m : Nat → Bool} {d : Bool} {i : Nat} (h : (hlst b c m d).getD i true = false) : i = 3 ∨ i = 4 ∨ i = 5 ∨ i = 18 ∨ i = 19 ∨ i = 20 ∨ i = 29 ∨ i = 30 ∨ i = 31 ∨ i = 32 ∨ i = 33 := by
  have hi : i < 34 := by
    by_cases hi : i < 34
    · exact hi
    · exfalso
      simp [hlst, Array.getD, hi] at h
  match i, hi, h with
  | 0, _, h => exact absurd (show true = false from h) (by decide)
  | 1, _, h => exact absurd (show true = false from h) (by decide)
  | 2, _, h => exact absurd (show true = false from h) (by decide)
  | 3, _, _ => simp
  | 4, _, _ => simp
  | 5, _, _ => simp
  | 6, _, h => exact absurd (show true = false from h) (by decide)
  | 7, _, h => exact absurd (show true = false from h) (by decide)
  | 8, _, h => exact absurd (show true = false from h) (by decide)
  | 9, _, h => exact absurd (show true = false from h) (by decide)
  | 10, _, h => exact absurd (show true = false from h) (by decide)
  | 11, _, h => exact absurd (show true = false from h) (by decide)
  | 12, _, h => exact absurd (show true = false from h) (by decide)
  | 13, _, h => exact absurd (show true = false from h) (by decide)
  | 14, _, h => exact absurd (show true = false from h) (by decide)
  | 15, _, h => exact absurd (show true = false from h) (by decide)
  | 16, _, h => exact absurd (show true = false from h) (by decide)
  | 17, _, h => exact absurd (show true = false from h) (by decide)
  | 18, _, _ => simp
  | 19, _, _ => simp
  | 20, _, _ => simp
  | 21, _, h => exact absurd (show true = false from h) (by decide)
  | 22, _, h => exact absurd (show true = false from h) (by decide)
  | 23, _, h => exact absurd (show true = false from h) (by decide)
  | 24, _, h => exact absurd (show true = false from h) (by decide)
  | 25, _, h => exact absurd (show true = false from h) (by decide)
  | 26, _, h => exact absurd (show true = false from h) (by decide)
  | 27, _, h => exact absurd (show true = false from h) (by decide)
  | 28, _, h => exact absurd (show true = false from h) (by decide)
  | 29, _, _ => simp
  | 30, _, _ => simp
  | 31, _, _ => simp
  | 32, _, _ => simp
  | 33, _, _ => simp
  | k + 34, hi, _ => omega
def hfrm (B R : Nat) (v u q : Nat → Value) : Array Value := #[.pointer (some ⟨B, 0, none⟩), undef, .pointer (some ⟨R, 0, none⟩), .pointer (some ⟨B, 0, none⟩), .pointer (some ⟨B, 0, none⟩), .pointer (some ⟨B, 2, none⟩), v 0, u 0, q 0, .pointer (some ⟨B, 0, none⟩), .pointer (some ⟨B, 0, none⟩), .pointer (some ⟨B, 3, none⟩), .pointer (some ⟨B, 3, none⟩), .pointer (some ⟨B, 0, none⟩), .pointer (some ⟨B, 0, none⟩), .pointer (some ⟨B, 3, none⟩), .pointer (some ⟨B, 4, none⟩), .pointer (some ⟨B, 0, none⟩), .pointer (some ⟨B, 0, none⟩), .pointer (some ⟨B, 3, none⟩), .pointer (some ⟨B, 5, none⟩), v 1, u 1, q 1, .pointer (some ⟨B, 0, none⟩), .pointer (some ⟨B, 0, none⟩), .pointer (some ⟨B, 6, none⟩), .pointer (some ⟨B, 6, none⟩), .pointer (some ⟨B, 0, none⟩), .pointer (some ⟨B, 0, none⟩), .pointer (some ⟨B, 6, none⟩), .pointer (some ⟨B, 7, none⟩), v 2, u 2, q 2, q 3]
theorem heval {B R : Nat} {v u q : Nat → Value} {x : Value} (h : q 3 = x) : Act.eval { tmps := hfrm B R v u q, defers := [] } (.tmp 35) = x := h
set_option maxRecDepth 100000 in
set_option maxHeartbeats 8000000 in
theorem head_any (B : Nat) (w : World) :
    Calls Tryd.prog 85 #[.pointer (some ⟨B, 0, none⟩)] w fun e w' => ∃ u : Nat → Value, e = .returned (.agg (headA u)) ∧ (∀ k, k < 3 → NAt w'.heap.size (u k) (atB B (hgrp k)) w') ∧ Below w.heap.size w w' := by
  have HX := Lib.hid (Blk.new w hzero 129 w.heap.size rfl)
  have HB := Lib.hid ((Below.refl w.heap.size w).alloc (Nat.le_refl _) (.cells hzero 129))
  go_enter Tryd.func85, Tryd.ntmps85
  go_upto_region 1 with fail
  change Code.wp _ _ _ _ (w.alloc (.cells hzero 129))
  generalize w.alloc (.cells hzero 129) = w1 at HX HB ⊢
  refine wp_region_held_drew (S := (fun _ => True)) (by kernel_rfl) (trivial) (fun hHeld => ?_)
  refine wpAnyH_take (i := 0) (oi := ⟨some 3, _, _, _, _, _⟩) (v := ?_) rfl (by kernel_rfl) (by kernel_rfl) (by kernel_rfl) (fun _ _ _ h => h) (Or.inl ⟨by rfl, ?_⟩) (by assumption) ?_
  rotate_left
  · (intro w hSw; (try dsimp only at hSw); go_simp; (try with_reducible rfl))
  simp only [Act.put, List.setIfInBounds_toArray, List.set_cons_zero, List.set_cons_succ]
  refine wpAnyH_take (i := 1) (oi := ⟨some 4, _, _, _, _, _⟩) (v := ?_) rfl (by kernel_rfl) (by kernel_rfl) (by kernel_rfl) (fun _ _ _ h => h) (Or.inl ⟨by rfl, ?_⟩) (by assumption) ?_
  rotate_left
  · (intro w hSw; (try dsimp only at hSw); go_simp; (try with_reducible rfl))
  simp only [Act.put, List.setIfInBounds_toArray, List.set_cons_zero, List.set_cons_succ]
  refine wpAnyH_take (i := 2) (oi := ⟨some 5, _, _, _, _, _⟩) (v := ?_) rfl (by kernel_rfl) (by kernel_rfl) (by kernel_rfl) (fun _ _ _ h => h) (Or.inl ⟨by rfl, ?_⟩) (by assumption) ?_
  rotate_left
  · (intro w hSw; (try dsimp only at hSw); go_simp; (try with_reducible rfl))
  simp only [Act.put, List.setIfInBounds_toArray, List.set_cons_zero, List.set_cons_succ]
  refine wpAnyH_take (i := 6) (oi := ⟨some 9, _, _, _, _, _⟩) (v := ?_) rfl (by kernel_rfl) (by kernel_rfl) (by kernel_rfl) (fun _ _ _ h => h) (Or.inl ⟨by rfl, ?_⟩) (by assumption) ?_
  rotate_left
  · (intro w hSw; (try dsimp only at hSw); go_simp; (try with_reducible rfl))
  simp only [Act.put, List.setIfInBounds_toArray, List.set_cons_zero, List.set_cons_succ]
  refine wpAnyH_take (i := 7) (oi := ⟨some 10, _, _, _, _, _⟩) (v := ?_) rfl (by kernel_rfl) (by kernel_rfl) (by kernel_rfl) (fun _ _ _ h => h) (Or.inl ⟨by rfl, ?_⟩) (by assumption) ?_
  rotate_left
  · (intro w hSw; (try dsimp only at hSw); go_simp; (try with_reducible rfl))
  simp only [Act.put, List.setIfInBounds_toArray, List.set_cons_zero, List.set_cons_succ]
  refine wpAnyH_take (i := 8) (oi := ⟨some 11, _, _, _, _, _⟩) (v := ?_) rfl (by kernel_rfl) (by kernel_rfl) (by kernel_rfl) (fun _ _ _ h => h) (Or.inl ⟨by rfl, ?_⟩) (by assumption) ?_
  rotate_left
  · (intro w hSw; (try dsimp only at hSw); go_simp; (try with_reducible rfl))
  simp only [Act.put, List.setIfInBounds_toArray, List.set_cons_zero, List.set_cons_succ]
  refine wpAnyH_take (i := 9) (oi := ⟨some 12, _, _, _, _, _⟩) (v := ?_) rfl (by kernel_rfl) (by kernel_rfl) (by kernel_rfl) (fun _ _ _ h => h) (Or.inl ⟨by rfl, ?_⟩) (by assumption) ?_
  rotate_left
  · (intro w hSw; (try dsimp only at hSw); go_simp; (try with_reducible rfl))
  simp only [Act.put, List.setIfInBounds_toArray, List.set_cons_zero, List.set_cons_succ]
  refine wpAnyH_take (i := 10) (oi := ⟨some 13, _, _, _, _, _⟩) (v := ?_) rfl (by kernel_rfl) (by kernel_rfl) (by kernel_rfl) (fun _ _ _ h => h) (Or.inl ⟨by rfl, ?_⟩) (by assumption) ?_
  rotate_left
  · (intro w hSw; (try dsimp only at hSw); go_simp; (try with_reducible rfl))
  simp only [Act.put, List.setIfInBounds_toArray, List.set_cons_zero, List.set_cons_succ]
  refine wpAnyH_take (i := 11) (oi := ⟨some 14, _, _, _, _, _⟩) (v := ?_) rfl (by kernel_rfl) (by kernel_rfl) (by kernel_rfl) (fun _ _ _ h => h) (Or.inl ⟨by rfl, ?_⟩) (by assumption) ?_
  rotate_left
  · (intro w hSw; (try dsimp only at hSw); go_simp; (try with_reducible rfl))
  simp only [Act.put, List.setIfInBounds_toArray, List.set_cons_zero, List.set_cons_succ]
  refine wpAnyH_take (i := 12) (oi := ⟨some 15, _, _, _, _, _⟩) (v := ?_) rfl (by kernel_rfl) (by kernel_rfl) (by kernel_rfl) (fun _ _ _ h => h) (Or.inl ⟨by rfl, ?_⟩) (by assumption) ?_
  rotate_left
  · (intro w hSw; (try dsimp only at hSw); go_simp; (try with_reducible rfl))
  simp only [Act.put, List.setIfInBounds_toArray, List.set_cons_zero, List.set_cons_succ]
  refine wpAnyH_take (i := 13) (oi := ⟨some 16, _, _, _, _, _⟩) (v := ?_) rfl (by kernel_rfl) (by kernel_rfl) (by kernel_rfl) (fun _ _ _ h => h) (Or.inl ⟨by rfl, ?_⟩) (by assumption) ?_
  rotate_left
  · (intro w hSw; (try dsimp only at hSw); go_simp; (try with_reducible rfl))
  simp only [Act.put, List.setIfInBounds_toArray, List.set_cons_zero, List.set_cons_succ]
  refine wpAnyH_take (i := 14) (oi := ⟨some 17, _, _, _, _, _⟩) (v := ?_) rfl (by kernel_rfl) (by kernel_rfl) (by kernel_rfl) (fun _ _ _ h => h) (Or.inl ⟨by rfl, ?_⟩) (by assumption) ?_
  rotate_left
  · (intro w hSw; (try dsimp only at hSw); go_simp; (try with_reducible rfl))
  simp only [Act.put, List.setIfInBounds_toArray, List.set_cons_zero, List.set_cons_succ]
  refine wpAnyH_take (i := 15) (oi := ⟨some 18, _, _, _, _, _⟩) (v := ?_) rfl (by kernel_rfl) (by kernel_rfl) (by kernel_rfl) (fun _ _ _ h => h) (Or.inl ⟨by rfl, ?_⟩) (by assumption) ?_
  rotate_left
  · (intro w hSw; (try dsimp only at hSw); go_simp; (try with_reducible rfl))
  simp only [Act.put, List.setIfInBounds_toArray, List.set_cons_zero, List.set_cons_succ]
  refine wpAnyH_take (i := 16) (oi := ⟨some 19, _, _, _, _, _⟩) (v := ?_) rfl (by kernel_rfl) (by kernel_rfl) (by kernel_rfl) (fun _ _ _ h => h) (Or.inl ⟨by rfl, ?_⟩) (by assumption) ?_
  rotate_left
  · (intro w hSw; (try dsimp only at hSw); go_simp; (try with_reducible rfl))
  simp only [Act.put, List.setIfInBounds_toArray, List.set_cons_zero, List.set_cons_succ]
  refine wpAnyH_take (i := 17) (oi := ⟨some 20, _, _, _, _, _⟩) (v := ?_) rfl (by kernel_rfl) (by kernel_rfl) (by kernel_rfl) (fun _ _ _ h => h) (Or.inl ⟨by rfl, ?_⟩) (by assumption) ?_
  rotate_left
  · (intro w hSw; (try dsimp only at hSw); go_simp; (try with_reducible rfl))
  simp only [Act.put, List.setIfInBounds_toArray, List.set_cons_zero, List.set_cons_succ]
  refine wpAnyH_take (i := 21) (oi := ⟨some 24, _, _, _, _, _⟩) (v := ?_) rfl (by kernel_rfl) (by kernel_rfl) (by kernel_rfl) (fun _ _ _ h => h) (Or.inl ⟨by rfl, ?_⟩) (by assumption) ?_
  rotate_left
  · (intro w hSw; (try dsimp only at hSw); go_simp; (try with_reducible rfl))
  simp only [Act.put, List.setIfInBounds_toArray, List.set_cons_zero, List.set_cons_succ]
  refine wpAnyH_take (i := 22) (oi := ⟨some 25, _, _, _, _, _⟩) (v := ?_) rfl (by kernel_rfl) (by kernel_rfl) (by kernel_rfl) (fun _ _ _ h => h) (Or.inl ⟨by rfl, ?_⟩) (by assumption) ?_
  rotate_left
  · (intro w hSw; (try dsimp only at hSw); go_simp; (try with_reducible rfl))
  simp only [Act.put, List.setIfInBounds_toArray, List.set_cons_zero, List.set_cons_succ]
  refine wpAnyH_take (i := 23) (oi := ⟨some 26, _, _, _, _, _⟩) (v := ?_) rfl (by kernel_rfl) (by kernel_rfl) (by kernel_rfl) (fun _ _ _ h => h) (Or.inl ⟨by rfl, ?_⟩) (by assumption) ?_
  rotate_left
  · (intro w hSw; (try dsimp only at hSw); go_simp; (try with_reducible rfl))
  simp only [Act.put, List.setIfInBounds_toArray, List.set_cons_zero, List.set_cons_succ]
  refine wpAnyH_take (i := 24) (oi := ⟨some 27, _, _, _, _, _⟩) (v := ?_) rfl (by kernel_rfl) (by kernel_rfl) (by kernel_rfl) (fun _ _ _ h => h) (Or.inl ⟨by rfl, ?_⟩) (by assumption) ?_
  rotate_left
  · (intro w hSw; (try dsimp only at hSw); go_simp; (try with_reducible rfl))
  simp only [Act.put, List.setIfInBounds_toArray, List.set_cons_zero, List.set_cons_succ]
  refine wpAnyH_take (i := 25) (oi := ⟨some 28, _, _, _, _, _⟩) (v := ?_) rfl (by kernel_rfl) (by kernel_rfl) (by kernel_rfl) (fun _ _ _ h => h) (Or.inl ⟨by rfl, ?_⟩) (by assumption) ?_
  rotate_left
  · (intro w hSw; (try dsimp only at hSw); go_simp; (try with_reducible rfl))
  simp only [Act.put, List.setIfInBounds_toArray, List.set_cons_zero, List.set_cons_succ]
  refine wpAnyH_take (i := 26) (oi := ⟨some 29, _, _, _, _, _⟩) (v := ?_) rfl (by kernel_rfl) (by kernel_rfl) (by kernel_rfl) (fun _ _ _ h => h) (Or.inl ⟨by rfl, ?_⟩) (by assumption) ?_
  rotate_left
  · (intro w hSw; (try dsimp only at hSw); go_simp; (try with_reducible rfl))
  simp only [Act.put, List.setIfInBounds_toArray, List.set_cons_zero, List.set_cons_succ]
  refine wpAnyH_take (i := 27) (oi := ⟨some 30, _, _, _, _, _⟩) (v := ?_) rfl (by kernel_rfl) (by kernel_rfl) (by kernel_rfl) (fun _ _ _ h => h) (Or.inl ⟨by rfl, ?_⟩) (by assumption) ?_
  rotate_left
  · (intro w hSw; (try dsimp only at hSw); go_simp; (try with_reducible rfl))
  simp only [Act.put, List.setIfInBounds_toArray, List.set_cons_zero, List.set_cons_succ]
  refine wpAnyH_take (i := 28) (oi := ⟨some 31, _, _, _, _, _⟩) (v := ?_) rfl (by kernel_rfl) (by kernel_rfl) (by kernel_rfl) (fun _ _ _ h => h) (Or.inl ⟨by rfl, ?_⟩) (by assumption) ?_
  rotate_left
  · (intro w hSw; (try dsimp only at hSw); go_simp; (try with_reducible rfl))
  simp only [Act.put, List.setIfInBounds_toArray, List.set_cons_zero, List.set_cons_succ]
  refine Dag.wpAnyH_inv (fun listed a W => ∃ b c m d v u q, listed = hlst b c m d ∧ a = { tmps := hfrm B w.heap.size v u q, defers := [] } ∧ HI B w w.heap.size b c m d v u q W) ?_ ?_ _ _ _ _ (by decide +kernel) ⟨fun _ => false, fun _ => false, fun _ => false, false, fun _ => undef, fun _ => undef, fun _ => undef, by kernel_rfl, by rfl, HB.out.drew, fun _ _ h => (by cases h), fun _ _ h => (by cases h), fun _ _ h => (by cases h), fun h => (by cases h), by rw [if_neg (by decide)]; exact HX.out.drew⟩
  · rintro listed a W ⟨b, c, m, d, v, u, q, rfl, rfl, hI⟩ hr
    have h3 : b 0 = true := by
      cases e : b 0 with
      | true => rfl
      | false => exact (ready_out hr 3 (show (hlst b c m d).getD 3 true = false from e) [2] (by kernel_rfl) (List.forall_mem_cons.2 ⟨(show (hlst b c m d).getD 2 false = true from rfl), List.forall_mem_nil _⟩)).elim
    have h4 : c 0 = true := by
      cases e : c 0 with
      | true => rfl
      | false => exact (ready_out hr 4 (show (hlst b c m d).getD 4 true = false from e) [3] (by kernel_rfl) (List.forall_mem_cons.2 ⟨(show (hlst b c m d).getD 3 false = true from h3), List.forall_mem_nil _⟩)).elim
    have h5 : m 0 = true := by
      cases e : m 0 with
      | true => rfl
      | false => exact (ready_out hr 5 (show (hlst b c m d).getD 5 true = false from e) [4] (by kernel_rfl) (List.forall_mem_cons.2 ⟨(show (hlst b c m d).getD 4 false = true from h4), List.forall_mem_nil _⟩)).elim
    have h18 : b 1 = true := by
      cases e : b 1 with
      | true => rfl
      | false => exact (ready_out hr 18 (show (hlst b c m d).getD 18 true = false from e) [9, 13, 17] (by kernel_rfl) (List.forall_mem_cons.2 ⟨(show (hlst b c m d).getD 9 false = true from rfl), List.forall_mem_cons.2 ⟨(show (hlst b c m d).getD 13 false = true from rfl), List.forall_mem_cons.2 ⟨(show (hlst b c m d).getD 17 false = true from rfl), List.forall_mem_nil _⟩⟩⟩)).elim
    have h19 : c 1 = true := by
      cases e : c 1 with
      | true => rfl
      | false => exact (ready_out hr 19 (show (hlst b c m d).getD 19 true = false from e) [4, 18] (by kernel_rfl) (List.forall_mem_cons.2 ⟨(show (hlst b c m d).getD 4 false = true from h4), List.forall_mem_cons.2 ⟨(show (hlst b c m d).getD 18 false = true from h18), List.forall_mem_nil _⟩⟩)).elim
    have h20 : m 1 = true := by
      cases e : m 1 with
      | true => rfl
      | false => exact (ready_out hr 20 (show (hlst b c m d).getD 20 true = false from e) [19] (by kernel_rfl) (List.forall_mem_cons.2 ⟨(show (hlst b c m d).getD 19 false = true from h19), List.forall_mem_nil _⟩)).elim
    have h29 : b 2 = true := by
      cases e : b 2 with
      | true => rfl
      | false => exact (ready_out hr 29 (show (hlst b c m d).getD 29 true = false from e) [24, 28] (by kernel_rfl) (List.forall_mem_cons.2 ⟨(show (hlst b c m d).getD 24 false = true from rfl), List.forall_mem_cons.2 ⟨(show (hlst b c m d).getD 28 false = true from rfl), List.forall_mem_nil _⟩⟩)).elim
    have h30 : c 2 = true := by
      cases e : c 2 with
      | true => rfl
      | false => exact (ready_out hr 30 (show (hlst b c m d).getD 30 true = false from e) [19, 29] (by kernel_rfl) (List.forall_mem_cons.2 ⟨(show (hlst b c m d).getD 19 false = true from h19), List.forall_mem_cons.2 ⟨(show (hlst b c m d).getD 29 false = true from h29), List.forall_mem_nil _⟩⟩)).elim
    have h31 : m 2 = true := by
      cases e : m 2 with
      | true => rfl
      | false => exact (ready_out hr 31 (show (hlst b c m d).getD 31 true = false from e) [30] (by kernel_rfl) (List.forall_mem_cons.2 ⟨(show (hlst b c m d).getD 30 false = true from h30), List.forall_mem_nil _⟩)).elim
    have h32 : m 3 = true := by
      cases e : m 3 with
      | true => rfl
      | false => exact (ready_out hr 32 (show (hlst b c m d).getD 32 true = false from e) [5, 20, 31] (by kernel_rfl) (List.forall_mem_cons.2 ⟨(show (hlst b c m d).getD 5 false = true from h5), List.forall_mem_cons.2 ⟨(show (hlst b c m d).getD 20 false = true from h20), List.forall_mem_cons.2 ⟨(show (hlst b c m d).getD 31 false = true from h31), List.forall_mem_nil _⟩⟩⟩)).elim
    have hd : d = true := by
      cases d with
      | true => rfl
      | false =>
        have e : hlst b c m false = hlst (fun _ => true) (fun _ => true) (fun _ => true) false := by simp only [hlst, h3, h4, h5, h18, h19, h20, h29, h30, h31, h32]
        have hall : ∀ j ∈ List.range 33, (hlst (fun _ => true) (fun _ => true) (fun _ => true) false).getD j false = true := by decide +kernel
        rw [e] at hr
        exact (ready_out hr 33 (show (hlst (fun _ => true) (fun _ => true) (fun _ => true) false).getD 33 true = false from rfl) (List.range 33) (by kernel_rfl) hall).elim
    subst hd
    have hres := hI.res
    rw [if_pos rfl] at hres
    have HR := Lib.hid hres.1
    have HE := Lib.hid (show (∀ k, k < 3 → NAt W.heap.size (u k) (atB B (hgrp k)) W) ∧ Below w.heap.size w W from ⟨fun k hk => hI.num k hk (hres.2 k hk), hI.bel⟩)
    clear hI hr hres
    simp only [hfrm]
    go_wp2_with fail
    refine bodyPost_ret (results_blk (cs := headA u) rfl rfl HR.out Tryd.underlying129 rfl (by kernel_rfl)) rfl ⟨u, rfl, HE.out.1, HE.out.2⟩
  · rintro listed a W ⟨b, c, m, d, v, u, q, rfl, rfl, hI⟩ i hi
    have HI := Lib.hid hI
    have HRD := Lib.hid hi
    clear hI hi
    rcases hwhich (mem_ready.1 HRD.out).1 with rfl | rfl | rfl | rfl | rfl | rfl | rfl | rfl | rfl | rfl | rfl
    · have hp := Lib.hid (show (hlst b c m d).getD 3 true = false from (mem_ready.1 HRD.out).1)
      clear HRD
      refine inv_step (o := ⟨some 6, _, _, _, _, _⟩) rfl (fun K' hK => ?_)
      simp only [hfrm]
      go_simp
      exact hK.out _ _ ⟨trivial, up 0 true b, c, m, d, up 0 _ v, u, q, rfl, rfl, HI.out.built 0 (by decide) ((Below.refl _ _).alloc (Nat.le_refl _) _) (pat_new W (hps B 0) _)⟩
    · have hp := Lib.hid (show (hlst b c m d).getD 4 true = false from (mem_ready.1 HRD.out).1)
      have r3 : b 0 = true := ready_dep HRD.out 3 (by kernel_rfl)
      clear HRD
      obtain ⟨g, hv, hg, hc⟩ := HI.out.ptr 0 (by decide) r3
      have HC := Lib.hid (longs_any g 0 (hps B 0).length (hps B 0) (by simp [hps, hgrp]) W hg hc)
      refine inv_step (o := ⟨some 7, _, _, _, _, _⟩) rfl (fun K' hK => ?_)
      simp only [hfrm, hv]
      have HV := Lib.hid hv
      clear hv hc hg
      go_simp
      refine HC.out.mono ?_
      rintro e W' ⟨x, rfl, hrow⟩
      exact hK.out _ _ ⟨trivial, b, up 0 true c, m, d, v, up 0 x u, q, rfl, by simp only [hfrm, HV.out]; rfl, HI.out.called 0 (by decide) hp.out hrow⟩
    · have hp := Lib.hid (show (hlst b c m d).getD 5 true = false from (mem_ready.1 HRD.out).1)
      have r4 : c 0 = true := ready_dep HRD.out 4 (by kernel_rfl)
      clear HRD
      have N0 := HI.out.num 0 (by decide) r4
      obtain ⟨g, x, hu, -⟩ := N0
      refine inv_step (o := ⟨some 8, _, _, _, _, _⟩) rfl (fun K' hK => ?_)
      simp only [hfrm, hu]
      have HU := Lib.hid hu
      clear hu
      go_simp
      exact hK.out _ _ ⟨trivial, b, c, up 0 true m, d, v, u, up 0 (partA 0 (u 0)) q, rfl, by simp only [hfrm, HU.out, up]; simp [partA, hword]; rfl, HI.out.part 0 (by decide) r4⟩
    · have hp := Lib.hid (show (hlst b c m d).getD 18 true = false from (mem_ready.1 HRD.out).1)
      clear HRD
      refine inv_step (o := ⟨some 21, _, _, _, _, _⟩) rfl (fun K' hK => ?_)
      simp only [hfrm]
      go_simp
      exact hK.out _ _ ⟨trivial, up 1 true b, c, m, d, up 1 _ v, u, q, rfl, rfl, HI.out.built 1 (by decide) ((Below.refl _ _).alloc (Nat.le_refl _) _) (pat_new W (hps B 1) _)⟩
    · have hp := Lib.hid (show (hlst b c m d).getD 19 true = false from (mem_ready.1 HRD.out).1)
      have r4 : c 0 = true := ready_dep HRD.out 4 (by kernel_rfl)
      have r18 : b 1 = true := ready_dep HRD.out 18 (by kernel_rfl)
      clear HRD
      obtain ⟨g, hv, hg, hc⟩ := HI.out.ptr 1 (by decide) r18
      have HC := Lib.hid (shorts_any g 0 (hps B 1).length (hps B 1) (by simp [hps, hgrp]) W hg hc)
      refine inv_step (o := ⟨some 22, _, _, _, _, _⟩) rfl (fun K' hK => ?_)
      simp only [hfrm, hv]
      have HV := Lib.hid hv
      clear hv hc hg
      go_simp
      refine HC.out.mono ?_
      rintro e W' ⟨x, rfl, hrow⟩
      exact hK.out _ _ ⟨trivial, b, up 1 true c, m, d, v, up 1 x u, q, rfl, by simp only [hfrm, HV.out]; rfl, HI.out.called 1 (by decide) hp.out hrow⟩
    · have hp := Lib.hid (show (hlst b c m d).getD 20 true = false from (mem_ready.1 HRD.out).1)
      have r19 : c 1 = true := ready_dep HRD.out 19 (by kernel_rfl)
      clear HRD
      have N1 := HI.out.num 1 (by decide) r19
      obtain ⟨g, x, hu, -⟩ := N1
      refine inv_step (o := ⟨some 23, _, _, _, _, _⟩) rfl (fun K' hK => ?_)
      simp only [hfrm, hu]
      have HU := Lib.hid hu
      clear hu
      go_simp
      exact hK.out _ _ ⟨trivial, b, c, up 1 true m, d, v, u, up 1 (partA 1 (u 1)) q, rfl, by simp only [hfrm, HU.out, up]; simp [partA, hword]; rfl, HI.out.part 1 (by decide) r19⟩
    · have hp := Lib.hid (show (hlst b c m d).getD 29 true = false from (mem_ready.1 HRD.out).1)
      clear HRD
      refine inv_step (o := ⟨some 32, _, _, _, _, _⟩) rfl (fun K' hK => ?_)
      simp only [hfrm]
      go_simp
      exact hK.out _ _ ⟨trivial, up 2 true b, c, m, d, up 2 _ v, u, q, rfl, rfl, HI.out.built 2 (by decide) ((Below.refl _ _).alloc (Nat.le_refl _) _) (pat_new W (hps B 2) _)⟩
    · have hp := Lib.hid (show (hlst b c m d).getD 30 true = false from (mem_ready.1 HRD.out).1)
      have r19 : c 1 = true := ready_dep HRD.out 19 (by kernel_rfl)
      have r29 : b 2 = true := ready_dep HRD.out 29 (by kernel_rfl)
      clear HRD
      obtain ⟨g, hv, hg, hc⟩ := HI.out.ptr 2 (by decide) r29
      have HC := Lib.hid (longs_any g 0 (hps B 2).length (hps B 2) (by simp [hps, hgrp]) W hg hc)
      refine inv_step (o := ⟨some 33, _, _, _, _, _⟩) rfl (fun K' hK => ?_)
      simp only [hfrm, hv]
      have HV := Lib.hid hv
      clear hv hc hg
      go_simp
      refine HC.out.mono ?_
      rintro e W' ⟨x, rfl, hrow⟩
      exact hK.out _ _ ⟨trivial, b, up 2 true c, m, d, v, up 2 x u, q, rfl, by simp only [hfrm, HV.out]; rfl, HI.out.called 2 (by decide) hp.out hrow⟩
    · have hp := Lib.hid (show (hlst b c m d).getD 31 true = false from (mem_ready.1 HRD.out).1)
      have r30 : c 2 = true := ready_dep HRD.out 30 (by kernel_rfl)
      clear HRD
      have N2 := HI.out.num 2 (by decide) r30
      obtain ⟨g, x, hu, -⟩ := N2
      refine inv_step (o := ⟨some 34, _, _, _, _, _⟩) rfl (fun K' hK => ?_)
      simp only [hfrm, hu]
      have HU := Lib.hid hu
      clear hu
      go_simp
      exact hK.out _ _ ⟨trivial, b, c, up 2 true m, d, v, u, up 2 (partA 2 (u 2)) q, rfl, by simp only [hfrm, HU.out, up]; simp [partA, hword]; rfl, HI.out.part 2 (by decide) r30⟩
    · have hp := Lib.hid (show (hlst b c m d).getD 32 true = false from (mem_ready.1 HRD.out).1)
      have r5 : m 0 = true := ready_dep HRD.out 5 (by kernel_rfl)
      have r20 : m 1 = true := ready_dep HRD.out 20 (by kernel_rfl)
      have r31 : m 2 = true := ready_dep HRD.out 31 (by kernel_rfl)
      clear HRD
      have e0 := (HI.out.par 0 (by decide) r5).1
      have e1 := (HI.out.par 1 (by decide) r20).1
      have e2 := (HI.out.par 2 (by decide) r31).1
      have hm : ∀ k, k < 3 → m k = true := fun k hk => by
        have : k = 0 ∨ k = 1 ∨ k = 2 := by omega
        rcases this with rfl | rfl | rfl
        · exact r5
        · exact r20
        · exact r31
      obtain ⟨g0, x0, hu0, -⟩ := HI.out.num 0 (by decide) (HI.out.par 0 (by decide) r5).2
      obtain ⟨g1, x1, hu1, -⟩ := HI.out.num 1 (by decide) (HI.out.par 1 (by decide) r20).2
      obtain ⟨g2, x2, hu2, -⟩ := HI.out.num 2 (by decide) (HI.out.par 2 (by decide) r31).2
      refine inv_step (o := ⟨some 35, _, _, _, _, _⟩) rfl (fun K' hK => ?_)
      simp only [hfrm, e0, e1, e2, partA, hword, hu0, hu1, hu2]
      have HU := Lib.hid (And.intro e0 (And.intro e1 (And.intro e2 (And.intro hu0 (And.intro hu1 hu2)))))
      clear e0 e1 e2 hu0 hu1 hu2
      go_simp
      exact hK.out _ _ ⟨trivial, b, c, up 3 true m, d, v, u, up 3 (.agg (headA u)) q, rfl, by obtain ⟨e0, e1, e2, hu0, hu1, hu2⟩ := HU.out; simp only [hfrm, e0, e1, e2, partA, hword, hu0, hu1, hu2, up, headA]; rfl, HI.out.parts hm⟩
    · have hp := Lib.hid (show (hlst b c m d).getD 33 true = false from (mem_ready.1 HRD.out).1)
      have r3 : b 0 = true := ready_dep HRD.out 3 (by kernel_rfl)
      have r4 : c 0 = true := ready_dep HRD.out 4 (by kernel_rfl)
      have r5 : m 0 = true := ready_dep HRD.out 5 (by kernel_rfl)
      have r18 : b 1 = true := ready_dep HRD.out 18 (by kernel_rfl)
      have r19 : c 1 = true := ready_dep HRD.out 19 (by kernel_rfl)
      have r20 : m 1 = true := ready_dep HRD.out 20 (by kernel_rfl)
      have r29 : b 2 = true := ready_dep HRD.out 29 (by kernel_rfl)
      have r30 : c 2 = true := ready_dep HRD.out 30 (by kernel_rfl)
      have r31 : m 2 = true := ready_dep HRD.out 31 (by kernel_rfl)
      have r32 : m 3 = true := ready_dep HRD.out 32 (by kernel_rfl)
      clear HRD
      obtain ⟨e3, hc⟩ := HI.out.row r32
      have hdf : d = false := hp.out
      have hres := HI.out.res
      rw [hdf, if_neg (by decide)] at hres
      have HRS := Lib.hid hres
      obtain ⟨g0, x0, hu0, -⟩ := HI.out.num 0 (by decide) (hc 0 (by decide))
      obtain ⟨g1, x1, hu1, -⟩ := HI.out.num 1 (by decide) (hc 1 (by decide))
      obtain ⟨g2, x2, hu2, -⟩ := HI.out.num 2 (by decide) (hc 2 (by decide))
      refine inv_step (o := ⟨none, _, _, _, _, _⟩) rfl (fun K' hK => ?_)
      have HU := Lib.hid (And.intro e3 (And.intro hu0 (And.intro hu1 hu2)))
      have HCC := Lib.hid hc
      have hone : (headA u).all (·.oneCell') = true := by simp [headA, hu0, hu1, hu2, Value.oneCell']
      clear e3 hu0 hu1 hu2 hres hc
      refine step_store_blk (by rfl) 129 _ _ (by rfl) w.heap.size (by rfl) hzero (headA u) 129 HRS.out (heval HU.out.1) rfl (by kernel_rfl) hone ?_
      exact hK.out _ _ ⟨trivial, b, c, m, true, v, u, q, rfl, by simp only [hfrm, HU.out.1]; rfl, HI.out.stored (Nat.le_refl _) (fun k hk e => (HI.out.ptr k hk e).cells (by rw [hps_len]; exact (hgrp_len k hk).1) HRS.out _) (fun k hk e => (HI.out.num k hk e).cells (by rw [atB_len]; exact (hgrp_len k hk).1) HRS.out _) HCC.out (Blk.Below.setCells _ _ _ HI.out.bel (Nat.le_refl _)) (HRS.out.setCells (headA u) rfl)⟩
end Go.Proofs.YtmkcooamgojbpaaDoor.Sheet
