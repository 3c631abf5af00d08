/- What is kept while trades are gathered into bars. -/
import Derived.Test.YtogjgpiddjmpiaaTapeIter
import Derived.Test.YtogjgpiddjmpiaaTapeFold
import Derived.WalkMore
namespace Go.Proofs.Ytogjgpiddjmpiaa.Tape
open Go.RowKit Go.Shelf Go.Proofs.Ytogjgpiddjmpiaa.Kit Go.Proofs.Ytogjgpiddjmpiaa.Blk Go.Proofs.Ytogjgpiddjmpiaa.Msgs Go.Proofs.Ytogjgpiddjmpiaa.Iter

def rowsOf (l : List Bar) : List Value := l.flatMap fun b => b.cells.toList
theorem rowsOf_app (l : List Bar) (b : Bar) : rowsOf (l ++ [b]) = rowsOf l ++ b.cells.toList := by simp [rowsOf]
theorem scopeW {P : Program} {n : Nat} {c : Code} {Q : Exit → Act → World → Prop} {a : Act} {w : World} (h : c.wpIn Fence.wide n P (Exit.noGoto Q) a w) : (Code.scope c).wpIn Fence.wide n P Q a w :=
  wpIn_wide.2 (wp_scope_straight (wpIn_wide.1 h))
theorem kz_chg {S : Nat → Prop} {n d : Nat} {w w' : World} (h : Chg n d w w') (hS : ∀ b, S b → b < n ∧ b ≠ d) : KZ S w w' := ⟨fun b hb => h.block b (hS b hb).1 (hS b hb).2, h.size⟩
theorem kz_same {S : Nat → Prop} {w w' : World} (hs : w.heap.size ≤ w'.heap.size) (h : ∀ b, S b → w'.heap[b]? = w.heap[b]?) : KZ S w w' := ⟨h, hs⟩
theorem blk_not_row {W : World} {B : Nat} {cs : Array Value} {t e : TypeId} (h : Blk W B cs t) (hte : t ≠ e) {base size k : Nat} {v : Value} {xs : List Value} (hr : W.ownsRow base e size v k xs) : some B ≠ v.ownBlock := by
  rcases hr.2 with ⟨rfl, _⟩ | ⟨g, cap, cur, rfl, _, hgb, _⟩
  · simp [Value.ownBlock]
  · intro e'
    obtain rfl : B = g := by simpa [Value.ownBlock] using e'
    have := (show W.heap[B]? = _ from h).symm.trans hgb
    simp at this
    exact hte this.2
theorem row_from {W : World} {base e size k : Nat} {v : Value} {xs : List Value} (hr : W.ownsRow base e size v k xs) {j : Nat} (h : v.ownBlock = some j) : base ≤ j ∧ ∃ cur, W.heap[j]? = some (.cells cur e (0, 0)) := by
  rcases hr.2 with ⟨rfl, _⟩ | ⟨g, cap, cur, rfl, hg, hgb, _⟩
  · simp [Value.ownBlock] at h
  · obtain rfl : g = j := by simpa [Value.ownBlock] using h
    exact ⟨hg, cur, hgb⟩
theorem blk_grown {W W' : World} {B : Nat} {cs : Array Value} {t : TypeId} {row : Option Nat} (h : Blk W B cs t) (hg : W.grownBy W' row) (hne : some B ≠ row) : Blk W' B cs t := (hg.block B h.lt hne).trans h
theorem chg_grown {W W' : World} {d : Nat} (h : Chg W.heap.size d W W') : W.grownBy W' (some d) := ⟨h.os, h.tape, h.output, h.size, fun k hk hne => h.block k hk (fun e => hne (by rw [e]))⟩
theorem below_grown {W W' : World} (h : Below W.heap.size W W') : W.grownBy W' none := ⟨h.os, h.tape, h.output, h.size, fun k hk _ => h.block k hk⟩

/-- Behind some trades: the bars that are closed, the maker, and the width. -/
structure Kept (N O K Bw : Nat) (wd : Int) (w : World) (s : St) (W : World) : Prop where
  out : ∃ v, Boxed W O 46 v ∧ W.ownsRow N 53 8 v s.out.length (rowsOf s.out) ∧ True
  maker : Blk W K (mk s.b s.x) 146
  width : Blk W Bw #[.int .i64 wd] 2
  bel : Below N w W
  top : N ≤ w.heap.size
theorem Kept.le {N O K Bw : Nat} {wd : Int} {w : World} {s : St} {W : World} (h : Kept N O K Bw wd w s W) : N ≤ W.heap.size := Nat.le_trans h.top h.bel.size
section
variable {N O K Bw : Nat} {wd : Int} {w : World} {s : St} {W W' : World}
theorem Kept.below (h : Kept N O K Bw wd w s W) (hb : Below W.heap.size W W') : Kept N O K Bw wd w s W' := by
  obtain ⟨v, h1, h2, _⟩ := h.out
  exact ⟨⟨v, h1.kept (below_grown hb) (by simp), h2.kept (below_grown hb) (by cases v.ownBlock with
    | none => exact .inl rfl
    | some j => exact .inr (by simp)), trivial⟩, h.maker.below hb h.maker.lt, h.width.below hb h.width.lt, h.bel.trans (hb.mono h.le), h.top⟩
theorem Kept.drew (h : Kept N O K Bw wd w s W) : Kept N O K Bw wd w s W.drew := h.below (Below.refl _ _).drew
theorem kept_chg (h : Kept N O K Bw wd w s W) (b : Bar) (x : Nat) (hK : Blk W' K (mk b x) 146) (hc : Chg W.heap.size K W W') (hO : O ≠ K) (hB : Bw ≠ K) (hN : N ≤ K) : Kept N O K Bw wd w ⟨s.out, b, x⟩ W' := by
  obtain ⟨v, h1, h2, _⟩ := h.out
  exact ⟨⟨v, h1.kept (chg_grown hc) (by simpa using hO), h2.kept (chg_grown hc) (.inr (fun e => blk_not_row h.maker (by decide) h2 e.symm)), trivial⟩, hK, hc.blk h.width.lt hB h.width, h.bel.trans (hc.below' hN h.le), h.top⟩
/-- One bar more. -/
theorem Kept.push (h : Kept N O K Bw wd w s W) {v v' : Value} {w1 : World} {tmp : Obj} {bs : List Bar} (hv : Boxed W O 46 v) (hrow : W.ownsRow N 53 8 v s.out.length (rowsOf s.out)) (hO : O ≠ K) (hB : Bw ≠ O) (hN : N ≤ O)
    (hown : w1.ownsRow N 53 8 v' bs.length (rowsOf bs)) (hgrow : (W.alloc tmp).grownBy w1 v.ownBlock) : Kept N O K Bw wd w ⟨bs, s.b, s.x⟩ (w1.setCell ⟨O, 0, none⟩ v') := by
  obtain ⟨a1, a2, a3, a4, a5⟩ := hv.appended (tmp := tmp) (by decide) hrow h.le hN hown hgrow
  exact ⟨⟨v', a2, a3, trivial⟩, (blk_grown (h.maker.old tmp) hgrow (blk_not_row h.maker (by decide) hrow)).apart _ _ (by show O ≠ K; exact hO), (blk_grown (h.width.old tmp) hgrow (blk_not_row h.width (by decide) hrow)).apart _ _ (by show O ≠ Bw; exact hB.symm), h.bel.trans a5, h.top⟩
theorem push_keeps {v v' : Value} {w1 : World} {tmp : Obj} {k m : Nat} {xs ys : List Value} (hv : Boxed W O 46 v) (hrow : W.ownsRow N 53 8 v k xs) (hle : N ≤ W.heap.size) (hN : N ≤ O)
    (hown : w1.ownsRow N 53 8 v' m ys) (hgrow : (W.alloc tmp).grownBy w1 v.ownBlock) : KeepsOthers W (w1.setCell ⟨O, 0, none⟩ v') := (hv.appended (tmp := tmp) (by decide) hrow hle hN hown hgrow).2.2.2.1
theorem kz_push {S : Nat → Prop} {v v' : Value} {w1 : World} {tmp : Obj} {k : Nat} {xs : List Value} (hrow : W.ownsRow N 53 8 v k xs) (hgrow : (W.alloc tmp).grownBy w1 v.ownBlock)
    (hS : ∀ b, S b → b < W.heap.size ∧ b ≠ O ∧ (b < N ∨ ∃ cs T, Blk W b cs T ∧ T ≠ 53)) : KZ S W (w1.setCell ⟨O, 0, none⟩ v') := by
  refine ⟨fun b hb => ?_, ?_⟩
  · obtain ⟨h1, h2, h3⟩ := hS b hb
    rw [Below.heap_setCell _ _ _ _ (by show b ≠ O; exact h2), hgrow.block b (by simp; omega) ?_, Below.heap_alloc _ _ _ h1]
    intro e
    rcases h3 with h3 | ⟨cs, T, h3, h4⟩
    · have := (row_from hrow e.symm).1; omega
    · exact blk_not_row h3 h4 hrow e
  · have := hgrow.size
    simp at this
    simp [World.setCell]; omega
end
theorem news_blk {w : World} {B : Nat} {cs : Array Value} {T : TypeId} (h : Blk w B cs T) : ∀ j u, cs.toList[j]? = some u → w.cell? ((⟨B, 0, none⟩ : Addr).add j) = some u := fun j u hu => by
  rw [Addr.add_mid, Nat.zero_add]; exact h.cell j (by simpa using hu)
theorem one_mem {cs : Array Value} (h : cs.all (·.oneCell') = true) : ∀ u ∈ cs.toList, u.oneCell' = true := fun u hu => by
  rw [Array.all_eq_true_iff_forall_mem] at h
  exact h u (Array.mem_toList_iff.1 hu)
theorem row_slice {W : World} {base e size k : Nat} {v : Value} {xs : List Value} (hr : W.ownsRow base e size v k xs) : ∃ a c, v = .slice a k c := by
  rcases hr.2 with ⟨rfl, rfl⟩ | ⟨g, cap, cur, rfl, _⟩
  · exact ⟨_, _, rfl⟩
  · exact ⟨_, _, rfl⟩
/-- Behind the function's return. -/
theorem at_end {W w : World} {O D t e size k : Nat} {v : Value} {xs : List Value} (hv : Boxed W O t v) (hr : W.ownsRow w.heap.size e size v k xs) (hb : Below w.heap.size w W) (hK : W.heap[D]? = some (.deferred (some []))) (hD : w.heap.size ≤ D) :
    Boxed (W.putObj D (.deferred none)) O t v ∧ (W.putObj D (.deferred none)).ownsRow w.heap.size e size v k xs ∧ Below w.heap.size w (W.putObj D (.deferred none)) :=
  ⟨hv.kept (grownBy_putObj' W D _) (fun e => by cases e; rw [show W.heap[O]? = _ from hv] at hK; cases hK), ownsRow_putObj hr _ hK rfl, hb.trans (belowK_b (w := w) (Nat.le_refl _) W D _ _ hD hK rfl rfl)⟩
/-- It speaks of cells alone. -/
theorem kept_own {N O K Bw : Nat} {wd : Int} {w : World} {β : Type} (f : β → St) {B : Nat} (hN : N ≤ B) : OwnFrom B (fun x W => Kept N O K Bw wd w (f x) W) := by
  intro x W W' row hs hg hr
  have hr' : ∀ r, row = some r → ∃ o : Obj, W.heap[r]? = some o ∧ o.isCells = false := fun r e => (hr r e).2
  refine ⟨holdsRow_own N O 46 53 8 (fun x => (f x).out.length) (fun x => rowsOf (f x).out) (fun _ _ => True) x W W' row hs.out hg hr', (grownBy_keeps_cells hg hr' hs.maker rfl).trans hs.maker, (grownBy_keeps_cells hg hr' hs.width rfl).trans hs.width, ownFrom_below (w₀ := w) hs.top hN x W W' row hs.bel hg hr, hs.top⟩
end Go.Proofs.Ytogjgpiddjmpiaa.Tape
