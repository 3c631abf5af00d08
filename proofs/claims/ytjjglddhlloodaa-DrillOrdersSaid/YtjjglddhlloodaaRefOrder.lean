/- damperref37.Order: the document's order, by the same throws. -/
import Derived.Test.YtjjglddhlloodaaOrderA
import Derived.Test.YtjjglddhlloodaaRefCheckW
import Derived.Test.YtjjglddhlloodaaCheckEq
import Derived.Deep.DeepCutAuto
import Derived.Deep.CutBlock
import Derived.Test.YtjjglddhlloodaaBlkRow
namespace Go.Proofs.Ytjjglddhlloodaa.RefOrder
open Go.RowKit Go.Proofs.Ytjjglddhlloodaa.Kit Go.Proofs.Ytjjglddhlloodaa.Blk Go.Proofs.Ytjjglddhlloodaa.Dice Go.Proofs.Ytjjglddhlloodaa.Throw Go.Proofs.Ytjjglddhlloodaa.Price Go.Proofs.Ytjjglddhlloodaa.Symbol Go.Proofs.Ytjjglddhlloodaa.Check Go.Proofs.Ytjjglddhlloodaa.Order Go.Proofs.Ytjjglddhlloodaa.RefCheck
attribute [local go_sem ↓] Go.wp_at_zero Go.wp_at_succ

set_option maxHeartbeats 2000000 in
theorem ref_wrong (c : Cfg) (sa ta : Option Addr) (sc tc : Nat) (a : Option Addr) (kind i : Int) (w : World) (hin : c.In w sa ta) (h : rightF c kind ≠ 0 ∨ i < 0 ∨ 2000 < i) :
    Calls Try.prog 23 #[.agg (c.cells sa ta sc tc), .pointer a, .int .i64 kind, .int .i64 i] w fun e w' => e = .returned (.agg zeroCells) ∧ Below w.heap.size w w' := by
  have hb0 := Lib.hid (show Below w.heap.size w ((w.alloc (.cells (c.cells sa ta sc tc) 59)).alloc (.cells zeroCells 62)) from ((Below.refl _ _).alloc (Nat.le_refl _) _).alloc (by simp) _)
  have hin' := Lib.hid (hin.below hb0.out)
  have hblk := Lib.hid (Blk.new (w.alloc (.cells (c.cells sa ta sc tc) 59)) zeroCells 62 (w.heap.size + 1) (by simp))
  have hz := Lib.hid (show ((w.alloc (.cells (c.cells sa ta sc tc) 59)).alloc (.cells zeroCells 62)).heap.size = w.heap.size + 2 by simp)
  have H : Hid (¬ (checkF c).1 = 0 ∨ kind < 0 ∨ 4 < kind ∨ i < 0 ∨ 2000 < i) := by
    unfold rightF at h
    show ¬ (checkF c).1 = 0 ∨ kind < 0 ∨ 4 < kind ∨ i < 0 ∨ 2000 < i
    by_cases h1 : (checkF c).1 = 0
    · by_cases h2 : kind < 0 ∨ 4 < kind
      · omega
      · rw [if_pos h1, if_neg h2] at h; simp at h; omega
    · exact .inl h1
  unfold Cfg.cells zeroCells at *
  clear h
  go_enter Try.func23, Try.ntmps23
  go_wp2_with fail
  refine (check_ref c sa ta sc tc _ hin'.out).mono ?_
  rintro e w1 ⟨rfl, hb1⟩
  rw [CheckEq.check_eq]
  have hb := hb0.out.trans (hb1.mono (by rw [hz.out]; omega))
  have hq := hblk.out.below hb1 (by rw [hz.out]; omega)
  have c0 : w1.cell? ⟨w.heap.size + 1, 0, none⟩ = some (.int .i64 0) := hq.cell 0 rfl
  have f0 := hq.free 0
  have s0 := setCell_same _ _ _ c0
  have c1 : w1.cell? ⟨w.heap.size + 1, 1, none⟩ = some (.int .i64 0) := hq.cell 1 rfl
  have f1 := hq.free 1
  have s1 := setCell_same _ _ _ c1
  have c2 : w1.cell? ⟨w.heap.size + 1, 2, none⟩ = some (.int .i64 0) := hq.cell 2 rfl
  have f2 := hq.free 2
  have s2 := setCell_same _ _ _ c2
  have c3 : w1.cell? ⟨w.heap.size + 1, 3, none⟩ = some (.int .i64 0) := hq.cell 3 rfl
  have f3 := hq.free 3
  have s3 := setCell_same _ _ _ c3
  have c4 : w1.cell? ⟨w.heap.size + 1, 4, none⟩ = some (.int .i64 0) := hq.cell 4 rfl
  have f4 := hq.free 4
  have s4 := setCell_same _ _ _ c4
  have c5 : w1.cell? ⟨w.heap.size + 1, 5, none⟩ = some (.int .i64 0) := hq.cell 5 rfl
  have f5 := hq.free 5
  have s5 := setCell_same _ _ _ c5
  have c6 : w1.cell? ⟨w.heap.size + 1, 6, none⟩ = some (.int .i64 0) := hq.cell 6 rfl
  have f6 := hq.free 6
  have s6 := setCell_same _ _ _ c6
  have c7 : w1.cell? ⟨w.heap.size + 1, 7, none⟩ = some (.int .i64 0) := hq.cell 7 rfl
  have f7 := hq.free 7
  have s7 := setCell_same _ _ _ c7
  have c8 : w1.cell? ⟨w.heap.size + 1, 8, none⟩ = some (.int .i64 0) := hq.cell 8 rfl
  have f8 := hq.free 8
  have s8 := setCell_same _ _ _ c8
  clear hq hb1
  generalize (checkF c).1 = f at H ⊢
  have H' := H.out
  clear H
  by_cases h0 : f = 0
  · have h0' : (f != 0) = false := by simp [h0]
    have H2 : kind < 0 ∨ 4 < kind ∨ i < 0 ∨ 2000 < i := by omega
    clear h0 H'
    by_cases h1 : kind < 0
    · clear H2
      go_wp2
      refine bodyPost_ret (v := .agg zeroCells) (by simp [results, Try.results23, go_sem, zeroCells, c0, c1, c2, c3, c4, c5, c6, c7, c8]) rfl ⟨rfl, hb⟩
    · by_cases h2 : 4 < kind
      · clear H2
        go_wp2
        refine bodyPost_ret (v := .agg zeroCells) (by simp [results, Try.results23, go_sem, zeroCells, c0, c1, c2, c3, c4, c5, c6, c7, c8]) rfl ⟨rfl, hb⟩
      · by_cases h3 : i < 0
        · clear H2
          go_wp2
          refine bodyPost_ret (v := .agg zeroCells) (by simp [results, Try.results23, go_sem, zeroCells, c0, c1, c2, c3, c4, c5, c6, c7, c8]) rfl ⟨rfl, hb⟩
        · have h4 : 2000 < i := by omega
          clear H2
          go_wp2
          refine bodyPost_ret (v := .agg zeroCells) (by simp [results, Try.results23, go_sem, zeroCells, c0, c1, c2, c3, c4, c5, c6, c7, c8]) rfl ⟨rfl, hb⟩
  · have h0' : (f != 0) = true := by simp [h0]
    clear H'
    go_wp2
    refine bodyPost_ret (v := .agg zeroCells) (by simp [results, Try.results23, go_sem, zeroCells, c0, c1, c2, c3, c4, c5, c6, c7, c8]) rfl ⟨rfl, hb⟩

/-- What is known between two throws of the document's: the boxed configuration, the result's block, the order so far, the symbol's own block, the dice. -/
structure Sr (w : World) (d M X : Nat) (s : Sym) (sv : Value) (W : World) (x : Int) (cs : Array Value) : Prop where
  cfg : W.cell? ⟨w.heap.size, 0, none⟩ = some sv
  res : Blk W (w.heap.size + 1) zeroCells 62
  cmd : Blk W M cs 62
  sym : Blk W X s.cells 114
  dice : Blk W d #[.int .u64 x] 29
  chg : Chg w.heap.size d w W
  lt : d < w.heap.size
  hM : w.heap.size + 2 ≤ M
  hX : w.heap.size + 2 ≤ X
  ne : M ≠ X

section
variable {w W W' : World} {d M X : Nat} {s : Sym} {sv : Value} {x y : Int} {cs : Array Value}
theorem Sr.set (h : Sr w d M X s sv W x cs) (j : Nat) (v : Value) : Sr w d M X s sv (W.setCell ⟨M, j, none⟩ v) x (cs.setIfInBounds j v) := by
  have h1 := h.hM
  have h2 := h.lt
  exact ⟨by rw [World.cell?_setCell_far _ _ _ _ (by show M ≠ w.heap.size; omega)]; exact h.cfg, h.res.apart _ _ (by show M ≠ _; omega), h.cmd.set j v, h.sym.apart _ _ h.ne, h.dice.apart _ _ (by show M ≠ d; omega),
    h.chg.setCell _ _ (.inr (by show w.heap.size ≤ M; omega)), h.lt, h.hM, h.hX, h.ne⟩
theorem Sr.call (h : Sr w d M X s sv W x cs) (hd : Blk W' d #[.int .u64 y] 29) (hc : Chg W.heap.size d W W') : Sr w d M X s sv W' y cs := by
  have h1 := h.hM
  have h2 := h.lt
  have h3 := h.hX
  have h4 := h.res.lt
  exact ⟨by rw [hc.cell (p := ⟨w.heap.size, 0, none⟩) (by show w.heap.size < W.heap.size; omega) (by show w.heap.size ≠ d; omega)]; exact h.cfg,
    hc.blk h.res.lt (by omega) h.res, hc.blk h.cmd.lt (by omega) h.cmd, hc.blk h.sym.lt (by omega) h.sym, hd, h.chg.trans (hc.mono (by omega)), h.lt, h.hM, h.hX, h.ne⟩
theorem Sr.below (h : Sr w d M X s sv W x cs) (hb : Below W.heap.size W W') : Sr w d M X s sv W' x cs :=
  h.call (h.dice.below hb h.dice.lt) (Chg.of hb)
theorem Sr.drew (h : Sr w d M X s sv W x cs) : Sr w d M X s sv W.drew x cs := h.below (Below.refl _ _).drew
end
end Go.Proofs.Ytjjglddhlloodaa.RefOrder
