/- Parts of the proof: RefOrder, RefOrderW. -/
import Derived.Test.YtogjgpiddjmpiaaPart12
import Derived.Test.YtogjgpiddjmpiaaPart1
import Derived.Deep.DeepCutAuto
import Derived.Deep.CutBlock
import Derived.Test.YtogjgpiddjmpiaaPart2

/- damperref37.Order: the document's order, by the same throws. -/
namespace Go.Proofs.Ytogjgpiddjmpiaa.RefOrder
open Go.RowKit Go.Proofs.Ytogjgpiddjmpiaa.Kit Go.Proofs.Ytogjgpiddjmpiaa.Blk Go.Proofs.Ytogjgpiddjmpiaa.Dice Go.Proofs.Ytogjgpiddjmpiaa.Throw Go.Proofs.Ytogjgpiddjmpiaa.Price Go.Proofs.Ytogjgpiddjmpiaa.Symbol Go.Proofs.Ytogjgpiddjmpiaa.Check Go.Proofs.Ytogjgpiddjmpiaa.Order Go.Proofs.Ytogjgpiddjmpiaa.RefCheck
attribute [local go_sem ↓] Go.wp_at_zero Go.wp_at_succ

set_option maxHeartbeats 2000000 in
theorem ref_wrong (c : Cfg) (sa ta : Option Addr) (sc tc : Nat) (a : Option Addr) (kind i : Int) (w : World) (hin : c.In w sa ta) (h : rightF c kind ≠ 0 ∨ i < 0 ∨ 2000 < i) :
    Calls Try.prog 67 #[.agg (c.cells sa ta sc tc), .pointer a, .int .i64 kind, .int .i64 i] w fun e w' => e = .returned (.agg zeroCells) ∧ Below w.heap.size w w' := by
  have hb0 := Lib.hid (show Below w.heap.size w ((w.alloc (.cells (c.cells sa ta sc tc) 34)).alloc (.cells zeroCells 128)) from ((Below.refl _ _).alloc (Nat.le_refl _) _).alloc (by simp) _)
  have hin' := Lib.hid (hin.below hb0.out)
  have hblk := Lib.hid (Blk.new (w.alloc (.cells (c.cells sa ta sc tc) 34)) zeroCells 128 (w.heap.size + 1) (by simp))
  have hz := Lib.hid (show ((w.alloc (.cells (c.cells sa ta sc tc) 34)).alloc (.cells zeroCells 128)).heap.size = w.heap.size + 2 by simp)
  have H : Hid (¬ (checkF c).1 = 0 ∨ kind < 0 ∨ 4 < kind ∨ i < 0 ∨ 2000 < i) := by
    unfold rightF at h
    show ¬ (checkF c).1 = 0 ∨ kind < 0 ∨ 4 < kind ∨ i < 0 ∨ 2000 < i
    by_cases h1 : (checkF c).1 = 0
    · by_cases h2 : kind < 0 ∨ 4 < kind
      · omega
      · rw [if_pos h1, if_neg h2] at h; simp at h; omega
    · exact .inl h1
  unfold Cfg.cells zeroCells at *
  clear h
  go_enter Try.func67, Try.ntmps67
  go_wp2_with fail
  refine (check_ref c sa ta sc tc _ hin'.out).mono ?_
  rintro e w1 ⟨rfl, hb1⟩
  rw [CheckEq.check_eq]
  have hb := hb0.out.trans (hb1.mono (by rw [hz.out]; omega))
  have hq := hblk.out.below hb1 (by rw [hz.out]; omega)
  have c0 : w1.cell? ⟨w.heap.size + 1, 0, none⟩ = some (.int .i64 0) := hq.cell 0 rfl
  have f0 := hq.free 0
  have s0 := setCell_same _ _ _ c0
  have c1 : w1.cell? ⟨w.heap.size + 1, 1, none⟩ = some (.int .i64 0) := hq.cell 1 rfl
  have f1 := hq.free 1
  have s1 := setCell_same _ _ _ c1
  have c2 : w1.cell? ⟨w.heap.size + 1, 2, none⟩ = some (.int .i64 0) := hq.cell 2 rfl
  have f2 := hq.free 2
  have s2 := setCell_same _ _ _ c2
  have c3 : w1.cell? ⟨w.heap.size + 1, 3, none⟩ = some (.int .i64 0) := hq.cell 3 rfl
  have f3 := hq.free 3
  have s3 := setCell_same _ _ _ c3
  have c4 : w1.cell? ⟨w.heap.size + 1, 4, none⟩ = some (.int .i64 0) := hq.cell 4 rfl
  have f4 := hq.free 4
  have s4 := setCell_same _ _ _ c4
  have c5 : w1.cell? ⟨w.heap.size + 1, 5, none⟩ = some (.int .i64 0) := hq.cell 5 rfl
  have f5 := hq.free 5
  have s5 := setCell_same _ _ _ c5
  have c6 : w1.cell? ⟨w.heap.size + 1, 6, none⟩ = some (.int .i64 0) := hq.cell 6 rfl
  have f6 := hq.free 6
  have s6 := setCell_same _ _ _ c6
  have c7 : w1.cell? ⟨w.heap.size + 1, 7, none⟩ = some (.int .i64 0) := hq.cell 7 rfl
  have f7 := hq.free 7
  have s7 := setCell_same _ _ _ c7
  have c8 : w1.cell? ⟨w.heap.size + 1, 8, none⟩ = some (.int .i64 0) := hq.cell 8 rfl
  have f8 := hq.free 8
  have s8 := setCell_same _ _ _ c8
  clear hq hb1
  generalize (checkF c).1 = f at H ⊢
  have H' := H.out
  clear H
  by_cases h0 : f = 0
  · have h0' : (f != 0) = false := by simp [h0]
    have H2 : kind < 0 ∨ 4 < kind ∨ i < 0 ∨ 2000 < i := by omega
    clear h0 H'
    by_cases h1 : kind < 0
    · clear H2
      go_wp2
      refine bodyPost_ret (v := .agg zeroCells) (by simp [results, Try.results67, go_sem, zeroCells, c0, c1, c2, c3, c4, c5, c6, c7, c8]) rfl ⟨rfl, hb⟩
    · by_cases h2 : 4 < kind
      · clear H2
        go_wp2
        refine bodyPost_ret (v := .agg zeroCells) (by simp [results, Try.results67, go_sem, zeroCells, c0, c1, c2, c3, c4, c5, c6, c7, c8]) rfl ⟨rfl, hb⟩
      · by_cases h3 : i < 0
        · clear H2
          go_wp2
          refine bodyPost_ret (v := .agg zeroCells) (by simp [results, Try.results67, go_sem, zeroCells, c0, c1, c2, c3, c4, c5, c6, c7, c8]) rfl ⟨rfl, hb⟩
        · have h4 : 2000 < i := by omega
          clear H2
          go_wp2
          refine bodyPost_ret (v := .agg zeroCells) (by simp [results, Try.results67, go_sem, zeroCells, c0, c1, c2, c3, c4, c5, c6, c7, c8]) rfl ⟨rfl, hb⟩
  · have h0' : (f != 0) = true := by simp [h0]
    clear H'
    go_wp2
    refine bodyPost_ret (v := .agg zeroCells) (by simp [results, Try.results67, go_sem, zeroCells, c0, c1, c2, c3, c4, c5, c6, c7, c8]) rfl ⟨rfl, hb⟩

/-- What is known between two throws of the document's: the boxed configuration, the result's block, the order so far, the symbol's own block, the dice. -/
structure Sr (w : World) (d M X : Nat) (s : Sym) (sv : Value) (W : World) (x : Int) (cs : Array Value) : Prop where
  cfg : W.cell? ⟨w.heap.size, 0, none⟩ = some sv
  res : Blk W (w.heap.size + 1) zeroCells 128
  cmd : Blk W M cs 128
  sym : Blk W X s.cells 136
  dice : Blk W d #[.int .u64 x] 134
  chg : Chg w.heap.size d w W
  lt : d < w.heap.size
  hM : w.heap.size + 2 ≤ M
  hX : w.heap.size + 2 ≤ X
  ne : M ≠ X

section
variable {w W W' : World} {d M X : Nat} {s : Sym} {sv : Value} {x y : Int} {cs : Array Value}
theorem Sr.set (h : Sr w d M X s sv W x cs) (j : Nat) (v : Value) : Sr w d M X s sv (W.setCell ⟨M, j, none⟩ v) x (cs.setIfInBounds j v) := by
  have h1 := h.hM
  have h2 := h.lt
  exact ⟨by rw [World.cell?_setCell_far _ _ _ _ (by show M ≠ w.heap.size; omega)]; exact h.cfg, h.res.apart _ _ (by show M ≠ _; omega), h.cmd.set j v, h.sym.apart _ _ h.ne, h.dice.apart _ _ (by show M ≠ d; omega),
    h.chg.setCell _ _ (.inr (by show w.heap.size ≤ M; omega)), h.lt, h.hM, h.hX, h.ne⟩
theorem Sr.call (h : Sr w d M X s sv W x cs) (hd : Blk W' d #[.int .u64 y] 134) (hc : Chg W.heap.size d W W') : Sr w d M X s sv W' y cs := by
  have h1 := h.hM
  have h2 := h.lt
  have h3 := h.hX
  have h4 := h.res.lt
  exact ⟨by rw [hc.cell (p := ⟨w.heap.size, 0, none⟩) (by show w.heap.size < W.heap.size; omega) (by show w.heap.size ≠ d; omega)]; exact h.cfg,
    hc.blk h.res.lt (by omega) h.res, hc.blk h.cmd.lt (by omega) h.cmd, hc.blk h.sym.lt (by omega) h.sym, hd, h.chg.trans (hc.mono (by omega)), h.lt, h.hM, h.hX, h.ne⟩
theorem Sr.below (h : Sr w d M X s sv W x cs) (hb : Below W.heap.size W W') : Sr w d M X s sv W' x cs :=
  h.call (h.dice.below hb h.dice.lt) (Chg.of hb)
theorem Sr.drew (h : Sr w d M X s sv W x cs) : Sr w d M X s sv W.drew x cs := h.below (Below.refl _ _).drew
end
end Go.Proofs.Ytogjgpiddjmpiaa.RefOrder

/- damperref37.Order in a configuration that is right: its walk. -/
namespace Go.Proofs.Ytogjgpiddjmpiaa.RefOrder
open Go.RowKit Go.Proofs.Ytogjgpiddjmpiaa.Kit Go.Proofs.Ytogjgpiddjmpiaa.Blk Go.Proofs.Ytogjgpiddjmpiaa.Dice Go.Proofs.Ytogjgpiddjmpiaa.Throw Go.Proofs.Ytogjgpiddjmpiaa.Price Go.Proofs.Ytogjgpiddjmpiaa.Symbol Go.Proofs.Ytogjgpiddjmpiaa.Check Go.Proofs.Ytogjgpiddjmpiaa.Order Go.Proofs.Ytogjgpiddjmpiaa.RefCheck
attribute [local go_sem ↓] Go.wp_at_zero Go.wp_at_succ

theorem keep8 {w W : World} {d M X : Nat} {x sd : Int} {s : Sym} {sv v0 v1 v2 v3 v5 v6 v7 v8 : Value} (h : Sr w d M X s sv W x #[v0, v1, v2, v3, .int .i64 sd, v5, v6, v7, v8]) :
    W.cell? ⟨X, 1, none⟩ = some (.int .i64 s.ref) ∧ W.cell? ⟨X, 0, none⟩ = some (.int .i64 s.grid) ∧ W.cell? ⟨M, 4, none⟩ = some (.int .i64 sd) :=
  ⟨h.sym.cell 1 rfl, h.sym.cell 0 rfl, h.cmd.cell 4 rfl⟩

theorem grid_in (g : Int) (g1 : 1 ≤ g) (g2 : g ≤ 1099511627776) : ∀ v : Int, 1 ≤ v → v ≤ 1099511627776 / g → wrap64 (g * v) = g * v ∧ IntKind.i64.wrap (g * v) = g * v := by
  intro v h1 h2
  have a : g * v ≤ g * (1099511627776 / g) := Int.mul_le_mul_of_nonneg_left h2 (by omega)
  have b : g * (1099511627776 / g) ≤ 1099511627776 := Int.mul_ediv_self_le (by omega)
  have e : 0 ≤ g * v := Int.mul_nonneg (by omega) (by omega)
  exact ⟨by unfold wrap64; omega, IntWalk.i64_in _ ⟨by omega, by omega⟩⟩

def OrderPost (c : Cfg) (d : Nat) (x kind i : Int) (w : World) (e : Ending) (w' : World) : Prop :=
  e = .returned (.agg (orderCells c x kind i)) ∧ Blk w' d #[.int .u64 (orderDice x)] 134 ∧ Chg w.heap.size d w w'

set_option maxRecDepth 100000 in
set_option maxHeartbeats 8000000 in
theorem order_ref (c : Cfg) (sa ta : Option Addr) (sc tc : Nat) (d : Nat) (x kind i : Int) (w : World) (hin : c.In w sa ta) (hsd : ∀ a, sa = some a → a.block ≠ d)
    (hr : rightF c kind = 0) (hi0 : 0 ≤ i) (hi1 : i ≤ 2000) (hd : Blk w d #[.int .u64 x] 134) :
    Calls Try.prog 67 #[.agg (c.cells sa ta sc tc), .pointer (some ⟨d, 0, none⟩), .int .i64 kind, .int .i64 i] w (OrderPost c d x kind i w) := by
  have hck : (checkF c).1 = 0 ∧ 0 ≤ kind ∧ kind ≤ 4 := by
    unfold rightF at hr
    by_cases h : (checkF c).1 = 0
    · rw [if_pos h] at hr
      by_cases h2 : kind < 0 ∨ 4 < kind
      · rw [if_pos h2] at hr; exact absurd hr (by decide)
      · exact ⟨h, by omega, by omega⟩
    · rw [if_neg h] at hr; exact absurd hr h
  obtain ⟨hck, hk0, hk1⟩ := hck
  obtain ⟨hn1, hn8, hall⟩ := cfg_right c hck
  have hr' : ((checkF c).1 != 0) = false := by simp [hck]
  clear hr hck
  have htn := toss_in x (c.syms.length : Int) (by omega)
  obtain ⟨m, hm⟩ : ∃ m : Nat, toss x (c.syms.length : Int) = (m : Int) := ⟨(toss x (c.syms.length : Int)).toNat, by omega⟩
  have hm1 : m < c.syms.length := by omega
  have hlt := hd.lt
  obtain ⟨b, off, hsa, hbl, hc⟩ := hin.syms m hm1
  have hbd : b ≠ d := hsd _ hsa
  have hsr := sym_right c.syms[m] (hall _ (List.getElem_mem hm1))
  have hgd : c.syms.getD (placeF c x) zeroSym = c.syms[m] := by
    unfold placeF; rw [hm]; simp [hm1]
  have HPR := Lib.hid (show orderPrice c x kind i = if kindF (turn (turn (turn (turn (turn x))))) kind = 2 then 0 else priceF c.syms[m] (shiftF (turn (turn x)) kind i (toss (turn x) 2)) by unfold orderPrice; rw [hgd])
  have HM := Lib.hid hm
  have hsa' := Lib.hid hsa
  clear hsd hgd hm htn hall
  generalize c.syms[m] = s at hc hsr HPR
  obtain ⟨s1, s2, s3, s4, s5⟩ := hsr
  have S5 := Lib.hid s5
  have hc := Lib.hid hc
  have hb0 := Lib.hid (show Below w.heap.size w ((w.alloc (.cells (c.cells sa ta sc tc) 34)).alloc (.cells zeroCells 128)) from ((Below.refl _ _).alloc (Nat.le_refl _) _).alloc (by simp) _)
  have hin' := Lib.hid (hin.below hb0.out)
  have hca := Lib.hid (show ((w.alloc (.cells (c.cells sa ta sc tc) 34)).alloc (.cells zeroCells 128)).cell? ⟨w.heap.size, 0, none⟩ = some (.slice sa c.syms.length sc) by rw [cell_old _ _ _ (by simp)]; exact cell_new _ _ _ _ _ _ rfl rfl)
  have hre := Lib.hid (Blk.new (w.alloc (.cells (c.cells sa ta sc tc) 34)) zeroCells 128 (w.heap.size + 1) (by simp))
  have hz := Lib.hid (show ((w.alloc (.cells (c.cells sa ta sc tc) 34)).alloc (.cells zeroCells 128)).heap.size = w.heap.size + 2 by simp)
  have hdd := Lib.hid ((hd.old (.cells (c.cells sa ta sc tc) 34)).old (.cells zeroCells 128))
  have t9 := toss_in (turn (turn (turn x))) 9 (by decide)
  have t2 := toss_in (turn x) 2 (by decide)
  have sh : -1000 ≤ shiftF (turn (turn x)) kind i (toss (turn x) 2) ∧ shiftF (turn (turn x)) kind i (toss (turn x) 2) ≤ 1000 := by
    have u1 := toss_in (turn (turn x)) 81 (by decide)
    have u2 := toss_in (turn (turn x)) 9 (by decide)
    unfold shiftF
    repeat' split
    all_goals omega
  obtain ⟨t91, t92⟩ := t9
  obtain ⟨t21, t22⟩ := t2
  obtain ⟨sh1, sh2⟩ := sh
  have hi8 : (1 : Int) ≤ (c.syms.length : Int) := by omega
  have hm0 : (0 : Int) ≤ (m : Int) := by omega
  have hm2 : (m : Int) < (c.syms.length : Int) := by omega
  clear hin hd s5 hsa
  unfold Cfg.cells at *
  unfold zeroCells at hb0 hin' hca hre hz hdd
  go_enter Try.func67, Try.ntmps67
  go_wp2_with fail
  refine (check_ref c sa ta sc tc _ hin'.out).mono ?_
  rintro e w1 ⟨rfl, hb1⟩
  rw [CheckEq.check_eq]
  have hz1 : w.heap.size + 2 ≤ w1.heap.size := by have := hb1.size; rw [hz.out] at this; exact this
  have hch1 := Lib.hid (show Chg w.heap.size d w w1 from Chg.of (hb0.out.trans (hb1.mono (by rw [hz.out]; omega))))
  have ca : w1.cell? ⟨w.heap.size, 0, none⟩ = some (.slice sa c.syms.length sc) := by rw [hb1.cell (p := ⟨w.heap.size, 0, none⟩) (by rw [hz.out]; show w.heap.size < _; omega)]; exact hca.out
  have hre1 := Lib.hid (hre.out.below hb1 (by rw [hz.out]; omega))
  have hdd1 := Lib.hid (hdd.out.below hb1 (by rw [hz.out]; omega))
  have hzl : w.heap.size < w1.heap.size := by omega
  have hzb : b < w1.heap.size := by omega
  clear hb1 hb0 hin' hca hre hdd
  have hM := Lib.hid (Blk.new w1 #[.int .i64 (1), .int .i64 (0), .int .i64 (i + 1), .int .i64 (0), .int .i64 (0), .int .i64 (0), .int .i64 (0), .int .i64 (0), .int .i64 (0)] 128 w1.heap.size rfl)
  go_wp2_with fail
  refine (ref_blk d x (c.syms.length : Int) _ hi8 (hdd1.out.old _)).mono ?_
  rintro e w2 ⟨rfl, hq1, hq2, hq3⟩
  rw [HM.out, hsa'.out]
  have hz2 : w2.heap.size = w1.heap.size + 1 := by rw [hq3]; simp
  have hz2' : w1.heap.size < w2.heap.size := by omega
  have HZ2 := Lib.hid hz2
  have hzl2 : w.heap.size < w2.heap.size := by omega
  have hzb2 : b < w2.heap.size := by omega
  have ca2 : w2.cell? ⟨w.heap.size, 0, none⟩ = some (.slice (some ⟨b, off, none⟩) c.syms.length sc) := by
    rw [hq2.cell (p := ⟨w.heap.size, 0, none⟩) (by show w.heap.size < _; simp; omega) (by show w.heap.size ≠ d; omega), cell_old _ _ _ (by show w.heap.size < _; omega), ca, hsa'.out]
  have hre2 := Lib.hid (hq2.blk (by have := hre1.out.lt; simp; omega) (by omega) (hre1.out.old (.cells #[.int .i64 (1), .int .i64 (0), .int .i64 (i + 1), .int .i64 (0), .int .i64 (0), .int .i64 (0), .int .i64 (0), .int .i64 (0), .int .i64 (0)] 128)))
  have hch2 := Lib.hid (hch1.out.trans ((Chg.alloc (Chg.refl w.heap.size d w1) (by omega) (.cells #[.int .i64 (1), .int .i64 (0), .int .i64 (i + 1), .int .i64 (0), .int .i64 (0), .int .i64 (0), .int .i64 (0), .int .i64 (0), .int .i64 (0)] 128)).trans (hq2.mono (by simp; omega))))
  have hM2 := hq2.blk (by simp) (by omega) hM.out
  have hq1' := Lib.hid hq1
  clear hq1 hq2 hq3 hz2 ca hM hre1 hdd1 hch1
  have c1 : w2.cell? ⟨w1.heap.size, 1, none⟩ = some (.int .i64 0) := hM2.cell 1 rfl
  have f1 : w2.frozen? ⟨w1.heap.size, 1, none⟩ = false := hM2.free 1
  have hMb : w1.heap.size ≠ b := by omega
  have hMb' : b ≠ w1.heap.size := by omega
  have g0 : w2.cell? ⟨b, off + m * 16, none⟩ = some (.int .i64 s.grid) := by rw [hch2.out.cell (p := ⟨b, _, none⟩) hbl hbd]; exact hc.out 0 _ rfl
  have g1 : w2.cell? ⟨b, off + m * 16 + 1, none⟩ = some (.int .i64 s.ref) := by rw [hch2.out.cell (p := ⟨b, _, none⟩) hbl hbd]; exact hc.out 1 _ rfl
  have g2 : w2.cell? ⟨b, off + m * 16 + 2, none⟩ = some (.int .i64 s.static) := by rw [hch2.out.cell (p := ⟨b, _, none⟩) hbl hbd]; exact hc.out 2 _ rfl
  have g3 : w2.cell? ⟨b, off + m * 16 + 3, none⟩ = some (.int .i64 s.dynamic) := by rw [hch2.out.cell (p := ⟨b, _, none⟩) hbl hbd]; exact hc.out 3 _ rfl
  have g4 : w2.cell? ⟨b, off + m * 16 + 4, none⟩ = some (.int .i64 s.window) := by rw [hch2.out.cell (p := ⟨b, _, none⟩) hbl hbd]; exact hc.out 4 _ rfl
  have g5 : w2.cell? ⟨b, off + m * 16 + 5, none⟩ = some (.int .i64 s.move) := by rw [hch2.out.cell (p := ⟨b, _, none⟩) hbl hbd]; exact hc.out 5 _ rfl
  have g6 : w2.cell? ⟨b, off + m * 16 + 6, none⟩ = some (.int .i64 s.limit) := by rw [hch2.out.cell (p := ⟨b, _, none⟩) hbl hbd]; exact hc.out 6 _ rfl
  have g7 : w2.cell? ⟨b, off + m * 16 + 7, none⟩ = some (.int .i64 s.pause) := by rw [hch2.out.cell (p := ⟨b, _, none⟩) hbl hbd]; exact hc.out 7 _ rfl
  have g8 : w2.cell? ⟨b, off + m * 16 + 8, none⟩ = some (.int .i64 s.ext) := by rw [hch2.out.cell (p := ⟨b, _, none⟩) hbl hbd]; exact hc.out 8 _ rfl
  have g9 : w2.cell? ⟨b, off + m * 16 + 9, none⟩ = some (.int .i64 s.maxExt) := by rw [hch2.out.cell (p := ⟨b, _, none⟩) hbl hbd]; exact hc.out 9 _ rfl
  have g10 : w2.cell? ⟨b, off + m * 16 + 10, none⟩ = some (.int .i64 s.collar) := by rw [hch2.out.cell (p := ⟨b, _, none⟩) hbl hbd]; exact hc.out 10 _ rfl
  have g11 : w2.cell? ⟨b, off + m * 16 + 11, none⟩ = some (.int .i64 s.widen) := by rw [hch2.out.cell (p := ⟨b, _, none⟩) hbl hbd]; exact hc.out 11 _ rfl
  have g12 : w2.cell? ⟨b, off + m * 16 + 12, none⟩ = some (.int .i64 s.self) := by rw [hch2.out.cell (p := ⟨b, _, none⟩) hbl hbd]; exact hc.out 12 _ rfl
  have g13 : w2.cell? ⟨b, off + m * 16 + 13, none⟩ = some (.int .i64 s.slots) := by rw [hch2.out.cell (p := ⟨b, _, none⟩) hbl hbd]; exact hc.out 13 _ rfl
  have g14 : w2.cell? ⟨b, off + m * 16 + 14, none⟩ = some (.int .i64 s.levels) := by rw [hch2.out.cell (p := ⟨b, _, none⟩) hbl hbd]; exact hc.out 14 _ rfl
  have g15 : w2.cell? ⟨b, off + m * 16 + 15, none⟩ = some (.int .i64 s.short) := by rw [hch2.out.cell (p := ⟨b, _, none⟩) hbl hbd]; exact hc.out 15 _ rfl
  have hs0 : Hid (Sr w d w1.heap.size w2.heap.size s (.slice (some ⟨b, off, none⟩) c.syms.length sc) ((w2.setCell ⟨w1.heap.size, 1, none⟩ (.int .i64 (m : Int))).alloc (.cells s.cells 136)) (turn x) #[.int .i64 (1), .int .i64 ((m : Int)), .int .i64 (i + 1), .int .i64 (0), .int .i64 (0), .int .i64 (0), .int .i64 (0), .int .i64 (0), .int .i64 (0)]) := Lib.hid
    ⟨by rw [cell_old _ _ _ (by simp [World.setCell]; omega), World.cell?_setCell_far _ _ _ _ (by show w1.heap.size ≠ w.heap.size; omega)]; exact ca2,
      (hre2.out.apart _ _ (by have := hre2.out.lt; show w1.heap.size ≠ _; omega)).old _, (hM2.set 1 _).old _, Blk.new _ _ _ _ (by simp [World.setCell]),
      (hq1'.out.apart _ _ (by show w1.heap.size ≠ d; omega)).old _, (hch2.out.setCell _ _ (.inr (by show w.heap.size ≤ w1.heap.size; omega))).alloc (by simp [World.setCell]; omega) _, hlt, by omega, by have := HZ2.out; omega, by have := HZ2.out; omega⟩
  clear hM2
  unfold Sym.cells at hs0
  go_wp2_with fail
  refine (ref_blk d (turn x) 2 _ (by decide) hs0.out.dice).mono ?_
  rintro e w3 ⟨rfl, hq1, hq2, -⟩
  have hs := hs0.out.call hq1 hq2
  clear hq1 hq2 hs0 c1 f1 g0 g1 g2 g3 g4 g5 g6 g7 g8 g9 g10 g11 g12 g13 g14 g15 ca2 hre2 hch2 hq1' HZ2 hMb hMb' hzl hzb hzl2 hzb2 hz2' hz1
  generalize w1.heap.size = M at hs ⊢
  generalize w2.heap.size = X at hs ⊢
  clear hz
  have c4 : w3.cell? ⟨M, 4, none⟩ = some (.int .i64 (0)) := hs.cmd.cell 4 rfl
  have f4 : w3.frozen? ⟨M, 4, none⟩ = false := hs.cmd.free 4
  go_wp2_with fail
  have hs' : Sr w d M X s (.slice (some ⟨b, off, none⟩) c.syms.length sc) (w3.setCell ⟨M, 4, none⟩ (.int .i64 (toss (turn x) 2))) (turn (turn x)) #[.int .i64 (1), .int .i64 ((m : Int)), .int .i64 (i + 1), .int .i64 (0), .int .i64 (toss (turn x) 2), .int .i64 (0), .int .i64 (0), .int .i64 (0), .int .i64 (0)] := hs.set 4 _
  generalize w3.setCell ⟨M, 4, none⟩ (.int .i64 (toss (turn x) 2)) = W3 at hs' ⊢
  clear hs c4 f4
  have K8 := Lib.hid (keep8 hs'.drew)
  have HS3 := Lib.hid hs'
  clear hs'
  have q0 : 0 ≤ s.ref / s.grid := Int.ediv_nonneg (by omega) (by omega)
  have q1 : s.ref / s.grid ≤ 1099511627776 := Int.le_trans (Int.ediv_le_self _ (by omega)) s4
  have q2 : 1 ≤ 1099511627776 / s.grid := (Int.le_ediv_iff_mul_le (by omega)).2 (by omega)
  have q3 : 1099511627776 / s.grid ≤ 1099511627776 := Int.ediv_le_self _ (by decide)
  have q4 : IntKind.i64.wrap (s.ref / s.grid + shiftF (turn (turn x)) kind i (toss (turn x) 2)) = s.ref / s.grid + shiftF (turn (turn x)) kind i (toss (turn x) 2) := IntWalk.i64_in _ ⟨by omega, by omega⟩
  have q5 : ¬ s.grid = 0 := by omega
  have q6 : IntKind.i64.wrap (s.ref.tdiv s.grid) = s.ref / s.grid := IntWalk.i64_quo _ _ ⟨by omega, by omega, s1⟩
  go_region_held3 (fun w' => w'.cell? ⟨X, 1, none⟩ = some (.int .i64 s.ref) ∧ w'.cell? ⟨X, 0, none⟩ = some (.int .i64 s.grid) ∧ w'.cell? ⟨M, 4, none⟩ = some (.int .i64 (toss (turn x) 2)))
    (first | exact K8.out | exact keep8 HS4.out)
    (first | (go_at_call 112; refine (shift_ref d (turn (turn x)) kind i (toss (turn x) 2) _ HS3.out.drew.dice hk0 hk1 hi0 hi1 t21 (by omega)).mono ?_; rintro e w4 ⟨rfl, hr1, hr2, -⟩; have HS4 := Lib.hid (HS3.out.drew.call hr1 hr2); clear hr1 hr2))
  clear q4 q6 HS3 K8
  have c6 : w4.cell? ⟨M, 6, none⟩ = some (.int .i64 (0)) := HS4.out.cmd.cell 6 rfl
  have f6 : w4.frozen? ⟨M, 6, none⟩ = false := HS4.out.cmd.free 6
  have k9 : w4.cell? ⟨X, 0, none⟩ = some (.int .i64 s.grid) := HS4.out.sym.cell 0 rfl
  have q7 : IntKind.i64.wrap ((1099511627776 : Int).tdiv s.grid) = 1099511627776 / s.grid := IntWalk.i64_quo _ _ ⟨by decide, by decide, s1⟩
  have HV := Lib.hid (grid_in s.grid s1 s2)
  generalize hk : s.ref / s.grid + shiftF (turn (turn x)) kind i (toss (turn x) 2) = kk at q0 q1 ⊢
  have HK := Lib.hid hk
  clear hk
  go_upto_region 9 with fail
  go_cut [] (fun wx => Sr w d M X s (.slice (some ⟨b, off, none⟩) c.syms.length sc) wx (turn (turn (turn x))) #[.int .i64 (1), .int .i64 ((m : Int)), .int .i64 (i + 1), .int .i64 (0), .int .i64 (toss (turn x) 2), .int .i64 (0), .int .i64 (priceF s (shiftF (turn (turn x)) kind i (toss (turn x) 2))), .int .i64 (0), .int .i64 (0)])
  case first =>
    go_region_held3 (fun w' => w'.cell? ⟨X, 0, none⟩ = some (.int .i64 s.grid)) (first | exact k9 | (simp [k9, World.cell?_setCell_far, HS4.out.ne])) (fail)
    have hval : IntKind.i64.wrap (s.grid * (if (if 1099511627776 / s.grid < kk then 1099511627776 / s.grid else kk) < 1 then 1 else if 1099511627776 / s.grid < kk then 1099511627776 / s.grid else kk)) = priceF s (shiftF (turn (turn x)) kind i (toss (turn x) 2)) := by
      unfold priceF
      rw [HK.out]
      have e : (if (if 1099511627776 / s.grid < kk then 1099511627776 / s.grid else kk) < 1 then 1 else if 1099511627776 / s.grid < kk then 1099511627776 / s.grid else kk) = max (min kk (1099511627776 / s.grid)) 1 := by
        generalize 1099511627776 / s.grid = q
        by_cases h1 : q < kk
        · rw [if_pos h1]; by_cases h2 : q < 1
          · rw [if_pos h2]; omega
          · rw [if_neg h2]; omega
        · rw [if_neg h1]; by_cases h2 : kk < 1
          · rw [if_pos h2]; omega
          · rw [if_neg h2]; omega
      rw [e]
      exact (HV.out _ (by omega) (by omega)).2
    rw [hval]
    have hrel := (HS4.out.set 6 (.int .i64 (priceF s (shiftF (turn (turn x)) kind i (toss (turn x) 2))))).drew
    go_wp2_with fail
    all_goals (go_meet; exact hrel)
  case rest =>
    have hs := hcut
    clear hcut HS4 c6 f6 k9 q7 HV
    go_wp2_with fail
    refine (ref_blk d (turn (turn (turn x))) 9 _ (by decide) hs.dice).mono ?_
    rintro e w4 ⟨rfl, hq1, hq2, -⟩
    have hs' : Sr w d M X s (.slice (some ⟨b, off, none⟩) c.syms.length sc) w4 (turn (turn (turn (turn x)))) #[.int .i64 (1), .int .i64 ((m : Int)), .int .i64 (i + 1), .int .i64 (0), .int .i64 (toss (turn x) 2), .int .i64 (0), .int .i64 (priceF s (shiftF (turn (turn x)) kind i (toss (turn x) 2))), .int .i64 (0), .int .i64 (0)] := hs.call hq1 hq2
    clear hs hq1 hq2 
    have hs := hs'
    clear hs'
    have c7 : w4.cell? ⟨M, 7, none⟩ = some (.int .i64 (0)) := hs.cmd.cell 7 rfl
    have f7 : w4.frozen? ⟨M, 7, none⟩ = false := hs.cmd.free 7
    go_wp2_with fail
    refine (ref_blk d (turn (turn (turn (turn x)))) 4 _ (by decide) (hs.set 7 (.int .i64 (1 + toss (turn (turn (turn x))) 9))).dice).mono ?_
    rintro e w5 ⟨rfl, hq1, hq2, -⟩
    have hs' : Sr w d M X s (.slice (some ⟨b, off, none⟩) c.syms.length sc) w5 (turn (turn (turn (turn (turn x))))) #[.int .i64 (1), .int .i64 ((m : Int)), .int .i64 (i + 1), .int .i64 (0), .int .i64 (toss (turn x) 2), .int .i64 (0), .int .i64 (priceF s (shiftF (turn (turn x)) kind i (toss (turn x) 2))), .int .i64 (1 + toss (turn (turn (turn x))) 9), .int .i64 (0)] := (hs.set 7 (.int .i64 (1 + toss (turn (turn (turn x))) 9))).call hq1 hq2
    clear hs hq1 hq2 c7 f7
    have hs := hs'
    clear hs'
    have c3 : w5.cell? ⟨M, 3, none⟩ = some (.int .i64 (0)) := hs.cmd.cell 3 rfl
    have f3 : w5.frozen? ⟨M, 3, none⟩ = false := hs.cmd.free 3
    have c5 : w5.cell? ⟨M, 5, none⟩ = some (.int .i64 (0)) := hs.cmd.cell 5 rfl
    have f5 : w5.frozen? ⟨M, 5, none⟩ = false := hs.cmd.free 5
    go_wp2_with fail
    refine (ref_blk d (turn (turn (turn (turn (turn x))))) 8 _ (by decide) ((hs.set 3 (.int .i64 (toss (turn (turn (turn (turn x)))) 4))).set 5 (.int .i64 (1))).dice).mono ?_
    rintro e w6 ⟨rfl, hq1, hq2, -⟩
    have hs' : Sr w d M X s (.slice (some ⟨b, off, none⟩) c.syms.length sc) w6 (turn (turn (turn (turn (turn (turn x)))))) #[.int .i64 (1), .int .i64 ((m : Int)), .int .i64 (i + 1), .int .i64 (toss (turn (turn (turn (turn x)))) 4), .int .i64 (toss (turn x) 2), .int .i64 (1), .int .i64 (priceF s (shiftF (turn (turn x)) kind i (toss (turn x) 2))), .int .i64 (1 + toss (turn (turn (turn x))) 9), .int .i64 (0)] := ((hs.set 3 (.int .i64 (toss (turn (turn (turn (turn x)))) 4))).set 5 (.int .i64 (1))).call hq1 hq2
    clear hs hq1 hq2 c3 f3 c5 f5
    have hs := hs'
    clear hs'
    generalize hn8' : toss (turn (turn (turn (turn (turn x))))) 8 = n8
    have HN8 := Lib.hid hn8'
    clear hn8'
    go_upto_block 0 with fail
    go_cut [] (fun wx => Sr w d M X s (.slice (some ⟨b, off, none⟩) c.syms.length sc) wx (turn (turn (turn (turn (turn (turn x)))))) #[.int .i64 (1), .int .i64 ((m : Int)), .int .i64 (i + 1), .int .i64 (toss (turn (turn (turn (turn x)))) 4), .int .i64 (toss (turn x) 2), .int .i64 (kindF (turn (turn (turn (turn (turn x))))) kind), .int .i64 (orderPrice c x kind i), .int .i64 (1 + toss (turn (turn (turn x))) 9), .int .i64 (0)])
    case first =>
      by_cases h0 : n8 = 0
      · have b0 : (n8 == 0) = true := by simp [h0]
        have HK : Hid (kindF (turn (turn (turn (turn (turn x))))) kind = 3) := Lib.hid (by unfold kindF; rw [HN8.out, if_pos h0])
        clear h0
        have c5 : w6.cell? ⟨M, 5, none⟩ = some (.int .i64 (1)) := hs.cmd.cell 5 rfl
        have f5 : w6.frozen? ⟨M, 5, none⟩ = false := hs.cmd.free 5
        have HPR' : Hid (orderPrice c x kind i = priceF s (shiftF (turn (turn x)) kind i (toss (turn x) 2))) := Lib.hid (by rw [HPR.out, HK.out]; rfl)
        have hrel := (hs.set 5 (.int .i64 (3)))
        have HREL := Lib.hid hrel
        clear hrel
        go_wp2_with fail
        go_meet
        rw [HK.out, HPR'.out]
        exact HREL.out
      · have b0 : (n8 == 0) = false := by simp [h0]
        by_cases h1 : n8 = 1
        · have b1 : (n8 == 1) = true := by simp [h1]
          have HK : Hid (kindF (turn (turn (turn (turn (turn x))))) kind = 5) := Lib.hid (by unfold kindF; rw [HN8.out, if_neg h0, if_pos h1])
          clear h0 h1
          have c5 : w6.cell? ⟨M, 5, none⟩ = some (.int .i64 (1)) := hs.cmd.cell 5 rfl
          have f5 : w6.frozen? ⟨M, 5, none⟩ = false := hs.cmd.free 5
          have HPR' : Hid (orderPrice c x kind i = priceF s (shiftF (turn (turn x)) kind i (toss (turn x) 2))) := Lib.hid (by rw [HPR.out, HK.out]; rfl)
          have hrel := (hs.set 5 (.int .i64 (5)))
          have HREL := Lib.hid hrel
          clear hrel
          go_wp2_with fail
          go_meet
          rw [HK.out, HPR'.out]
          exact HREL.out
        · have b1 : (n8 == 1) = false := by simp [h1]
          by_cases h2 : n8 = 2
          · have b2 : (n8 == 2) = true := by simp [h2]
            by_cases h3 : kind = 4
            · have b3 : (kind == 4) = true := by simp [h3]
              have HK : Hid (kindF (turn (turn (turn (turn (turn x))))) kind = 2) := Lib.hid (by unfold kindF; rw [HN8.out, if_neg h0, if_neg h1, if_pos ⟨h2, h3⟩])
              clear h0 h1 h2 h3
              have c5 : w6.cell? ⟨M, 5, none⟩ = some (.int .i64 (1)) := hs.cmd.cell 5 rfl
              have f5 : w6.frozen? ⟨M, 5, none⟩ = false := hs.cmd.free 5
              have c6 : w6.cell? ⟨M, 6, none⟩ = some (.int .i64 (priceF s (shiftF (turn (turn x)) kind i (toss (turn x) 2)))) := hs.cmd.cell 6 rfl
              have f6 : w6.frozen? ⟨M, 6, none⟩ = false := hs.cmd.free 6
              have HPR' : Hid (orderPrice c x kind i = 0) := Lib.hid (by rw [HPR.out, HK.out]; rfl)
              have hrel := ((hs.set 5 (.int .i64 (2))).set 6 (.int .i64 (0)))
              have HREL := Lib.hid hrel
              clear hrel
              go_wp2_with fail
              go_meet
              rw [HK.out, HPR'.out]
              exact HREL.out
            · have b3 : (kind == 4) = false := by simp [h3]
              have HK : Hid (kindF (turn (turn (turn (turn (turn x))))) kind = 1) := Lib.hid (by unfold kindF; rw [HN8.out, if_neg h0, if_neg h1, if_neg (fun h => h3 h.2)])
              clear h0 h1 h2 h3
              have HPR' : Hid (orderPrice c x kind i = priceF s (shiftF (turn (turn x)) kind i (toss (turn x) 2))) := Lib.hid (by rw [HPR.out, HK.out]; rfl)
              have hrel := hs
              have HREL := Lib.hid hrel
              clear hrel
              go_wp2_with fail
              go_meet
              rw [HK.out, HPR'.out]
              exact HREL.out
          · have b2 : (n8 == 2) = false := by simp [h2]
            have HK : Hid (kindF (turn (turn (turn (turn (turn x))))) kind = 1) := Lib.hid (by unfold kindF; rw [HN8.out, if_neg h0, if_neg h1, if_neg (fun h => h2 h.1)])
            clear h0 h1 h2
            have HPR' : Hid (orderPrice c x kind i = priceF s (shiftF (turn (turn x)) kind i (toss (turn x) 2))) := Lib.hid (by rw [HPR.out, HK.out]; rfl)
            have hrel := hs
            have HREL := Lib.hid hrel
            clear hrel
            go_wp2_with fail
            go_meet
            rw [HK.out, HPR'.out]
            exact HREL.out
    case rest =>
      have hs := hcut
      clear hcut HN8
      go_wp2_with fail
      refine (ref_blk d (turn (turn (turn (turn (turn (turn x)))))) 6 _ (by decide) hs.dice).mono ?_
      rintro e w7 ⟨rfl, hq1, hq2, -⟩
      have hs' : Sr w d M X s (.slice (some ⟨b, off, none⟩) c.syms.length sc) w7 (turn (turn (turn (turn (turn (turn (turn x))))))) #[.int .i64 (1), .int .i64 ((m : Int)), .int .i64 (i + 1), .int .i64 (toss (turn (turn (turn (turn x)))) 4), .int .i64 (toss (turn x) 2), .int .i64 (kindF (turn (turn (turn (turn (turn x))))) kind), .int .i64 (orderPrice c x kind i), .int .i64 (1 + toss (turn (turn (turn x))) 9), .int .i64 (0)] := hs.call hq1 hq2
      clear hs hq1 hq2 
      have hs := hs'
      clear hs'
      generalize hn6' : toss (turn (turn (turn (turn (turn (turn x)))))) 6 = n6
      have HN6 := Lib.hid hn6'
      clear hn6'
      go_upto_block 1 with fail
      go_cut [] (fun wx => Sr w d M X s (.slice (some ⟨b, off, none⟩) c.syms.length sc) wx (turn (turn (turn (turn (turn (turn (turn x))))))) #[.int .i64 (1), .int .i64 ((m : Int)), .int .i64 (i + 1), .int .i64 (toss (turn (turn (turn (turn x)))) 4), .int .i64 (toss (turn x) 2), .int .i64 (kindF (turn (turn (turn (turn (turn x))))) kind), .int .i64 (orderPrice c x kind i), .int .i64 (1 + toss (turn (turn (turn x))) 9), .int .i64 (flagF (toss (turn (turn (turn (turn (turn (turn x)))))) 6))])
      case first =>
        by_cases h0 : n6 = 0
        · have b0 : (n6 == 0) = true := by simp [h0]
          have HF : Hid (flagF n6 = 4) := Lib.hid (by unfold flagF; rw [if_pos h0])
          clear h0
          have c8 : w7.cell? ⟨M, 8, none⟩ = some (.int .i64 (0)) := hs.cmd.cell 8 rfl
          have f8 : w7.frozen? ⟨M, 8, none⟩ = false := hs.cmd.free 8
          have HREL := Lib.hid (hs.set 8 (.int .i64 (4)))
          go_wp2_with fail
          go_meet
          rw [HN6.out, HF.out]
          exact HREL.out
        · have b0 : (n6 == 0) = false := by simp [h0]
          by_cases h1 : n6 = 1
          · have b1 : (n6 == 1) = true := by simp [h1]
            have HF : Hid (flagF n6 = 1) := Lib.hid (by unfold flagF; rw [if_neg h0, if_pos h1])
            clear h0 h1
            have c8 : w7.cell? ⟨M, 8, none⟩ = some (.int .i64 (0)) := hs.cmd.cell 8 rfl
            have f8 : w7.frozen? ⟨M, 8, none⟩ = false := hs.cmd.free 8
            have HREL := Lib.hid (hs.set 8 (.int .i64 (1)))
            go_wp2_with fail
            go_meet
            rw [HN6.out, HF.out]
            exact HREL.out
          · have b1 : (n6 == 1) = false := by simp [h1]
            have HF : Hid (flagF n6 = 0) := Lib.hid (by unfold flagF; rw [if_neg h0, if_neg h1])
            clear h0 h1
            have HREL := Lib.hid hs
            go_wp2_with fail
            go_meet
            rw [HN6.out, HF.out]
            exact HREL.out
      case rest =>
        have hs := hcut
        clear hcut HN6
        have hMR : w.heap.size + 1 ≠ M := by have := hs.hM; omega
        have hRd : w.heap.size + 1 ≠ d := by have := hs.lt; omega
        have HS := Lib.hid hs
        clear hs HPR
        go_upto_region 26 with fail
        go_step
        refine load_blk rfl 128 _ rfl M rfl (#[.int .i64 (1), .int .i64 ((m : Int)), .int .i64 (i + 1), .int .i64 (toss (turn (turn (turn (turn x)))) 4), .int .i64 (toss (turn x) 2), .int .i64 (kindF (turn (turn (turn (turn (turn x))))) kind), .int .i64 (orderPrice c x kind i), .int .i64 (1 + toss (turn (turn (turn x))) 9), .int .i64 (flagF (toss (turn (turn (turn (turn (turn (turn x)))))) 6))] : Array Value) 128 HS.out.cmd _ Try.underlying128 rfl (by kernel_rfl) ?_
        refine store_blk rfl 128 _ _ rfl (w.heap.size + 1) rfl zeroCells (#[.int .i64 (1), .int .i64 ((m : Int)), .int .i64 (i + 1), .int .i64 (toss (turn (turn (turn (turn x)))) 4), .int .i64 (toss (turn x) 2), .int .i64 (kindF (turn (turn (turn (turn (turn x))))) kind), .int .i64 (orderPrice c x kind i), .int .i64 (1 + toss (turn (turn (turn x))) 9), .int .i64 (flagF (toss (turn (turn (turn (turn (turn (turn x)))))) 6))] : Array Value) 128 HS.out.res rfl rfl (by kernel_rfl) (by simp [Value.oneCell']) ?_
        have HR := HS.out.res.setCells (#[.int .i64 (1), .int .i64 ((m : Int)), .int .i64 (i + 1), .int .i64 (toss (turn (turn (turn (turn x)))) 4), .int .i64 (toss (turn x) 2), .int .i64 (kindF (turn (turn (turn (turn (turn x))))) kind), .int .i64 (orderPrice c x kind i), .int .i64 (1 + toss (turn (turn (turn x))) 9), .int .i64 (flagF (toss (turn (turn (turn (turn (turn (turn x)))))) 6))] : Array Value) rfl
        have HD := Lib.hid (HS.out.dice.apartAll (#[.int .i64 (1), .int .i64 ((m : Int)), .int .i64 (i + 1), .int .i64 (toss (turn (turn (turn (turn x)))) 4), .int .i64 (toss (turn x) 2), .int .i64 (kindF (turn (turn (turn (turn (turn x))))) kind), .int .i64 (orderPrice c x kind i), .int .i64 (1 + toss (turn (turn (turn x))) 9), .int .i64 (flagF (toss (turn (turn (turn (turn (turn (turn x)))))) 6))] : Array Value).toList 0 _ hRd)
        have HC := Lib.hid (HS.out.chg.setCells (#[.int .i64 (1), .int .i64 ((m : Int)), .int .i64 (i + 1), .int .i64 (toss (turn (turn (turn (turn x)))) 4), .int .i64 (toss (turn x) 2), .int .i64 (kindF (turn (turn (turn (turn (turn x))))) kind), .int .i64 (orderPrice c x kind i), .int .i64 (1 + toss (turn (turn (turn x))) 9), .int .i64 (flagF (toss (turn (turn (turn (turn (turn (turn x)))))) 6))] : Array Value).toList 0 _ (B := w.heap.size + 1) (.inr (by omega)))
        generalize World.setCells wc (w.heap.size + 1) 0 (#[.int .i64 (1), .int .i64 ((m : Int)), .int .i64 (i + 1), .int .i64 (toss (turn (turn (turn (turn x)))) 4), .int .i64 (toss (turn x) 2), .int .i64 (kindF (turn (turn (turn (turn (turn x))))) kind), .int .i64 (orderPrice c x kind i), .int .i64 (1 + toss (turn (turn (turn x))) 9), .int .i64 (flagF (toss (turn (turn (turn (turn (turn (turn x)))))) 6))] : Array Value).toList = wf at HR HD HC ⊢
        have e0 : wf.cell? ⟨w.heap.size + 1, 0, none⟩ = some (.int .i64 (1)) := HR.cell 0 rfl
        have e1 : wf.cell? ⟨w.heap.size + 1, 1, none⟩ = some (.int .i64 ((m : Int))) := HR.cell 1 rfl
        have e2 : wf.cell? ⟨w.heap.size + 1, 2, none⟩ = some (.int .i64 (i + 1)) := HR.cell 2 rfl
        have e3 : wf.cell? ⟨w.heap.size + 1, 3, none⟩ = some (.int .i64 (toss (turn (turn (turn (turn x)))) 4)) := HR.cell 3 rfl
        have e4 : wf.cell? ⟨w.heap.size + 1, 4, none⟩ = some (.int .i64 (toss (turn x) 2)) := HR.cell 4 rfl
        have e5 : wf.cell? ⟨w.heap.size + 1, 5, none⟩ = some (.int .i64 (kindF (turn (turn (turn (turn (turn x))))) kind)) := HR.cell 5 rfl
        have e6 : wf.cell? ⟨w.heap.size + 1, 6, none⟩ = some (.int .i64 (orderPrice c x kind i)) := HR.cell 6 rfl
        have e7 : wf.cell? ⟨w.heap.size + 1, 7, none⟩ = some (.int .i64 (1 + toss (turn (turn (turn x))) 9)) := HR.cell 7 rfl
        have e8 : wf.cell? ⟨w.heap.size + 1, 8, none⟩ = some (.int .i64 (flagF (toss (turn (turn (turn (turn (turn (turn x)))))) 6))) := HR.cell 8 rfl
        have HR' := Lib.hid HR
        clear HR
        go_wp2
        refine bodyPost_ret (v := .agg (#[.int .i64 (1), .int .i64 ((m : Int)), .int .i64 (i + 1), .int .i64 (toss (turn (turn (turn (turn x)))) 4), .int .i64 (toss (turn x) 2), .int .i64 (kindF (turn (turn (turn (turn (turn x))))) kind), .int .i64 (orderPrice c x kind i), .int .i64 (1 + toss (turn (turn (turn x))) 9), .int .i64 (flagF (toss (turn (turn (turn (turn (turn (turn x)))))) 6))] : Array Value)) (by simp [results, Try.results67, go_sem, e0, e1, e2, e3, e4, e5, e6, e7, e8]) rfl ⟨?_, HD.out, HC.out⟩
        unfold orderCells
        rw [HM.out, Int.add_comm (toss (turn (turn (turn x))) 9) 1]
end Go.Proofs.Ytogjgpiddjmpiaa.RefOrder
