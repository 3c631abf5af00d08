/- watch.New: a watch of a configuration. -/
import Derived.Test.YtggkhnmhhifniaaWatchAsk
import Derived.Test.YtggkhnmhhifniaaCheck
import Derived.Deep.RegionLaw
namespace Go.Proofs.Ytggkhnmhhifniaa.Watch
open Go.RowKit Go.Proofs.Ytggkhnmhhifniaa.Kit Go.Proofs.Ytggkhnmhhifniaa.Blk Go.Proofs.Ytggkhnmhhifniaa.Symbol Go.Proofs.Ytggkhnmhhifniaa.Check
attribute [local go_sem ↓] Go.wp_at_zero Go.wp_at_succ

theorem infoRow : (Try.prog.info? 75).map (fun i => (i.zero, i.size, i.bytes)) = some (some (.agg (rowCells noSym Kn.zero)), 26, 208) := by kernel_rfl
theorem few_of (c : Cfg) (h : (checkF c).1 = 0) : 1 ≤ c.syms.length ∧ c.syms.length ≤ 8 := by
  cases ha : allIn 1 8 [(c.syms.length : Int)] with
  | true => simp [allIn] at ha; omega
  | false => rw [check_none c ha] at h; cases h

/-- The rows of a new watch. -/
def newRows : List Sym → List Value
  | [] => []
  | s :: l => (rowCells s Kn.zero).toList ++ newRows l
theorem newRows_append (a b : List Sym) : newRows (a ++ b) = newRows a ++ newRows b := by
  induction a with
  | nil => rfl
  | cons s l ih => simp [newRows, ih]
theorem newRows_length (a : List Sym) : (newRows a).length = a.length * 26 := by
  induction a with
  | nil => rfl
  | cons s l ih =>
    have : (rowCells s Kn.zero).toList.length = 26 := rfl
    simp only [newRows, List.length_append, ih, this, List.length_cons]; omega
theorem newRows_at (l : List Sym) : ∀ (i j : Nat) (v : Value), i < l.length → (rowCells (l.getD i noSym) Kn.zero)[j]? = some v → (newRows l)[i * 26 + j]? = some v := by
  induction l with
  | nil => intro i j v h; simp at h
  | cons s l ih =>
    intro i j v hi hv
    have hs : (rowCells s Kn.zero).toList.length = 26 := rfl
    cases i with
    | zero =>
      have hj : j < 26 := (Array.getElem?_eq_some_iff.1 hv).1
      simp only [newRows, Nat.zero_mul, Nat.zero_add]
      rw [List.getElem?_append_left (by omega)]
      simpa using hv
    | succ i =>
      simp only [newRows]
      rw [List.getElem?_append_right (by omega), hs, show (i + 1) * 26 + j - 26 = i * 26 + j by omega]
      exact ih i j v (by simpa using hi) (by simpa using hv)

/-- The watch while it is made. -/
structure Mk (w wr : World) (H k : Nat) (ov : Value) (l : List Sym) : Prop where
  base : Below w.heap.size w wr
  head : Blk wr H #[ov, .int .i64 0, .int .i64 0] 71
  own : wr.ownsRow w.heap.size 75 26 ov k (newRows (l.take k))
  ne : ov.ownBlock ≠ some H
  hi : w.heap.size ≤ H

theorem Mk.head3 {w W W3 : World} {H k : Nat} {ov : Value} {l : List Sym} {A : Obj} (h : Mk w W H k ov l) (hg : (W.alloc A).drew.grownBy W3 ov.ownBlock) : Blk W3 H #[ov, .int .i64 0, .int .i64 0] 71 := by
  have hl := h.head.lt
  unfold Blk
  rw [hg.block H (by show H < (W.alloc A).heap.size; simp; omega) (fun e => h.ne e.symm)]
  exact (h.head.old A)
theorem Mk.grow {w W W3 : World} {H k gg cap : Nat} {ov : Value} {l : List Sym} {A : Obj} {cs : List Value} (h : Mk w W H k ov l) (hT : newRows (l.take (k + 1)) = newRows (l.take k) ++ cs) (hg : (W.alloc A).drew.grownBy W3 ov.ownBlock)
    (ho : W3.ownsRow w.heap.size 75 26 (.slice (some ⟨gg, 0, none⟩) (k + 1) cap) (k + 1) (newRows (l.take k) ++ cs)) (hat : ov.ownBlock = some gg ∨ gg = W.heap.size + 1) :
    Mk w (W3.setCell ⟨H, 0, none⟩ (.slice (some ⟨gg, 0, none⟩) (k + 1) cap)) H (k + 1) (.slice (some ⟨gg, 0, none⟩) (k + 1) cap) l := by
  have hl := h.head.lt
  have h3 := h.head3 hg
  have hz : (W.alloc A).drew.heap.size = W.heap.size + 1 := by show (W.alloc A).heap.size = _; simp
  have hne : gg ≠ H := by
    rcases hat with h1 | h1
    · intro e; subst e; exact h.ne h1
    · omega
  have hb3 : Below w.heap.size w W3 := by
    have hb2 : Below w.heap.size w (W.alloc A).drew := (h.base.alloc h.base.size _).drew
    refine hb2.trans ⟨hg.os, hg.tape, hg.output, hg.size, fun j hj => hg.block j (by have := hb2.size; omega) ?_⟩
    intro e
    have := h.own.lt j e.symm
    omega
  refine ⟨hb3.setCell h.hi _, h3.set 0 _, ?_, ?_, h.hi⟩
  · rw [hT]
    refine ho.kept (row := some H) ⟨rfl, rfl, rfl, by simp [World.setCell], fun j hj he => Below.heap_setCell _ _ _ _ (fun e => he (by rw [e]))⟩ (Or.inr ?_)
    simp [Value.ownBlock, hne]
  · simp [Value.ownBlock, hne]
/-- The watch that is made at last. -/
theorem Mk.pw {w W : World} {H n : Nat} {ov : Value} {l : List Sym} (h : Mk w W H n ov l) (hn : n = l.length) (h1 : 1 ≤ n) (h8 : n ≤ 8) : ∃ L cap, w.heap.size ≤ L ∧ PW W H L cap l (l.map fun _ => Kn.zero) 0 0 := by
  obtain ⟨g, cap, rfl, hb, hlt⟩ := h.own.form (by omega)
  have ho := h.own
  subst hn
  rw [List.take_length] at ho
  refine ⟨g, cap, hb, ⟨by rw [List.length_map]; exact h.head, ?_, fun j => ho.frozenAt j, by simp, ?_, hlt, by simpa using h8⟩⟩
  · intro i hi j v hv
    rw [List.length_map] at hi
    have e : (l.map fun _ => Kn.zero).getD i Kn.zero = Kn.zero := by simp [List.getD, hi]
    rw [e] at hv
    have hj : j < 26 := (Array.getElem?_eq_some_iff.1 hv).1
    rw [ho.cellAt (i * 26 + j) (by omega)]
    exact newRows_at l i j v hi hv
  · intro e
    exact h.ne (by rw [e]; rfl)

/-- What New hands back: a watch of the configuration, or its fault. -/
def Made (c : Cfg) (w w' : World) (e : Ending) : Prop :=
  ((checkF c).1 = 0 ∧ ∃ P L cap, e = .returned (.tuple #[.pointer (some ⟨P, 0, none⟩), .int .i64 0]) ∧ w.heap.size ≤ P ∧ w.heap.size ≤ L ∧ PW w' P L cap c.syms (c.syms.map fun _ => Kn.zero) 0 0) ∨
  ((checkF c).1 ≠ 0 ∧ e = .returned (.tuple #[.pointer none, .int .i64 (checkF c).1]))
theorem made_ok {c : Cfg} {w w' : World} {P L cap : Nat} (h : (checkF c).1 = 0) (h1 : w.heap.size ≤ P) (h2 : w.heap.size ≤ L) (h3 : PW w' P L cap c.syms (c.syms.map fun _ => Kn.zero) 0 0) :
    Made c w w' (.returned (.tuple #[.pointer (some ⟨P, 0, none⟩), .int .i64 0])) := .inl ⟨h, P, L, cap, rfl, h1, h2, h3⟩
theorem made_no {c : Cfg} {w w' : World} (h : (checkF c).1 ≠ 0) : Made c w w' (.returned (.tuple #[.pointer none, .int .i64 (checkF c).1])) := .inr ⟨h, rfl⟩

set_option maxRecDepth 100000 in
set_option maxHeartbeats 4000000 in
theorem new_any (c : Cfg) (sa ta : Option Addr) (sc tc : Nat) (w : World) (hin : c.In w sa ta) :
    Calls Try.prog 9 #[.agg (c.cells sa ta sc tc)] w fun e w' => Below w.heap.size w w' ∧ Made c w w' e := by
  obtain ⟨i0, hi0, hz0, hz1, hz2⟩ := info_parts infoRow
  have hb0 := Lib.hid (show Below w.heap.size w (w.alloc (.cells (c.cells sa ta sc tc) 27)) from (Below.refl _ _).alloc (Nat.le_refl _) _)
  have hbx := Lib.hid (Blk.new w (c.cells sa ta sc tc) 27 w.heap.size rfl)
  have hbz := Lib.hid (show (w.alloc (.cells (c.cells sa ta sc tc) 27)).heap.size = w.heap.size + 1 by simp)
  have HIN := Lib.hid hin
  obtain ⟨hsy, -, -, -⟩ := hin
  unfold Cfg.cells at hb0 hbx hbz ⊢
  go_enter Try.func9, Try.ntmps9
  go_wp2_with fail
  refine (Check.check_any c sa ta sc tc _ (HIN.out.below hb0.out)).mono ?_
  rintro e w1 ⟨rfl, hb1⟩
  have HB1 := Lib.hid (hb0.out.trans (hb1.mono (by rw [hbz.out]; omega)))
  have HX1 := Lib.hid (hbx.out.below hb1 (by rw [hbz.out]; omega))
  have hzw : w.heap.size < w1.heap.size := by have := hb1.size; rw [hbz.out] at this; omega
  clear hb1 hb0 hbx hbz
  by_cases hf : (checkF c).1 = 0
  · have HF := Lib.hid hf
    obtain ⟨hn1, hn8⟩ := few_of c hf
    have f0 : ((checkF c).1 != 0) = false := by rw [hf]; rfl
    clear hf
    have c0 : w1.cell? ⟨w.heap.size, 0, none⟩ = some (.slice sa c.syms.length sc) := HX1.out.cell 0 rfl
    go_wp2_with fail
    clear c0
    go_loopw [22] (fun i wr => ∃ (k : Nat) (ov : Value), k ≤ c.syms.length ∧ i = .int .i64 k ∧ Mk w wr w1.heap.size k ov c.syms) (fun i _ => c.syms.length - (intOf i).toNat)
    case atStart => exact ⟨0, .slice none 0 0, by omega, rfl, HB1.out.alloc (by omega) _, Blk.new _ _ _ _ rfl, World.ownsRow_nil _ _ _ _, by simp [Value.ownBlock], by omega⟩
    case round =>
      obtain ⟨k, ov, hk, rfl, hm⟩ := hrel
      by_cases hlt : k < c.syms.length
      · obtain ⟨b, off, rfl, hbl, hc⟩ := hsy k hlt
        have HT := Lib.hid (show newRows (c.syms.take (k + 1)) = newRows (c.syms.take k) ++ (rowCells c.syms[k] Kn.zero).toList by rw [List.take_succ_eq_append_getElem hlt, newRows_append]; simp [newRows])
        generalize c.syms[k] = s at hc HT
        have g0 : wr.cell? ⟨b, off + k * 16, none⟩ = some (.int .i64 s.grid) := by rw [hm.base.cell (p := ⟨b, _, none⟩) hbl]; exact hc 0 _ rfl
        have g1 : wr.cell? ⟨b, off + k * 16 + 1, none⟩ = some (.int .i64 s.ref) := by rw [hm.base.cell (p := ⟨b, _, none⟩) hbl]; exact hc 1 _ rfl
        have g2 : wr.cell? ⟨b, off + k * 16 + 2, none⟩ = some (.int .i64 s.static) := by rw [hm.base.cell (p := ⟨b, _, none⟩) hbl]; exact hc 2 _ rfl
        have g3 : wr.cell? ⟨b, off + k * 16 + 3, none⟩ = some (.int .i64 s.dynamic) := by rw [hm.base.cell (p := ⟨b, _, none⟩) hbl]; exact hc 3 _ rfl
        have g4 : wr.cell? ⟨b, off + k * 16 + 4, none⟩ = some (.int .i64 s.window) := by rw [hm.base.cell (p := ⟨b, _, none⟩) hbl]; exact hc 4 _ rfl
        have g5 : wr.cell? ⟨b, off + k * 16 + 5, none⟩ = some (.int .i64 s.move) := by rw [hm.base.cell (p := ⟨b, _, none⟩) hbl]; exact hc 5 _ rfl
        have g6 : wr.cell? ⟨b, off + k * 16 + 6, none⟩ = some (.int .i64 s.limit) := by rw [hm.base.cell (p := ⟨b, _, none⟩) hbl]; exact hc 6 _ rfl
        have g7 : wr.cell? ⟨b, off + k * 16 + 7, none⟩ = some (.int .i64 s.pause) := by rw [hm.base.cell (p := ⟨b, _, none⟩) hbl]; exact hc 7 _ rfl
        have g8 : wr.cell? ⟨b, off + k * 16 + 8, none⟩ = some (.int .i64 s.ext) := by rw [hm.base.cell (p := ⟨b, _, none⟩) hbl]; exact hc 8 _ rfl
        have g9 : wr.cell? ⟨b, off + k * 16 + 9, none⟩ = some (.int .i64 s.maxExt) := by rw [hm.base.cell (p := ⟨b, _, none⟩) hbl]; exact hc 9 _ rfl
        have g10 : wr.cell? ⟨b, off + k * 16 + 10, none⟩ = some (.int .i64 s.collar) := by rw [hm.base.cell (p := ⟨b, _, none⟩) hbl]; exact hc 10 _ rfl
        have g11 : wr.cell? ⟨b, off + k * 16 + 11, none⟩ = some (.int .i64 s.widen) := by rw [hm.base.cell (p := ⟨b, _, none⟩) hbl]; exact hc 11 _ rfl
        have g12 : wr.cell? ⟨b, off + k * 16 + 12, none⟩ = some (.int .i64 s.self) := by rw [hm.base.cell (p := ⟨b, _, none⟩) hbl]; exact hc 12 _ rfl
        have g13 : wr.cell? ⟨b, off + k * 16 + 13, none⟩ = some (.int .i64 s.slots) := by rw [hm.base.cell (p := ⟨b, _, none⟩) hbl]; exact hc 13 _ rfl
        have g14 : wr.cell? ⟨b, off + k * 16 + 14, none⟩ = some (.int .i64 s.levels) := by rw [hm.base.cell (p := ⟨b, _, none⟩) hbl]; exact hc 14 _ rfl
        have g15 : wr.cell? ⟨b, off + k * 16 + 15, none⟩ = some (.int .i64 s.short) := by rw [hm.base.cell (p := ⟨b, _, none⟩) hbl]; exact hc 15 _ rfl
        have HMk := Lib.hid hm
        have hwr : w1.heap.size < wr.heap.size := hm.head.lt
        clear hm hc hsy
        go_upto_region 8 with fail
        have hs2 := fun (j : Nat) (v : Value) (hv : s.cells[j]? = some v) => cell_new wr s.cells 73 wr.heap.size j v rfl hv
        have hm2 : Mk w (wr.alloc (.cells s.cells 73)) w1.heap.size k ov c.syms := ⟨HMk.out.base.alloc HMk.out.base.size _, HMk.out.head.old _, HMk.out.own.alloc _, HMk.out.ne, HMk.out.hi⟩
        have hz2w : (wr.alloc (.cells s.cells 73)).heap.size = wr.heap.size + 1 := by simp
        unfold Sym.cells at hs2 hm2 hz2w
        generalize wr.alloc (.cells #[.int .i64 s.grid, .int .i64 s.ref, .int .i64 s.static, .int .i64 s.dynamic, .int .i64 s.window, .int .i64 s.move, .int .i64 s.limit, .int .i64 s.pause, .int .i64 s.ext, .int .i64 s.maxExt, .int .i64 s.collar, .int .i64 s.widen, .int .i64 s.self, .int .i64 s.slots, .int .i64 s.levels, .int .i64 s.short] 73) = W2 at hs2 hm2 hz2w ⊢
        clear g0 g1 g2 g3 g4 g5 g6 g7 g8 g9 g10 g11 g12 g13 g14 g15
        have t0 : W2.cell? ⟨wr.heap.size, 0, none⟩ = some (.int .i64 s.grid) := hs2 0 _ rfl
        have t1 : W2.cell? ⟨wr.heap.size, 1, none⟩ = some (.int .i64 s.ref) := hs2 1 _ rfl
        have t2 : W2.cell? ⟨wr.heap.size, 2, none⟩ = some (.int .i64 s.static) := hs2 2 _ rfl
        have t3 : W2.cell? ⟨wr.heap.size, 3, none⟩ = some (.int .i64 s.dynamic) := hs2 3 _ rfl
        have t4 : W2.cell? ⟨wr.heap.size, 4, none⟩ = some (.int .i64 s.window) := hs2 4 _ rfl
        have t5 : W2.cell? ⟨wr.heap.size, 5, none⟩ = some (.int .i64 s.move) := hs2 5 _ rfl
        have t6 : W2.cell? ⟨wr.heap.size, 6, none⟩ = some (.int .i64 s.limit) := hs2 6 _ rfl
        have t7 : W2.cell? ⟨wr.heap.size, 7, none⟩ = some (.int .i64 s.pause) := hs2 7 _ rfl
        have t8 : W2.cell? ⟨wr.heap.size, 8, none⟩ = some (.int .i64 s.ext) := hs2 8 _ rfl
        have t9 : W2.cell? ⟨wr.heap.size, 9, none⟩ = some (.int .i64 s.maxExt) := hs2 9 _ rfl
        have t10 : W2.cell? ⟨wr.heap.size, 10, none⟩ = some (.int .i64 s.collar) := hs2 10 _ rfl
        have t11 : W2.cell? ⟨wr.heap.size, 11, none⟩ = some (.int .i64 s.widen) := hs2 11 _ rfl
        have t12 : W2.cell? ⟨wr.heap.size, 12, none⟩ = some (.int .i64 s.self) := hs2 12 _ rfl
        have t13 : W2.cell? ⟨wr.heap.size, 13, none⟩ = some (.int .i64 s.slots) := hs2 13 _ rfl
        have t14 : W2.cell? ⟨wr.heap.size, 14, none⟩ = some (.int .i64 s.levels) := hs2 14 _ rfl
        have t15 : W2.cell? ⟨wr.heap.size, 15, none⟩ = some (.int .i64 s.short) := hs2 15 _ rfl
        have h0 : W2.cell? ⟨w1.heap.size, 0, none⟩ = some ov := hm2.head.cell 0 rfl
        have q0 : W2.frozen? ⟨w1.heap.size, 0, none⟩ = false := hm2.head.free 0
        have HM2 := Lib.hid hm2
        clear hs2 hm2
        go_region_law (first | (refine step_append_lies _ (by rfl) _ _ _ (by rfl) w.heap.size 75 i0 _ 26 208 Try.underlying69 hi0 hz0 hz1 hz2 rfl (by omega) ov k (newRows (c.syms.take k)) (by rfl) ((HM2.out.own.alloc _).drew) ⟨wr.heap.size + 1, 0, none⟩ 1 1 (rowCells s Kn.zero).toList (by rfl) (by rfl) (World.news_of_block (cs := rowCells s Kn.zero) (t := 75) (fr := (0, 0)) (by rw [← hz2w]; exact heap_alloc_new _ _)) (by simp [rowCells, Value.oneCell']) (by omega) (by unfold maxLen; omega) (by omega) (by have := HM2.out.base.size; simp; omega) (wr.heap.size + 2) (by simp; omega) ?_; intro gg cap w3 hown3 hgrow hat hlt3; have h30 := (HM2.out.head3 hgrow).cell 0 rfl; have q30 := (HM2.out.head3 hgrow).free 0))
        all_goals
          have HM4 := Lib.hid (HM2.out.grow HT.out hgrow hown3 (by rw [hz2w]; exact hat))
          clear h30 q30 hgrow hown3 hat
          go_wp2
          go_roundw
          case rel => exact ⟨k + 1, _, by omega, by go_num, HM4.out⟩
          case measure => simp [intOf]; omega
      · have hke : k = c.syms.length := by omega
        obtain ⟨L, cap, hL, hp⟩ := hm.pw hke (by omega) (by omega)
        have HP := Lib.hid hp
        have HBB := Lib.hid hm.base
        have HHI := Lib.hid hm.hi
        have g1 : (c.syms.length : Int) ≤ (k : Int) := by omega
        clear hm hp hsy
        go_wp2
        go_ret2
        exact ⟨HBB.out, made_ok HF.out HHI.out hL HP.out⟩
  · have f0 : ((checkF c).1 != 0) = true := bne_iff_ne.2 hf
    have HF := Lib.hid hf
    clear hf
    go_wp2
    go_ret2
    exact ⟨HB1.out, made_no HF.out⟩
end Go.Proofs.Ytggkhnmhhifniaa.Watch
