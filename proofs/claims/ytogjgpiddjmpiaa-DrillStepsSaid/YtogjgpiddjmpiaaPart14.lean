/- Parts of the proof: Other, StepsW. -/
import Derived.Test.YtogjgpiddjmpiaaPart13
import Derived.Test.YtogjgpiddjmpiaaPart3
import Derived.Test.YtogjgpiddjmpiaaPart2
import Derived.Deep.RegionHeld3
import Derived.Deep.DrawnRows
import Derived.Deep.DeepCutAuto
import Derived.Deep.CutBlock
import Derived.Deep.AppendLies

/- drill.other. -/
namespace Go.Proofs.Ytogjgpiddjmpiaa.Steps
set_option linter.unusedVariables false
open Go.RowKit Go.Proofs.Ytogjgpiddjmpiaa.Kit Go.Proofs.Ytogjgpiddjmpiaa.Blk Go.Proofs.Ytogjgpiddjmpiaa.Octets Go.Proofs.Ytogjgpiddjmpiaa.Cmds Go.Proofs.Ytogjgpiddjmpiaa.Dice Go.Proofs.Ytogjgpiddjmpiaa.Throw Go.Proofs.Ytogjgpiddjmpiaa.Check Go.Proofs.Ytogjgpiddjmpiaa.Order Go.Proofs.Ytogjgpiddjmpiaa.Symbol Go.Proofs.Ytogjgpiddjmpiaa.Begin
attribute [local go_sem ↓] Go.wp_at_zero Go.wp_at_succ

theorem one_stp (k y v : Int) (a : Option Addr) (n c : Nat) : (stepC k y v (.slice a n c)).all (·.oneCell') = true := by simp [stepC, Value.oneCell']
theorem one_sym (s : Sym) : s.cells.all (·.oneCell') = true := by simp [Sym.cells, Value.oneCell']
theorem bytes_form {N : Nat} {l : List Nat} {u : Value} {W : World} (h : BytesOf N l u W) : ∃ a n c, u = .slice a n c := by
  rcases h with ⟨_, rfl⟩ | ⟨h0, h⟩
  · exact ⟨_, _, _, rfl⟩
  · obtain ⟨g, cap, e, -, -⟩ := World.ownsRow.form h h0
    exact ⟨_, _, _, e⟩
theorem bytes_mono {N M : Nat} {l : List Nat} {u : Value} {W : World} (h : BytesOf M l u W) (hN : N ≤ M) : BytesOf N l u W :=
  h.elim .inl fun h => .inr ⟨h.1, own_mono h.2 hN⟩
theorem bytes_cell {N B : Nat} {l : List Nat} {u : Value} {cs : Array Value} {W : World} (h : BytesOf N l u W) (hB : Blk W B cs 123) (j : Nat) (x : Value) : BytesOf N l u (W.setCell ⟨B, j, none⟩ x) := by
  rcases h with h | ⟨h0, h⟩
  · exact .inl h
  · refine .inr ⟨h0, own_set h (fun hu => ?_) j x⟩
    obtain ⟨_, cur, hc⟩ := row_from' h hu
    rw [show W.heap[B]? = _ from hB] at hc
    injection hc with hc
    injection hc with _ hc _
    exact absurd hc (by decide)
theorem bytes_cells {N B : Nat} {l : List Nat} {u : Value} (vs : List Value) : ∀ (o : Nat) (cs : Array Value) (W : World), BytesOf N l u W → Blk W B cs 123 → BytesOf N l u (W.setCells B o vs) := by
  induction vs with
  | nil => intro o cs W h _; exact h
  | cons v vs ih => intro o cs W h hB; exact ih (o + 1) _ _ (bytes_cell h hB o v) (hB.set o v)
theorem bytes_alloc {N : Nat} {l : List Nat} {u : Value} {W : World} (h : BytesOf N l u W) (o : Obj) : BytesOf N l u (W.alloc o) := bytes_below h ((Below.refl _ _).alloc (Nat.le_refl _) o)

/-- What 'other' answers. -/
def OtherIs (s : Stp) (d T : Nat) (x : Int) (w : World) (e : Ending) (w' : World) : Prop :=
  ∃ u, e = .returned (.agg (stepC s.k s.y s.v u)) ∧ BytesOf w.heap.size s.l u w' ∧ Blk w' d #[.int .u64 (turn x)] T ∧ Chg w.heap.size d w w'

/-- Where 'other' stands. -/
structure Ot (w : World) (d : Nat) (cc : Array Value) (sb : Nat) (s : Sym) (W : World) (x : Int) (rc : Array Value) : Prop where
  cfg : Blk W w.heap.size cc 34
  res : Blk W (w.heap.size + 1) rc 123
  sym : Blk W sb s.cells 136
  dice : Blk W d #[.int .u64 x] 194
  chg : Chg w.heap.size d w W
  lt : d < w.heap.size
  sb : w.heap.size + 1 < sb
section
variable {w W W' : World} {d sb : Nat} {cc rc : Array Value} {s : Sym} {x y : Int}
theorem Ot.call (h : Ot w d cc sb s W x rc) (hd : Blk W' d #[.int .u64 y] 194) (hc : Chg W.heap.size d W W') : Ot w d cc sb s W' y rc :=
  have := h.lt; have := h.sb
  ⟨hc.blk h.cfg.lt (by omega) h.cfg, hc.blk h.res.lt (by omega) h.res, hc.blk h.sym.lt (by omega) h.sym, hd, h.chg.trans (hc.mono h.chg.size), h.lt, h.sb⟩
theorem Ot.below (h : Ot w d cc sb s W x rc) (hb : Below W.heap.size W W') : Ot w d cc sb s W' x rc :=
  ⟨h.cfg.below hb h.cfg.lt, h.res.below hb h.res.lt, h.sym.below hb h.sym.lt, h.dice.below hb h.dice.lt, h.chg.step (hb.mono h.chg.size), h.lt, h.sb⟩
theorem Ot.drew (h : Ot w d cc sb s W x rc) : Ot w d cc sb s W.drew x rc := h.below (Below.refl _ _).drew
theorem Ot.alloc (h : Ot w d cc sb s W x rc) (o : Obj) : Ot w d cc sb s (W.alloc o) x rc := h.below ((Below.refl _ _).alloc (Nat.le_refl _) o)
theorem Ot.put (h : Ot w d cc sb s W x rc) (vs : Array Value) (hs : vs.size = rc.size) : Ot w d cc sb s (W.setCells (w.heap.size + 1) 0 vs.toList) x vs :=
  have h1 := h.lt; have h2 := h.sb
  ⟨h.cfg.apartAll _ _ _ (by omega), h.res.setCells vs hs, h.sym.apartAll _ _ _ (by omega), h.dice.apartAll _ _ _ (by omega), h.chg.setCells _ _ _ (.inr (by omega)), h.lt, h.sb⟩
end
def symZ : Array Value := zeroSym.cells

set_option maxRecDepth 20000 in
set_option maxHeartbeats 4000000 in
theorem other_low (c : Cfg) (sa ta : Option Addr) (sc tc : Nat) (d : Nat) (x kind i z : Int) (w : World) (hin : c.In w sa ta) (hn : 1 ≤ c.syms.length) (hz : z < 8) (hd : Blk w d #[.int .u64 x] 194) :
    Calls Try.prog 61 #[.pointer (some ⟨d, 0, none⟩), .agg (c.cells sa ta sc tc), .int .i64 kind, .int .i64 i, .int .i64 z] w (OtherIs (otherS c x kind i z) d 194 x w) := by
  have HE := Lib.hid (show otherS c x kind i z = ⟨2, 0, 1 + toss x 3, []⟩ by simp [otherS, hz])
  have ⟨t0, t1⟩ := toss_in x 3 (by decide)
  obtain ⟨b, off, rfl, hbl, hc⟩ := hin.syms 0 hn
  have HG := Lib.hid (show c.syms.getD 0 zeroSym = c.syms[0] by rw [List.getD_eq_getElem?_getD, List.getElem?_eq_getElem (by omega)]; rfl)
  generalize c.syms[0] = s at hc HG
  have hlt := hd.lt
  have hW0 := ((Below.refl w.heap.size w).alloc (Nat.le_refl _) (.cells (c.cells (some ⟨b, off, none⟩) ta sc tc) 34)).alloc (by simp) (.cells (stepC 0 0 0 (.slice none 0 0)) 123)
  have hrow : ((w.alloc (.cells (c.cells (some ⟨b, off, none⟩) ta sc tc) 34)).alloc (.cells (stepC 0 0 0 (.slice none 0 0)) 123)).rangeAt b off s.cells.toList := fun j v hv => by
    rw [hW0.cell (p := ⟨b, _, none⟩) hbl]; have h := hc j v (by simpa using hv); simpa using h
  have h0 : Blk ((w.alloc (.cells (c.cells (some ⟨b, off, none⟩) ta sc tc) 34)).alloc (.cells (stepC 0 0 0 (.slice none 0 0)) 123)) w.heap.size (c.cells (some ⟨b, off, none⟩) ta sc tc) 34 := (Blk.new _ _ _ _ rfl).old _
  have h1 : Blk ((w.alloc (.cells (c.cells (some ⟨b, off, none⟩) ta sc tc) 34)).alloc (.cells (stepC 0 0 0 (.slice none 0 0)) 123)) (w.heap.size + 1) (stepC 0 0 0 (.slice none 0 0)) 123 := Blk.new _ _ _ _ (by simp)
  have HW := Lib.hid hW0
  have HR := Lib.hid hrow
  have H0 := Lib.hid h0
  have H1 := Lib.hid h1
  have HD := Lib.hid (hd.below hW0 hlt)
  clear hin hc hW0 hrow h0 h1 hd
  unfold Cfg.cells stepC at *
  go_enter Try.func61, Try.ntmps61
  go_upto_region 1 with fail
  generalize ((w.alloc (.cells #[.slice (some ⟨b, off, none⟩) c.syms.length sc, .slice ta c.tab.length tc, .int .i64 c.index, .int .i64 c.f0, .int .i64 c.f1, .int .i64 c.f2, .int .i64 c.h0, .int .i64 c.h1] 34)).alloc (.cells #[.int .i64 0, .int .i64 0, .int .i64 0, .slice none 0 0] 123)) = w2 at HW HR H0 H1 HD ⊢
  have HZ := Lib.hid (Blk.new w2 symZ 136 w2.heap.size rfl)
  have hsb : w.heap.size + 1 < w2.heap.size := H1.out.lt
  have HO : Hid (Ot w d #[.slice (some ⟨b, off, none⟩) c.syms.length sc, .slice ta c.tab.length tc, .int .i64 c.index, .int .i64 c.f0, .int .i64 c.f1, .int .i64 c.f2, .int .i64 c.h0, .int .i64 c.h1] w2.heap.size s (w2.alloc (.cells s.cells 136)) x #[.int .i64 0, .int .i64 0, .int .i64 0, .slice none 0 0]) := Lib.hid ⟨H0.out.old _, H1.out.old _, Blk.new _ _ _ _ rfl, HD.out.old _, Chg.of (HW.out.alloc HW.out.size _), hlt, hsb⟩
  have c0 : w2.cell? ⟨w.heap.size, 0, none⟩ = some (.slice (some ⟨b, off, none⟩) c.syms.length sc) := H0.out.cell 0 rfl
  clear H0 H1 HD HW
  go_wp2_with (first
    | (refine wpList_load_mid (by rfl) 136 _ (by rfl) b off (by rfl) s.cells.toList _ HR.out Try.underlying136 rfl (by kernel_rfl) ?_)
    | (refine store_blk (by rfl) 136 _ _ (by rfl) w2.heap.size (by rfl) symZ s.cells 136 HZ.out (by rfl) (by rfl) (by kernel_rfl) (one_sym _) ?_; change wpList _ _ _ _ _ (World.setCells (w2.alloc (.cells symZ 136)) w2.heap.size 0 s.cells.toList); rw [alloc_setCells w2 symZ s.cells 136 rfl w2.heap.size rfl]; generalize w2.alloc (.cells s.cells 136) = w3 at HO ⊢)
    | (go_at_call 58; refine (next_blk d x 3 _ (by decide) HO.out.dice).mono ?_; rintro e w4 ⟨rfl, hq1, hq2, -⟩; have HO4 := Lib.hid (HO.out.call hq1 hq2); clear hq1 hq2)
    | (refine store_blk (by rfl) 123 _ _ (by rfl) (w.heap.size + 1) (by rfl) _ (stepC 2 0 (toss x 3 + 1) (.slice none 0 0)) 123 HO4.out.res (by rfl) rfl (by kernel_rfl) (one_stp _ _ _ _ _ _) ?_; have HO5 := Lib.hid (HO4.out.put (stepC 2 0 (toss x 3 + 1) (.slice none 0 0)) rfl)))
  refine bodyPost_ret (results_cell_row rfl _ _ _ _ _ (0, 0) _ rfl HO5.out.res Try.underlying123 rfl (by kernel_rfl)) rfl ?_
  exact ⟨.slice none 0 0, by rw [HE.out, Int.add_comm 1], by rw [HE.out]; exact .inl ⟨rfl, rfl⟩, HO5.out.dice, HO5.out.chg⟩

set_option maxRecDepth 20000 in
set_option maxHeartbeats 4000000 in
theorem other_of (c : Cfg) (sa ta : Option Addr) (sc tc : Nat) (d : Nat) (x kind i : Int) (w : World) (hin : c.In w sa ta) (hn : 1 ≤ c.syms.length) (hi0 : 0 ≤ i) (hi1 : i ≤ 2000) (hd : Blk w d #[.int .u64 x] 194) :
    Calls Try.prog 61 #[.pointer (some ⟨d, 0, none⟩), .agg (c.cells sa ta sc tc), .int .i64 kind, .int .i64 i, .int .i64 8] w (OtherIs (otherS c x kind i 8) d 194 x w) := by
  have HE := Lib.hid (show otherS c x kind i 8 = ofS ⟨2, 0, toss x (i + 1) + 1, 0, 0, 0, 0, 0, 0⟩ by simp [otherS, Int.add_comm 1])
  have ⟨t0, t1⟩ := toss_in x (i + 1) (by omega)
  have HC := Lib.hid (fun W => of_any ⟨2, 0, toss x (i + 1) + 1, 0, 0, 0, 0, 0, 0⟩ W (by dsimp only; omega) (by dsimp only; omega) (by dsimp only; omega) (by dsimp only; omega))
  obtain ⟨b, off, rfl, hbl, hc⟩ := hin.syms 0 hn
  have HG := Lib.hid (show c.syms.getD 0 zeroSym = c.syms[0] by rw [List.getD_eq_getElem?_getD, List.getElem?_eq_getElem (by omega)]; rfl)
  generalize c.syms[0] = s at hc HG
  have hlt := hd.lt
  have hW0 := ((Below.refl w.heap.size w).alloc (Nat.le_refl _) (.cells (c.cells (some ⟨b, off, none⟩) ta sc tc) 34)).alloc (by simp) (.cells (stepC 0 0 0 (.slice none 0 0)) 123)
  have hrow : ((w.alloc (.cells (c.cells (some ⟨b, off, none⟩) ta sc tc) 34)).alloc (.cells (stepC 0 0 0 (.slice none 0 0)) 123)).rangeAt b off s.cells.toList := fun j v hv => by
    rw [hW0.cell (p := ⟨b, _, none⟩) hbl]; have h := hc j v (by simpa using hv); simpa using h
  have h0 : Blk ((w.alloc (.cells (c.cells (some ⟨b, off, none⟩) ta sc tc) 34)).alloc (.cells (stepC 0 0 0 (.slice none 0 0)) 123)) w.heap.size (c.cells (some ⟨b, off, none⟩) ta sc tc) 34 := (Blk.new _ _ _ _ rfl).old _
  have h1 : Blk ((w.alloc (.cells (c.cells (some ⟨b, off, none⟩) ta sc tc) 34)).alloc (.cells (stepC 0 0 0 (.slice none 0 0)) 123)) (w.heap.size + 1) (stepC 0 0 0 (.slice none 0 0)) 123 := Blk.new _ _ _ _ (by simp)
  have HW := Lib.hid hW0
  have HR := Lib.hid hrow
  have H0 := Lib.hid h0
  have H1 := Lib.hid h1
  have HD := Lib.hid (hd.below hW0 hlt)
  clear hin hc hW0 hrow h0 h1 hd
  unfold Cfg.cells stepC at *
  go_enter Try.func61, Try.ntmps61
  go_upto_region 1 with fail
  generalize ((w.alloc (.cells #[.slice (some ⟨b, off, none⟩) c.syms.length sc, .slice ta c.tab.length tc, .int .i64 c.index, .int .i64 c.f0, .int .i64 c.f1, .int .i64 c.f2, .int .i64 c.h0, .int .i64 c.h1] 34)).alloc (.cells #[.int .i64 0, .int .i64 0, .int .i64 0, .slice none 0 0] 123)) = w2 at HW HR H0 H1 HD ⊢
  have HZ := Lib.hid (Blk.new w2 symZ 136 w2.heap.size rfl)
  have hsb : w.heap.size + 1 < w2.heap.size := H1.out.lt
  have HO : Hid (Ot w d #[.slice (some ⟨b, off, none⟩) c.syms.length sc, .slice ta c.tab.length tc, .int .i64 c.index, .int .i64 c.f0, .int .i64 c.f1, .int .i64 c.f2, .int .i64 c.h0, .int .i64 c.h1] w2.heap.size s (w2.alloc (.cells s.cells 136)) x #[.int .i64 0, .int .i64 0, .int .i64 0, .slice none 0 0]) := Lib.hid ⟨H0.out.old _, H1.out.old _, Blk.new _ _ _ _ rfl, HD.out.old _, Chg.of (HW.out.alloc HW.out.size _), hlt, hsb⟩
  have c0 : w2.cell? ⟨w.heap.size, 0, none⟩ = some (.slice (some ⟨b, off, none⟩) c.syms.length sc) := H0.out.cell 0 rfl
  clear H0 H1 HD HW
  go_wp2_with (first
    | (refine wpList_load_mid (by rfl) 136 _ (by rfl) b off (by rfl) s.cells.toList _ HR.out Try.underlying136 rfl (by kernel_rfl) ?_)
    | (refine store_blk (by rfl) 136 _ _ (by rfl) w2.heap.size (by rfl) symZ s.cells 136 HZ.out (by rfl) (by rfl) (by kernel_rfl) (one_sym _) ?_; change wpList _ _ _ _ _ (World.setCells (w2.alloc (.cells symZ 136)) w2.heap.size 0 s.cells.toList); rw [alloc_setCells w2 symZ s.cells 136 rfl w2.heap.size rfl]; generalize w2.alloc (.cells s.cells 136) = w3 at HO ⊢)
    | (go_at_call 58; refine (next_blk d x (i + 1) _ (by omega) HO.out.dice).mono ?_; rintro e w4 ⟨rfl, hq1, hq2, -⟩; have HO4 := Lib.hid (HO.out.call hq1 hq2); clear hq1 hq2)
    | (go_at_call 62; refine (HC.out _).mono ?_; rintro e w5 h5; obtain ⟨u, code, rfl, hby, hb5⟩ := of_step h5; have HO5 := Lib.hid (HO4.out.below hb5); have HY := Lib.hid (bytes_mono hby HO4.out.chg.size); clear h5 hby hb5; obtain ⟨ua, un, uc, rfl⟩ := bytes_form HY.out; generalize ofS ⟨2, 0, toss x (i + 1) + 1, 0, 0, 0, 0, 0, 0⟩ = st at HE HY ⊢; have HZ5 := Lib.hid (Blk.new w5 (stepC 0 0 0 (.slice none 0 0)) 123 w5.heap.size rfl); have HO6 := Lib.hid (HO5.out.alloc (.cells (stepC st.k st.y st.v (.slice ua un uc)) 123)); have HY6 := Lib.hid (bytes_alloc HY.out (.cells (stepC st.k st.y st.v (.slice ua un uc)) 123)); have HB6 := Lib.hid (Blk.new w5 (stepC st.k st.y st.v (.slice ua un uc)) 123 w5.heap.size rfl))
    | (refine store_blk (by rfl) 123 _ _ (by rfl) w5.heap.size (by rfl) (stepC 0 0 0 (.slice none 0 0)) (stepC st.k st.y st.v (.slice ua un uc)) 123 HZ5.out (by rfl) rfl (by kernel_rfl) (one_stp _ _ _ _ _ _) ?_; change wpList _ _ _ _ _ (World.setCells (w5.alloc (.cells (stepC 0 0 0 (.slice none 0 0)) 123)) w5.heap.size 0 (stepC st.k st.y st.v (.slice ua un uc)).toList); rw [alloc_setCells w5 (stepC 0 0 0 (.slice none 0 0)) (stepC st.k st.y st.v (.slice ua un uc)) 123 rfl w5.heap.size rfl]; generalize w5.alloc (.cells (stepC st.k st.y st.v (.slice ua un uc)) 123) = w6 at HO6 HY6 HB6 ⊢)
    | (refine load_blk (by rfl) 123 _ (by rfl) w5.heap.size (by rfl) _ _ HB6.out _ Try.underlying123 rfl (by kernel_rfl) ?_)
    | (refine store_blk (by rfl) 123 _ _ (by rfl) (w.heap.size + 1) (by rfl) _ (stepC st.k st.y st.v (.slice ua un uc)) 123 HO6.out.res (by rfl) rfl (by kernel_rfl) (one_stp _ _ _ _ _ _) ?_; have HO7 := Lib.hid (HO6.out.put (stepC st.k st.y st.v (.slice ua un uc)) rfl)))
  refine bodyPost_ret (results_cell_row rfl _ _ _ _ _ (0, 0) _ rfl HO7.out.res Try.underlying123 rfl (by kernel_rfl)) rfl ?_
  exact ⟨_, by rw [HE.out], by rw [HE.out]; exact bytes_cells _ _ _ _ HY6.out HO6.out.res, HO7.out.dice, HO7.out.chg⟩

theorem mul_top (a b m n : Int) (ha : 0 ≤ a) (hb : 0 ≤ b) (hm : a ≤ m) (hn : b ≤ n) : 0 ≤ a * b ∧ a * b ≤ m * n :=
  ⟨Int.mul_nonneg ha hb, Int.mul_le_mul hm hn hb (by omega)⟩

set_option maxRecDepth 20000 in
set_option maxHeartbeats 4000000 in
theorem other_index (c : Cfg) (sa ta : Option Addr) (sc tc : Nat) (d : Nat) (x i z : Int) (w : World) (hin : c.In w sa ta) (hn : 1 ≤ c.syms.length) (hz : 9 ≤ z) (hi0 : 0 ≤ i) (hi7 : i % 7 = 0) (hx0 : 1 ≤ c.index) (hx1 : c.index ≤ 1099511627776) (hd : Blk w d #[.int .u64 x] 194) :
    Calls Try.prog 61 #[.pointer (some ⟨d, 0, none⟩), .agg (c.cells sa ta sc tc), .int .i64 4, .int .i64 i, .int .i64 z] w (OtherIs (otherS c x 4 i z) d 194 x w) := by
  have g7 : (i % 7 == 0) = true := by simp [hi7]
  have HE := Lib.hid (show otherS c x 4 i z = ⟨3, 0, max (c.index - c.index / 100 * toss x 25) 1, []⟩ by simp [otherS, hi7, show ¬ z < 8 by omega, show ¬ z = 8 by omega])
  have g8 : (z == 8) = false := by simp; omega
  have ⟨t0, t1⟩ := toss_in x 25 (by decide)
  have ⟨p0, p1⟩ := mul_top (c.index / 100) (toss x 25) 10995116278 25 (by omega) t0 (by omega) (by omega)
  have e1 := IntWalk.i64_in (c.index / 100 * toss x 25) (by omega)
  generalize hpr : c.index / 100 * toss x 25 = pr at p0 p1 HE
  rw (occs := .pos [2]) [hpr] at e1
  have e0 : IntKind.i64.wrap (c.index.tdiv 100) = c.index / 100 := by rw [Int.tdiv_eq_ediv_of_nonneg (by omega)]; exact IntWalk.i64_in _ (by omega)
  have e2 := IntWalk.i64_in (c.index - pr) (by omega)
  clear hi7 hpr
  obtain ⟨b, off, rfl, hbl, hc⟩ := hin.syms 0 hn
  have HG := Lib.hid (show c.syms.getD 0 zeroSym = c.syms[0] by rw [List.getD_eq_getElem?_getD, List.getElem?_eq_getElem (by omega)]; rfl)
  generalize c.syms[0] = s at hc HG
  have hlt := hd.lt
  have hW0 := ((Below.refl w.heap.size w).alloc (Nat.le_refl _) (.cells (c.cells (some ⟨b, off, none⟩) ta sc tc) 34)).alloc (by simp) (.cells (stepC 0 0 0 (.slice none 0 0)) 123)
  have hrow : ((w.alloc (.cells (c.cells (some ⟨b, off, none⟩) ta sc tc) 34)).alloc (.cells (stepC 0 0 0 (.slice none 0 0)) 123)).rangeAt b off s.cells.toList := fun j v hv => by
    rw [hW0.cell (p := ⟨b, _, none⟩) hbl]; have h := hc j v (by simpa using hv); simpa using h
  have h0 : Blk ((w.alloc (.cells (c.cells (some ⟨b, off, none⟩) ta sc tc) 34)).alloc (.cells (stepC 0 0 0 (.slice none 0 0)) 123)) w.heap.size (c.cells (some ⟨b, off, none⟩) ta sc tc) 34 := (Blk.new _ _ _ _ rfl).old _
  have h1 : Blk ((w.alloc (.cells (c.cells (some ⟨b, off, none⟩) ta sc tc) 34)).alloc (.cells (stepC 0 0 0 (.slice none 0 0)) 123)) (w.heap.size + 1) (stepC 0 0 0 (.slice none 0 0)) 123 := Blk.new _ _ _ _ (by simp)
  have HW := Lib.hid hW0
  have HR := Lib.hid hrow
  have H0 := Lib.hid h0
  have H1 := Lib.hid h1
  have HD := Lib.hid (hd.below hW0 hlt)
  clear hin hc hW0 hrow h0 h1 hd
  unfold Cfg.cells stepC at *
  go_enter Try.func61, Try.ntmps61
  go_upto_region 1 with fail
  generalize ((w.alloc (.cells #[.slice (some ⟨b, off, none⟩) c.syms.length sc, .slice ta c.tab.length tc, .int .i64 c.index, .int .i64 c.f0, .int .i64 c.f1, .int .i64 c.f2, .int .i64 c.h0, .int .i64 c.h1] 34)).alloc (.cells #[.int .i64 0, .int .i64 0, .int .i64 0, .slice none 0 0] 123)) = w2 at HW HR H0 H1 HD ⊢
  have HZ := Lib.hid (Blk.new w2 symZ 136 w2.heap.size rfl)
  have hsb : w.heap.size + 1 < w2.heap.size := H1.out.lt
  have HO : Hid (Ot w d #[.slice (some ⟨b, off, none⟩) c.syms.length sc, .slice ta c.tab.length tc, .int .i64 c.index, .int .i64 c.f0, .int .i64 c.f1, .int .i64 c.f2, .int .i64 c.h0, .int .i64 c.h1] w2.heap.size s (w2.alloc (.cells s.cells 136)) x #[.int .i64 0, .int .i64 0, .int .i64 0, .slice none 0 0]) := Lib.hid ⟨H0.out.old _, H1.out.old _, Blk.new _ _ _ _ rfl, HD.out.old _, Chg.of (HW.out.alloc HW.out.size _), hlt, hsb⟩
  have c0 : w2.cell? ⟨w.heap.size, 0, none⟩ = some (.slice (some ⟨b, off, none⟩) c.syms.length sc) := H0.out.cell 0 rfl
  clear H0 H1 HD HW
  go_wp2_with (first
    | (refine wpList_load_mid (by rfl) 136 _ (by rfl) b off (by rfl) s.cells.toList _ HR.out Try.underlying136 rfl (by kernel_rfl) ?_)
    | (refine store_blk (by rfl) 136 _ _ (by rfl) w2.heap.size (by rfl) symZ s.cells 136 HZ.out (by rfl) (by rfl) (by kernel_rfl) (one_sym _) ?_; change wpList _ _ _ _ _ (World.setCells (w2.alloc (.cells symZ 136)) w2.heap.size 0 s.cells.toList); rw [alloc_setCells w2 symZ s.cells 136 rfl w2.heap.size rfl]; generalize w2.alloc (.cells s.cells 136) = w3 at HO ⊢)
  )
  replace HO := Lib.hid HO.out.drew
  refine wp_region_held_drew (S := (fun w' => w'.cell? ⟨w.heap.size, 2, none⟩ = some (.int .i64 c.index))) (by kernel_rfl) (HO.out.cfg.cell 2 rfl) (fun hHeld => ?_)
  generalize w3.drew = w4 at HO hHeld ⊢
  refine wpAnyH_take (i := 0) (oi := ⟨some 47, _, _, _, _, _⟩) (v := (.pointer (some ⟨w.heap.size, 2, none⟩))) rfl (by kernel_rfl) (by kernel_rfl) (by kernel_rfl) (fun _ _ _ h => h) (Or.inl ⟨by rfl, fun w hSw => by (try dsimp only at hSw); go_simp⟩) (by assumption) ?_
  simp only [Act.put, List.setIfInBounds_toArray, List.set_cons_zero, List.set_cons_succ]
  refine wpAnyH_take (i := 1) (oi := ⟨some 48, _, _, _, _, _⟩) (v := (.int .i64 c.index)) rfl (by kernel_rfl) (by kernel_rfl) (by kernel_rfl) (fun _ _ _ h => h) (Or.inl ⟨by rfl, fun w hSw => by (try dsimp only at hSw); go_simp⟩) (by assumption) ?_
  simp only [Act.put, List.setIfInBounds_toArray, List.set_cons_zero, List.set_cons_succ]
  refine wpAnyH_take (i := 2) (oi := ⟨some 49, _, _, _, _, _⟩) (v := (.pointer (some ⟨w.heap.size, 2, none⟩))) rfl (by kernel_rfl) (by kernel_rfl) (by kernel_rfl) (fun _ _ _ h => h) (Or.inl ⟨by rfl, fun w hSw => by (try dsimp only at hSw); go_simp⟩) (by assumption) ?_
  simp only [Act.put, List.setIfInBounds_toArray, List.set_cons_zero, List.set_cons_succ]
  refine wpAnyH_take (i := 3) (oi := ⟨some 50, _, _, _, _, _⟩) (v := (.int .i64 c.index)) rfl (by kernel_rfl) (by kernel_rfl) (by kernel_rfl) (fun _ _ _ h => h) (Or.inl ⟨by rfl, fun w hSw => by (try dsimp only at hSw); go_simp⟩) (by assumption) ?_
  simp only [Act.put, List.setIfInBounds_toArray, List.set_cons_zero, List.set_cons_succ]
  refine wpAnyH_take (i := 4) (oi := ⟨some 51, _, _, _, _, _⟩) (v := (.int .i64 (c.index / 100))) rfl (by kernel_rfl) (by kernel_rfl) (by kernel_rfl) (fun _ _ _ h => h) (Or.inl ⟨by rfl, fun w hSw => by (try dsimp only at hSw); go_simp⟩) (by assumption) ?_
  simp only [Act.put, List.setIfInBounds_toArray, List.set_cons_zero, List.set_cons_succ]
  refine wpAnyH_take (i := 5) (oi := ⟨some 52, _, _, _, _, _⟩) (v := (.pointer (some ⟨d, 0, none⟩))) rfl (by kernel_rfl) (by kernel_rfl) (by kernel_rfl) (fun _ _ _ h => h) (Or.inl ⟨by rfl, fun w hSw => by (try dsimp only at hSw); go_simp⟩) (by assumption) ?_
  simp only [Act.put, List.setIfInBounds_toArray, List.set_cons_zero, List.set_cons_succ]
  refine wpAnyH_ready (rs := [6]) (by kernel_rfl) (by simp) ?_
  refine AllReadyH.cons (o := ⟨some 53, _, _, _, _, _⟩) rfl (fun KK hK => ?_) AllReadyH.nil
  go_simp
  refine (next_blk d x 25 _ (by decide) HO.out.dice).mono ?_
  rintro e w5 ⟨rfl, hq1, hq2, -⟩
  replace HO := Lib.hid (HO.out.call hq1 hq2)
  clear hq1 hq2
  go_wp2_with fail
  refine hK.out _ _ (HO.out.cfg.cell 2 rfl) (fun hHeld => ?_)
  clear hK; try clear KK
  try simp only [Act.put, List.setIfInBounds_toArray, List.set_cons_zero, List.set_cons_succ]
  refine wpAnyH_take (i := 7) (oi := ⟨some 54, _, _, _, _, _⟩) (v := (.int .i64 pr)) rfl (by kernel_rfl) (by kernel_rfl) (by kernel_rfl) (fun _ _ _ h => h) (Or.inl ⟨by rfl, fun w hSw => by (try dsimp only at hSw); go_simp⟩) (by assumption) ?_
  simp only [Act.put, List.setIfInBounds_toArray, List.set_cons_zero, List.set_cons_succ]
  refine wpAnyH_take (i := 8) (oi := ⟨some 55, _, _, _, _, _⟩) (v := (.int .i64 (c.index - pr))) rfl (by kernel_rfl) (by kernel_rfl) (by kernel_rfl) (fun _ _ _ h => h) (Or.inl ⟨by rfl, fun w hSw => by (try dsimp only at hSw); go_simp⟩) (by assumption) ?_
  simp only [Act.put, List.setIfInBounds_toArray, List.set_cons_zero, List.set_cons_succ]
  refine wpAnyH_take (i := 9) (oi := ⟨some 56, _, _, _, _, _⟩) (v := (.int .i64 (max (c.index - pr) 1))) rfl (by kernel_rfl) (by kernel_rfl) (by kernel_rfl) (fun _ _ _ h => h) (Or.inl ⟨by rfl, fun w hSw => by (try dsimp only at hSw); go_simp⟩) (by assumption) ?_
  simp only [Act.put, List.setIfInBounds_toArray, List.set_cons_zero, List.set_cons_succ]
  refine wpAnyH_take (i := 10) (oi := ⟨some 57, _, _, _, _, _⟩) (v := (.agg #[.int .i64 3, .int .i64 0, .int .i64 (max (c.index - pr) 1), .slice none 0 0])) rfl (by kernel_rfl) (by kernel_rfl) (by kernel_rfl) (fun _ _ _ h => h) (Or.inl ⟨by rfl, fun w hSw => by (try dsimp only at hSw); go_simp⟩) (by assumption) ?_
  simp only [Act.put, List.setIfInBounds_toArray, List.set_cons_zero, List.set_cons_succ]
  refine wpAnyH_ready (rs := [11]) (by kernel_rfl) (by simp) ?_
  refine AllReadyH.cons (o := ⟨none, _, _, _, _, _⟩) rfl (fun KK hK => ?_) AllReadyH.nil
  refine step_store_blk (by rfl) 123 _ _ (by rfl) (w.heap.size + 1) (by rfl) _ (stepC 3 0 (max (c.index - pr) 1) (.slice none 0 0)) 123 HO.out.res (by rfl) rfl (by kernel_rfl) (one_stp _ _ _ _ _ _) ?_
  replace HO := Lib.hid (HO.out.put (stepC 3 0 (max (c.index - pr) 1) (.slice none 0 0)) rfl)
  refine hK.out _ _ (HO.out.cfg.cell 2 rfl) (fun hHeld => ?_)
  clear hK; try clear KK
  refine wpAnyH_done (by kernel_rfl) ?_ _
  go_wp2_with fail
  refine bodyPost_ret (results_cell_row rfl _ _ _ _ _ (0, 0) _ rfl HO.out.res Try.underlying123 rfl (by kernel_rfl)) rfl ?_
  exact ⟨.slice none 0 0, by rw [HE.out], by rw [HE.out]; exact .inl ⟨rfl, rfl⟩, HO.out.dice, HO.out.chg⟩

set_option maxRecDepth 20000 in
set_option maxHeartbeats 4000000 in
theorem other_bid (c : Cfg) (sa ta : Option Addr) (sc tc : Nat) (d : Nat) (x kind i z : Int) (w : World) (hin : c.In w sa ta) (hn : 1 ≤ c.syms.length) (hz : 9 ≤ z) (hi0 : 0 ≤ i) (hk : ¬ (kind = 4 ∧ i % 7 = 0)) (hs0 : 1 ≤ (c.syms.getD 0 zeroSym).grid) (hs1 : (c.syms.getD 0 zeroSym).grid ≤ 1099511627776) (hs2 : 1 ≤ (c.syms.getD 0 zeroSym).ref) (hs3 : (c.syms.getD 0 zeroSym).ref ≤ 1099511627776) (hd : Blk w d #[.int .u64 x] 194) :
    Calls Try.prog 61 #[.pointer (some ⟨d, 0, none⟩), .agg (c.cells sa ta sc tc), .int .i64 kind, .int .i64 i, .int .i64 z] w (OtherIs (otherS c x kind i z) d 194 x w) := by
  have HK := Lib.hid hk
  by_cases h4 : kind = 4
  · have g7 : (i % 7 == 0) = false := by simp; exact fun h => hk ⟨h4, h⟩
    have g4 : (kind == 4) = true := by simp [h4]
    clear hk h4
    have g8 : (z == 8) = false := by simp; omega
    have ⟨t0, t1⟩ := toss_in x 5 (by decide)
    obtain ⟨b, off, rfl, hbl, hc⟩ := hin.syms 0 hn
    have HG := Lib.hid (show c.syms.getD 0 zeroSym = c.syms[0] by rw [List.getD_eq_getElem?_getD, List.getElem?_eq_getElem (by omega)]; rfl)
    generalize c.syms[0] = s at hc HG
    have hlt := hd.lt
    have hW0 := ((Below.refl w.heap.size w).alloc (Nat.le_refl _) (.cells (c.cells (some ⟨b, off, none⟩) ta sc tc) 34)).alloc (by simp) (.cells (stepC 0 0 0 (.slice none 0 0)) 123)
    have hrow : ((w.alloc (.cells (c.cells (some ⟨b, off, none⟩) ta sc tc) 34)).alloc (.cells (stepC 0 0 0 (.slice none 0 0)) 123)).rangeAt b off s.cells.toList := fun j v hv => by
      rw [hW0.cell (p := ⟨b, _, none⟩) hbl]; have h := hc j v (by simpa using hv); simpa using h
    have h0 : Blk ((w.alloc (.cells (c.cells (some ⟨b, off, none⟩) ta sc tc) 34)).alloc (.cells (stepC 0 0 0 (.slice none 0 0)) 123)) w.heap.size (c.cells (some ⟨b, off, none⟩) ta sc tc) 34 := (Blk.new _ _ _ _ rfl).old _
    have h1 : Blk ((w.alloc (.cells (c.cells (some ⟨b, off, none⟩) ta sc tc) 34)).alloc (.cells (stepC 0 0 0 (.slice none 0 0)) 123)) (w.heap.size + 1) (stepC 0 0 0 (.slice none 0 0)) 123 := Blk.new _ _ _ _ (by simp)
    have HW := Lib.hid hW0
    have HR := Lib.hid hrow
    have H0 := Lib.hid h0
    have H1 := Lib.hid h1
    have HD := Lib.hid (hd.below hW0 hlt)
    clear hin hc hW0 hrow h0 h1 hd
    unfold Cfg.cells stepC at *
    go_enter Try.func61, Try.ntmps61
    go_upto_region 1 with fail
    generalize ((w.alloc (.cells #[.slice (some ⟨b, off, none⟩) c.syms.length sc, .slice ta c.tab.length tc, .int .i64 c.index, .int .i64 c.f0, .int .i64 c.f1, .int .i64 c.f2, .int .i64 c.h0, .int .i64 c.h1] 34)).alloc (.cells #[.int .i64 0, .int .i64 0, .int .i64 0, .slice none 0 0] 123)) = w2 at HW HR H0 H1 HD ⊢
    have HZ := Lib.hid (Blk.new w2 symZ 136 w2.heap.size rfl)
    have hsb : w.heap.size + 1 < w2.heap.size := H1.out.lt
    have HO : Hid (Ot w d #[.slice (some ⟨b, off, none⟩) c.syms.length sc, .slice ta c.tab.length tc, .int .i64 c.index, .int .i64 c.f0, .int .i64 c.f1, .int .i64 c.f2, .int .i64 c.h0, .int .i64 c.h1] w2.heap.size s (w2.alloc (.cells s.cells 136)) x #[.int .i64 0, .int .i64 0, .int .i64 0, .slice none 0 0]) := Lib.hid ⟨H0.out.old _, H1.out.old _, Blk.new _ _ _ _ rfl, HD.out.old _, Chg.of (HW.out.alloc HW.out.size _), hlt, hsb⟩
    have c0 : w2.cell? ⟨w.heap.size, 0, none⟩ = some (.slice (some ⟨b, off, none⟩) c.syms.length sc) := H0.out.cell 0 rfl
    clear H0 H1 HD HW
    have HE := Lib.hid (show otherS c x kind i z = ⟨4, 0, max (s.ref - s.grid * toss x 5) 0, []⟩ by rw [← HG.out]; simp [otherS, HK.out, show ¬ z < 8 by omega, show ¬ z = 8 by omega])
    rw [HG.out] at hs0 hs1 hs2 hs3
    have ⟨p0, p1⟩ := mul_top s.grid (toss x 5) 1099511627776 5 (by omega) t0 (by omega) (by omega)
    have e1 := IntWalk.i64_in (s.grid * toss x 5) (by omega)
    generalize hpr : s.grid * toss x 5 = pr at p0 p1 HE
    rw (occs := .pos [2]) [hpr] at e1
    have e2 := IntWalk.i64_in (s.ref - pr) (by omega)
    clear hpr HG
    go_wp2_with (first
      | (refine wpList_load_mid (by rfl) 136 _ (by rfl) b off (by rfl) s.cells.toList _ HR.out Try.underlying136 rfl (by kernel_rfl) ?_)
      | (refine store_blk (by rfl) 136 _ _ (by rfl) w2.heap.size (by rfl) symZ s.cells 136 HZ.out (by rfl) (by rfl) (by kernel_rfl) (one_sym _) ?_; change wpList _ _ _ _ _ (World.setCells (w2.alloc (.cells symZ 136)) w2.heap.size 0 s.cells.toList); rw [alloc_setCells w2 symZ s.cells 136 rfl w2.heap.size rfl]; generalize w2.alloc (.cells s.cells 136) = w3 at HO ⊢)
    )
    replace HO := Lib.hid HO.out.drew
    refine wp_region_held_drew (S := (fun w' => w'.cell? ⟨w2.heap.size, 0, none⟩ = some (.int .i64 s.grid) ∧ w'.cell? ⟨w2.heap.size, 1, none⟩ = some (.int .i64 s.ref))) (by kernel_rfl) ⟨HO.out.sym.cell 0 rfl, HO.out.sym.cell 1 rfl⟩ (fun hHeld => ?_)
    generalize w3.drew = w4 at HO hHeld ⊢
    refine wpAnyH_take (i := 0) (oi := ⟨some 58, _, _, _, _, _⟩) (v := (.pointer (some ⟨w2.heap.size, 1, none⟩))) rfl (by kernel_rfl) (by kernel_rfl) (by kernel_rfl) (fun _ _ _ h => h) (Or.inl ⟨by rfl, fun w hSw => by (try dsimp only at hSw); go_simp⟩) (by assumption) ?_
    simp only [Act.put, List.setIfInBounds_toArray, List.set_cons_zero, List.set_cons_succ]
    refine wpAnyH_take (i := 1) (oi := ⟨some 59, _, _, _, _, _⟩) (v := (.int .i64 s.ref)) rfl (by kernel_rfl) (by kernel_rfl) (by kernel_rfl) (fun _ _ _ h => h) (Or.inl ⟨by rfl, fun w hSw => by (try dsimp only at hSw); go_simp⟩) (by assumption) ?_
    simp only [Act.put, List.setIfInBounds_toArray, List.set_cons_zero, List.set_cons_succ]
    refine wpAnyH_take (i := 2) (oi := ⟨some 60, _, _, _, _, _⟩) (v := (.pointer (some ⟨w2.heap.size, 0, none⟩))) rfl (by kernel_rfl) (by kernel_rfl) (by kernel_rfl) (fun _ _ _ h => h) (Or.inl ⟨by rfl, fun w hSw => by (try dsimp only at hSw); go_simp⟩) (by assumption) ?_
    simp only [Act.put, List.setIfInBounds_toArray, List.set_cons_zero, List.set_cons_succ]
    refine wpAnyH_take (i := 3) (oi := ⟨some 61, _, _, _, _, _⟩) (v := (.int .i64 s.grid)) rfl (by kernel_rfl) (by kernel_rfl) (by kernel_rfl) (fun _ _ _ h => h) (Or.inl ⟨by rfl, fun w hSw => by (try dsimp only at hSw); go_simp⟩) (by assumption) ?_
    simp only [Act.put, List.setIfInBounds_toArray, List.set_cons_zero, List.set_cons_succ]
    refine wpAnyH_take (i := 4) (oi := ⟨some 62, _, _, _, _, _⟩) (v := (.pointer (some ⟨d, 0, none⟩))) rfl (by kernel_rfl) (by kernel_rfl) (by kernel_rfl) (fun _ _ _ h => h) (Or.inl ⟨by rfl, fun w hSw => by (try dsimp only at hSw); go_simp⟩) (by assumption) ?_
    simp only [Act.put, List.setIfInBounds_toArray, List.set_cons_zero, List.set_cons_succ]
    refine wpAnyH_ready (rs := [5]) (by kernel_rfl) (by simp) ?_
    refine AllReadyH.cons (o := ⟨some 63, _, _, _, _, _⟩) rfl (fun KK hK => ?_) AllReadyH.nil
    go_simp
    refine (next_blk d x 5 _ (by decide) HO.out.dice).mono ?_
    rintro e w5 ⟨rfl, hq1, hq2, -⟩
    replace HO := Lib.hid (HO.out.call hq1 hq2)
    clear hq1 hq2
    go_wp2_with fail
    refine hK.out _ _ ⟨HO.out.sym.cell 0 rfl, HO.out.sym.cell 1 rfl⟩ (fun hHeld => ?_)
    clear hK; try clear KK
    try simp only [Act.put, List.setIfInBounds_toArray, List.set_cons_zero, List.set_cons_succ]
    refine wpAnyH_take (i := 6) (oi := ⟨some 64, _, _, _, _, _⟩) (v := (.int .i64 pr)) rfl (by kernel_rfl) (by kernel_rfl) (by kernel_rfl) (fun _ _ _ h => h) (Or.inl ⟨by rfl, fun w hSw => by (try dsimp only at hSw); go_simp⟩) (by assumption) ?_
    simp only [Act.put, List.setIfInBounds_toArray, List.set_cons_zero, List.set_cons_succ]
    refine wpAnyH_take (i := 7) (oi := ⟨some 65, _, _, _, _, _⟩) (v := (.int .i64 (s.ref - pr))) rfl (by kernel_rfl) (by kernel_rfl) (by kernel_rfl) (fun _ _ _ h => h) (Or.inl ⟨by rfl, fun w hSw => by (try dsimp only at hSw); go_simp⟩) (by assumption) ?_
    simp only [Act.put, List.setIfInBounds_toArray, List.set_cons_zero, List.set_cons_succ]
    refine wpAnyH_take (i := 8) (oi := ⟨some 66, _, _, _, _, _⟩) (v := (.int .i64 (max (s.ref - pr) 0))) rfl (by kernel_rfl) (by kernel_rfl) (by kernel_rfl) (fun _ _ _ h => h) (Or.inl ⟨by rfl, fun w hSw => by (try dsimp only at hSw); go_simp⟩) (by assumption) ?_
    simp only [Act.put, List.setIfInBounds_toArray, List.set_cons_zero, List.set_cons_succ]
    refine wpAnyH_take (i := 9) (oi := ⟨some 67, _, _, _, _, _⟩) (v := (.agg #[.int .i64 4, .int .i64 0, .int .i64 (max (s.ref - pr) 0), .slice none 0 0])) rfl (by kernel_rfl) (by kernel_rfl) (by kernel_rfl) (fun _ _ _ h => h) (Or.inl ⟨by rfl, fun w hSw => by (try dsimp only at hSw); go_simp⟩) (by assumption) ?_
    simp only [Act.put, List.setIfInBounds_toArray, List.set_cons_zero, List.set_cons_succ]
    refine wpAnyH_ready (rs := [10]) (by kernel_rfl) (by simp) ?_
    refine AllReadyH.cons (o := ⟨none, _, _, _, _, _⟩) rfl (fun KK hK => ?_) AllReadyH.nil
    refine step_store_blk (by rfl) 123 _ _ (by rfl) (w.heap.size + 1) (by rfl) _ (stepC 4 0 (max (s.ref - pr) 0) (.slice none 0 0)) 123 HO.out.res (by rfl) rfl (by kernel_rfl) (one_stp _ _ _ _ _ _) ?_
    replace HO := Lib.hid (HO.out.put (stepC 4 0 (max (s.ref - pr) 0) (.slice none 0 0)) rfl)
    refine hK.out _ _ ⟨HO.out.sym.cell 0 rfl, HO.out.sym.cell 1 rfl⟩ (fun hHeld => ?_)
    clear hK; try clear KK
    refine wpAnyH_done (by kernel_rfl) ?_ _
    go_wp2_with fail
    refine bodyPost_ret (results_cell_row rfl _ _ _ _ _ (0, 0) _ rfl HO.out.res Try.underlying123 rfl (by kernel_rfl)) rfl ?_
    exact ⟨.slice none 0 0, by rw [HE.out], by rw [HE.out]; exact .inl ⟨rfl, rfl⟩, HO.out.dice, HO.out.chg⟩
  · have g4 : (kind == 4) = false := by simp [h4]
    clear hk h4
    have g8 : (z == 8) = false := by simp; omega
    have ⟨t0, t1⟩ := toss_in x 5 (by decide)
    obtain ⟨b, off, rfl, hbl, hc⟩ := hin.syms 0 hn
    have HG := Lib.hid (show c.syms.getD 0 zeroSym = c.syms[0] by rw [List.getD_eq_getElem?_getD, List.getElem?_eq_getElem (by omega)]; rfl)
    generalize c.syms[0] = s at hc HG
    have hlt := hd.lt
    have hW0 := ((Below.refl w.heap.size w).alloc (Nat.le_refl _) (.cells (c.cells (some ⟨b, off, none⟩) ta sc tc) 34)).alloc (by simp) (.cells (stepC 0 0 0 (.slice none 0 0)) 123)
    have hrow : ((w.alloc (.cells (c.cells (some ⟨b, off, none⟩) ta sc tc) 34)).alloc (.cells (stepC 0 0 0 (.slice none 0 0)) 123)).rangeAt b off s.cells.toList := fun j v hv => by
      rw [hW0.cell (p := ⟨b, _, none⟩) hbl]; have h := hc j v (by simpa using hv); simpa using h
    have h0 : Blk ((w.alloc (.cells (c.cells (some ⟨b, off, none⟩) ta sc tc) 34)).alloc (.cells (stepC 0 0 0 (.slice none 0 0)) 123)) w.heap.size (c.cells (some ⟨b, off, none⟩) ta sc tc) 34 := (Blk.new _ _ _ _ rfl).old _
    have h1 : Blk ((w.alloc (.cells (c.cells (some ⟨b, off, none⟩) ta sc tc) 34)).alloc (.cells (stepC 0 0 0 (.slice none 0 0)) 123)) (w.heap.size + 1) (stepC 0 0 0 (.slice none 0 0)) 123 := Blk.new _ _ _ _ (by simp)
    have HW := Lib.hid hW0
    have HR := Lib.hid hrow
    have H0 := Lib.hid h0
    have H1 := Lib.hid h1
    have HD := Lib.hid (hd.below hW0 hlt)
    clear hin hc hW0 hrow h0 h1 hd
    unfold Cfg.cells stepC at *
    go_enter Try.func61, Try.ntmps61
    go_upto_region 1 with fail
    generalize ((w.alloc (.cells #[.slice (some ⟨b, off, none⟩) c.syms.length sc, .slice ta c.tab.length tc, .int .i64 c.index, .int .i64 c.f0, .int .i64 c.f1, .int .i64 c.f2, .int .i64 c.h0, .int .i64 c.h1] 34)).alloc (.cells #[.int .i64 0, .int .i64 0, .int .i64 0, .slice none 0 0] 123)) = w2 at HW HR H0 H1 HD ⊢
    have HZ := Lib.hid (Blk.new w2 symZ 136 w2.heap.size rfl)
    have hsb : w.heap.size + 1 < w2.heap.size := H1.out.lt
    have HO : Hid (Ot w d #[.slice (some ⟨b, off, none⟩) c.syms.length sc, .slice ta c.tab.length tc, .int .i64 c.index, .int .i64 c.f0, .int .i64 c.f1, .int .i64 c.f2, .int .i64 c.h0, .int .i64 c.h1] w2.heap.size s (w2.alloc (.cells s.cells 136)) x #[.int .i64 0, .int .i64 0, .int .i64 0, .slice none 0 0]) := Lib.hid ⟨H0.out.old _, H1.out.old _, Blk.new _ _ _ _ rfl, HD.out.old _, Chg.of (HW.out.alloc HW.out.size _), hlt, hsb⟩
    have c0 : w2.cell? ⟨w.heap.size, 0, none⟩ = some (.slice (some ⟨b, off, none⟩) c.syms.length sc) := H0.out.cell 0 rfl
    clear H0 H1 HD HW
    have HE := Lib.hid (show otherS c x kind i z = ⟨4, 0, max (s.ref - s.grid * toss x 5) 0, []⟩ by rw [← HG.out]; simp [otherS, HK.out, show ¬ z < 8 by omega, show ¬ z = 8 by omega])
    rw [HG.out] at hs0 hs1 hs2 hs3
    have ⟨p0, p1⟩ := mul_top s.grid (toss x 5) 1099511627776 5 (by omega) t0 (by omega) (by omega)
    have e1 := IntWalk.i64_in (s.grid * toss x 5) (by omega)
    generalize hpr : s.grid * toss x 5 = pr at p0 p1 HE
    rw (occs := .pos [2]) [hpr] at e1
    have e2 := IntWalk.i64_in (s.ref - pr) (by omega)
    clear hpr HG
    go_wp2_with (first
      | (refine wpList_load_mid (by rfl) 136 _ (by rfl) b off (by rfl) s.cells.toList _ HR.out Try.underlying136 rfl (by kernel_rfl) ?_)
      | (refine store_blk (by rfl) 136 _ _ (by rfl) w2.heap.size (by rfl) symZ s.cells 136 HZ.out (by rfl) (by rfl) (by kernel_rfl) (one_sym _) ?_; change wpList _ _ _ _ _ (World.setCells (w2.alloc (.cells symZ 136)) w2.heap.size 0 s.cells.toList); rw [alloc_setCells w2 symZ s.cells 136 rfl w2.heap.size rfl]; generalize w2.alloc (.cells s.cells 136) = w3 at HO ⊢)
    )
    replace HO := Lib.hid HO.out.drew
    refine wp_region_held_drew (S := (fun w' => w'.cell? ⟨w2.heap.size, 0, none⟩ = some (.int .i64 s.grid) ∧ w'.cell? ⟨w2.heap.size, 1, none⟩ = some (.int .i64 s.ref))) (by kernel_rfl) ⟨HO.out.sym.cell 0 rfl, HO.out.sym.cell 1 rfl⟩ (fun hHeld => ?_)
    generalize w3.drew = w4 at HO hHeld ⊢
    refine wpAnyH_take (i := 0) (oi := ⟨some 58, _, _, _, _, _⟩) (v := (.pointer (some ⟨w2.heap.size, 1, none⟩))) rfl (by kernel_rfl) (by kernel_rfl) (by kernel_rfl) (fun _ _ _ h => h) (Or.inl ⟨by rfl, fun w hSw => by (try dsimp only at hSw); go_simp⟩) (by assumption) ?_
    simp only [Act.put, List.setIfInBounds_toArray, List.set_cons_zero, List.set_cons_succ]
    refine wpAnyH_take (i := 1) (oi := ⟨some 59, _, _, _, _, _⟩) (v := (.int .i64 s.ref)) rfl (by kernel_rfl) (by kernel_rfl) (by kernel_rfl) (fun _ _ _ h => h) (Or.inl ⟨by rfl, fun w hSw => by (try dsimp only at hSw); go_simp⟩) (by assumption) ?_
    simp only [Act.put, List.setIfInBounds_toArray, List.set_cons_zero, List.set_cons_succ]
    refine wpAnyH_take (i := 2) (oi := ⟨some 60, _, _, _, _, _⟩) (v := (.pointer (some ⟨w2.heap.size, 0, none⟩))) rfl (by kernel_rfl) (by kernel_rfl) (by kernel_rfl) (fun _ _ _ h => h) (Or.inl ⟨by rfl, fun w hSw => by (try dsimp only at hSw); go_simp⟩) (by assumption) ?_
    simp only [Act.put, List.setIfInBounds_toArray, List.set_cons_zero, List.set_cons_succ]
    refine wpAnyH_take (i := 3) (oi := ⟨some 61, _, _, _, _, _⟩) (v := (.int .i64 s.grid)) rfl (by kernel_rfl) (by kernel_rfl) (by kernel_rfl) (fun _ _ _ h => h) (Or.inl ⟨by rfl, fun w hSw => by (try dsimp only at hSw); go_simp⟩) (by assumption) ?_
    simp only [Act.put, List.setIfInBounds_toArray, List.set_cons_zero, List.set_cons_succ]
    refine wpAnyH_take (i := 4) (oi := ⟨some 62, _, _, _, _, _⟩) (v := (.pointer (some ⟨d, 0, none⟩))) rfl (by kernel_rfl) (by kernel_rfl) (by kernel_rfl) (fun _ _ _ h => h) (Or.inl ⟨by rfl, fun w hSw => by (try dsimp only at hSw); go_simp⟩) (by assumption) ?_
    simp only [Act.put, List.setIfInBounds_toArray, List.set_cons_zero, List.set_cons_succ]
    refine wpAnyH_ready (rs := [5]) (by kernel_rfl) (by simp) ?_
    refine AllReadyH.cons (o := ⟨some 63, _, _, _, _, _⟩) rfl (fun KK hK => ?_) AllReadyH.nil
    go_simp
    refine (next_blk d x 5 _ (by decide) HO.out.dice).mono ?_
    rintro e w5 ⟨rfl, hq1, hq2, -⟩
    replace HO := Lib.hid (HO.out.call hq1 hq2)
    clear hq1 hq2
    go_wp2_with fail
    refine hK.out _ _ ⟨HO.out.sym.cell 0 rfl, HO.out.sym.cell 1 rfl⟩ (fun hHeld => ?_)
    clear hK; try clear KK
    try simp only [Act.put, List.setIfInBounds_toArray, List.set_cons_zero, List.set_cons_succ]
    refine wpAnyH_take (i := 6) (oi := ⟨some 64, _, _, _, _, _⟩) (v := (.int .i64 pr)) rfl (by kernel_rfl) (by kernel_rfl) (by kernel_rfl) (fun _ _ _ h => h) (Or.inl ⟨by rfl, fun w hSw => by (try dsimp only at hSw); go_simp⟩) (by assumption) ?_
    simp only [Act.put, List.setIfInBounds_toArray, List.set_cons_zero, List.set_cons_succ]
    refine wpAnyH_take (i := 7) (oi := ⟨some 65, _, _, _, _, _⟩) (v := (.int .i64 (s.ref - pr))) rfl (by kernel_rfl) (by kernel_rfl) (by kernel_rfl) (fun _ _ _ h => h) (Or.inl ⟨by rfl, fun w hSw => by (try dsimp only at hSw); go_simp⟩) (by assumption) ?_
    simp only [Act.put, List.setIfInBounds_toArray, List.set_cons_zero, List.set_cons_succ]
    refine wpAnyH_take (i := 8) (oi := ⟨some 66, _, _, _, _, _⟩) (v := (.int .i64 (max (s.ref - pr) 0))) rfl (by kernel_rfl) (by kernel_rfl) (by kernel_rfl) (fun _ _ _ h => h) (Or.inl ⟨by rfl, fun w hSw => by (try dsimp only at hSw); go_simp⟩) (by assumption) ?_
    simp only [Act.put, List.setIfInBounds_toArray, List.set_cons_zero, List.set_cons_succ]
    refine wpAnyH_take (i := 9) (oi := ⟨some 67, _, _, _, _, _⟩) (v := (.agg #[.int .i64 4, .int .i64 0, .int .i64 (max (s.ref - pr) 0), .slice none 0 0])) rfl (by kernel_rfl) (by kernel_rfl) (by kernel_rfl) (fun _ _ _ h => h) (Or.inl ⟨by rfl, fun w hSw => by (try dsimp only at hSw); go_simp⟩) (by assumption) ?_
    simp only [Act.put, List.setIfInBounds_toArray, List.set_cons_zero, List.set_cons_succ]
    refine wpAnyH_ready (rs := [10]) (by kernel_rfl) (by simp) ?_
    refine AllReadyH.cons (o := ⟨none, _, _, _, _, _⟩) rfl (fun KK hK => ?_) AllReadyH.nil
    refine step_store_blk (by rfl) 123 _ _ (by rfl) (w.heap.size + 1) (by rfl) _ (stepC 4 0 (max (s.ref - pr) 0) (.slice none 0 0)) 123 HO.out.res (by rfl) rfl (by kernel_rfl) (one_stp _ _ _ _ _ _) ?_
    replace HO := Lib.hid (HO.out.put (stepC 4 0 (max (s.ref - pr) 0) (.slice none 0 0)) rfl)
    refine hK.out _ _ ⟨HO.out.sym.cell 0 rfl, HO.out.sym.cell 1 rfl⟩ (fun hHeld => ?_)
    clear hK; try clear KK
    refine wpAnyH_done (by kernel_rfl) ?_ _
    go_wp2_with fail
    refine bodyPost_ret (results_cell_row rfl _ _ _ _ _ (0, 0) _ rfl HO.out.res Try.underlying123 rfl (by kernel_rfl)) rfl ?_
    exact ⟨.slice none 0 0, by rw [HE.out], by rw [HE.out]; exact .inl ⟨rfl, rfl⟩, HO.out.dice, HO.out.chg⟩
end Go.Proofs.Ytogjgpiddjmpiaa.Steps

/- drill.Steps. -/
namespace Go.Proofs.Ytogjgpiddjmpiaa.Steps
set_option linter.unusedVariables false
open Go.RowKit Go.Proofs.Ytogjgpiddjmpiaa.Kit Go.Proofs.Ytogjgpiddjmpiaa.Table Go.Proofs.Ytogjgpiddjmpiaa.Blk Go.Proofs.Ytogjgpiddjmpiaa.Octets Go.Proofs.Ytogjgpiddjmpiaa.Cmds Go.Proofs.Ytogjgpiddjmpiaa.Dice Go.Proofs.Ytogjgpiddjmpiaa.Throw Go.Proofs.Ytogjgpiddjmpiaa.Check Go.Proofs.Ytogjgpiddjmpiaa.Order Go.Proofs.Ytogjgpiddjmpiaa.Symbol Go.Proofs.Ytogjgpiddjmpiaa.Begin Go.Proofs.Ytogjgpiddjmpiaa.Price
attribute [local go_sem ↓] Go.wp_at_zero Go.wp_at_succ

theorem row_chg {W W' : World} {base e size k d : Nat} {v : Value} {xs : List Value} {cs : Array Value} {T : TypeId} (h : W.ownsRow base e size v k xs) (hd : Blk W d cs T) (hT : T ≠ e) (hc : Chg W.heap.size d W W') : W'.ownsRow base e size v k xs :=
  h.kept (row := some d) ⟨hc.os, hc.tape, hc.output, hc.size, fun k hk hne => hc.block k hk (fun e => hne (by rw [e]))⟩ (by
    cases hv : v.ownBlock with
    | none => exact .inl rfl
    | some j =>
      right
      intro e
      obtain ⟨_, cur, hcur⟩ := row_from' h hv
      cases e
      rw [show W.heap[_]? = _ from hd] at hcur
      injection hcur with hcur
      injection hcur with _ hcur _
      exact hT hcur)
theorem bytes_chg {N d : Nat} {l : List Nat} {u : Value} {W W' : World} {cs : Array Value} {T : TypeId} (h : BytesOf N l u W) (hd : Blk W d cs T) (hT : T ≠ 5) (hc : Chg W.heap.size d W W') : BytesOf N l u W' :=
  h.elim .inl fun h => .inr ⟨h.1, row_chg h.2 hd hT hc⟩
theorem RowR.chg {N d : Nat} {v : Value} {r : List (Stp × Value)} {W W' : World} {cs : Array Value} {T : TypeId} (h : RowR N v r W) (hd : Blk W d cs T) (hT : T ≠ 5) (hT2 : T ≠ 123) (hc : Chg W.heap.size d W W') : RowR N v r W' :=
  ⟨row_chg h.1 hd hT2 hc, fun x hx => bytes_chg (h.2 x hx) hd hT hc⟩

/-- What holds between two steps of a script that is being made. -/
structure Sw (w : World) (d T : Nat) (cc : Array Value) (W : World) (x : Int) (v : Value) (r : List (Stp × Value)) : Prop where
  cfg : Blk W w.heap.size cc 34
  dice : Blk W d #[.int .u64 x] T
  row : RowR w.heap.size v r W
  bel : Below w.heap.size w W
  lt : w.heap.size < d
section
variable {w W W' : World} {d T : Nat} {cc : Array Value} {x y : Int} {v v' u : Value} {r : List (Stp × Value)} {s : Stp}
theorem Sw.call (h : Sw w d T cc W x v r) (hT : T ≠ 5) (hT2 : T ≠ 123) (hd : Blk W' d #[.int .u64 y] T) (hc : Chg W.heap.size d W W') : Sw w d T cc W' y v r :=
  have := h.lt
  ⟨hc.blk h.cfg.lt (by omega) h.cfg, hd, h.row.chg h.dice hT hT2 hc, h.bel.trans (hc.below' (by omega) h.bel.size), h.lt⟩
theorem Sw.below (h : Sw w d T cc W x v r) (hb : Below W.heap.size W W') : Sw w d T cc W' x v r :=
  ⟨h.cfg.below hb h.cfg.lt, h.dice.below hb h.dice.lt, h.row.below hb, h.bel.trans (hb.mono h.bel.size), h.lt⟩
theorem Sw.alloc (h : Sw w d T cc W x v r) (o : Obj) : Sw w d T cc (W.alloc o) x v r := h.below ((Below.refl _ _).alloc (Nat.le_refl _) o)
theorem Sw.push (h : Sw w d T cc W x v r) (hT2 : T ≠ 123) (hu : BytesOf w.heap.size s.l u W)
    (hown : W'.ownsRow w.heap.size 123 4 v' (r.length + 1) (flat r ++ (stepC s.k s.y s.v u).toList)) (hg : W.grownBy W' v.ownBlock) : Sw w d T cc W' x v' (r ++ [(s, u)]) :=
  ⟨blk_row' h.cfg (by decide) h.row.1 hg, blk_row' h.dice hT2 h.row.1 hg, h.row.push hu hown hg, h.bel.grown hg h.bel.size (fun k e => (row_from' h.row.1 e).1), h.lt⟩
end
theorem infoStep : (Try.prog.info? 123).map (fun i => (i.zero, i.size, i.bytes)) = some (some (.agg (stepC 0 0 0 (.slice none 0 0))), 4, 48) := by kernel_rfl
theorem news_blk {w : World} {B : Nat} {cs : Array Value} {T : TypeId} (h : Blk w B cs T) : ∀ j u, cs.toList[j]? = some u → w.cell? ((⟨B, 0, none⟩ : Addr).add j) = some u := fun j u hu => by
  rw [Addr.add_mid, Nat.zero_add]; exact h.cell j (by simpa using hu)
theorem one_mem {cs : Array Value} (h : cs.all (·.oneCell') = true) : ∀ u ∈ cs.toList, u.oneCell' = true := fun u hu => by
  rw [Array.all_eq_true] at h
  obtain ⟨i, hi, rfl⟩ := List.mem_iff_getElem.1 hu
  simpa using h i (by simpa using hi)

theorem price_in (s : Sym) (k : Int) (g1 : 1 ≤ s.grid) (g2 : s.grid ≤ 1099511627776) : 0 ≤ priceF s k ∧ priceF s k ≤ 1099511627776 := by
  have h1 : 1 ≤ 1099511627776 / s.grid := Int.le_ediv_of_mul_le (by omega) (by omega)
  have h2 : s.grid * (1099511627776 / s.grid) ≤ 1099511627776 := Int.mul_ediv_self_le (by omega)
  unfold priceF
  generalize 1099511627776 / s.grid = q at h1 h2 ⊢
  have h3 : max (min (s.ref / s.grid + k) q) 1 ≤ q := by omega
  have h4 : 1 ≤ max (min (s.ref / s.grid + k) q) 1 := by omega
  generalize max (min (s.ref / s.grid + k) q) 1 = t at h3 h4 ⊢
  exact ⟨Int.mul_nonneg (by omega) (by omega), Int.le_trans (Int.mul_le_mul_of_nonneg_left h3 (by omega)) h2⟩

/-- What a configuration that is right brings to the script. -/
structure RightC (c : Cfg) (kind : Int) : Prop where
  rt : rightF c kind = 0
  n1 : 1 ≤ c.syms.length
  x0 : 1 ≤ c.index
  x1 : c.index ≤ 1099511627776
  syms : ∀ s ∈ c.syms, 1 ≤ s.grid ∧ s.grid ≤ 1099511627776 ∧ 1 ≤ s.ref ∧ s.ref ≤ 1099511627776
theorem index_in (c : Cfg) (h : (checkF c).1 = 0) : 1 ≤ c.index ∧ c.index ≤ 1099511627776 := by
  have hk : k1 c = true := by
    cases h1 : allIn 1 8 [(c.syms.length : Int)] with
    | false => rw [check_none c h1] at h; exact absurd h (by decide)
    | true =>
      by_cases h2 : (symsF c.syms 0).1 = 0
      · by_cases h3 : (tableF c.tab).1 = 0
        · rw [check_last c h1 h2 h3] at h
          have h : restF c = 0 := h
          cases hk : k1 c with
          | true => rfl
          | false => simp [restF, hk] at h
        · rw [check_tab c h1 h2 h3] at h; exact absurd h h3
      · rw [check_sym c h1 h2] at h; exact absurd h h2
  simp only [k1, allIn, List.all_cons, List.all_nil, Bool.and_true, Bool.not_eq_true', Bool.or_eq_false_iff, decide_eq_false_iff_not] at hk
  omega
theorem rightC_of (c : Cfg) (kind : Int) (h : rightF c kind = 0) : RightC c kind := by
  have hck : (checkF c).1 = 0 := by
    unfold rightF at h
    by_cases h1 : (checkF c).1 = 0
    · exact h1
    · rw [if_neg h1] at h; exact h
  obtain ⟨hn1, _, hall⟩ := cfg_right c hck
  obtain ⟨a, b⟩ := index_in c hck
  exact ⟨h, hn1, a, b, fun s hs => by have := sym_right s (hall s hs); exact ⟨this.1, this.2.1, this.2.2.1, this.2.2.2.1⟩⟩
theorem RightC.head {c : Cfg} {kind : Int} (h : RightC c kind) : 1 ≤ (c.syms.getD 0 zeroSym).grid ∧ (c.syms.getD 0 zeroSym).grid ≤ 1099511627776 ∧ 1 ≤ (c.syms.getD 0 zeroSym).ref ∧ (c.syms.getD 0 zeroSym).ref ≤ 1099511627776 := by
  have := h.n1
  rw [List.getD_eq_getElem?_getD, List.getElem?_eq_getElem (by omega)]
  exact h.syms _ (List.getElem_mem (by omega))
theorem cmd_in {c : Cfg} {kind : Int} (h : RightC c kind) (x i : Int) : 0 ≤ (orderCmd c x kind i).p ∧ (orderCmd c x kind i).p ≤ 1099511627776 ∧ 0 ≤ (orderCmd c x kind i).q ∧ (orderCmd c x kind i).q ≤ 9 := by
  have ht := toss_in (turn (turn (turn x))) 9 (by decide)
  have hn := h.n1
  have hp := toss_in x (c.syms.length : Int) (by omega)
  have hg : 0 ≤ (orderCmd c x kind i).p ∧ (orderCmd c x kind i).p ≤ 1099511627776 := by
    show 0 ≤ orderPrice c x kind i ∧ orderPrice c x kind i ≤ 1099511627776
    unfold orderPrice
    split
    · omega
    · have hl : placeF c x < c.syms.length := by unfold placeF; omega
      rw [List.getD_eq_getElem?_getD, List.getElem?_eq_getElem hl]
      have := h.syms _ (List.getElem_mem hl)
      exact price_in _ _ this.1 this.2.1
  exact ⟨hg.1, hg.2, by show 0 ≤ toss (turn (turn (turn x))) 9 + 1; omega, by show toss (turn (turn (turn x))) 9 + 1 ≤ 9; omega⟩

theorem other_any (c : Cfg) (sa ta : Option Addr) (sc tc : Nat) (d : Nat) (x kind i z : Int) (w : World) (hin : c.In w sa ta) (hr : RightC c kind) (hi0 : 0 ≤ i) (hi1 : i ≤ 2000) (hd : Blk w d #[.int .u64 x] 194) :
    Calls Try.prog 61 #[.pointer (some ⟨d, 0, none⟩), .agg (c.cells sa ta sc tc), .int .i64 kind, .int .i64 i, .int .i64 z] w (OtherIs (otherS c x kind i z) d 194 x w) := by
  obtain ⟨s0, s1, s2, s3⟩ := hr.head
  by_cases h1 : z < 8
  · exact other_low c sa ta sc tc d x kind i z w hin hr.n1 h1 hd
  · by_cases h2 : z = 8
    · subst h2; exact other_of c sa ta sc tc d x kind i w hin hr.n1 hi0 hi1 hd
    · by_cases h3 : kind = 4 ∧ i % 7 = 0
      · obtain ⟨rfl, h7⟩ := h3
        exact other_index c sa ta sc tc d x i z w hin hr.n1 (by omega) hi0 h7 hr.x0 hr.x1 hd
      · exact other_bid c sa ta sc tc d x kind i z w hin hr.n1 (by omega) hi0 h3 s0 s1 s2 s3 hd

/-- What drill.Steps and the document's Steps answer. -/
def stepsF (c : Cfg) (kind n : Int) : Int := if rightF c kind = 0 then (if n < 0 ∨ 500 < n then 1 else 0) else rightF c kind
def StepsIs (c : Cfg) (x kind n : Int) (w : World) (e : Ending) (w' : World) : Prop :=
  ∃ v, e = .returned (.tuple #[v, .int .i64 (stepsF c kind n)]) ∧ ((stepsF c kind n ≠ 0 ∧ v = .slice none 0 0) ∨ (stepsF c kind n = 0 ∧ (0 ≤ n ∧ n ≤ 500) ∧ Row w.heap.size v (stepsS c x kind n.toNat) w')) ∧ Below w.heap.size w w'

theorem loop_other (c : Cfg) (kind x : Int) (n k : Nat) (hk : k < n) (h : 6 ≤ toss x 10) : loopS c kind (n - k) k x = otherS c (turn x) kind k (toss x 10) :: loopS c kind (n - (k + 1)) ((k + 1 : Nat) : Int) (turn (turn x)) := by
  obtain ⟨m, hm⟩ : ∃ m, n - k = m + 1 := ⟨n - k - 1, by omega⟩
  rw [hm, show n - (k + 1) = m by omega]
  simp [loopS, h]
theorem loop_order (c : Cfg) (kind x : Int) (n k : Nat) (hk : k < n) (h : ¬ 6 ≤ toss x 10) : loopS c kind (n - k) k x = ofS (orderCmd c (turn x) kind k) :: loopS c kind (n - (k + 1)) ((k + 1 : Nat) : Int) (orderDice (turn x)) := by
  obtain ⟨m, hm⟩ : ∃ m, n - k = m + 1 := ⟨n - k - 1, by omega⟩
  rw [hm, show n - (k + 1) = m by omega]
  simp [loopS, h]

set_option maxRecDepth 20000 in
set_option maxHeartbeats 4000000 in
theorem steps_right (c : Cfg) (sa ta : Option Addr) (sc tc : Nat) (x kind : Int) (n : Nat) (w : World) (hin : c.In w sa ta) (hr : RightC c kind) (hn : n ≤ 500) :
    Calls Try.prog 18 #[.agg (c.cells sa ta sc tc), .int .i64 kind, .int .u64 x, .int .i64 n] w fun e w' => ∃ v, e = .returned (.tuple #[v, .int .i64 0]) ∧ Row w.heap.size v (stepsS c x kind n) w' ∧ Below w.heap.size w w' := by
  obtain ⟨i0, hi0, hz0, hz1, hz2⟩ := info_parts infoStep
  have hn0 : (0 : Int) ≤ (n : Int) := by omega
  have HRT := Lib.hid hr
  have HB := Lib.hid (Blk.new w (c.cells sa ta sc tc) 34 w.heap.size rfl)
  have HW := Lib.hid (show Below w.heap.size w (w.alloc (.cells (c.cells sa ta sc tc) 34)) from (Below.refl _ _).alloc (Nat.le_refl _) _)
  have HIN := Lib.hid (fun W (hb : Below w.heap.size w W) => hin.below hb)
  have HSA := Lib.hid (show ∀ a, sa = some a → a.block < w.heap.size from fun a ha => by
    obtain ⟨b, off, e, hb, -⟩ := hin.syms 0 hr.n1
    rw [ha] at e; cases e; exact hb)
  clear hr hin
  have HLEN := Lib.hid (show ([] : List (Stp × Value)).length ≤ 1000 by simp)
  go_enter Try.func18, Try.ntmps18
  go_wp2_with
    (refine load_blk (by rfl) 34 _ (by rfl) w.heap.size (by rfl) _ _ HB.out _ Try.underlying34 rfl (by kernel_rfl) ?_)
  refine (right_any c sa ta sc tc kind _ (HIN.out _ HW.out)).mono ?_
  rintro e w1 ⟨rfl, hb1⟩
  replace HB := Lib.hid (HB.out.below hb1 HB.out.lt)
  replace HW := Lib.hid (HW.out.trans (hb1.mono (by simp)))
  rw [HRT.out.rt]
  clear hb1
  go_wp2_with fail
  refine (new_any x _).mono ?_
  rintro e w2 ⟨rfl, hw2⟩
  have HS : Hid (Sw w w1.heap.size 194 (c.cells sa ta sc tc) w2 x (.slice none 0 0) []) := Lib.hid (by
    subst hw2
    exact ⟨HB.out.old _, Blk.new _ _ _ _ rfl, ⟨World.ownsRow_nil _ _ _ _, by simp⟩, HW.out.alloc HW.out.size _, HB.out.lt⟩)
  clear hw2 HB HW
  generalize w1.heap.size = d at HS ⊢
  go_wp2_with
    (refine load_blk (by rfl) 34 _ (by rfl) w.heap.size (by rfl) _ _ HS.out.cfg _ Try.underlying34 rfl (by kernel_rfl) ?_)
  refine (begin_any c sa ta sc tc _ (HIN.out _ HS.out.bel)).mono ?_
  rintro e w3 ⟨rfl, hb3⟩
  replace HS := Lib.hid ((HS.out.below hb3).alloc (.cells (stepC 2 0 (findG c.tab).1 (.slice none 0 0)) 123))
  have HNB := Lib.hid (Blk.new w3 (stepC 2 0 (findG c.tab).1 (.slice none 0 0)) 123 w3.heap.size rfl)
  clear hb3
  generalize hat : (findG c.tab).1 = at0 at HS HNB ⊢
  have HAT := Lib.hid hat
  clear hat
  go_wp2_with
    (at_builtin; refine wpList_append_lies _ (by rfl) _ _ _ (by rfl) w.heap.size 123 i0 (.agg (stepC 0 0 0 (.slice none 0 0))) 4 48 Try.underlying37 hi0 hz0 hz1 hz2 (by rfl) (by decide) _ ([] : List (Stp × Value)).length (flat ([] : List (Stp × Value))) (by rfl) HS.out.row.1 ⟨w3.heap.size, 0, none⟩ 1 1 (stepC 2 0 at0 (.slice none 0 0)).toList (by rfl) (by rfl) (news_blk HNB.out) (one_mem (one_stp _ _ _ _ _ _)) (by decide) (by unfold maxLen; have := HLEN.out; omega) (by have := HLEN.out; omega) HS.out.bel.size (w3.heap.size + 1) (by simp) ?_; intro g cap2 w9 hown9 hgrow9 hat9 hlt9)
  replace HS := Lib.hid (HS.out.push (s := ⟨2, 0, at0, []⟩) (by decide) (.inl ⟨rfl, rfl⟩) hown9 hgrow9)
  clear hown9 hgrow9 hat9 hlt9 HNB HLEN
  go_wp2_with fail
  have HRL := Lib.hid (show stepsS c x kind n = [(⟨2, 0, at0, []⟩ : Stp)] ++ loopS c kind n 0 x by unfold stepsS; rw [HAT.out]; rfl)
  clear HAT
  go_loopw [8, 42] (fun v i wr => ∃ (k : Nat) (r : List (Stp × Value)) (y : Int), k ≤ n ∧ i = .int .i64 k ∧ Sw w d 194 (c.cells sa ta sc tc) wr y v r ∧ r.length = k + 1 ∧ r.map (·.1) ++ loopS c kind (n - k) k y = stepsS c x kind n) (fun _ i _ => n - (intOf i).toNat)
  case atStart => exact ⟨0, _, x, by omega, rfl, HS.out, rfl, HRL.out.symm⟩
  case round =>
    obtain ⟨k, r, y, hk, rfl, hs, hl, hf⟩ := hrel
    clear HS HRL
    have HS := Lib.hid hs
    have HF := Lib.hid hf
    have HL := Lib.hid hl
    have HLEN := Lib.hid (show r.length ≤ 1000 by omega)
    clear hs hf hl
    by_cases hlt : k < n
    · have ⟨z0, z1⟩ := toss_in y 10 (by decide)
      by_cases h6 : 6 ≤ toss y 10
      · have HC := Lib.hid (loop_other c kind y n k hlt h6)
        go_wp2_with fail
        refine (next_blk d y 10 _ (by decide) HS.out.dice).mono ?_
        rintro e w1 ⟨rfl, hq1, hq2, -⟩
        replace HS := Lib.hid (HS.out.call (by decide) (by decide) hq1 hq2)
        clear hq1 hq2
        go_wp2_with
          (refine load_blk (by rfl) 34 _ (by rfl) w.heap.size (by rfl) _ _ HS.out.cfg _ Try.underlying34 rfl (by kernel_rfl) ?_)
        have hle := HS.out.bel.size
        refine (other_any c sa ta sc tc d (turn y) kind k (toss y 10) _ (HIN.out _ HS.out.bel) HRT.out (by omega) (by omega) HS.out.dice).mono ?_
        rintro e w2 ⟨u, rfl, hby, hq1, hq2⟩
        replace HS := Lib.hid (HS.out.call (by decide) (by decide) hq1 hq2)
        replace hby := bytes_mono hby hle
        obtain ⟨ua, un, uc, rfl⟩ := bytes_form hby
        clear hq1 hq2 hle
        generalize otherS c (turn y) kind (↑k) (toss y 10) = st at hby HC ⊢
        replace HS := Lib.hid (HS.out.alloc (.cells (stepC st.k st.y st.v (.slice ua un uc)) 123))
        have HY := Lib.hid (bytes_alloc hby (.cells (stepC st.k st.y st.v (.slice ua un uc)) 123))
        have HNB := Lib.hid (Blk.new w2 (stepC st.k st.y st.v (.slice ua un uc)) 123 w2.heap.size rfl)
        clear hby
        unfold stepC
        go_wp2_with
          (at_builtin; refine wpList_append_lies _ (by rfl) _ _ _ (by rfl) w.heap.size 123 i0 (.agg (stepC 0 0 0 (.slice none 0 0))) 4 48 Try.underlying37 hi0 hz0 hz1 hz2 (by rfl) (by decide) _ r.length (flat r) (by rfl) HS.out.row.1 ⟨w2.heap.size, 0, none⟩ 1 1 (stepC st.k st.y st.v (.slice ua un uc)).toList (by rfl) (by rfl) (news_blk HNB.out) (one_mem (one_stp _ _ _ _ _ _)) (by decide) (by unfold maxLen; have := HLEN.out; omega) (by have := HLEN.out; omega) HS.out.bel.size (w2.heap.size + 1) (by simp) ?_; intro g cap2 w9 hown9 hgrow9 hat9 hlt9)
        replace HS := Lib.hid (HS.out.push (s := st) (by decide) HY.out hown9 hgrow9)
        clear hown9 hgrow9 hat9 hlt9 HNB HY
        go_roundw
        case rel => exact ⟨k + 1, _, turn (turn y), by omega, by go_num, HS.out, by simp [HL.out], by rw [← HF.out, HC.out]; simp⟩
        case measure => simp [intOf]; omega
      · have HC := Lib.hid (loop_order c kind y n k hlt h6)
        go_wp2_with fail
        refine (next_blk d y 10 _ (by decide) HS.out.dice).mono ?_
        rintro e w1 ⟨rfl, hq1, hq2, -⟩
        replace HS := Lib.hid (HS.out.call (by decide) (by decide) hq1 hq2)
        clear hq1 hq2
        go_wp2_with
          (refine load_blk (by rfl) 34 _ (by rfl) w.heap.size (by rfl) _ _ HS.out.cfg _ Try.underlying34 rfl (by kernel_rfl) ?_)
        have hlw := HS.out.lt
        refine (order_any c sa ta sc tc d (turn y) kind k _ (HIN.out _ HS.out.bel) (fun a ha => by have := HSA.out a ha; omega) HRT.out.rt (by omega) (by omega) HS.out.dice).mono ?_
        clear hlw
        rintro e w2 ⟨rfl, hq1, hq2⟩
        replace HS := Lib.hid (HS.out.call (by decide) (by decide) hq1 hq2)
        clear hq1 hq2
        have HCI := Lib.hid (cmd_in HRT.out (turn y) k)
        go_wp2_with fail
        have hle := HS.out.bel.size
        refine (of_any (orderCmd c (turn y) kind k) _ (by have := HCI.out; omega) (by have := HCI.out; omega) (by have := HCI.out; omega) (by have := HCI.out; omega)).mono ?_
        rintro e w3 h5
        obtain ⟨u, code, rfl, hby, hb5⟩ := of_step h5
        replace HS := Lib.hid (HS.out.below hb5)
        replace hby := bytes_mono hby hle
        obtain ⟨ua, un, uc, rfl⟩ := bytes_form hby
        clear h5 hb5 hle HCI
        generalize ofS (orderCmd c (turn y) kind k) = st at hby HC ⊢
        replace HS := Lib.hid ((HS.out.alloc (.cells (stepC st.k st.y st.v (.slice ua un uc)) 123)))
        have HY := Lib.hid (bytes_alloc hby (.cells (stepC st.k st.y st.v (.slice ua un uc)) 123))
        have HZ := Lib.hid (Blk.new w3 (stepC 0 0 0 (.slice none 0 0)) 123 w3.heap.size rfl)
        have HB6 := Lib.hid (Blk.new w3 (stepC st.k st.y st.v (.slice ua un uc)) 123 w3.heap.size rfl)
        clear hby
        go_upto_region 16 with (refine store_blk (by rfl) 123 _ _ (by rfl) w3.heap.size (by rfl) (stepC 0 0 0 (.slice none 0 0)) (stepC st.k st.y st.v (.slice ua un uc)) 123 HZ.out (by rfl) rfl (by kernel_rfl) (one_stp _ _ _ _ _ _) ?_; change wpList _ _ _ _ _ (World.setCells (w3.alloc (.cells (stepC 0 0 0 (.slice none 0 0)) 123)) w3.heap.size 0 (stepC st.k st.y st.v (.slice ua un uc)).toList); rw [alloc_setCells w3 (stepC 0 0 0 (.slice none 0 0)) (stepC st.k st.y st.v (.slice ua un uc)) 123 rfl w3.heap.size rfl])
        generalize hw6 : w3.alloc (.cells (stepC st.k st.y st.v (.slice ua un uc)) 123) = w6 at HS HY HB6 ⊢
        clear hw6 HZ
        replace HS := Lib.hid (HS.out.alloc (.cells (stepC st.k st.y st.v (.slice ua un uc)) 123))
        replace HY := Lib.hid (bytes_alloc HY.out (.cells (stepC st.k st.y st.v (.slice ua un uc)) 123))
        have HNB := Lib.hid (Blk.new w6 (stepC st.k st.y st.v (.slice ua un uc)) 123 w6.heap.size rfl)
        go_wp2_with (first
          | (refine load_blk (by rfl) 123 _ (by rfl) w3.heap.size (by rfl) #[.int .i64 st.k, .int .i64 st.y, .int .i64 st.v, .slice ua un uc] _ HB6.out _ Try.underlying123 rfl (by kernel_rfl) ?_)
          |
          (at_builtin; refine wpList_append_lies _ (by rfl) _ _ _ (by rfl) w.heap.size 123 i0 (.agg (stepC 0 0 0 (.slice none 0 0))) 4 48 Try.underlying37 hi0 hz0 hz1 hz2 (by rfl) (by decide) _ r.length (flat r) (by rfl) HS.out.row.1 ⟨w6.heap.size, 0, none⟩ 1 1 (stepC st.k st.y st.v (.slice ua un uc)).toList (by rfl) (by rfl) (news_blk HNB.out) (one_mem (one_stp _ _ _ _ _ _)) (by decide) (by unfold maxLen; have := HLEN.out; omega) (by have := HLEN.out; omega) HS.out.bel.size (w6.heap.size + 1) (by simp) ?_; intro g cap2 w9 hown9 hgrow9 hat9 hlt9)
          )
        replace HS := Lib.hid (HS.out.push (s := st) (by decide) HY.out hown9 hgrow9)
        clear hown9 hgrow9 hat9 hlt9 HNB HY HB6
        go_roundw
        case rel => exact ⟨k + 1, _, orderDice (turn y), by omega, by go_num, HS.out, by simp [HL.out], by rw [← HF.out, HC.out]; simp⟩
        case measure => simp [intOf]; omega
    · obtain rfl : k = n := by omega
      have HR := Lib.hid (show r.map (·.1) = stepsS c x kind k by rw [← HF.out, Nat.sub_self]; simp [loopS])
      go_wp2_with fail
      go_ret2
      exact ⟨_, rfl, by rw [← HR.out]; exact HS.out.row.row, HS.out.bel⟩
end Go.Proofs.Ytogjgpiddjmpiaa.Steps
