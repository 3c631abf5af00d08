/- Parts of the proof: LvlC. -/
import Derived.Test.YtogjgpiddjmpiaaPart16
import Derived.Test.YtogjgpiddjmpiaaPart20
import Derived.Test.YtogjgpiddjmpiaaPart21

/- slices.Collect, of a map of levels' values. -/
namespace Go.Proofs.Ytogjgpiddjmpiaa.Depth
set_option linter.unusedVariables false
open Go.RowKit Go.Shelf Go.Proofs.Ytogjgpiddjmpiaa.Kit Go.Proofs.Ytogjgpiddjmpiaa.Blk Go.Proofs.Ytogjgpiddjmpiaa.Mp Go.Proofs.Ytogjgpiddjmpiaa.Iter Go.Proofs.Ytogjgpiddjmpiaa.Octets
attribute [local go_sem] Oper.semAt_some wide_fn

def rowsL (l : List Lvl) : List Value := l.flatMap fun x => x.cells.toList
theorem rowsL_app (l : List Lvl) (x : Lvl) : rowsL (l ++ [x]) = rowsL l ++ x.cells.toList := by simp [rowsL]
theorem infoLvl : (Try.prog.info? 90).map (fun i => (i.zero, i.size, i.bytes)) = some (some (.agg lvlZ), 3, 24) := by kernel_rfl
/-- What is collected: its variable in block Bs. -/
def CK (Bs : Nat) (w : World) (pre : List Lvl) (W : World) : Prop :=
  ∃ v, Blk W Bs #[v] 79 ∧ W.ownsRow w.heap.size 90 3 v pre.length (rowsL pre) ∧ Below w.heap.size w W
theorem ck_own {Bs : Nat} {w : World} {B : Nat} (hB : w.heap.size ≤ B) : OwnFrom B (fun pre W => CK Bs w pre W) := by
  rintro pre W W' row ⟨v, h1, h2, h3⟩ hg hr
  refine ⟨v, (grownBy_keeps_cells hg (fun r e => (hr r e).2) h1 rfl).trans h1, h2.kept hg ?_, ownFrom_below (w₀ := w) (Nat.le_refl _) hB pre W W' row h3 hg hr⟩
  cases hv : v.ownBlock with
  | none => exact .inl rfl
  | some j =>
    right
    intro e
    obtain ⟨_, cur, hc⟩ := row_from' h2 hv
    obtain ⟨_, o, h4, h5⟩ := hr j e.symm
    rw [h4] at hc; cases hc; cases h5
theorem ck_below {Bs : Nat} {w W W' : World} {pre : List Lvl} (h : CK Bs w pre W) (hb : Below W.heap.size W W') : CK Bs w pre W' := by
  obtain ⟨v, h1, h2, h3⟩ := h
  exact ⟨v, h1.below hb h1.lt, h2.kept (row := none) ⟨hb.os, hb.tape, hb.output, hb.size, fun k hk _ => hb.block k hk⟩ (by cases v.ownBlock; exact .inl rfl; exact .inr (by simp)), h3.trans (hb.mono h3.size)⟩
theorem kw_below {N : Nat} {Z W W' : World} (h : KW (fun b => b < N) Z W) (hN : N ≤ W.heap.size) (hb : Below N W W') (hk : KeepsWalks W W') : KW (fun b => b < N) Z W' :=
  kw_t h ⟨kz_below hb (fun _ h => h), hk⟩

/-- What is collected. -/
def CollIs (P : List Lvl → Prop) (w : World) (e : Ending) (w' : World) : Prop := ∃ ys v, P ys ∧ e = .returned v ∧ w'.ownsRow w.heap.size 90 3 v ys.length (rowsL ys) ∧ Below w.heap.size w w'

set_option maxRecDepth 100000 in
set_option maxHeartbeats 4000000 in
theorem append_any (A : List (Int × Lvl)) (hl : A.length ≤ 1000) (Bm b : Nat) (w : World) (hBm : Blk w Bm #[.map (some b)] 174) (hM : MapIs w b k64 lv A) :
    Calls Try.prog 194 #[.slice none 0 0, .func (.func 160) #[] #[.pointer (some ⟨Bm, 0, none⟩)]] w (CollIs (fun ys => ys.Perm (A.map (·.2))) w) := by
  refine of_wide (n := 9) ?_
  refine callsIn_of_wp_marks Try.func194 rfl trivial ?_ rfl
  simp only [Try.ntmps194, List.size_toArray, List.length_cons, List.length_nil, Nat.reduceAdd, Nat.reduceSub, Array.replicate_succ, Array.replicate_zero, List.push_toArray, List.append_toArray, List.nil_append, List.cons_append]
  obtain ⟨i0, hi0, hz0, hz1, hz2⟩ := info_parts infoLvl
  have hbz : Below w.heap.size w (w.alloc (.cells #[.slice none 0 0] 79)) := (Below.refl _ _).alloc (Nat.le_refl _) _
  have HCK := Lib.hid (show CK w.heap.size w [] (w.alloc (.cells #[.slice none 0 0] 79)) from ⟨_, Blk.new _ _ _ _ rfl, World.ownsRow_nil _ _ _ _, hbz⟩)
  have HBM := Lib.hid (hBm.below hbz hBm.lt)
  have HMM := Lib.hid (hM.below hbz hM.lt)
  have HBL := Lib.hid hM.lt
  have HZs := Lib.hid (show (w.alloc (.cells #[.slice none 0 0] 79)).heap.size = w.heap.size + 1 by simp)
  clear hbz hBm hM
  gi_wp2_with fail
  generalize w.alloc (.cells #[.slice none 0 0] 79) = Z at HCK HBM HMM HZs ⊢
  refine wpIn_rangeFunc_ownH (w0 := Z) rfl (by decide) (gf := 160) (lb := #[.pointer (some ⟨Bm, 0, none⟩)]) rfl trivial (enters_of Try.func160 (by kernel_rfl) rfl)
    (values_stops 8 (by decide) A Bm b (fun c => c < w.heap.size) HBL.out Z (fun c hc => by have := HZs.out; omega) HBM.out HMM.out) kw_t (kw_b (fun c hc => by have := HZs.out; omega)) (Below.refl _ _) (fun _ => rfl)
    (fun (pre : List Lvl) W => CK w.heap.size w pre W ∧ KW (fun c => c < w.heap.size) Z W)
    (fun _ _ _ => False)
    (OwnFrom.and (ck_own (by have := HZs.out; omega)) ?kwown)
    (fun c s W W' row hs _ _ => hs)
    ⟨HCK.out, kw_refl _ _⟩
    (fun x a' W => ∃ Bx, Z.heap.size ≤ Bx ∧ Blk W Bx x.cells 90 ∧ a' = { tmps := #[.slice none 0 0, .func (.func 160) #[] #[.pointer (some ⟨Bm, 0, none⟩)], .pointer (some ⟨w.heap.size, 0, none⟩), undef, .slice none 0 0, .pointer (some ⟨Bx, 0, none⟩), .func (.func 160) #[] #[.pointer (some ⟨Bm, 0, none⟩)], .agg x.cells, undef, undef, undef, undef, undef], defers := [] })
    (fun x a' s W W' row hs hg hr => by obtain ⟨Bx, h1, h2, h3⟩ := hs; exact ⟨Bx, h1, (grownBy_keeps_cells hg (fun r e => (hr r e).2) h2 rfl).trans h2, h3⟩) ?assign ?body ?done ?stop
  case kwown =>
    intro s W W' row hs hg hr
    have hb : ∀ k, k < Z.heap.size → W'.heap[k]? = W.heap[k]? := fun k hk => hg.block k (Nat.lt_of_lt_of_le hk hs.1.2) (fun e => by have := (hr k e.symm).1; omega)
    exact ⟨⟨fun c hc => (hb c (by have := HZs.out; omega)).trans (hs.1.1 c hc), Nat.le_trans hs.1.2 hg.size⟩, Nat.le_trans hs.2.size hg.size, fun k o hk ho => (hb k (Array.getElem?_eq_some_iff.1 hk).1).trans (hs.2.same k o hk ho)⟩
  case assign =>
    rintro l pre ⟨x, y, z⟩ W K' ⟨hi, hz⟩ hK'
    have HAL := Lib.hid ((Below.refl W.heap.size W).alloc (Nat.le_refl _) (.cells #[.int .i64 x, .int .i64 y, .int .i64 z] 90))
    have HFIN := Lib.hid (hK' _ (W.alloc (.cells #[.int .i64 x, .int .i64 y, .int .i64 z] 90)) ((KeepsOthers.alloc W _).from _) ⟨kz_below HAL.out (fun c hc => by have := HZs.out; have := hz.1.2; omega), (KeepsOthers.alloc W _).walks⟩
      ⟨ck_below hi HAL.out, kw_t hz ⟨kz_below HAL.out (fun c hc => by have := HZs.out; have := hz.1.2; omega), (KeepsOthers.alloc W _).walks⟩⟩
      ⟨W.heap.size, hz.1.2, Blk.new W _ 90 W.heap.size rfl, rfl⟩)
    clear hK' hi hz
    dsimp only [Lvl.cells] at *
    gi_wp2_with fail
    exact HFIN.out
  case body =>
    rintro l pre ⟨x, y, z⟩ a' W hWl ⟨r, hr⟩ ⟨hck, hkw⟩ ⟨Bx, hBx, bX, rfl⟩ hlen
    obtain ⟨v, hv1, hv2, hv3⟩ := hck
    have HV := Lib.hid hv1
    have HOW := Lib.hid hv2
    have HBL2 := Lib.hid hv3
    have HKW := Lib.hid hkw
    have HWL := Lib.hid hWl
    have cv : W.cell? ⟨w.heap.size, 0, none⟩ = some v := hv1.cell 0 rfl
    have x0 : W.cell? ⟨Bx, 0, none⟩ = some (.int .i64 x) := bX.cell 0 rfl
    have x1 : W.cell? ⟨Bx, 1, none⟩ = some (.int .i64 y) := bX.cell 1 rfl
    have x2 : W.cell? ⟨Bx, 2, none⟩ = some (.int .i64 z) := bX.cell 2 rfl
    have HNB := Lib.hid (Blk.new W #[.int .i64 x, .int .i64 y, .int .i64 z] 90 W.heap.size rfl)
    have HOW2 := Lib.hid (HOW.out.alloc (.cells #[.int .i64 x, .int .i64 y, .int .i64 z] 90))
    clear hv1 hv2 hv3 hkw hr bX
    dsimp only [Lvl.cells] at *
    gi_wp2_with (gi_at_builtin; (refine wpListIn_append_own _ rfl _ _ 79 rfl w.heap.size 90 i0 (.agg lvlZ) 3 24 Try.underlying79 hi0 hz0 hz1 hz2 rfl (by decide) v pre.length (rowsL pre) rfl HOW2.out ⟨W.heap.size, 0, none⟩ 1 1 (Lvl.cells ⟨x, y, z⟩).toList rfl rfl (Tape.news_blk HNB.out) (Tape.one_mem (one_lvl ⟨x, y, z⟩)) (by unfold maxLen; omega) (by omega) (by have := HBL2.out.size; simp; omega) ?_); intro v' w1 hown1 hgrow1 _; obtain ⟨g, cp, rfl, -, -⟩ := World.ownsRow.form hown1 (by omega); have HO1 := Lib.hid hown1; have HG1 := Lib.hid hgrow1; have HV1 := Lib.hid (blk_row' (HV.out.old (.cells #[.int .i64 x, .int .i64 y, .int .i64 z] 90)) (by decide) HOW2.out hgrow1); have cv1 : w1.cell? ⟨w.heap.size, 0, none⟩ = some v := HV1.out.cell 0 rfl; have fv1 : w1.frozen? ⟨w.heap.size, 0, none⟩ = false := HV1.out.free 0; clear hown1 hgrow1)
    have HKO := Lib.hid (show KeepsOthers W (w1.setCell ⟨w.heap.size, 0, none⟩ (.slice (some ⟨g, 0, none⟩) (pre.length + 1) cp)) from (KeepsOthers.alloc W (.cells #[.int .i64 x, .int .i64 y, .int .i64 z] 90)).trans ((KeepsOthers.of_grownBy HG1.out (fun j o hj ho => by
      obtain ⟨_, cur, hc⟩ := row_from' HOW2.out hj
      rw [ho] at hc; cases hc; rfl)).trans (KeepsOthers.setCell w1 _ _)))
    have HBL3 := Lib.hid (show Below w.heap.size W (w1.setCell ⟨w.heap.size, 0, none⟩ (.slice (some ⟨g, 0, none⟩) (pre.length + 1) cp)) from
      ((((Below.refl w.heap.size W).alloc HBL2.out.size (.cells #[.int .i64 x, .int .i64 y, .int .i64 z] 90))).grown HG1.out (by have := HBL2.out.size; simp; omega) (fun k e => (row_from' HOW2.out e).1)).setCell (Nat.le_refl _) _)
    have HCK1 := Lib.hid (show CK w.heap.size w (pre ++ [⟨x, y, z⟩]) (w1.setCell ⟨w.heap.size, 0, none⟩ (.slice (some ⟨g, 0, none⟩) (pre.length + 1) cp)) from
      ⟨_, HV1.out.set 0 _, by
        rw [rowsL_app, List.length_append]
        refine HO1.out.kept (grown_cell w1 w.heap.size 0 _) (.inr (fun e => ?_))
        obtain ⟨_, cur, hc⟩ := row_from' HO1.out e
        rw [show w1.heap[w.heap.size]? = _ from HV1.out] at hc
        injection hc with hc
        injection hc with _ hc _
        exact absurd hc (by decide), HBL2.out.trans HBL3.out⟩)
    have HKW1 := Lib.hid (show KW (fun c => c < w.heap.size) W (w1.setCell ⟨w.heap.size, 0, none⟩ (.slice (some ⟨g, 0, none⟩) (pre.length + 1) cp)) from ⟨kz_below HBL3.out (fun _ h => h), HKO.out.walks⟩)
    gi_wp2
    exact ⟨HKO.out.from _, HKW1.out, HCK1.out, kw_t HKW.out HKW1.out⟩
  case done =>
    rintro D xs W hD hxs ⟨⟨v, hv1, hv2, hv3⟩, hkw⟩ hKd
    have HXS := Lib.hid hxs
    have HOW := Lib.hid hv2
    have HBL2 := Lib.hid hv3
    have HKD := Lib.hid hKd
    have HD := Lib.hid hD
    have cv : W.cell? ⟨w.heap.size, 0, none⟩ = some v := hv1.cell 0 rfl
    clear hxs hv1 hv2 hv3 hkw hKd hD
    gi_wp2
    refine ⟨by simp, .inl ⟨_, _, rfl, run_takeDeferred HKD.out, ?_⟩⟩
    refine ⟨_, results_tmp rfl _ _ _, ?_⟩
    exact ⟨xs, v, HXS.out, rfl, ownsRow_putObj HOW.out _ HKD.out rfl, HBL2.out.trans (belowK_b (w := w) (Nat.le_refl _) W D _ _ (by have := HD.out; have := HZs.out; omega) HKD.out rfl rfl)⟩
  case stop =>
    rintro D c pre W hD hpre h
    exact h.elim
end Go.Proofs.Ytogjgpiddjmpiaa.Depth
